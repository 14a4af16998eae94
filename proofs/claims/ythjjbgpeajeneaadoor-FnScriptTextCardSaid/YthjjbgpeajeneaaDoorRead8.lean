/- Contract of l8Read. Condition: the size of the text. -/
import Derived.Test.YthjjbgpeajeneaaDoorRows
import Derived.Test.YthjjbgpeajeneaaDoorBase
import Derived.Test.YthjjbgpeajeneaaDoorDec
import Derived.Test.YthjjbgpeajeneaaDoorNum
import Derived.WalkKit
import Derived.WalkSpells
import Derived.WalkLawsBesides
import Derived.Handy
import Derived.BigQuiet
import Derived.Deep.RegionHeld3
import Derived.Deep.DrawnRows
import Derived.Deep.QuietTactic
namespace Go.Proofs.YthjjbgpeajeneaaDoor
open Go Go.RowKit

/-- What a reading of digits tells of a text. -/
def ReadsDec (q : List UInt8) (n : Int) : Prop := (-999999 ≤ n ∧ n ≤ 999999) ∧ ∀ k : Nat, k < 100 → q = dec2 k → n = k
def foldD (l : List UInt8) : Nat := l.foldl (fun a c => 10 * a + (c.toNat - 48)) 0
theorem foldD_dec : ∀ n : Fin 100, foldD (dec2 n.val) = n.val := by decide +kernel
theorem foldD_snoc (l : List UInt8) (c : UInt8) : foldD (l ++ [c]) = 10 * foldD l + (c.toNat - 48) := by simp [foldD]
/-- While digits are read. -/
def RdInv (s : ByteArray) (k m : Nat) : Prop := k ≤ 6 ∧ m < 10 ^ k ∧ ∀ j, j < 100 → s.data.toList = dec2 j → m = foldD (s.data.toList.take k)
theorem RdInv.bound {s : ByteArray} {k m : Nat} (h : RdInv s k m) : m ≤ 999999 := by
  have h1 : 10 ^ k ≤ 10 ^ 6 := Nat.pow_le_pow_right (by omega) h.1
  have := h.2.1
  omega
theorem dec_at {s : ByteArray} {k j : Nat} (hk : k < s.size) (hj : j < 100) (h : s.data.toList = dec2 j) : k ≤ 1 ∧ 48 ≤ s[k].toNat ∧ s[k].toNat ≤ 57 := by
  have hl := (dec2_len hj).2
  rw [← h] at hl
  have hk' : k < s.data.toList.length := by simpa using hk
  have hm : s.data.toList[k] ∈ dec2 j := by rw [← h]; exact List.getElem_mem _
  have h2 := dec2_digit hj hm
  have e : s.data.toList[k] = s[k] := by simp [ByteArray.getElem_eq_getElem_data]
  rw [e] at h2
  exact ⟨by omega, h2⟩
theorem RdInv.sign {s : ByteArray} {m : Nat} (h : RdInv s 0 m) (hk : 0 < s.size) (hc : s[0].toNat = 45) : RdInv s 1 m := by
  refine ⟨by omega, by have := h.2.1; omega, fun j hj e => ?_⟩
  have := dec_at hk hj e
  omega
theorem RdInv.step {s : ByteArray} {k m : Nat} (h : RdInv s k m) (hk : k < s.size) (h5 : k ≤ 5) (h48 : 48 ≤ s[k].toNat) (h57 : s[k].toNat ≤ 57) : RdInv s (k + 1) (10 * m + (s[k].toNat - 48)) := by
  refine ⟨by omega, ?_, fun j hj e => ?_⟩
  · have := h.2.1
    rw [Nat.pow_succ]
    omega
  · have hk' : k < s.data.toList.length := by simpa using hk
    rw [List.take_succ_eq_append_getElem hk', foldD_snoc, ← h.2.2 j hj e]
    have e : s.data.toList[k] = s[k] := by simp [ByteArray.getElem_eq_getElem_data]
    rw [e]
theorem RdInv.exit {s : ByteArray} {k : Nat} (hk : k < s.size) (h : ¬ (48 ≤ s[k].toNat ∧ s[k].toNat ≤ 57 ∧ k ≤ 5)) : ReadsDec s.data.toList 99999 := ⟨by omega, fun j hj e => by have := dec_at hk hj e; omega⟩
theorem RdInv.end_ {s : ByteArray} {m : Nat} (h : RdInv s s.size m) : ∀ j, j < 100 → s.data.toList = dec2 j → m = j := fun j hj e => by
  have h1 := h.2.2 j hj e
  rw [List.take_of_length_le (by simp), e, foldD_dec ⟨j, hj⟩] at h1
  exact h1
set_option maxRecDepth 100000 in
set_option maxHeartbeats 2000000 in
theorem l8Read_any (s : ByteArray) (w : World) (hs : s.size ≤ 1048578) : Calls Tryd.prog 36 #[.string s] w fun e w' => ∃ n, e = .returned (.int .i64 n) ∧ ReadsDec s.data.toList n ∧ Below w.heap.size w w' := by
  go_enter Tryd.func36, Tryd.ntmps36
  go_wp2
  go_loop [3, 4] (fun nv kv => ∃ (k m : Nat), nv = .int .i64 (m : Int) ∧ kv = .int .i64 (k : Int) ∧ k ≤ s.size ∧ Hid (RdInv s k m) ∧ m ≤ 999999) (fun _ kv => s.size - (intOf kv).toNat)
  case atStart => exact ⟨0, 0, rfl, rfl, Nat.zero_le _, ⟨by omega, by omega, fun _ _ _ => rfl⟩, by omega⟩
  case round =>
    obtain ⟨k, m, rfl, rfl, hk, HI, hm⟩ := hrel
    by_cases hlt : k < s.size
    · by_cases hsg : k = 0 ∧ s[k].toNat = 45
      · obtain ⟨rfl, hc⟩ := hsg
        have HS := Lib.hid (HI.out.sign hlt hc)
        have hc' : (s[0].toNat : Int) = 45 := by omega
        clear hc
        go_wp2
        all_goals first
          | (go_round
             case rel => exact ⟨1, m, rfl, rfl, by omega, HS, hm⟩
             case measure => simp [intOf]; omega)
          | (exfalso; simp at *; omega)
      · by_cases hd : 48 ≤ s[k].toNat ∧ s[k].toNat ≤ 57 ∧ k ≤ 5
        · obtain ⟨hd1, hd2, hd3⟩ := hd
          have HS := Lib.hid (HI.out.step hlt hd3 hd1 hd2)
          have HB := Lib.hid HS.out.bound
          have g1 : (48 : Int) ≤ (s[k].toNat : Int) := by omega
          have g2 : (s[k].toNat : Int) ≤ 57 := by omega
          have g3 : (k : Int) ≤ 5 := by omega
          clear hsg
          go_wp2
          all_goals first
            | (go_round
               case rel => exact ⟨k + 1, 10 * m + (s[k].toNat - 48), by congr 1; omega, by go_num, by omega, HS, HB.out⟩
               case measure => simp [intOf]; omega)
            | (exfalso; simp at *; omega)
        · have HX := Lib.hid (RdInv.exit hlt hd)
          have HD := Lib.hid hd
          have HSG := Lib.hid hsg
          clear hsg hd
          go_wp2
          all_goals first
            | (go_ret; exact ⟨99999, rfl, HX.out, by go_grown⟩)
            | (exfalso; have h1 := HD.out; have h2 := HSG.out; simp at *; omega)
    · obtain rfl : k = s.size := by omega
      have HE := Lib.hid HI.out.end_
      have FIN : Hid (∀ t : ByteArray, NumRes (m : Int) t → ReadsDec s.data.toList (if t = s then (m : Int) else 99999)) := fun t HT => by
        by_cases hts : t = s
        · rw [if_pos hts]
          exact ⟨by omega, fun j hj e => by have := HE.out j hj e; omega⟩
        · rw [if_neg hts]
          refine ⟨by omega, fun j hj e => absurd ?_ hts⟩
          have h1 := HE.out j hj e
          have h2 := HT.2 (by omega) (by omega)
          rw [show ((m : Int)).toNat = j from by omega, ← e] at h2
          obtain ⟨ta⟩ := t
          obtain ⟨sa⟩ := s
          exact congrArg ByteArray.mk (Array.ext' h2)
      by_cases h0 : 0 < s.size
      · have hemp : s.toList.isEmpty = false := by
          rw [Go.ByteArray.toList_eq, List.isEmpty_eq_false_iff]
          intro h
          have h2 : s.data.toList.length = s.size := by simp
          rw [h] at h2
          simp at h2
          omega
        by_cases h1 : s[0].toNat = 45
        · have hc' : (s[0].toNat : Int) = 45 := by omega
          have HN := Lib.hid (show ∀ n : Int, -999999 ≤ n → n ≤ 999999 → ReadsDec s.data.toList n from fun n a b => ⟨⟨a, b⟩, fun j hj e => by have := dec_at h0 hj e; omega⟩)
          clear h1 FIN
          go_wp2_with fail
          refine (l8Number_any _ _ (by omega) (by omega)).mono ?_
          rintro e w2 ⟨t, rfl, HT, hb⟩
          clear HT
          go_wp2
          all_goals
            go_ret
            exact ⟨_, rfl, HN.out _ (by omega) (by omega), hb⟩
        · have hc' : ((s[0].toNat : Int) == 45) = false := by simp; omega
          clear h1
          go_wp2_with fail
          refine (l8Number_any _ _ (by omega) (by omega)).mono ?_
          rintro e w2 ⟨t, rfl, HT, hb⟩
          have HF := Lib.hid (FIN.out t HT)
          clear HT
          by_cases hts : t = s
          · have e1 : (t.toList == s.toList) = true := by simp [hts]
            rw [if_pos hts] at HF
            clear hts
            go_wp2
            all_goals
              go_ret
              exact ⟨_, rfl, HF.out, hb⟩
          · have e1 : (t.toList == s.toList) = false := by
              rw [beq_eq_false_iff_ne]
              exact fun h => hts (toList_inj h)
            rw [if_neg hts] at HF
            clear hts
            go_wp2
            all_goals
              go_ret
              exact ⟨_, rfl, HF.out, hb⟩
      · have hemp : s.toList.isEmpty = true := by
          rw [Go.ByteArray.toList_eq, List.isEmpty_iff]
          have h2 : s.data.toList.length = s.size := by simp
          exact List.eq_nil_of_length_eq_zero (by omega)
        go_wp2_with fail
        refine (l8Number_any _ _ (by omega) (by omega)).mono ?_
        rintro e w2 ⟨t, rfl, HT, hb⟩
        have HF := Lib.hid (FIN.out t HT)
        clear HT
        by_cases hts : t = s
        · have e1 : (t.toList == s.toList) = true := by simp [hts]
          rw [if_pos hts] at HF
          clear hts
          go_wp2
          all_goals
            go_ret
            exact ⟨_, rfl, HF.out, hb⟩
        · have e1 : (t.toList == s.toList) = false := by
            rw [beq_eq_false_iff_ne]
            exact fun h => hts (toList_inj h)
          rw [if_neg hts] at HF
          clear hts
          go_wp2
          all_goals
            go_ret
            exact ⟨_, rfl, HF.out, hb⟩
end Go.Proofs.YthjjbgpeajeneaaDoor
