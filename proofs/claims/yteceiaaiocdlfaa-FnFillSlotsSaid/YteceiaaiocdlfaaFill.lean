/- Contracts of the two FillSlots. Condition: not too many places. -/
import Derived.Test.YteceiaaiocdlfaaRows
import Derived.Test.YteceiaaiocdlfaaBase
import Derived.Test.YteceiaaiocdlfaaBase2
import Derived.Test.YteceiaaiocdlfaaBase3
import Derived.Test.YteceiaaiocdlfaaIn
import Derived.Test.YteceiaaiocdlfaaIn2
import Derived.Test.YteceiaaiocdlfaaPut
import Derived.WalkKit
import Derived.WalkSpells
import Derived.WalkLawsBesides
import Derived.Handy
import Derived.BigQuiet
import Derived.Deep.RegionHeld3
import Derived.Deep.DrawnRows
import Derived.Deep.QuietTactic
namespace Go.Proofs.Yteceiaaiocdlfaa
open Go Go.RowKit

/-- The call hands back a slice in new memory, and one value more. -/
def Fresh2 (t : TypeId) (size : Nat) (w : World) (n : Nat) (xs : List Value) (r : Value) (e : Ending) (w' : World) : Prop :=
  ∃ A c, e = .returned (.tuple #[.slice A n c, r]) ∧ w'.ownsRow w.heap.size t size (.slice A n c) n xs ∧ Below w.heap.size w w'
def two (n : Int) : List Int := [n % 256, n / 256]
def fl (ps : List Int) : List Int := ps.flatMap two
theorem fl_len (ps : List Int) : (fl ps).length = ps.length * 2 := flat_len two 2 (fun _ => rfl) ps
theorem fl_take {ps : List Int} {k : Nat} (h : k < ps.length) : fl (ps.take (k + 1)) = fl (ps.take k) ++ [ps[k] % 256, ps[k] / 256] := by
  unfold fl
  rw [List.take_succ_eq_append_getElem h, List.flatMap_append]
  rfl
def placesOk (ps : List Int) : Bool := ps.all fun n => inB n 0 65535
def fillB (m : Nat) (ps : List Int) : Bool := decide (ps.length = m) && placesOk ps
def fillL (m : Nat) (ps : List Int) : List Int := if fillB m ps = true then fl ps else []
theorem fillL_no {m : Nat} {ps : List Int} (h : fillB m ps = false) : fillL m ps = [] := by unfold fillL; rw [h]; rfl
theorem fillL_yes {m : Nat} {ps : List Int} (h : fillB m ps = true) : fillL m ps = fl ps := if_pos h
theorem fillL_len (m : Nat) (ps : List Int) : (fillL m ps).length ≤ ps.length * 2 := by
  unfold fillL
  split
  · rw [fl_len]; exact Nat.le_refl _
  · simp
theorem fill_at {m : Nat} {ps : List Int} {k : Nat} (hk : k < ps.length) (h : inB ps[k] 0 65535 = false) : fillB m ps = false := by
  have : placesOk ps = false := by
    unfold placesOk
    rw [List.all_eq_false]
    exact ⟨_, List.getElem_mem hk, by simp [h]⟩
  unfold fillB
  rw [this, Bool.and_false]
theorem fill_all {m : Nat} {ps : List Int} (hl : ps.length = m) (h : ∀ j, (hj : j < ps.length) → inB ps[j] 0 65535 = true) : fillB m ps = true := by
  unfold fillB placesOk
  rw [decide_eq_true hl, List.all_eq_true.2]
  · rfl
  · intro x hx
    obtain ⟨j, hj, rfl⟩ := List.getElem_of_mem hx
    exact h j hj
set_option maxRecDepth 100000 in
set_option maxHeartbeats 4000000 in
theorem implFill_any {A1 A2 : Option Addr} {c1 c2 B2 : Nat} (m : Nat) (ps : List Int) (w : World) (h2 : Reads w B2 1 A2 ps.length (nums .i64 ps)) (hB2 : B2 ≤ w.heap.size) (hm2 : ps.length ≤ 1048576) :
    Calls Try.prog 22 #[.slice A1 m c1, .slice A2 ps.length c2] w (Fresh2 5 1 w (fillL m ps).length (nums .u8 (fillL m ps)) (.bool (fillB m ps))) := by
  obtain ⟨i0, hi0, hz0, hz1, hz2⟩ := info_parts u8_info
  by_cases hl : ps.length = m
  · have HL := Lib.hid hl
    have hl' : ((ps.length : Int) != (m : Int)) = false := by simp [hl]
    clear hl
    have H2 := Lib.hid h2
    go_enter Try.func22, Try.ntmps22
    go_wp2
    go_loopw [6, 17] (fun v i wr => ∃ (k : Nat) (A : Option Addr) (c : Nat), k ≤ ps.length ∧ i = .int .i64 k ∧ v = .slice A (2 * k) c ∧ Below w.heap.size w wr ∧ wr.ownsRow w.heap.size 5 1 (.slice A (2 * k) c) (2 * k) (nums .u8 (fl (ps.take k))) ∧ Hid (∀ j, (hj : j < ps.length) → j < k → inB ps[j] 0 65535 = true)) (fun _ i _ => ps.length - (intOf i).toNat)
    case atStart => exact ⟨0, _, _, Nat.zero_le _, rfl, rfl, (Below.refl _ _).alloc (Nat.le_refl _) _, World.ownsRow_lit (base := w.heap.size) (e := 5) (size := 1) w #[] 0 (Nat.le_refl _) (by unfold maxLen; omega) rfl, Lib.hid (fun j _ hj => by omega)⟩
    case round =>
      obtain ⟨k, A, c, hk, rfl, rfl, hb, ho, HA⟩ := hrel
      by_cases hlt : k < ps.length
      · obtain ⟨a2, u2, rfl, hbl2, hx2, hc2⟩ := ((H2.out.more hB2).below hb).at_ hlt
        rw [nums_get _ _ hlt] at hx2
        injection hx2 with hx2
        subst hx2
        have HT := Lib.hid (fl_take hlt)
        have HFA := Lib.hid (fun h => fill_at (m := m) hlt h)
        have HEX : Hid (inB ps[k] 0 65535 = true → ∀ j, (hj : j < ps.length) → j < k + 1 → inB ps[j] 0 65535 = true) := fun h j hj hjk => by
          by_cases hjk2 : j < k
          · exact HA.out j hj hjk2
          · obtain rfl : j = k := by omega
            exact h
        generalize ps[k] = p at *
        have k1 : (k : Int) < (ps.length : Int) := by omega
        cases hp : inB p 0 65535
        · have HP := Lib.hid hp
          have HN := Lib.hid (HFA.out hp)
          have HNL := Lib.hid (fillL_no (HFA.out hp))
          clear hp
          go_wp2_with fail
          refine (within_any _ _ _ _).mono ?_
          rintro e w' ⟨rfl, rfl⟩
          rw [HP.out]
          go_wp2
          refine bodyPost_ret (v := .tuple #[.slice none 0 0, .bool false]) (by simp [results, Try.results22, go_sem]) rfl ?_
          rw [HNL.out, HN.out]
          exact ⟨none, 0, rfl, World.ownsRow_nil _ _ _ _, hb⟩
        · have HP := Lib.hid hp
          have hpb := inB_iff.1 hp
          obtain ⟨hp0, hp1⟩ := hpb
          clear hp
          have HO := Lib.hid ho
          have HB := Lib.hid hb
          have hbz := hb.size
          clear ho hb
          go_wp2_with fail
          refine (within_any _ _ _ _).mono ?_
          rintro e w' ⟨rfl, rfl⟩
          rw [HP.out]
          go_wp2_with fail
          refine (implPut2_any p _ hp0 hp1).mono ?_
          rintro e w2 ⟨A4, c4, rfl, o4, s4⟩
          have HO2 := Lib.hid (own_below HO.out s4)
          have HB2 := Lib.hid (HB.out.trans (s4.mono hbz))
          have HR4 := Lib.hid (Reads.of_own o4)
          have zz := HB2.out.size
          clear HO HB o4 s4
          go_wp2_with (at_builtin; refine wpList_appendS _ rfl (.tmp 24) (.tmp 26) _ rfl w.heap.size 5 i0 _ 1 1 Try.underlying28 hi0 hz0 hz1 hz2 rfl (by omega) (by omega) A (2 * k) c (nums .u8 (fl (ps.take k))) rfl HO2.out w2.heap.size A4 2 c4 (nums .u8 [p % 256, p / 256]) rfl HR4.out (nums_one _ _) (by omega) zz ?_; intro A' c' w3 ho3 hg3 ha3)
          go_roundw
          case rel =>
            have e2 : 2 * (k + 1) = 2 * k + 2 := by omega
            refine ⟨k + 1, A', c', by omega, by go_num, by rw [e2], below_push HB2.out HO2.out (Nat.le_refl _) zz hg3, ?_, Lib.hid (HEX.out HP.out)⟩
            rw [e2, HT.out]
            have e : nums .u8 (fl (ps.take k) ++ [p % 256, p / 256]) = nums .u8 (fl (ps.take k)) ++ nums .u8 [p % 256, p / 256] := by simp [nums]
            rw [e]
            exact ho3
          case measure => simp [intOf]; omega
      · obtain rfl : k = ps.length := by omega
        have HY := Lib.hid (fill_all HL.out (fun j hj => HA.out j hj hj))
        have HYL := Lib.hid (fillL_yes HY.out)
        have HLN : Hid ((fl ps).length = 2 * ps.length) := by rw [Hid, fl_len]; omega
        go_wp2
        refine bodyPost_ret (v := .tuple #[.slice A (2 * ps.length) c, .bool true]) (by simp [results, Try.results22, go_sem]) rfl ?_
        rw [HYL.out, HY.out, HLN.out]
        rw [List.take_length] at ho
        exact ⟨A, c, rfl, ho, hb⟩
  · have hl' : ((ps.length : Int) != (m : Int)) = true := by simp [bne_iff_ne]; omega
    have HN : Hid (fillB m ps = false) := by unfold fillB; rw [decide_eq_false hl]; exact rfl
    have HNL := Lib.hid (fillL_no HN.out)
    clear hl
    go_enter Try.func22, Try.ntmps22
    go_wp2
    refine bodyPost_ret (v := .tuple #[.slice none 0 0, .bool false]) (by simp [results, Try.results22, go_sem]) rfl ?_
    rw [HNL.out, HN.out]
    exact ⟨none, 0, rfl, World.ownsRow_nil _ _ _ _, Below.refl _ _⟩
set_option maxRecDepth 100000 in
set_option maxHeartbeats 4000000 in
theorem specFill_any {A1 A2 : Option Addr} {c1 c2 B2 : Nat} (m : Nat) (ps : List Int) (w : World) (h2 : Reads w B2 1 A2 ps.length (nums .i64 ps)) (hB2 : B2 ≤ w.heap.size) (hm2 : ps.length ≤ 1048576) :
    Calls Try.prog 20 #[.slice A1 m c1, .slice A2 ps.length c2] w (Fresh2 5 1 w (fillL m ps).length (nums .u8 (fillL m ps)) (.bool (fillB m ps))) := by
  obtain ⟨i0, hi0, hz0, hz1, hz2⟩ := info_parts u8_info
  by_cases hl : ps.length = m
  · have HL := Lib.hid hl
    have hl' : ((m : Int) != (ps.length : Int)) = false := by simp [hl]
    clear hl
    have H2 := Lib.hid h2
    go_enter Try.func20, Try.ntmps20
    go_wp2
    go_loopw [6, 7] (fun v i wr => ∃ (k : Nat) (A : Option Addr) (c : Nat), k ≤ ps.length ∧ i = .int .i64 k ∧ v = .slice A (2 * k) c ∧ Below w.heap.size w wr ∧ wr.ownsRow w.heap.size 5 1 (.slice A (2 * k) c) (2 * k) (nums .u8 (fl (ps.take k))) ∧ Hid (∀ j, (hj : j < ps.length) → j < k → inB ps[j] 0 65535 = true)) (fun _ i _ => ps.length - (intOf i).toNat)
    case atStart => exact ⟨0, _, _, Nat.zero_le _, rfl, rfl, (Below.refl _ _).alloc (Nat.le_refl _) _, World.ownsRow_lit (base := w.heap.size) (e := 5) (size := 1) w #[] 0 (Nat.le_refl _) (by unfold maxLen; omega) rfl, Lib.hid (fun j _ hj => by omega)⟩
    case round =>
      obtain ⟨k, A, c, hk, rfl, rfl, hb, ho, HA⟩ := hrel
      by_cases hlt : k < ps.length
      · obtain ⟨a2, u2, rfl, hbl2, hx2, hc2⟩ := ((H2.out.more hB2).below hb).at_ hlt
        rw [nums_get _ _ hlt] at hx2
        injection hx2 with hx2
        subst hx2
        have HT := Lib.hid (fl_take hlt)
        have HFA := Lib.hid (fun h => fill_at (m := m) hlt h)
        have HEX : Hid (inB ps[k] 0 65535 = true → ∀ j, (hj : j < ps.length) → j < k + 1 → inB ps[j] 0 65535 = true) := fun h j hj hjk => by
          by_cases hjk2 : j < k
          · exact HA.out j hj hjk2
          · obtain rfl : j = k := by omega
            exact h
        generalize ps[k] = p at *
        have k1 : (k : Int) < (ps.length : Int) := by omega
        cases hp : inB p 0 65535
        · have HP := Lib.hid hp
          have HN := Lib.hid (HFA.out hp)
          have HNL := Lib.hid (fillL_no (HFA.out hp))
          clear hp
          go_wp2_with fail
          refine (l1In_any _ _ _ _).mono ?_
          rintro e w' ⟨rfl, rfl⟩
          rw [HP.out]
          go_wp2
          refine bodyPost_ret (v := .tuple #[.slice (some ⟨wr.heap.size, 0, none⟩) 0 0, .bool false]) (by simp [results, Try.results20, go_sem]) rfl ?_
          rw [HNL.out, HN.out]
          exact ⟨_, _, rfl, World.ownsRow_lit (base := w.heap.size) (e := 5) (size := 1) wr #[] 0 hb.size (by unfold maxLen; omega) rfl, hb.alloc hb.size _⟩
        · have HP := Lib.hid hp
          have hpb := inB_iff.1 hp
          obtain ⟨hp0, hp1⟩ := hpb
          clear hp
          have HO := Lib.hid ho
          have HB := Lib.hid hb
          have hbz := hb.size
          clear ho hb
          go_wp2_with fail
          refine (l1In_any _ _ _ _).mono ?_
          rintro e w' ⟨rfl, rfl⟩
          rw [HP.out]
          go_wp2_with fail
          refine (specPut2_any p _ hp0 hp1).mono ?_
          rintro e w2 ⟨A4, c4, rfl, o4, s4⟩
          have HO2 := Lib.hid (own_below HO.out s4)
          have HB2 := Lib.hid (HB.out.trans (s4.mono hbz))
          have HR4 := Lib.hid (Reads.of_own o4)
          have zz := HB2.out.size
          clear HO HB o4 s4
          go_wp2_with (at_builtin; refine wpList_appendS _ rfl (.tmp 28) (.tmp 33) _ rfl w.heap.size 5 i0 _ 1 1 Try.underlying28 hi0 hz0 hz1 hz2 rfl (by omega) (by omega) A (2 * k) c (nums .u8 (fl (ps.take k))) rfl HO2.out w2.heap.size A4 2 c4 (nums .u8 [p % 256, p / 256]) rfl HR4.out (nums_one _ _) (by omega) zz ?_; intro A' c' w3 ho3 hg3 ha3)
          go_roundw
          case rel =>
            have e2 : 2 * (k + 1) = 2 * k + 2 := by omega
            refine ⟨k + 1, A', c', by omega, by go_num, by rw [e2], below_push HB2.out HO2.out (Nat.le_refl _) zz hg3, ?_, Lib.hid (HEX.out HP.out)⟩
            rw [e2, HT.out]
            have e : nums .u8 (fl (ps.take k) ++ [p % 256, p / 256]) = nums .u8 (fl (ps.take k)) ++ nums .u8 [p % 256, p / 256] := by simp [nums]
            rw [e]
            exact ho3
          case measure => simp [intOf]; omega
      · obtain rfl : k = ps.length := by omega
        have HY := Lib.hid (fill_all HL.out (fun j hj => HA.out j hj hj))
        have HYL := Lib.hid (fillL_yes HY.out)
        have HLN : Hid ((fl ps).length = 2 * ps.length) := by rw [Hid, fl_len]; omega
        go_wp2
        refine bodyPost_ret (v := .tuple #[.slice A (2 * ps.length) c, .bool true]) (by simp [results, Try.results20, go_sem]) rfl ?_
        rw [HYL.out, HY.out, HLN.out]
        rw [List.take_length] at ho
        exact ⟨A, c, rfl, ho, hb⟩
  · have hl' : ((m : Int) != (ps.length : Int)) = true := by simp [bne_iff_ne]; omega
    have HN : Hid (fillB m ps = false) := by unfold fillB; rw [decide_eq_false hl]; exact rfl
    have HNL := Lib.hid (fillL_no HN.out)
    clear hl
    go_enter Try.func20, Try.ntmps20
    go_wp2
    refine bodyPost_ret (v := .tuple #[.slice (some ⟨w.heap.size, 0, none⟩) 0 0, .bool false]) (by simp [results, Try.results20, go_sem]) rfl ?_
    rw [HNL.out, HN.out]
    exact ⟨_, _, rfl, World.ownsRow_lit (base := w.heap.size) (e := 5) (size := 1) w #[] 0 (Nat.le_refl _) (by unfold maxLen; omega) rfl, (Below.refl _ _).alloc (Nat.le_refl _) _⟩
end Go.Proofs.Yteceiaaiocdlfaa
