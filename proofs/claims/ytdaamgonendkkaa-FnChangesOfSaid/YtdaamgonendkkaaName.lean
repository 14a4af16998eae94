/- Contracts of the two NameValid. No condition but the size. -/
import Derived.Test.YtdaamgonendkkaaRows
import Derived.Test.YtdaamgonendkkaaBase
import Derived.Test.YtdaamgonendkkaaIn
import Derived.WalkKit
import Derived.WalkSpells
import Derived.WalkLawsBesides
import Derived.Handy
import Derived.BigQuiet
import Derived.Deep.QuietTactic
namespace Go.Proofs.Ytdaamgonendkkaa
open Go Go.RowKit

def okAt (c : UInt8) (k : Nat) : Bool := decide ((97 ≤ c.toNat ∧ c.toNat ≤ 122) ∨ c.toNat = 95 ∨ c.toNat = 46 ∨ (0 < k ∧ 48 ≤ c.toNat ∧ c.toNat ≤ 57))
theorem okAt_iff {c : UInt8} {k : Nat} : okAt c k = true ↔ ((97 ≤ c.toNat ∧ c.toNat ≤ 122) ∨ c.toNat = 95 ∨ c.toNat = 46 ∨ (0 < k ∧ 48 ≤ c.toNat ∧ c.toNat ≤ 57)) := by simp [okAt]
/-- A text is a name. -/
def nameOk (s : ByteArray) : Bool := decide (∀ k, (h : k < s.size) → okAt s[k] k = true) && inB s.size 1 8
theorem nameOk_false {s : ByteArray} {k : Nat} (h : k < s.size) (hk : ¬ okAt s[k] k = true) : nameOk s = false := by
  unfold nameOk
  rw [decide_eq_false (fun H => hk (H k h)), Bool.false_and]
theorem nameOk_all {s : ByteArray} (h : ∀ k, (h : k < s.size) → okAt s[k] k = true) : nameOk s = inB s.size 1 8 := by
  unfold nameOk
  rw [decide_eq_true h, Bool.true_and]
theorem nameOk_size {s : ByteArray} (h : nameOk s = true) : 1 ≤ s.size ∧ s.size ≤ 8 := by
  unfold nameOk at h
  simp only [Bool.and_eq_true, inB_iff] at h
  omega
theorem nameOk_at {s : ByteArray} (h : nameOk s = true) (k : Nat) (hk : k < s.size) : okAt s[k] k = true := by
  unfold nameOk at h
  simp only [Bool.and_eq_true, decide_eq_true_eq] at h
  exact h.1 k hk


set_option maxHeartbeats 2000000 in
theorem implName_any (s : ByteArray) (w : World) (hs : s.size ≤ maxLen) :
    Calls Try.prog 78 #[.string s] w fun e w' => e = .returned (.bool (nameOk s)) ∧ w = w' := by
  unfold maxLen at hs
  go_enter Try.func78, Try.ntmps78
  go_wp2
  go_loop [6] (fun i => ∃ k : Nat, k ≤ s.size ∧ i = .int .i64 k ∧ Hid (∀ j, (h : j < s.size) → j < k → okAt s[j] j = true)) (fun i => s.size - (intOf i).toNat)
  case atStart => exact ⟨0, Nat.zero_le _, rfl, fun j _ hj => by omega⟩
  case round =>
    obtain ⟨k, hk, rfl, HA⟩ := hrel
    by_cases hlt : k < s.size
    · by_cases hok : okAt s[k] k = true
      · have HO := Lib.hid (okAt_iff.1 hok)
        have HP := Lib.hid hok
        clear hok
        go_wp2
        all_goals first
          | (exfalso; simp at *; have hO := HO.out; omega)
          | (go_round
             case rel => exact ⟨k + 1, by omega, by go_num, Lib.hid (fun j h hj => by
               by_cases hjk : j < k
               · exact HA.out j h hjk
               · obtain rfl : j = k := by omega
                 exact HP.out)⟩
             case measure => simp [intOf]; omega)
      · have HO := Lib.hid (fun h => hok (okAt_iff.2 h))
        have HN := Lib.hid (nameOk_false hlt hok)
        clear hok
        go_wp2
        all_goals first
          | (go_ret; rw [HN.out]; exact ⟨rfl, rfl⟩)
          | (exfalso; simp at *; have hO := HO.out; omega)
          | (exfalso; simp_all; done)
    · have HN := Lib.hid (nameOk_all (fun j h => HA.out j h (by omega)))
      go_wp2_with (go_at_call 65; refine (within_any _ _ _ _).mono ?_; rintro e w' ⟨rfl, rfl⟩)
      go_ret
      rw [HN.out]
      exact ⟨rfl, rfl⟩


set_option maxHeartbeats 2000000 in
theorem specName_any (s : ByteArray) (w : World) (hs : s.size ≤ maxLen) :
    Calls Try.prog 89 #[.string s] w fun e w' => e = .returned (.bool (nameOk s)) ∧ w = w' := by
  unfold maxLen at hs
  go_enter Try.func89, Try.ntmps89
  go_wp2
  go_loop [3] (fun i => ∃ k : Nat, k ≤ s.size ∧ i = .int .i64 k ∧ Hid (∀ j, (h : j < s.size) → j < k → okAt s[j] j = true)) (fun i => s.size - (intOf i).toNat)
  case atStart => exact ⟨0, Nat.zero_le _, rfl, fun j _ hj => by omega⟩
  case round =>
    obtain ⟨k, hk, rfl, HA⟩ := hrel
    by_cases hlt : k < s.size
    · by_cases hok : okAt s[k] k = true
      · have HO := Lib.hid (okAt_iff.1 hok)
        have HP := Lib.hid hok
        clear hok
        go_wp2
        all_goals first
          | (exfalso; simp at *; have hO := HO.out; omega)
          | (go_round
             case rel => exact ⟨k + 1, by omega, by go_num, Lib.hid (fun j h hj => by
               by_cases hjk : j < k
               · exact HA.out j h hjk
               · obtain rfl : j = k := by omega
                 exact HP.out)⟩
             case measure => simp [intOf]; omega)
      · have HO := Lib.hid (fun h => hok (okAt_iff.2 h))
        have HN := Lib.hid (nameOk_false hlt hok)
        clear hok
        go_wp2
        all_goals first
          | (go_ret; rw [HN.out]; exact ⟨rfl, rfl⟩)
          | (exfalso; simp at *; have hO := HO.out; omega)
          | (exfalso; simp_all; done)
    · have HN := Lib.hid (nameOk_all (fun j h => HA.out j h (by omega)))
      go_wp2_with (go_at_call 90; refine (l1In_any _ _ _ _).mono ?_; rintro e w' ⟨rfl, rfl⟩)
      go_ret
      rw [HN.out]
      exact ⟨rfl, rfl⟩

end Go.Proofs.Ytdaamgonendkkaa
