/- Contracts of the two SlotPlace. No condition but the size. -/
import Derived.Test.YteceiaaiocdlfaaRows
import Derived.Test.YteceiaaiocdlfaaBase
import Derived.Test.YteceiaaiocdlfaaBase2
import Derived.Test.YteceiaaiocdlfaaIn
import Derived.Test.YteceiaaiocdlfaaIdxS
import Derived.WalkKit
import Derived.WalkSpells
import Derived.WalkLawsBesides
import Derived.Handy
import Derived.BigQuiet
import Derived.Deep.RegionHeld3
import Derived.Deep.DrawnRows
import Derived.Deep.QuietTactic
namespace Go.Proofs.Yteceiaaiocdlfaa
open Go Go.RowKit

def slotAt (xs : List ByteArray) (base : Int) (nm : ByteArray) : Int := if idxOf (fun x => decide (x = nm)) xs < 0 ∨ inB base 0 60000 = false then -1 else base + 2 * idxOf (fun x => decide (x = nm)) xs
set_option maxHeartbeats 1000000 in
theorem implSlotPlace_any {A : Option Addr} {c B : Nat} (xs : List ByteArray) (base : Int) (nm : ByteArray) (w : World) (h1 : Reads w B 1 A xs.length (texts xs)) (hm : xs.length ≤ 1099511627776) :
    Calls Try.prog 16 #[.slice A xs.length c, .int .i64 base, .string nm] w (Gives w (.int .i64 (slotAt xs base nm))) := by
  have hlt := idxOf_lt (fun x => decide (x = nm)) xs
  have HI := Lib.hid (fun w' h => indexStr_any (A := A) (c := c) (B := B) nm xs w' h (by unfold maxLen; omega))
  unfold slotAt
  generalize idxOf (fun x => decide (x = nm)) xs = z at *
  by_cases hz : z < 0
  · rw [if_pos (Or.inl hz)]
    go_enter Try.func16, Try.ntmps16
    go_wp2_with fail
    refine (HI.out _ h1).mono ?_
    rintro e w' ⟨rfl, rfl⟩
    go_wp2
    go_ret
    exact ⟨rfl, Below.refl _ _⟩
  · by_cases hb : 0 ≤ base ∧ base ≤ 60000
    · rw [inB_true hb.1 hb.2, if_neg (by simp; omega)]
      obtain ⟨b1, b2⟩ := hb
      have hib : inB base 0 60000 = true := inB_true b1 b2
      go_enter Try.func16, Try.ntmps16
      go_wp2_with fail
      refine (HI.out _ h1).mono ?_
      rintro e w' ⟨rfl, rfl⟩
      go_wp2_with (go_at_call 46; refine (within_any _ _ _ _).mono ?_; rintro e w' ⟨rfl, rfl⟩)
      go_ret
      exact ⟨rfl, Below.refl _ _⟩
    · rw [inB_false (by omega), if_pos (Or.inr rfl)]
      have hib : inB base 0 60000 = false := inB_false (by omega)
      go_enter Try.func16, Try.ntmps16
      go_wp2_with fail
      refine (HI.out _ h1).mono ?_
      rintro e w' ⟨rfl, rfl⟩
      go_wp2_with (go_at_call 46; refine (within_any _ _ _ _).mono ?_; rintro e w' ⟨rfl, rfl⟩)
      go_ret
      exact ⟨rfl, Below.refl _ _⟩
set_option maxHeartbeats 1000000 in
theorem specSlotPlace_any {A : Option Addr} {c B : Nat} (xs : List ByteArray) (base : Int) (nm : ByteArray) (w : World) (h1 : Reads w B 1 A xs.length (texts xs)) (hm : xs.length ≤ 1099511627776) :
    Calls Try.prog 14 #[.slice A xs.length c, .int .i64 base, .string nm] w (Gives w (.int .i64 (slotAt xs base nm))) := by
  by_cases hb : 0 ≤ base ∧ base ≤ 60000
  · obtain ⟨b1, b2⟩ := hb
    have HIB := Lib.hid (inB_true b1 b2)
    go_enter Try.func14, Try.ntmps14
    go_wp2
    go_loop [7] (fun i => ∃ k : Nat, k ≤ xs.length ∧ i = .int .i64 k ∧ Hid (∀ j, (h : j < xs.length) → j < k → decide (xs[j] = nm) = false)) (fun i => xs.length - (intOf i).toNat)
    case atStart => exact ⟨0, Nat.zero_le _, rfl, fun j _ hj => by omega⟩
    case round =>
      obtain ⟨k, hk, rfl, HA⟩ := hrel
      by_cases hlt : k < xs.length
      · obtain ⟨ad, u1, rfl, hbl, hx1, hc1⟩ := h1.at_ hlt
        rw [texts_get _ _ hlt] at hx1
        injection hx1 with hx1
        subst hx1
        by_cases he : xs[k] = nm
        · have HI : Hid (slotAt xs base nm = base + 2 * k) := by
            unfold slotAt
            rw [idxOf_at (p := fun x => decide (x = nm)) hlt (decide_eq_true he) (fun j h hj => HA.out j h hj), HIB.out, if_neg (by simp)]
            exact rfl
          have ht : (xs[k].toList == nm.toList) = true := by simp [he]
          clear he
          go_wp2_with (go_at_call 44; refine (l1In_any _ _ _ _).mono ?_; rintro e w' ⟨rfl, rfl⟩; rw [HIB.out])
          go_ret
          rw [HI.out]
          exact ⟨rfl, Below.refl _ _⟩
        · have HP : Hid (decide (xs[k] = nm) = false) := decide_eq_false he
          have ht : (xs[k].toList == nm.toList) = false := by simpa using fun h => he (toList_inj h)
          clear he
          go_wp2_with (go_at_call 44; refine (l1In_any _ _ _ _).mono ?_; rintro e w' ⟨rfl, rfl⟩; rw [HIB.out])
          go_round
          case rel => exact ⟨k + 1, by omega, by go_num, Lib.hid (fun j h hj => by
            by_cases hjk : j < k
            · exact HA.out j h hjk
            · obtain rfl : j = k := by omega
              exact HP.out)⟩
          case measure => simp [intOf]; omega
      · have HI : Hid (slotAt xs base nm = -1) := by
          unfold slotAt
          rw [idxOf_none (p := fun x => decide (x = nm)) (fun j h => HA.out j h (by omega)), if_pos (Or.inl (by omega))]
          exact rfl
        go_wp2
        go_ret
        rw [HI.out]
        exact ⟨rfl, Below.refl _ _⟩
  · have HI : Hid (slotAt xs base nm = -1) := by
      unfold slotAt
      rw [inB_false (by omega), if_pos (Or.inr rfl)]
      exact rfl
    have HIB := Lib.hid (inB_false (n := base) (lo := 0) (hi := 60000) (by omega))
    by_cases h0 : 0 < xs.length
    · go_enter Try.func14, Try.ntmps14
      go_wp2
      go_loop [7] (fun i => i = .int .i64 0) (fun _ => 0)
      case atStart => exact rfl
      case round =>
        subst hrel
        go_wp2_with (go_at_call 44; refine (l1In_any _ _ _ _).mono ?_; rintro e w' ⟨rfl, rfl⟩; rw [HIB.out])
        go_ret
        rw [HI.out]
        exact ⟨rfl, Below.refl _ _⟩
    · go_enter Try.func14, Try.ntmps14
      go_wp2
      go_loop [7] (fun i => i = .int .i64 0) (fun _ => 0)
      case atStart => exact rfl
      case round =>
        subst hrel
        go_wp2
        go_ret
        rw [HI.out]
        exact ⟨rfl, Below.refl _ _⟩
end Go.Proofs.Yteceiaaiocdlfaa
