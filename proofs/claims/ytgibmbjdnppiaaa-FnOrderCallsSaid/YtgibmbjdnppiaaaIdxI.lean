/- Contracts of slices.Index and slices.Contains at int. No condition but the size. -/
import Derived.Test.YtgibmbjdnppiaaaRows
import Derived.Test.YtgibmbjdnppiaaaBase
import Derived.WalkKit
import Derived.WalkSpells
import Derived.WalkLawsBesides
import Derived.Handy
import Derived.BigQuiet
import Derived.Deep.RegionHeld3
import Derived.Deep.DrawnRows
import Derived.Deep.QuietTactic
namespace Go.Proofs.Ytgibmbjdnppiaaa
open Go Go.RowKit


set_option maxHeartbeats 1000000 in
theorem indexInt_any {A : Option Addr} {c B : Nat} (v : Int) (xs : List Int) (w : World) (h1 : Reads w B 1 A xs.length (nums .i64 xs)) (hm : xs.length ≤ maxLen) :
    Calls Try.prog 38 #[.slice A xs.length c, (.int .i64 v)] w fun e w' => e = .returned (.int .i64 (idxOf (fun x => decide (x = v)) xs)) ∧ w = w' := by
  unfold maxLen at hm
  go_enter Try.func38, Try.ntmps38
  go_wp2
  go_loop [8, 5] (fun i _ => ∃ k : Nat, k ≤ xs.length ∧ i = .int .i64 k ∧ Hid (∀ j, (h : j < xs.length) → j < k → decide (xs[j] = v) = false)) (fun i _ => xs.length - (intOf i).toNat)
  case atStart => exact ⟨0, Nat.zero_le _, rfl, fun j _ hj => by omega⟩
  case round =>
    obtain ⟨k, hk, rfl, HA⟩ := hrel
    by_cases hlt : k < xs.length
    · obtain ⟨ad, u1, rfl, hbl, hx1, hc1⟩ := h1.at_ hlt
      rw [nums_get _ _ hlt] at hx1
      injection hx1 with hx1
      subst hx1
      by_cases he : xs[k] = v
      · have HI := Lib.hid (idxOf_at (p := fun x => decide (x = v)) hlt (decide_eq_true he) (fun j h hj => HA.out j h hj))
        have ht : (v == xs[k]) = true := by simp [he]
        clear he
        go_wp2
        go_ret
        rw [HI.out]
        exact ⟨rfl, rfl⟩
      · have HP : Hid (decide (xs[k] = v) = false) := decide_eq_false he
        have ht : (v == xs[k]) = false := by simpa using fun h => he h.symm
        clear he
        go_wp2
        go_round
        case rel => exact ⟨k + 1, by omega, by go_num, Lib.hid (fun j h hj => by
          by_cases hjk : j < k
          · exact HA.out j h hjk
          · obtain rfl : j = k := by omega
            exact HP.out)⟩
        case measure => simp [intOf]; omega
    · have HI := Lib.hid (idxOf_none (p := fun x => decide (x = v)) (xs := xs) (fun j h => HA.out j h (by omega)))
      go_wp2
      go_ret
      rw [HI.out]
      exact ⟨rfl, rfl⟩


set_option maxHeartbeats 1000000 in
theorem containsInt_any {A : Option Addr} {c B : Nat} (v : Int) (xs : List Int) (w : World) (h1 : Reads w B 1 A xs.length (nums .i64 xs)) (hm : xs.length ≤ maxLen) :
    Calls Try.prog 37 #[.slice A xs.length c, (.int .i64 v)] w fun e w' => e = .returned (.bool (xs.any fun x => decide (x = v))) ∧ w = w' := by
  have HI := Lib.hid (fun w h => indexInt_any (A := A) (c := c) (B := B) v xs w h hm)
  rw [← idxOf_any (fun x => decide (x = v)) xs]
  generalize idxOf (fun x => decide (x = v)) xs = z at *
  by_cases hi : 0 ≤ z
  all_goals
    go_enter Try.func37, Try.ntmps37
    go_wp2_with fail
    refine (HI.out _ h1).mono ?_
    rintro e w' ⟨rfl, rfl⟩
    go_wp2
    go_ret
    exact ⟨by simp [hi], rfl⟩


end Go.Proofs.Ytgibmbjdnppiaaa
