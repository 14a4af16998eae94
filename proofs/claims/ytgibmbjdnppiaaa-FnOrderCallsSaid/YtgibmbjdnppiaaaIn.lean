/- Contracts of within, l1In and of the two NameValid. No condition but the sizes. -/
import Derived.Test.YtgibmbjdnppiaaaRows
import Derived.Test.YtgibmbjdnppiaaaBase
import Derived.WalkKit
import Derived.WalkSpells
import Derived.WalkLawsBesides
import Derived.Handy
import Derived.BigQuiet
import Derived.Deep.QuietTactic
namespace Go.Proofs.Ytgibmbjdnppiaaa
open Go Go.RowKit

def inB (n lo hi : Int) : Bool := decide (lo ≤ n ∧ n ≤ hi)
theorem inB_true {n lo hi : Int} (h1 : lo ≤ n) (h2 : n ≤ hi) : inB n lo hi = true := by simp [inB, h1, h2]
theorem inB_false {n lo hi : Int} (h : n < lo ∨ hi < n) : inB n lo hi = false := by simp [inB]; omega
theorem inB_iff {n lo hi : Int} : inB n lo hi = true ↔ lo ≤ n ∧ n ≤ hi := by simp [inB]
theorem inB_iff' {n lo hi : Int} : inB n lo hi = false ↔ (n < lo ∨ hi < n) := by simp [inB]; omega

set_option maxHeartbeats 400000 in
theorem within_any (n lo hi : Int) (w : World) : Calls Try.prog 30 #[.int .i64 n, .int .i64 lo, .int .i64 hi] w fun e w' => e = .returned (.bool (inB n lo hi)) ∧ w = w' := by
  by_cases h : lo ≤ n ∧ n ≤ hi
  · rw [inB_true h.1 h.2]
    obtain ⟨h1, h2⟩ := h
    go_enter Try.func30, Try.ntmps30
    go_wp2
    all_goals (go_ret; simp)
  · rw [inB_false (by omega)]
    go_enter Try.func30, Try.ntmps30
    go_wp2
    all_goals (go_ret; simp; try omega)

set_option maxHeartbeats 400000 in
theorem l1In_any (n lo hi : Int) (w : World) : Calls Try.prog 28 #[.int .i64 n, .int .i64 lo, .int .i64 hi] w fun e w' => e = .returned (.bool (inB n lo hi)) ∧ w = w' := by
  by_cases h : lo ≤ n ∧ n ≤ hi
  · rw [inB_true h.1 h.2]
    obtain ⟨h1, h2⟩ := h
    go_enter Try.func28, Try.ntmps28
    go_wp2
    all_goals (go_ret; simp)
  · rw [inB_false (by omega)]
    go_enter Try.func28, Try.ntmps28
    go_wp2
    all_goals (go_ret; simp; try omega)
end Go.Proofs.Ytgibmbjdnppiaaa
