/- Contract of the law's second look at parts. Condition: the sizes. -/
import Derived.Test.YthjjbgpeajeneaaDoorRows
import Derived.Test.YthjjbgpeajeneaaDoorBase
import Derived.Test.YthjjbgpeajeneaaDoorBase2
import Derived.Test.YthjjbgpeajeneaaDoorPart
import Derived.Test.YthjjbgpeajeneaaDoorMarkP
import Derived.WalkKit
import Derived.WalkSpells
import Derived.WalkLawsBesides
import Derived.Handy
import Derived.BigQuiet
import Derived.Deep.RegionHeld3
import Derived.Deep.DrawnRows
import Derived.Deep.QuietTactic
namespace Go.Proofs.YthjjbgpeajeneaaDoor
open Go Go.RowKit

set_option maxHeartbeats 1000000 in
theorem heldPartS_any (A : Option Addr) (n c base : Nat) (k0 : Int) (w : World) (h : w.ownsRow base 41 2 (.slice A n c) n (nums .i64 (mkI k0 (n * 2)))) (hn : n ≤ 4194304) (hk0 : 0 ≤ k0) (hk1 : k0 ≤ 67108864) :
    Calls Tryd.prog 19 #[.slice A n c, .int .i64 k0] w (Gives w (.int .i64 (k0 + (n : Int) * 2))) := by
  go_enter Tryd.func19, Tryd.ntmps19
  go_wp2
  go_loop [1, 5] (fun kv i => ∃ j : Nat, j ≤ n ∧ i = .int .i64 j ∧ kv = .int .i64 (k0 + (j : Int) * 2)) (fun _ i => n - (intOf i).toNat)
  case atStart => exact ⟨0, Nat.zero_le _, rfl, by simp⟩
  case round =>
    obtain ⟨j, hj, rfl, rfl⟩ := hrel
    by_cases hlt : j < n
    · obtain ⟨g, rfl, hbg, hgs⟩ := own_addrN h (by omega)
      have e0 : w.cell? ⟨g, j * 2, none⟩ = some (.int .i64 (k0 + (j : Int) * 2)) := (h.cellAt (j * 2) (by omega)).trans ((mkI_get k0 (by omega)).trans (congrArg (fun z => some (Value.int .i64 z)) (by omega)))
      have e1 : w.cell? ⟨g, j * 2 + 1, none⟩ = some (.int .i64 (k0 + (j : Int) * 2 + 1)) := (h.cellAt (j * 2 + 1) (by omega)).trans ((mkI_get k0 (by omega)).trans (congrArg (fun z => some (Value.int .i64 z)) (by omega)))
      go_wp2
      go_round
      case rel => exact ⟨j + 1, by omega, by go_num, by go_num⟩
      case measure => simp [intOf]; omega
    · obtain rfl : j = n := by omega
      go_wp2
      go_ret
      exact ⟨rfl, Below.refl _ _⟩
end Go.Proofs.YthjjbgpeajeneaaDoor
