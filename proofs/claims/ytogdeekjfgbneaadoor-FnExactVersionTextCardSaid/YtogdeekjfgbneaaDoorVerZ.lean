/- Contract of the size of a version. No condition. -/
import Derived.Test.YtogdeekjfgbneaaDoorRows
import Derived.Test.YtogdeekjfgbneaaDoorBase
import Derived.Test.YtogdeekjfgbneaaDoorBase2
import Derived.Test.YtogdeekjfgbneaaDoorOpen
import Derived.Test.YtogdeekjfgbneaaDoorOpenVer
import Derived.Test.YtogdeekjfgbneaaDoorVerP
import Derived.WalkKit
import Derived.WalkSpells
import Derived.WalkLawsBesides
import Derived.Handy
import Derived.BigQuiet
import Derived.Deep.QuietTactic
namespace Go.Proofs.YtogdeekjfgbneaaDoor
open Go Go.RowKit


set_option maxHeartbeats 1000000 in
theorem szVersion_any (v : Ver) (left : Int) (w : World) (hs : VerSmall v) (h1 : -1 ≤ left) (h2 : left ≤ 1048576) :
    Calls Tryd.prog 7 #[v.val, .int .i64 left] w (Gives w (.int .i64 (szRes left v.name.size))) := by
  unfold szRes
  obtain ⟨nm, num⟩ := v
  unfold VerSmall maxLen at hs
  simp only [Ver.val] at *
  by_cases hl : left < nm.size
  · have hx : left - (nm.size : Int) < 0 := by omega
    rw [if_pos hl]
    go_enter Tryd.func7, Tryd.ntmps7
    go_wp2
    go_ret
    exact ⟨rfl, by go_grown⟩
  · have hx : ¬ left - (nm.size : Int) < 0 := by omega
    rw [if_neg hl]
    go_enter Tryd.func7, Tryd.ntmps7
    go_wp2
    go_ret
    exact ⟨rfl, by go_grown⟩

end Go.Proofs.YtogdeekjfgbneaaDoor
