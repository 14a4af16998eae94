/- The walk of FnExactVersionText. No condition. -/
import Derived.Test.YtogdeekjfgbneaaDoorRows
import Derived.Test.YtogdeekjfgbneaaDoorBase
import Derived.Test.YtogdeekjfgbneaaDoorBase2
import Derived.Test.YtogdeekjfgbneaaDoorOpen
import Derived.Test.YtogdeekjfgbneaaDoorOpenVer
import Derived.Test.YtogdeekjfgbneaaDoorName
import Derived.Test.YtogdeekjfgbneaaDoorVerP
import Derived.Test.YtogdeekjfgbneaaDoorVerZ
import Derived.Test.YtogdeekjfgbneaaDoorVtx
import Derived.Test.YtogdeekjfgbneaaDoorVtf
import Derived.WalkKit
import Derived.WalkSpells
import Derived.WalkLawsBesides
import Derived.Handy
import Derived.BigQuiet
import Derived.Deep.RegionHeld3
import Derived.Deep.DrawnRows
import Derived.Deep.QuietTactic
namespace Go.Proofs.YtogdeekjfgbneaaDoor
open Go Go.RowKit

set_option maxHeartbeats 1000000 in
theorem FnExactVersionText_walk (W : World) (v0 : Value) (a0 : ArgVer v0) : Calls Tryd.prog 3 #[v0] W (Gives W (.bool true)) := by
  obtain ⟨x, rfl, hs, -⟩ := a0
  have hsz : VerSmall x := hs
  have HZ := Lib.hid (fun w => szVersion_any x 1048576 w hsz (by omega) (by omega))
  have HT := Lib.hid (fun w => toVersion_any x w)
  have HS := Lib.hid (fun w => specVerText_any x w hsz)
  have HI := Lib.hid (fun w => implVerText_any x w hsz)
  generalize verText x = t at *
  have hr : szRes 1048576 x.name.size < 0 ∨ ¬ szRes 1048576 x.name.size < 0 := by omega
  generalize szRes 1048576 x.name.size = z at *
  clear hsz hs
  obtain ⟨nm, num⟩ := x
  simp only [Ver.val] at *
  have B0 : Below W.heap.size W (W.alloc (.cells #[Value.string nm, Value.int .i64 num] 23)) := (Below.refl _ _).alloc (Nat.le_refl _) _
  rcases hr with hr | hr
  · go_enter Tryd.func3, Tryd.ntmps3
    go_wp2_with fail
    refine (Gives.keep (HZ.out _) B0).mono ?_
    rintro e w1 ⟨rfl, hb1⟩
    go_wp2
    go_ret
    exact ⟨rfl, hb1⟩
  · go_enter Tryd.func3, Tryd.ntmps3
    go_wp2_with fail
    refine (Gives.keep2 (a0 := ⟨W.heap.size, 0, none⟩) (a1 := ⟨W.heap.size, 1, none⟩) (HZ.out _) ((Blk.new W _ _).cell 0) ((Blk.new W _ _).cell 1) B0).mono ?_
    rintro e w1 ⟨rfl, c1, d1, hb1⟩
    go_wp2_with fail
    refine (Gives.keep2 (HT.out _) c1 d1 hb1).mono ?_
    rintro e w2 ⟨rfl, c2, d2, hb2⟩
    go_wp2_with fail
    refine (Gives.keep2 (HS.out _) c2 d2 hb2).mono ?_
    rintro e w3 ⟨rfl, c3, d3, hb3⟩
    go_wp2_with fail
    refine (Gives.keep2 (HT.out _) c3 d3 hb3).mono ?_
    rintro e w4 ⟨rfl, c4, d4, hb4⟩
    go_wp2_with fail
    refine (Gives.keep2 (HI.out _) c4 d4 hb4).mono ?_
    rintro e w5 ⟨rfl, c5, d5, hb5⟩
    go_wp2
    go_ret
    exact ⟨rfl, hb5⟩
end Go.Proofs.YtogdeekjfgbneaaDoor
