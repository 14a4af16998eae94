/- The walk of FnExactReadVersion. Condition: the library's variables. -/
import Derived.Test.YtogdeekjfgbneaaDoorRows
import Derived.Test.YtogdeekjfgbneaaDoorBase
import Derived.Test.YtogdeekjfgbneaaDoorBase2
import Derived.Test.YtogdeekjfgbneaaDoorOpen
import Derived.Test.YtogdeekjfgbneaaDoorOpenVer
import Derived.Test.YtogdeekjfgbneaaDoorName
import Derived.Test.YtogdeekjfgbneaaDoorVer
import Derived.Test.YtogdeekjfgbneaaDoorVerP
import Derived.Test.YtogdeekjfgbneaaDoorVtx
import Derived.Test.YtogdeekjfgbneaaDoorRdv
import Derived.Test.YtogdeekjfgbneaaDoorSrv
import Derived.Test.YtogdeekjfgbneaaDoorLibR
import Derived.Test.YtogdeekjfgbneaaDoorLibV2
import Derived.WalkKit
import Derived.WalkSpells
import Derived.WalkLawsBesides
import Derived.Handy
import Derived.BigQuiet
import Derived.Deep.RegionHeld3
import Derived.Deep.DrawnRows
import Derived.Deep.QuietTactic
namespace Go.Proofs.YtogdeekjfgbneaaDoor
open Go Go.RowKit

set_option maxHeartbeats 1000000 in
theorem FnExactReadVersion_walk (W : World) (v0 : Value) (a0 : ArgStr v0) (hlib : LibW W) : Calls Tryd.prog 5 #[v0] W (Gives W (.bool true)) := by
  obtain ⟨s, rfl, hs⟩ := a0
  unfold maxLen at hs
  by_cases hm : s.size ≤ 1048576
  · have HS := Lib.hid (fun w => specReadVer_any s w (by omega))
    have HI := Lib.hid (fun w hl => implReadVer_any s w (by omega) hl)
    have HL := Lib.hid hlib
    clear hlib
    go_enter Tryd.func5, Tryd.ntmps5
    go_wp2_with fail
    refine (HS.out _).mono ?_
    rintro e w1 ⟨x, b, rfl, hx, hb1⟩
    have HX := Lib.hid hx
    clear hx HS
    obtain ⟨xn, xk⟩ := x
    simp only [Ver.val]
    have B1 := hb1.alloc hb1.size (.cells #[.string xn, .int .i64 xk] 26)
    have K1 := Blk.new w1 26 #[.string xn, .int .i64 xk]
    have hl1 : w1.heap.size < (w1.alloc (.cells #[.string xn, .int .i64 xk] 26)).heap.size := by simp
    go_wp2_with fail
    refine (HI.out _ (HL.out.below B1)).mono ?_
    rintro e w2 ⟨y, c, rfl, hy, hb2⟩
    obtain ⟨hxy, hbc⟩ := HX.out.one hy
    subst hxy hbc
    clear hy HI HX
    simp only [Ver.val]
    have B2 := B1.trans (hb2.mono B1.size)
    have K2 := (K1.below hb2 hl1).alloc (.cells #[.string xn, .int .i64 xk] 26)
    have B3 := B2.alloc B2.size (.cells #[.string xn, .int .i64 xk] 26)
    have K3 := Blk.new w2 26 #[.string xn, .int .i64 xk]
    clear B1 K1 hl1 hb2 B2 hb1
    have c0 := K2.cell 0
    have c1 := K2.cell 1
    have d0 := K3.cell 0
    have d1 := K3.cell 1
    have HE := Lib.hid (fun w => eqVersion_any ⟨xn, xk⟩ ⟨xn, xk⟩ w)
    simp only [Ver.val, decide_true] at HE
    go_wp2_with fail
    refine (HE.out _).mono ?_
    rintro e w4 ⟨rfl, hb4⟩
    have B4 := B3.trans (hb4.mono B3.size)
    cases b
    all_goals
      go_wp2
      go_ret
      exact ⟨rfl, B4⟩
  · have hi : (1048576 : Int) < (s.size : Int) := by omega
    go_enter Tryd.func5, Tryd.ntmps5
    go_wp2
    go_ret
    exact ⟨rfl, Below.refl _ _⟩
end Go.Proofs.YtogdeekjfgbneaaDoor
