/- The walks of FnExactVersionValid. No condition. -/
import Derived.Test.YtogdeekjfgbneaaRows
import Derived.Test.YtogdeekjfgbneaaBase
import Derived.Test.YtogdeekjfgbneaaOpen
import Derived.Test.YtogdeekjfgbneaaOpenVer
import Derived.Test.YtogdeekjfgbneaaVerF
import Derived.WalkKit
import Derived.WalkSpells
import Derived.WalkLawsBesides
import Derived.Handy
import Derived.BigQuiet
import Derived.Deep.QuietTactic
namespace Go.Proofs.Ytogdeekjfgbneaa
open Go Go.RowKit

def szRes (left total : Int) : Int := if left < total then -1 else left - total
set_option maxHeartbeats 1000000 in
theorem szVersion_any (v : Ver) (left : Int) (w : World) (hs : VerSmall v) (h1 : -1 ≤ left) (h2 : left ≤ 1048576) :
    Calls Try.prog 9 #[v.val, .int .i64 left] w (Gives w (.int .i64 (szRes left v.name.size))) := by
  unfold szRes
  obtain ⟨nm, num⟩ := v
  unfold VerSmall maxLen at hs
  simp only [Ver.val] at *
  by_cases hl : left < nm.size
  · have hx : left - (nm.size : Int) < 0 := by omega
    rw [if_pos hl]
    go_enter Try.func9, Try.ntmps9
    go_wp2
    go_ret
    exact ⟨rfl, by go_grown⟩
  · have hx : ¬ left - (nm.size : Int) < 0 := by omega
    rw [if_neg hl]
    go_enter Try.func9, Try.ntmps9
    go_wp2
    go_ret
    exact ⟨rfl, by go_grown⟩

set_option maxHeartbeats 1000000 in
theorem FnExactVersionValid_walk (W : World) (v0 : Value) (a0 : ArgVer v0) : Calls Try.prog 3 #[v0] W (Gives W (.bool true)) := by
  obtain ⟨x, rfl, hs, -⟩ := a0
  have hsz : VerSmall x := hs
  have HZ := Lib.hid (fun w => szVersion_any x 1048576 w hsz (by omega) (by omega))
  have HT := Lib.hid (fun w => toVersion_any x w)
  have HS := Lib.hid (fun w => specVerValid_any x w hsz)
  have HI := Lib.hid (fun w => implVerValid_any x w hsz)
  generalize verOk x = t at *
  have hr : szRes 1048576 x.name.size < 0 ∨ ¬ szRes 1048576 x.name.size < 0 := by omega
  generalize szRes 1048576 x.name.size = z at *
  clear hsz hs
  obtain ⟨nm, num⟩ := x
  simp only [Ver.val] at *
  have B0 : Below W.heap.size W (W.alloc (.cells #[Value.string nm, Value.int .i64 num] 23)) := (Below.refl _ _).alloc (Nat.le_refl _) _
  rcases hr with hr | hr
  · go_enter Try.func3, Try.ntmps3
    go_wp2_with fail
    refine (Gives.keep (HZ.out _) B0).mono ?_
    rintro e w1 ⟨rfl, hb1⟩
    go_wp2
    go_ret
    exact ⟨rfl, hb1⟩
  · go_enter Try.func3, Try.ntmps3
    go_wp2_with fail
    refine (Gives.keep2 (a0 := ⟨W.heap.size, 0, none⟩) (a1 := ⟨W.heap.size, 1, none⟩) (HZ.out _) ((Blk.new W _ _).cell 0) ((Blk.new W _ _).cell 1) B0).mono ?_
    rintro e w1 ⟨rfl, c1, d1, hb1⟩
    go_wp2_with fail
    refine (Gives.keep2 (HT.out _) c1 d1 hb1).mono ?_
    rintro e w2 ⟨rfl, c2, d2, hb2⟩
    go_wp2_with fail
    refine (Gives.keep2 (HS.out _) c2 d2 hb2).mono ?_
    rintro e w3 ⟨rfl, c3, d3, hb3⟩
    go_wp2_with fail
    refine (Gives.keep2 (HT.out _) c3 d3 hb3).mono ?_
    rintro e w4 ⟨rfl, c4, d4, hb4⟩
    go_wp2_with fail
    refine (Gives.keep2 (HI.out _) c4 d4 hb4).mono ?_
    rintro e w5 ⟨rfl, c5, d5, hb5⟩
    cases t
    all_goals
      go_wp2
      go_ret
      exact ⟨rfl, hb5⟩
end Go.Proofs.Ytogdeekjfgbneaa
