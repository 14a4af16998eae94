/- Contracts of the functions on versions. No condition but the sizes. -/
import Derived.Test.YtogdeekjfgbneaaDoorRows
import Derived.Test.YtogdeekjfgbneaaDoorBase
import Derived.Test.YtogdeekjfgbneaaDoorIn
import Derived.Test.YtogdeekjfgbneaaDoorName
import Derived.Test.YtogdeekjfgbneaaDoorVer
import Derived.WalkKit
import Derived.WalkSpells
import Derived.WalkLawsBesides
import Derived.Handy
import Derived.BigQuiet
import Derived.Deep.QuietTactic
namespace Go.Proofs.YtogdeekjfgbneaaDoor
open Go Go.RowKit

def verOk (v : Ver) : Bool := nameOk v.name && inB v.number 1 99
/-- The sizes of what came in. -/
def VerSmall (v : Ver) : Prop := v.name.size ≤ maxLen

set_option maxHeartbeats 1000000 in
theorem implVerValid_any (v : Ver) (w : World) (hs : VerSmall v) : Calls Tryd.prog 19 #[v.val] w (Gives w (.bool (verOk v))) := by
  have HN := Lib.hid (fun w => implName_any v.name w hs)
  unfold verOk
  obtain ⟨nm, num⟩ := v
  simp only [Ver.val] at *
  generalize nameOk nm = t at *
  cases t
  all_goals
    go_enter Tryd.func19, Tryd.ntmps19
    go_wp2_with (first | (go_at_call 31; refine (HN.out _).mono ?_; rintro e w' ⟨rfl, rfl⟩) | (go_at_call 32; refine (within_any _ _ _ _).mono ?_; rintro e w' ⟨rfl, rfl⟩))
    go_ret
    exact ⟨by simp, by go_grown⟩

set_option maxHeartbeats 1000000 in
theorem specVerValid_any (v : Ver) (w : World) (hs : VerSmall v) : Calls Tryd.prog 12 #[v.val] w (Gives w (.bool (verOk v))) := by
  have HN := Lib.hid (fun w => specName_any v.name w hs)
  unfold verOk
  obtain ⟨nm, num⟩ := v
  simp only [Ver.val] at *
  generalize nameOk nm = t at *
  cases t
  all_goals
    go_enter Tryd.func12, Tryd.ntmps12
    go_wp2_with (first | (go_at_call 23; refine (HN.out _).mono ?_; rintro e w' ⟨rfl, rfl⟩) | (go_at_call 24; refine (l1In_any _ _ _ _).mono ?_; rintro e w' ⟨rfl, rfl⟩))
    go_ret
    exact ⟨by simp, by go_grown⟩

end Go.Proofs.YtogdeekjfgbneaaDoor
