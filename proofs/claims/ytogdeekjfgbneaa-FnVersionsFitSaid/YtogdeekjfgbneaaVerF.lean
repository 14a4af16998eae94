/- Contracts of the functions on versions. No condition but the sizes. -/
import Derived.Test.YtogdeekjfgbneaaRows
import Derived.Test.YtogdeekjfgbneaaBase
import Derived.Test.YtogdeekjfgbneaaIn
import Derived.Test.YtogdeekjfgbneaaName
import Derived.Test.YtogdeekjfgbneaaVer
import Derived.Test.YtogdeekjfgbneaaFindVer
import Derived.WalkKit
import Derived.WalkSpells
import Derived.WalkLawsBesides
import Derived.Handy
import Derived.BigQuiet
import Derived.Deep.QuietTactic
namespace Go.Proofs.Ytogdeekjfgbneaa
open Go Go.RowKit

def verOk (v : Ver) : Bool := nameOk v.name && inB v.number 1 99
/-- The sizes of what came in. -/
def VerSmall (v : Ver) : Prop := v.name.size ≤ maxLen

set_option maxHeartbeats 1000000 in
theorem implVerValid_any (v : Ver) (w : World) (hs : VerSmall v) : Calls Try.prog 12 #[v.val] w (Gives w (.bool (verOk v))) := by
  have HN := Lib.hid (fun w => implName_any v.name w hs)
  unfold verOk
  obtain ⟨nm, num⟩ := v
  simp only [Ver.val] at *
  generalize nameOk nm = t at *
  cases t
  all_goals
    go_enter Try.func12, Try.ntmps12
    go_wp2_with (first | (go_at_call 26; refine (HN.out _).mono ?_; rintro e w' ⟨rfl, rfl⟩) | (go_at_call 27; refine (within_any _ _ _ _).mono ?_; rintro e w' ⟨rfl, rfl⟩))
    go_ret
    exact ⟨by simp, by go_grown⟩

set_option maxHeartbeats 1000000 in
theorem specVerValid_any (v : Ver) (w : World) (hs : VerSmall v) : Calls Try.prog 10 #[v.val] w (Gives w (.bool (verOk v))) := by
  have HN := Lib.hid (fun w => specName_any v.name w hs)
  unfold verOk
  obtain ⟨nm, num⟩ := v
  simp only [Ver.val] at *
  generalize nameOk nm = t at *
  cases t
  all_goals
    go_enter Try.func10, Try.ntmps10
    go_wp2_with (first | (go_at_call 24; refine (HN.out _).mono ?_; rintro e w' ⟨rfl, rfl⟩) | (go_at_call 25; refine (l1In_any _ _ _ _).mono ?_; rintro e w' ⟨rfl, rfl⟩))
    go_ret
    exact ⟨by simp, by go_grown⟩

end Go.Proofs.Ytogdeekjfgbneaa
