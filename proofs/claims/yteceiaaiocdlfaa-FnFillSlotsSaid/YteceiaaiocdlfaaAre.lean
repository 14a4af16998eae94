/- Contract of areNames. Condition: the sizes. -/
import Derived.Test.YteceiaaiocdlfaaRows
import Derived.Test.YteceiaaiocdlfaaBase
import Derived.Test.YteceiaaiocdlfaaBase2
import Derived.Test.YteceiaaiocdlfaaIn
import Derived.Test.YteceiaaiocdlfaaName
import Derived.Test.YteceiaaiocdlfaaStrS
import Derived.Test.YteceiaaiocdlfaaFindS
import Derived.Test.YteceiaaiocdlfaaSlt
import Derived.WalkKit
import Derived.WalkSpells
import Derived.WalkLawsBesides
import Derived.Handy
import Derived.BigQuiet
import Derived.Deep.RegionHeld3
import Derived.Deep.DrawnRows
import Derived.Deep.QuietTactic
namespace Go.Proofs.Yteceiaaiocdlfaa
open Go Go.RowKit

theorem areNamesC_any (s : ByteArray) (w : World) (hs : s.size ≤ maxLen) : Calls Try.prog 67 #[.string s] w (Gives w (.bool (!nameOk s))) := by
  have HN := Lib.hid (fun w => implName_any s w hs)
  generalize nameOk s = t at *
  go_enter Try.func67, Try.ntmps67
  go_wp2_with fail
  refine (HN.out _).mono ?_
  rintro e w' ⟨rfl, rfl⟩
  go_wp2
  go_ret
  exact ⟨rfl, Below.refl _ _⟩
theorem any_notN (ns : List ByteArray) : (!ns.any fun x => !nameOk x) = ns.all nameOk := by
  induction ns with
  | nil => rfl
  | cons x xs ih => simp [List.all_cons, ih]
set_option maxHeartbeats 1000000 in
theorem areNames_any {A : Option Addr} {c B : Nat} (ns : List ByteArray) (w : World) (h1 : Reads w B 1 A ns.length (texts ns)) (hB : B ≤ w.heap.size) (hm : ns.length ≤ maxLen) (hs : ∀ s ∈ ns, s.size ≤ maxLen) :
    Calls Try.prog 56 #[.slice A ns.length c] w (Gives w (.bool (namesB ns))) := by
  have HF := Lib.hid (fun h => containsFuncStr_any A c B 67 #[] (fun s => !nameOk s) ns w h1 hB hm (fun args w => by kernel_rfl) h)
  have HA := Lib.hid (any_notN ns)
  have HS := Lib.hid hs
  clear hs
  unfold maxLen at hm
  by_cases hl : ns.length ≤ 40
  · have HV : Hid (namesB ns = ns.all nameOk) := by unfold namesB; rw [decide_eq_true hl, Bool.true_and]; exact rfl
    go_enter Try.func56, Try.ntmps56
    go_wp2_with fail
    refine (HF.out (fun x hx w' _ => by simpa using areNamesC_any x w' (HS.out x hx))).mono ?_
    rintro e w1 ⟨rfl, hb⟩
    go_wp2
    go_ret
    rw [HV.out, ← HA.out]
    exact ⟨rfl, hb⟩
  · have HV : Hid (namesB ns = false) := by unfold namesB; rw [decide_eq_false hl, Bool.false_and]; exact rfl
    go_enter Try.func56, Try.ntmps56
    go_wp2_with fail
    go_ret
    rw [HV.out]
    exact ⟨rfl, Below.refl _ _⟩
end Go.Proofs.Yteceiaaiocdlfaa
