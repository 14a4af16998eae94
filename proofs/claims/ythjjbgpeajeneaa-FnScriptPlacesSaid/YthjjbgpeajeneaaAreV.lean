/- Contract of areValues. No condition but the sizes. -/
import Derived.Test.YthjjbgpeajeneaaRows
import Derived.Test.YthjjbgpeajeneaaBase
import Derived.Test.YthjjbgpeajeneaaBase2
import Derived.Test.YthjjbgpeajeneaaIn
import Derived.Test.YthjjbgpeajeneaaFindI
import Derived.WalkKit
import Derived.WalkSpells
import Derived.WalkLawsBesides
import Derived.Handy
import Derived.BigQuiet
import Derived.Deep.QuietTactic
namespace Go.Proofs.Ythjjbgpeajeneaa
open Go Go.RowKit

def valsOk (xs : List Int) : Bool := xs.all fun n => inB n 0 60000
theorem any_not {α : Type} (p : α → Bool) (xs : List α) : (!xs.any fun x => !p x) = xs.all p := by
  induction xs with
  | nil => rfl
  | cons x xs ih => simp [List.all_cons, ih]
theorem all_at {α : Type} {p : α → Bool} {xs : List α} (h : ∀ j, (h : j < xs.length) → p xs[j] = true) : xs.all p = true := by
  rw [List.all_eq_true]
  intro x hx
  obtain ⟨j, hj, rfl⟩ := List.getElem_of_mem hx
  exact h j hj
theorem all_not {α : Type} {p : α → Bool} {xs : List α} {k : Nat} (hk : k < xs.length) (h : p xs[k] = false) : xs.all p = false := by
  rw [List.all_eq_false]
  exact ⟨_, List.getElem_mem hk, by simp [h]⟩

set_option maxHeartbeats 1000000 in
theorem areValuesC_any (n : Int) (w : World) : Calls Try.prog 38 #[.int .i64 n] w (Gives w (.bool (!inB n 0 60000))) := by
  go_enter Try.func38, Try.ntmps38
  go_wp2_with (go_at_call 25; refine (within_any _ _ _ _).mono ?_; rintro e w' ⟨rfl, rfl⟩)
  go_ret
  exact ⟨rfl, Below.refl _ _⟩

set_option maxHeartbeats 1000000 in
theorem areValues_any {A1 : Option Addr} {c1 B1 : Nat} (xs : List Int) (w : World) (h1 : Reads w B1 1 A1 xs.length (nums .i64 xs)) (hB : B1 ≤ w.heap.size) (hm : xs.length ≤ maxLen) :
    Calls Try.prog 31 #[.slice A1 xs.length c1] w (Gives w (.bool (valsOk xs))) := by
  have HF := Lib.hid (fun h => containsFuncInt_any A1 c1 B1 38 #[] (fun n => !inB n 0 60000) xs w h1 hB hm (fun args w => by kernel_rfl) h)
  have HA := Lib.hid (any_not (fun n => inB n 0 60000) xs)
  go_enter Try.func31, Try.ntmps31
  go_wp2_with fail
  refine (HF.out (fun x _ w' _ => by simpa using areValuesC_any x w')).mono ?_
  rintro e w1 ⟨rfl, hb⟩
  go_wp2
  go_ret
  unfold valsOk
  rw [← HA.out]
  exact ⟨rfl, hb⟩

end Go.Proofs.Ythjjbgpeajeneaa
