/- The laws' counting functions of flat slices; a slice of fixups that came in. No condition. -/
import Derived.Test.YtdaamgonendkkaaRows
import Derived.Test.YtdaamgonendkkaaBase
import Derived.Test.YtdaamgonendkkaaBase2
import Derived.Test.YtdaamgonendkkaaOpen2
import Derived.Test.YtdaamgonendkkaaFix
import Derived.WalkKit
import Derived.WalkSpells
import Derived.WalkLawsBesides
import Derived.Handy
import Derived.BigQuiet
import Derived.Deep.RegionHeld3
import Derived.Deep.DrawnRows
import Derived.Deep.QuietTactic
namespace Go.Proofs.Ytdaamgonendkkaa
open Go Go.RowKit

set_option maxHeartbeats 1000000 in
theorem szByteS_any (A : Option Addr) (n c : Nat) (left : Int) (w : World) (hm : n ≤ maxLen) (h0 : -1 ≤ left) (hl : left ≤ 1048576) : Calls Try.prog 87 #[.slice A n c, .int .i64 left] w (Gives w (.int .i64 (szRes left (n : Int)))) := by
  unfold maxLen at hm
  by_cases hn : left - (n : Int) < 0
  · have HR : Hid (szRes left n = -1) := szRes_neg (by omega)
    go_enter Try.func87, Try.ntmps87
    go_wp2
    go_ret
    rw [HR.out]
    exact ⟨rfl, Below.refl _ _⟩
  · have HR : Hid (szRes left n = left - n) := szRes_pos (by omega)
    go_enter Try.func87, Try.ntmps87
    go_wp2
    go_ret
    rw [HR.out]
    exact ⟨rfl, Below.refl _ _⟩
set_option maxHeartbeats 1000000 in
theorem szFixupS_any (A : Option Addr) (n c : Nat) (left : Int) (w : World) (hm : n ≤ maxLen) (h0 : -1 ≤ left) (hl : left ≤ 1048576) : Calls Try.prog 88 #[.slice A n c, .int .i64 left] w (Gives w (.int .i64 (szRes left (n : Int)))) := by
  unfold maxLen at hm
  by_cases hn : left - (n : Int) < 0
  · have HR : Hid (szRes left n = -1) := szRes_neg (by omega)
    go_enter Try.func88, Try.ntmps88
    go_wp2
    go_ret
    rw [HR.out]
    exact ⟨rfl, Below.refl _ _⟩
  · have HR : Hid (szRes left n = left - n) := szRes_pos (by omega)
    go_enter Try.func88, Try.ntmps88
    go_wp2
    go_ret
    rw [HR.out]
    exact ⟨rfl, Below.refl _ _⟩
open Go.ChangeShapes Go.WideShapes Go.ChangeAt Go.Deep
/-- A slice of fixups that came in. -/
def ArgFixups (W : World) (v : Value) : Prop :=
  ∃ (A : Option Addr) (c : Nat) (xs : List Fix), v = .slice A xs.length c ∧ Reads W W.heap.size 4 A xs.length (xs.flatMap Fix.cells) ∧ xs.length ≤ maxLen
section
variable {H : Type} {enc : TypeId × Value → H} {W : World} {base : Nat} {hd : Bool}
theorem read_fixups {fuel : Nat} {v : Value} {x : DataW H × List MemPlace} (h : DataW.trod enc Try.prog W base (fun _ => true) hd fuel 94 [v] = some x) : ArgFixups W v := by
  obtain ⟨A, c, xs, hv, hr, hm, _⟩ := read_rows (T := Fix) Fix.cells (m := 4) Fix.cells_len (fun _ => True) Try.underlying94 Try.underlying122 (by kernel_rfl) (by kernel_rfl) rfl (by omega) (fun vs hl n hvs => by
    match vs, hl, hvs with
    | [v0, v1, v2, v3], _, hvs =>
      obtain ⟨y0, h0⟩ := hvs 0 _ _ rfl rfl
      obtain ⟨y1, h1⟩ := hvs 1 _ _ rfl rfl
      obtain ⟨y2, h2⟩ := hvs 2 _ _ rfl rfl
      obtain ⟨y3, h3⟩ := hvs 3 _ _ rfl rfl
      obtain ⟨x0, e0, _, _⟩ := DataW.trod_int Try.underlying3 h0
      obtain ⟨x1, e1, _, _⟩ := DataW.trod_int Try.underlying3 h1
      obtain ⟨x2, e2, _, _⟩ := DataW.trod_int Try.underlying3 h2
      obtain ⟨x3, e3, _, _⟩ := DataW.trod_int Try.underlying3 h3
      simp only [List.cons.injEq, and_true] at e0 e1 e2 e3
      subst e0 e1 e2 e3
      exact ⟨⟨x0, x1, x2, x3⟩, rfl, trivial⟩) h
  exact ⟨A, c, xs, hv, hr, hm⟩
end
end Go.Proofs.Ytdaamgonendkkaa
