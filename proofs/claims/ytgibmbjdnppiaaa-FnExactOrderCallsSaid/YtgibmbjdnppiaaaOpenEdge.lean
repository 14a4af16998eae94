/- An argument that is a slice of edges, opened; the counting function. No condition. -/
import Derived.Test.YtgibmbjdnppiaaaRows
import Derived.Test.YtgibmbjdnppiaaaBase
import Derived.Test.YtgibmbjdnppiaaaBase2
import Derived.Test.YtgibmbjdnppiaaaOpen2
import Derived.Test.YtgibmbjdnppiaaaEdge
import Derived.WalkKit
import Derived.WalkSpells
import Derived.WalkLawsBesides
import Derived.Handy
import Derived.BigQuiet
import Derived.Deep.RegionHeld3
import Derived.Deep.DrawnRows
import Derived.Deep.QuietTactic
namespace Go.Proofs.Ytgibmbjdnppiaaa
open Go Go.RowKit

open Go.ChangeShapes Go.WideShapes Go.ChangeAt Go.Deep
/-- A slice of edges that came in. -/
def ArgEdges (W : World) (v : Value) : Prop :=
  ∃ (A : Option Addr) (c : Nat) (xs : List Edg), v = .slice A xs.length c ∧ Reads W W.heap.size 3 A xs.length (xs.flatMap Edg.cells) ∧ xs.length ≤ maxLen

set_option maxHeartbeats 1000000 in
theorem szEdgeS_any (A : Option Addr) (n c : Nat) (left : Int) (w : World) (hm : n ≤ maxLen) (h0 : -1 ≤ left) (hl : left ≤ 1048576) : Calls Try.prog 9 #[.slice A n c, .int .i64 left] w (Gives w (.int .i64 (szRes left (n : Int)))) := by
  unfold maxLen at hm
  by_cases hn : left - (n : Int) < 0
  · have HR : Hid (szRes left n = -1) := szRes_neg (by omega)
    go_enter Try.func9, Try.ntmps9
    go_wp2
    go_ret
    rw [HR.out]
    exact ⟨rfl, Below.refl _ _⟩
  · have HR : Hid (szRes left n = left - n) := szRes_pos (by omega)
    go_enter Try.func9, Try.ntmps9
    go_wp2
    go_ret
    rw [HR.out]
    exact ⟨rfl, Below.refl _ _⟩
section
variable {H : Type} {enc : TypeId × Value → H} {W : World} {base : Nat} {b0 : Nat} {r : Reach} {hd : Bool}
theorem arg_edges {v : Value} {d : DataW H} {p : List MemPlace} (hv : Value.okWide Try.prog W r b0 22 v) (h : DataW.Trod enc Try.prog W base (fun _ => true) hd 22 v d p) : ArgEdges W v := by
  obtain ⟨a, len, cap, rfl⟩ := okWide_slice Try.underlying22 hv
  obtain ⟨fuel, hf⟩ := h
  have hf' : DataW.trod enc Try.prog W base (fun _ => true) hd fuel 22 [.slice a len cap] = some (d, p) := by simpa [Value.cells] using hf
  obtain ⟨A, c, xs, hv, hr, hm, _⟩ := read_rows (T := Edg) Edg.cells (m := 3) Edg.cells_len (fun _ => True) Try.underlying22 Try.underlying48 (by kernel_rfl) (by kernel_rfl) rfl (by omega) (fun vs hl n hvs => by
    match vs, hl, hvs with
    | [v0, v1, v2], _, hvs =>
      obtain ⟨y0, h0⟩ := hvs 0 _ _ rfl rfl
      obtain ⟨y1, h1⟩ := hvs 1 _ _ rfl rfl
      obtain ⟨y2, h2⟩ := hvs 2 _ _ rfl rfl
      obtain ⟨x0, e0, _, _⟩ := DataW.trod_int Try.underlying3 h0
      obtain ⟨x1, e1, _, _⟩ := DataW.trod_int Try.underlying3 h1
      obtain ⟨x2, e2, _, _⟩ := DataW.trod_int Try.underlying3 h2
      simp only [List.cons.injEq, and_true] at e0 e1 e2
      subst e0 e1 e2
      exact ⟨⟨x0, x1, x2⟩, rfl, trivial⟩) hf'
  exact ⟨A, c, xs, hv, hr, hm⟩
end
end Go.Proofs.Ytgibmbjdnppiaaa
