/- An argument that is a slice of parts, opened; the counting function. No condition. -/
import Derived.Test.YthjjbgpeajeneaaDoorRows
import Derived.Test.YthjjbgpeajeneaaDoorBase
import Derived.Test.YthjjbgpeajeneaaDoorBase2
import Derived.Test.YthjjbgpeajeneaaDoorOpen2
import Derived.Test.YthjjbgpeajeneaaDoorPart
import Derived.WalkKit
import Derived.WalkSpells
import Derived.WalkLawsBesides
import Derived.Handy
import Derived.BigQuiet
import Derived.Deep.RegionHeld3
import Derived.Deep.DrawnRows
import Derived.Deep.QuietTactic
namespace Go.Proofs.YthjjbgpeajeneaaDoor
open Go Go.RowKit

open Go.ChangeShapes Go.WideShapes Go.ChangeAt Go.Deep
/-- A slice of parts that came in. -/
def ArgParts (W : World) (v : Value) : Prop :=
  ∃ (A : Option Addr) (c : Nat) (xs : List Prt), v = .slice A xs.length c ∧ Reads W W.heap.size 2 A xs.length (xs.flatMap Prt.cells) ∧ xs.length ≤ maxLen

set_option maxHeartbeats 1000000 in
theorem szPartS_any (A : Option Addr) (n c : Nat) (left : Int) (w : World) (hm : n ≤ maxLen) (h0 : -1 ≤ left) (hl : left ≤ 1048576) : Calls Tryd.prog 7 #[.slice A n c, .int .i64 left] w (Gives w (.int .i64 (szRes left (n : Int)))) := by
  unfold maxLen at hm
  by_cases hn : left - (n : Int) < 0
  · have HR : Hid (szRes left n = -1) := szRes_neg (by omega)
    go_enter Tryd.func7, Tryd.ntmps7
    go_wp2
    go_ret
    rw [HR.out]
    exact ⟨rfl, Below.refl _ _⟩
  · have HR : Hid (szRes left n = left - n) := szRes_pos (by omega)
    go_enter Tryd.func7, Tryd.ntmps7
    go_wp2
    go_ret
    rw [HR.out]
    exact ⟨rfl, Below.refl _ _⟩
section
variable {H : Type} {enc : TypeId × Value → H} {W : World} {base : Nat} {b0 : Nat} {r : Reach} {hd : Bool}
set_option maxRecDepth 100000 in
theorem arg_parts {v : Value} {d : DataW H} {p : List MemPlace} (hv : Value.okWide Tryd.prog W r b0 22 v) (h : DataW.Trod enc Tryd.prog W base (fun _ => true) hd 22 v d p) : ArgParts W v := by
  obtain ⟨a, len, cap, rfl⟩ := okWide_slice Tryd.underlying22 hv
  obtain ⟨fuel, hf⟩ := h
  have hf' : DataW.trod enc Tryd.prog W base (fun _ => true) hd fuel 22 [.slice a len cap] = some (d, p) := by simpa [Value.cells] using hf
  obtain ⟨A, c, xs, hv, hr, hm, _⟩ := read_rows (T := Prt) Prt.cells (m := 2) Prt.cells_len (fun _ => True) Tryd.underlying22 Tryd.underlying44 (by kernel_rfl) (by kernel_rfl) rfl (by omega) (fun vs hl n hvs => by
    match vs, hl, hvs with
    | [v0, v1], _, hvs =>
      obtain ⟨y0, h0⟩ := hvs 0 _ _ rfl rfl
      obtain ⟨y1, h1⟩ := hvs 1 _ _ rfl rfl
      obtain ⟨x0, e0, _, _⟩ := DataW.trod_int Tryd.underlying3 h0
      obtain ⟨x1, e1, _, _⟩ := DataW.trod_int Tryd.underlying3 h1
      simp only [List.cons.injEq, and_true] at e0 e1
      subst e0 e1
      exact ⟨⟨x0, x1⟩, rfl, trivial⟩) hf'
  exact ⟨A, c, xs, hv, hr, hm⟩
end
end Go.Proofs.YthjjbgpeajeneaaDoor

