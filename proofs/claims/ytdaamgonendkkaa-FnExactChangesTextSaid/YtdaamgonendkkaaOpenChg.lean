/- An argument that is a Changes, opened. No condition. -/
import Derived.Test.YtdaamgonendkkaaRows
import Derived.Test.YtdaamgonendkkaaBase
import Derived.Test.YtdaamgonendkkaaOpen
import Derived.Lib.SmallJoins
namespace Go.Proofs.Ytdaamgonendkkaa
open Go Go.RowKit
open Go.ChangeShapes Go.WideShapes Go.ChangeAt Go.Deep
/-- A Changes that came in. -/
def ArgChg (W : World) (v : Value) : Prop := ∃ v0 v1 v2 : Value, v = .agg #[v0, v1, v2] ∧ ArgTexts W v0 ∧ ArgTexts W v1 ∧ ArgTexts W v2
section
variable {H : Type} {enc : TypeId × Value → H} {W : World} {base : Nat} {b0 : Nat} {r : Reach} {hd : Bool}
set_option maxRecDepth 100000 in
theorem arg_chg {v : Value} {d : DataW H} {p : List MemPlace} (hv : Value.okWide Try.prog W r b0 31 v) (h : DataW.Trod enc Try.prog W base (fun _ => true) hd 31 v d p) : ArgChg W v := by
  obtain ⟨v0, v1, v2, y0, y1, y2, m, rfl, rfl, rfl, hy0, hy1, hy2⟩ := Joins.open_agg3 Try.underlying31 (by kernel_rfl) (by kernel_rfl) hv h
  exact ⟨v0, v1, v2, rfl, read_texts Try.underlying23 Try.underlying9 (by kernel_rfl) hy0, read_texts Try.underlying23 Try.underlying9 (by kernel_rfl) hy1, read_texts Try.underlying23 Try.underlying9 (by kernel_rfl) hy2⟩
end
end Go.Proofs.Ytdaamgonendkkaa
