/- Sections that came in, opened. No condition. -/
import Derived.Test.YtdaamgonendkkaaRows
import Derived.Test.YtdaamgonendkkaaBase
import Derived.Test.YtdaamgonendkkaaBase2
import Derived.Test.YtdaamgonendkkaaOpen
import Derived.Test.YtdaamgonendkkaaOpen2
import Derived.Test.YtdaamgonendkkaaOnly
import Derived.Test.YtdaamgonendkkaaByteS
import Derived.Test.YtdaamgonendkkaaFix
import Derived.Test.YtdaamgonendkkaaSzF
import Derived.Test.YtdaamgonendkkaaSec
import Derived.Test.YtdaamgonendkkaaSecM
import Derived.WalkKit
import Derived.WalkSpells
import Derived.WalkLawsBesides
import Derived.Handy
import Derived.BigQuiet
import Derived.Deep.RegionHeld3
import Derived.Deep.DrawnRows
import Derived.Deep.QuietTactic
namespace Go.Proofs.Ytdaamgonendkkaa
open Go Go.RowKit

open Go.ChangeShapes Go.WideShapes Go.ChangeAt Go.Deep
/-- A slice of them that came in. -/
def ArgSecs (W : World) (v : Value) : Prop :=
  ∃ (A : Option Addr) (c : Nat) (xs : List Sec), v = .slice A xs.length c ∧ SecAt W W.heap.size A xs ∧ xs.length ≤ maxLen ∧ ∀ x ∈ xs, x.big
section
variable {H : Type} {enc : TypeId × Value → H} {W : World} {base : Nat} {b0 : Nat} {r : Reach} {hd : Bool}
set_option maxRecDepth 100000 in
theorem read_Secs {fuel : Nat} {v : Value} {x : DataW H × List MemPlace} (h : DataW.trod enc Try.prog W base (fun _ => true) hd fuel 38 [v] = some x) : ArgSecs W v := by
  obtain ⟨A, c, xs, hv, hr, hm, hq⟩ := read_rows (T := Sec) Sec.cells (m := 6) Sec.cells_len (fun x => x.In W W.heap.size ∧ x.big) Try.underlying38 Try.underlying96 (by kernel_rfl) (by kernel_rfl) rfl (by omega) (fun vs hl n hvs => by
    match vs, hl, hvs with
    | [v0, v1, v2, v3, v4, v5], _, hvs =>
      obtain ⟨y0, h0⟩ := hvs 0 _ _ rfl rfl
      obtain ⟨x0, e0, _, hw0⟩ := DataW.trod_string Try.underlying9 h0
      obtain ⟨y1, h1⟩ := hvs 1 _ _ rfl rfl
      obtain ⟨x1, e1, _, _⟩ := DataW.trod_int Try.underlying3 h1
      obtain ⟨y2, h2⟩ := hvs 2 _ _ rfl rfl
      obtain ⟨x2, e2, _, _⟩ := DataW.trod_int Try.underlying3 h2
      obtain ⟨y3, h3⟩ := hvs 3 _ _ rfl rfl
      obtain ⟨A3, c3, x3, rfl, r3, m3, t3⟩ := read_nums Try.underlying22 Try.underlying5 (by kernel_rfl) h3
      obtain ⟨y4, h4⟩ := hvs 4 _ _ rfl rfl
      obtain ⟨x4, e4, _, _⟩ := DataW.trod_int Try.underlying3 h4
      obtain ⟨y5, h5⟩ := hvs 5 _ _ rfl rfl
      obtain ⟨A5, c5, x5, rfl, r5, m5⟩ := read_fixups h5
      simp only [List.cons.injEq, and_true] at e0 e1 e2 e4
      subst e0 e1 e2 e4
      exact ⟨⟨x0, x1, x2, x3, A3, c3, x4, x5, A5, c5⟩, rfl, ⟨r3, r5⟩, ⟨hw0, m3, m5⟩⟩) h
  exact ⟨A, c, xs, hv, ⟨hr, fun l hl => (hq l hl).1⟩, hm, fun l hl => (hq l hl).2⟩
set_option maxRecDepth 100000 in
theorem arg_Secs {v : Value} {d : DataW H} {p : List MemPlace} (hv : Value.okWide Try.prog W r b0 38 v) (h : DataW.Trod enc Try.prog W base (fun _ => true) hd 38 v d p) : ArgSecs W v := by
  obtain ⟨a, len, cap, rfl⟩ := okWide_slice Try.underlying38 hv
  obtain ⟨fuel, hf⟩ := h
  exact read_Secs (by simpa [Value.cells] using hf)
end
set_option maxRecDepth 100000 in
theorem Sec.small_map {xs ds : List Sec} (h : ds.map Sec.v = xs.map Sec.v) (hs : ∀ x ∈ xs, x.small) : ∀ d ∈ ds, d.small := fun d hd => by
  have h1 : d.v ∈ xs.map Sec.v := by rw [← h]; exact List.mem_map_of_mem hd
  obtain ⟨x, hx, e⟩ := List.mem_map.1 h1
  have hsx := hs x hx
  obtain ⟨e0, e1, e2, e3, e4, e5⟩ := Sec.v_eq e
  unfold Sec.small at hsx ⊢
  rw [← e0, ← e3, ← e5]
  exact hsx
end Go.Proofs.Ytdaamgonendkkaa
