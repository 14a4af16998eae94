/- Libraries that came in, opened. No condition. -/
import Derived.Test.YtbhndkdijbappaaRows
import Derived.Test.YtbhndkdijbappaaBase
import Derived.Test.YtbhndkdijbappaaBase2
import Derived.Test.YtbhndkdijbappaaOpen
import Derived.Test.YtbhndkdijbappaaOpen2
import Derived.Test.YtbhndkdijbappaaOnly
import Derived.Test.YtbhndkdijbappaaStrS
import Derived.Test.YtbhndkdijbappaaBulk
import Derived.Test.YtbhndkdijbappaaSzStr
import Derived.Test.YtbhndkdijbappaaLb
import Derived.Test.YtbhndkdijbappaaLbM
import Derived.WalkKit
import Derived.WalkSpells
import Derived.WalkLawsBesides
import Derived.Handy
import Derived.BigQuiet
import Derived.Deep.RegionHeld3
import Derived.Deep.DrawnRows
import Derived.Deep.QuietTactic
namespace Go.Proofs.Ytbhndkdijbappaa
open Go Go.RowKit

open Go.ChangeShapes Go.WideShapes Go.ChangeAt Go.Deep
/-- A slice of them that came in. -/
def ArgLbs (W : World) (v : Value) : Prop :=
  ∃ (A : Option Addr) (c : Nat) (xs : List Lb), v = .slice A xs.length c ∧ LbAt W W.heap.size A xs ∧ xs.length ≤ maxLen ∧ ∀ x ∈ xs, x.big
section
variable {H : Type} {enc : TypeId × Value → H} {W : World} {base : Nat} {b0 : Nat} {r : Reach} {hd : Bool}
theorem read_Lbs {fuel : Nat} {v : Value} {x : DataW H × List MemPlace} (h : DataW.trod enc Try.prog W base (fun _ => true) hd fuel 31 [v] = some x) : ArgLbs W v := by
  obtain ⟨A, c, xs, hv, hr, hm, hq⟩ := read_rows (T := Lb) Lb.cells (m := 3) Lb.cells_len (fun x => x.In W W.heap.size ∧ x.big) Try.underlying31 Try.underlying60 (by kernel_rfl) (by kernel_rfl) rfl (by omega) (fun vs hl n hvs => by
    match vs, hl, hvs with
    | [v0, v1, v2], _, hvs =>
      obtain ⟨y0, h0⟩ := hvs 0 _ _ rfl rfl
      obtain ⟨x0, e0, _, hw0⟩ := DataW.trod_string Try.underlying9 h0
      obtain ⟨y1, h1⟩ := hvs 1 _ _ rfl rfl
      obtain ⟨A1, c1, x1, rfl, r1, m1, t1⟩ := read_texts Try.underlying27 Try.underlying9 (by kernel_rfl) h1
      obtain ⟨y2, h2⟩ := hvs 2 _ _ rfl rfl
      obtain ⟨A2, c2, x2, rfl, r2, m2, t2⟩ := read_texts Try.underlying27 Try.underlying9 (by kernel_rfl) h2
      simp only [List.cons.injEq, and_true] at e0
      subst e0
      exact ⟨⟨x0, x1, A1, c1, x2, A2, c2⟩, rfl, ⟨r1, r2⟩, ⟨hw0, m1, t1, m2, t2⟩⟩) h
  exact ⟨A, c, xs, hv, ⟨hr, fun l hl => (hq l hl).1⟩, hm, fun l hl => (hq l hl).2⟩
theorem arg_Lbs {v : Value} {d : DataW H} {p : List MemPlace} (hv : Value.okWide Try.prog W r b0 31 v) (h : DataW.Trod enc Try.prog W base (fun _ => true) hd 31 v d p) : ArgLbs W v := by
  obtain ⟨a, len, cap, rfl⟩ := okWide_slice Try.underlying31 hv
  obtain ⟨fuel, hf⟩ := h
  exact read_Lbs (by simpa [Value.cells] using hf)
end
theorem Lb.small_map {xs ds : List Lb} (h : ds.map Lb.v = xs.map Lb.v) (hs : ∀ x ∈ xs, x.small) : ∀ d ∈ ds, d.small := fun d hd => by
  have h1 : d.v ∈ xs.map Lb.v := by rw [← h]; exact List.mem_map_of_mem hd
  obtain ⟨x, hx, e⟩ := List.mem_map.1 h1
  have hsx := hs x hx
  obtain ⟨e0, e1, e2⟩ := Lb.v_eq e
  unfold Lb.small at hsx ⊢
  rw [← e0, ← e1, ← e2]
  exact hsx
end Go.Proofs.Ytbhndkdijbappaa
