/- Objects that came in: their bytes are bytes. -/
import Derived.Test.YtmmenedjmdcbcaaRows
import Derived.Test.YtmmenedjmdcbcaaBase
import Derived.Test.YtmmenedjmdcbcaaBase2
import Derived.Test.YtmmenedjmdcbcaaOpen
import Derived.Test.YtmmenedjmdcbcaaOpen2
import Derived.Test.YtmmenedjmdcbcaaOnly
import Derived.Test.YtmmenedjmdcbcaaByteS
import Derived.Test.YtmmenedjmdcbcaaBulk
import Derived.Test.YtmmenedjmdcbcaaFix
import Derived.Test.YtmmenedjmdcbcaaSzF
import Derived.Test.YtmmenedjmdcbcaaSec
import Derived.Test.YtmmenedjmdcbcaaSecM
import Derived.Test.YtmmenedjmdcbcaaSecO
import Derived.Test.YtmmenedjmdcbcaaSym
import Derived.Test.YtmmenedjmdcbcaaObj
import Derived.Test.YtmmenedjmdcbcaaObjM
import Derived.Test.YtmmenedjmdcbcaaEqB
import Derived.WalkKit
import Derived.WalkSpells
import Derived.WalkLawsBesides
import Derived.Handy
import Derived.BigQuiet
import Derived.Deep.RegionHeld3
import Derived.Deep.DrawnRows
import Derived.Deep.QuietTactic
namespace Go.Proofs.Ytmmenedjmdcbcaa
open Go Go.RowKit

open Go.ChangeShapes Go.WideShapes Go.ChangeAt Go.Deep
def ArgObjB (W : World) (v : Value) : Prop := ∃ x : Obj, v = x.val ∧ x.At W W.heap.size ∧ x.big ∧ ∀ s ∈ x.secs, isB s.bytes
theorem secsB_v {ls ms : List Sec} (h : ls.map Sec.v = ms.map Sec.v) (hm : ∀ s ∈ ms, isB s.bytes) : ∀ s ∈ ls, isB s.bytes := fun s hs => by
  have h1 : s.v ∈ ms.map Sec.v := by rw [← h]; exact List.mem_map_of_mem hs
  obtain ⟨x, hx, e⟩ := List.mem_map.1 h1
  have := (Sec.v_eq e).2.2.2.1
  rw [← this]
  exact hm x hx
theorem Obj.bytes_v {x y : Obj} (h : y.v = x.v) (hm : ∀ s ∈ x.secs, isB s.bytes) : ∀ s ∈ y.secs, isB s.bytes := secsB_v (Obj.v_eq h).1 hm
section
variable {H : Type} {enc : TypeId × Value → H} {W : World} {base : Nat} {b0 : Nat} {r : Reach} {hd : Bool}
set_option maxRecDepth 100000 in
theorem read_SecsB {fuel : Nat} {v : Value} {x : DataW H × List MemPlace} (h : DataW.trod enc Try.prog W base (fun _ => true) hd fuel 33 [v] = some x) : ∃ (A : Option Addr) (c : Nat) (xs : List Sec), v = .slice A xs.length c ∧ SecAt W W.heap.size A xs ∧ xs.length ≤ maxLen ∧ (∀ x ∈ xs, x.big) ∧ ∀ x ∈ xs, isB x.bytes := by
  obtain ⟨A, c, xs, hv, hr, hm, hq⟩ := read_rows (T := Sec) Sec.cells (m := 6) Sec.cells_len (fun x => x.In W W.heap.size ∧ x.big ∧ isB x.bytes) Try.underlying33 Try.underlying89 (by kernel_rfl) (by kernel_rfl) rfl (by omega) (fun vs hl n hvs => by
    match vs, hl, hvs with
    | [v0, v1, v2, v3, v4, v5], _, hvs =>
      obtain ⟨y0, h0⟩ := hvs 0 _ _ rfl rfl
      obtain ⟨x0, e0, _, hw0⟩ := DataW.trod_string Try.underlying9 h0
      obtain ⟨y1, h1⟩ := hvs 1 _ _ rfl rfl
      obtain ⟨x1, e1, _, _⟩ := DataW.trod_int Try.underlying3 h1
      obtain ⟨y2, h2⟩ := hvs 2 _ _ rfl rfl
      obtain ⟨x2, e2, _, _⟩ := DataW.trod_int Try.underlying3 h2
      obtain ⟨y3, h3⟩ := hvs 3 _ _ rfl rfl
      obtain ⟨A3, c3, x3, rfl, r3, m3, t3⟩ := read_nums Try.underlying22 Try.underlying5 (by kernel_rfl) h3
      obtain ⟨y4, h4⟩ := hvs 4 _ _ rfl rfl
      obtain ⟨x4, e4, _, _⟩ := DataW.trod_int Try.underlying3 h4
      obtain ⟨y5, h5⟩ := hvs 5 _ _ rfl rfl
      obtain ⟨A5, c5, x5, rfl, r5, m5⟩ := read_fixups h5
      simp only [List.cons.injEq, and_true] at e0 e1 e2 e4
      subst e0 e1 e2 e4
      exact ⟨⟨x0, x1, x2, x3, A3, c3, x4, x5, A5, c5⟩, rfl, ⟨r3, r5⟩, ⟨hw0, m3, m5⟩, fun y hy => wf_u8_bd (t3 y hy)⟩) h
  exact ⟨A, c, xs, hv, ⟨hr, fun l hl => (hq l hl).1⟩, hm, fun l hl => (hq l hl).2.1, fun l hl => (hq l hl).2.2⟩
set_option maxRecDepth 100000 in
theorem arg_objB {v : Value} {d : DataW H} {p : List MemPlace} (hv : Value.okWide Try.prog W r b0 36 v) (h : DataW.Trod enc Try.prog W base (fun _ => true) hd 36 v d p) : ArgObjB W v := by
  obtain ⟨v0, v1, y0, y1, m, rfl, rfl, rfl, hy0, hy1⟩ := Joins.open_agg2 Try.underlying36 (by kernel_rfl) (by kernel_rfl) hv h
  obtain ⟨A, c, xs, rfl, hr, hm, hq, hi⟩ := read_SecsB hy0
  obtain ⟨A', c', ys, rfl, hr', hm', hq'⟩ := read_syms hy1
  exact ⟨⟨xs, A, c, ys, A', c'⟩, rfl, ⟨hr, hr'⟩, ⟨hm, hq, hm', hq'⟩, hi⟩
end
end Go.Proofs.Ytmmenedjmdcbcaa
