/- The facts of the package's variables at the start of a law. No condition. -/
import Derived.Test.YthjjbgpeajeneaaDoorRows
import Derived.Test.YthjjbgpeajeneaaDoorBase
import Derived.Test.YthjjbgpeajeneaaDoorBase2
import Derived.Test.YthjjbgpeajeneaaDoorStx
import Derived.Test.YthjjbgpeajeneaaDoorStf
import Derived.Test.YthjjbgpeajeneaaDoorStI
import Derived.Test.YthjjbgpeajeneaaDoorLibR
import Derived.WalkKit
import Derived.WalkSpells
import Derived.WalkLawsBesides
import Derived.Handy
import Derived.BigQuiet
import Derived.Deep.RegionHeld3
import Derived.Deep.DrawnRows
import Derived.Deep.QuietTactic
import Derived.Shelf.Vars
import Derived.LaidLaws
import Derived.Lib.LaidU8
import Derived.Stop.LaidErr
import Derived.ProofKit
import Derived.MakeChecks
namespace Go.Proofs.YthjjbgpeajeneaaDoor
open Go Go.RowKit

open Go.ChangeShapes Go.WideShapes Go.ChangeAt
theorem ifaceW {W : World} {n nm : String} {D : DataW Unit} {g : Nat} {t : TypeId} {ms : Array (String × TypeId)} (hg : Tryd.prog.globalNamed n = some g) (ht : (Tryd.prog.globals[g]?).map (·.type) = some t) (hu : Tryd.prog.underlying t = some (.interface ms))
    (h : Lib.VarReads Tryd.prog W n (.iface nm D)) : ∃ te pe, W.cell? ⟨g, 0, none⟩ = some (.iface te pe) := by
  obtain ⟨g', t', cs, fuel, p, hg', ht', hv, hd⟩ := h
  obtain rfl := Option.some.inj (hg.symm.trans hg')
  obtain rfl := Option.some.inj (ht.symm.trans ht')
  have hc := World.var?_cell hg' hv 0
  obtain ⟨f1, u, v, hcs, _, _⟩ := iface_of_trod hu hd
  refine ⟨u, v, ?_⟩
  rw [hc]
  obtain ⟨l⟩ := cs
  simp only at hcs
  subst hcs
  rfl
theorem libW_of3 {W : World} (hsh : W.ShapedOpen Tryd.prog) (h1 : Lib.VarReads Tryd.prog W "strconv.ErrSyntax" Rows.laid_strconv_ErrSyntax) (h2 : Lib.VarReads Tryd.prog W "strconv.ErrRange" Rows.laid_strconv_ErrRange) : LibW W := by
  refine ⟨?_, ?_, ?_⟩
  · exact Go.Proofs.cell_of_shapedOpen_int (t := 3) (zero := #[.int .i64 0]) hsh (of_decide_eq_true (by kernel_rfl)) (by kernel_rfl) rfl (by kernel_rfl) (by kernel_rfl) Tryd.underlying3
  · exact ifaceW (by kernel_rfl) (by kernel_rfl) Tryd.underlying58 h1
  · exact ifaceW (by kernel_rfl) (by kernel_rfl) Tryd.underlying58 h2
theorem var_below {W W' : World} {n : String} {cs : Array Value} (h : W.var? Tryd.prog n = some cs) (b : Below W.heap.size W W') : W'.var? Tryd.prog n = some cs := by
  unfold World.var? at h ⊢
  cases hg : Tryd.prog.globalNamed n with
  | none => simp [hg] at h
  | some g =>
    simp only [hg, Option.bind_some] at h ⊢
    have hlt : g < W.heap.size := by
      rcases Nat.lt_or_ge g W.heap.size with h1 | h1
      · exact h1
      · rw [Array.getElem?_eq_none h1] at h
        cases h
    rw [b.block g hlt]
    exact h
theorem kwOk_of {W : World} (h : Lib.VarReads Tryd.prog W "loop.example/objectlinker/impl.kindWords" Rows.laid_loop_example_objectlinker_impl_kindWords) : KwOk W := by
  obtain ⟨g, t, cs, fuel, p, hg, ht, hv, hd⟩ := h
  obtain rfl := Option.some.inj ((show Tryd.prog.globalNamed "loop.example/objectlinker/impl.kindWords" = some 0 by kernel_rfl).symm.trans hg)
  obtain rfl := Option.some.inj ((show (Tryd.prog.globals[0]?).map (·.type) = some 45 by kernel_rfl).symm.trans ht)
  obtain ⟨xs, m, _, ex, _, hl, hel⟩ := DataW.trod_array Tryd.underlying45 hd
  have c1 : Tryd.prog.cellsOf 9 = 1 := by kernel_rfl
  have e3 : (xs.map (·.1)) = [.lit (.string [99, 111, 100, 101]), .lit (.string [100, 97, 116, 97]), .lit (.string [98, 108, 97, 110, 107])] := (DataW.agg.inj (Prod.mk.inj ex).1).symm
  have cell : ∀ (r : Nat) (l : List UInt8), r < 3 → (xs.map (·.1))[r]? = some (.lit (.string l)) → W.cell? ⟨0, r, none⟩ = some (.string ⟨l.toArray⟩) := fun r l hr hx => by
    have hE := hel r hr
    rw [c1, Nat.mul_one, List.getElem?_eq_getElem (by omega)] at hE
    obtain ⟨z, e1, e2, _⟩ := DataW.trod_string Tryd.underlying9 hE
    rw [List.getElem?_map, List.getElem?_eq_getElem (by omega : r < xs.length), e2] at hx
    have hz : z.data.toList = l := by
      simpa using hx
    have hz2 : z = ⟨l.toArray⟩ := bytes_eq (by simpa using hz)
    rw [World.var?_cell hg hv r, ← hz2]
    have : cs.toList[r]? = some (.string z) := by
      have h0 : ((cs.toList.drop r).take 1)[0]? = some (.string z) := by rw [e1]; rfl
      simpa using h0
    simpa using this
  intro k h1 h3
  rcases (by omega : k = 1 ∨ k = 2 ∨ k = 3) with rfl | rfl | rfl
  · exact cell 0 _ (by omega) (by rw [e3]; rfl)
  · exact cell 1 _ (by omega) (by rw [e3]; rfl)
  · exact cell 2 _ (by omega) (by rw [e3]; rfl)
end Go.Proofs.YthjjbgpeajeneaaDoor
