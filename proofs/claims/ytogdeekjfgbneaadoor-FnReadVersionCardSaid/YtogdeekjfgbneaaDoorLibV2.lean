/- The facts of the library's variables at the start of a law. No condition. -/
import Derived.Test.YtogdeekjfgbneaaDoorRows
import Derived.Test.YtogdeekjfgbneaaDoorBase
import Derived.Test.YtogdeekjfgbneaaDoorLibR
import Derived.WalkKit
import Derived.WalkSpells
import Derived.WalkLawsBesides
import Derived.Handy
import Derived.BigQuiet
import Derived.Deep.RegionHeld3
import Derived.Deep.DrawnRows
import Derived.Deep.QuietTactic
import Derived.Shelf.Vars
import Derived.LaidLaws
import Derived.Lib.LaidU8
import Derived.Stop.LaidErr
import Derived.ProofKit
import Derived.MakeChecks
namespace Go.Proofs.YtogdeekjfgbneaaDoor
open Go Go.RowKit

open Go.ChangeShapes Go.WideShapes Go.ChangeAt
theorem ifaceW {W : World} {n nm : String} {D : DataW Unit} {g : Nat} {t : TypeId} {ms : Array (String × TypeId)} (hg : Tryd.prog.globalNamed n = some g) (ht : (Tryd.prog.globals[g]?).map (·.type) = some t) (hu : Tryd.prog.underlying t = some (.interface ms))
    (h : Lib.VarReads Tryd.prog W n (.iface nm D)) : ∃ te pe, W.cell? ⟨g, 0, none⟩ = some (.iface te pe) := by
  obtain ⟨g', t', cs, fuel, p, hg', ht', hv, hd⟩ := h
  obtain rfl := Option.some.inj (hg.symm.trans hg')
  obtain rfl := Option.some.inj (ht.symm.trans ht')
  have hc := World.var?_cell hg' hv 0
  obtain ⟨f1, u, v, hcs, _, _⟩ := iface_of_trod hu hd
  refine ⟨u, v, ?_⟩
  rw [hc]
  obtain ⟨l⟩ := cs
  simp only at hcs
  subst hcs
  rfl
theorem libW_of {W : World} (hsh : W.ShapedOpen Tryd.prog) (hL : laidMetH Tryd.prog Rows.fnReadVersionRow.laid W) : LibW W := by
  have hL2 : laidMet Tryd.prog Rows.fnReadVersionRow.laid W := by
    have h := hL
    rw [MakeChecks.laidMetH_plain _ _ _ (by kernel_rfl)] at h
    exact h
  refine ⟨?_, ?_, ?_⟩
  · exact Go.Proofs.cell_of_shapedOpen_int (t := 3) (zero := #[.int .i64 0]) hsh (of_decide_eq_true (by kernel_rfl)) (by kernel_rfl) rfl (by kernel_rfl) (by kernel_rfl) Tryd.underlying3
  · exact ifaceW (n := "strconv.ErrSyntax") (by kernel_rfl) (by kernel_rfl) Tryd.underlying48 (Lib.laidMet.reads hL2 (d := Rows.laid_strconv_ErrSyntax) (by simp [Rows.fnReadVersionRow]))
  · exact ifaceW (n := "strconv.ErrRange") (by kernel_rfl) (by kernel_rfl) Tryd.underlying48 (Lib.laidMet.reads hL2 (d := Rows.laid_strconv_ErrRange) (by simp [Rows.fnReadVersionRow]))
end Go.Proofs.YtogdeekjfgbneaaDoor
