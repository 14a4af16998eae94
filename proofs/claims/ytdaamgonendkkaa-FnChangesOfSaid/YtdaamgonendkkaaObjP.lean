/- Valid objects of the same plain value. -/
import Derived.Test.YtdaamgonendkkaaRows
import Derived.Test.YtdaamgonendkkaaBase
import Derived.Test.YtdaamgonendkkaaBase2
import Derived.Test.YtdaamgonendkkaaIn
import Derived.Test.YtdaamgonendkkaaName
import Derived.Test.YtdaamgonendkkaaByteS
import Derived.Test.YtdaamgonendkkaaFix
import Derived.Test.YtdaamgonendkkaaSec
import Derived.Test.YtdaamgonendkkaaObjS
import Derived.Test.YtdaamgonendkkaaSecV
import Derived.Test.YtdaamgonendkkaaSym
import Derived.Test.YtdaamgonendkkaaSymV
import Derived.Test.YtdaamgonendkkaaFindSym
import Derived.Test.YtdaamgonendkkaaObj
import Derived.Test.YtdaamgonendkkaaGlob
import Derived.WalkKit
import Derived.WalkSpells
import Derived.WalkLawsBesides
import Derived.Handy
import Derived.BigQuiet
import Derived.Deep.RegionHeld3
import Derived.Deep.DrawnRows
import Derived.Deep.QuietTactic
namespace Go.Proofs.Ytdaamgonendkkaa
open Go Go.RowKit

theorem secs_at {ls ms : List Sec} (h : ls.map Sec.v = ms.map Sec.v) {j : Nat} (h1 : j < ls.length) (h2 : j < ms.length) : ls[j].v = ms[j].v := by
  have := congrArg (fun l => l[j]?) h
  simpa [h1, h2] using this
theorem secs_len {ls ms : List Sec} (h : ls.map Sec.v = ms.map Sec.v) : ls.length = ms.length := by have := congrArg List.length h; simpa using this
def sizeV (v : ByteArray × Int × Int × List Int × Int × List Fix) : Int := if v.2.1 = 3 then v.2.2.2.2.1 else v.2.2.2.1.length
theorem sizes_v (ls : List Sec) : ls.map secSize = (ls.map Sec.v).map sizeV := by rw [List.map_map]; rfl
theorem symOk_v {ls ms : List Sec} (h : ls.map Sec.v = ms.map Sec.v) (y : Sym) : symOk y ls = symOk y ms := by
  unfold symOk symWell inside sizeAt
  rw [sizes_v, sizes_v, h, secs_len h]
theorem objGood_v {ls ms : List Sec} (h : ls.map Sec.v = ms.map Sec.v) (ys : List Sym) (g : ObjGood ls ys) : ObjGood ms ys := by
  obtain ⟨g1, g2, g3, g4⟩ := g
  have hl := secs_len h
  refine ⟨by omega, g2, fun j hj => ?_, fun j hj => ⟨by rw [← symOk_v h]; exact (g4 j hj).1, (g4 j hj).2⟩⟩
  obtain ⟨e0, e1, e2, e3, e4, e5⟩ := Sec.v_eq (secs_at h (by omega) hj)
  have := g3 j (by omega)
  rw [e0, e1, e2, e3, e4, e5] at this
  exact this
theorem objOk_v {ls ms : List Sec} (h : ls.map Sec.v = ms.map Sec.v) (ys : List Sym) : objOk ls ys = objOk ms ys := by
  by_cases g : ObjGood ls ys
  · rw [obj_yes g, obj_yes (objGood_v h ys g)]
  · rw [obj_no g, obj_no (fun q => g (objGood_v h.symm ys q))]
theorem Obj.ok_v {x y : Obj} (h : y.v = x.v) : objOk y.secs y.syms = objOk x.secs x.syms := by
  obtain ⟨h1, h2⟩ := Obj.v_eq h
  rw [h2]
  exact objOk_v h1 _
end Go.Proofs.Ytdaamgonendkkaa
