/- Plain words beside the drawing of an object for a law. No condition. -/
import Derived.Test.YtmmenedjmdcbcaaRows
import Derived.Test.YtmmenedjmdcbcaaBase
import Derived.Test.YtmmenedjmdcbcaaBase2
import Derived.Test.YtmmenedjmdcbcaaBase3
import Derived.Test.YtmmenedjmdcbcaaOnly
import Derived.Test.YtmmenedjmdcbcaaIn
import Derived.Test.YtmmenedjmdcbcaaName
import Derived.Test.YtmmenedjmdcbcaaEqB
import Derived.Test.YtmmenedjmdcbcaaFix
import Derived.Test.YtmmenedjmdcbcaaSec
import Derived.Test.YtmmenedjmdcbcaaObjS
import Derived.Test.YtmmenedjmdcbcaaSym
import Derived.Test.YtmmenedjmdcbcaaObj
import Derived.Test.YtmmenedjmdcbcaaMarkT
import Derived.Test.YtmmenedjmdcbcaaPick
import Derived.Test.YtmmenedjmdcbcaaPick2
import Derived.Test.YtmmenedjmdcbcaaReg
import Derived.Test.YtmmenedjmdcbcaaRegS
import Derived.Test.YtmmenedjmdcbcaaDrawN
import Derived.Test.YtmmenedjmdcbcaaRegK
import Derived.Test.YtmmenedjmdcbcaaKT
import Derived.Test.YtmmenedjmdcbcaaDby
import Derived.Test.YtmmenedjmdcbcaaDsec
import Derived.Test.YtmmenedjmdcbcaaDsym
import Derived.Test.YtmmenedjmdcbcaaDobj
import Derived.WalkKit
import Derived.WalkSpells
import Derived.WalkLawsBesides
import Derived.Handy
import Derived.BigQuiet
import Derived.Deep.RegionHeld3
import Derived.Deep.DrawnRows
import Derived.Deep.QuietTactic
namespace Go.Proofs.Ytmmenedjmdcbcaa
open Go Go.RowKit

/-- While a law's object is drawn: the result's place, the object's place, its rows, the reader. -/
structure DrawMem (W : World) (r q H g2 g5 : Nat) (zc oc : List Value) (x : Obj) (wq : World) : Prop where
  z2 : Blk wq g2 26 zc.toArray
  b5 : Blk wq g5 26 oc.toArray
  rows : ObjRows H x wq
  rd : Rdr wq r q
  be : Below W.heap.size W wq
  hg2 : W.heap.size ≤ g2
  h2r : g2 < r
  hrH : r < H
  hH5 : H ≤ g5
section
variable {W wq w' : World} {r q H g2 g5 : Nat} {zc oc : List Value} {x : Obj}
theorem DrawMem.size (h : DrawMem W r q H g2 g5 zc oc x wq) : W.heap.size ≤ wq.heap.size ∧ g5 < wq.heap.size ∧ r < wq.heap.size := ⟨h.be.size, h.b5.lt, by have := h.b5.lt; have := h.hrH; have := h.hH5; omega⟩
theorem DrawMem.alloc (h : DrawMem W r q H g2 g5 zc oc x wq) (o : Go.Obj) : DrawMem W r q H g2 g5 zc oc x (wq.alloc o) :=
  ⟨h.z2.alloc _, h.b5.alloc _, h.rows.keep (.of_alloc _ _ _), h.rd.alloc _, h.be.alloc h.be.size _, h.hg2, h.h2r, h.hrH, h.hH5⟩
theorem DrawMem.drewN (h : DrawMem W r q H g2 g5 zc oc x wq) (n : Nat) : DrawMem W r q H g2 g5 zc oc x (wq.drewN n) :=
  ⟨h.z2.drewN n, h.b5.drewN n, ⟨h.rows.os, h.rows.oy, h.rows.ow⟩, h.rd, below_drewN h.be n, h.hg2, h.h2r, h.hrH, h.hH5⟩
theorem DrawMem.moreq {q' : Nat} (h : DrawMem W r q H g2 g5 zc oc x wq) (hq : q ≤ q') : DrawMem W r q' H g2 g5 zc oc x wq := ⟨h.z2, h.b5, h.rows, h.rd.more hq, h.be, h.hg2, h.h2r, h.hrH, h.hH5⟩
theorem DrawMem.pick {q' : Nat} (h : DrawMem W r q H g2 g5 zc oc x wq) (hr' : Rdr w' r q') (hg : wq.grownBy w' (some r)) : DrawMem W r q' H g2 g5 zc oc x w' :=
  ⟨h.z2.grown hg (by have := h.h2r; simp; omega), h.b5.grown hg (by have := h.hrH; have := h.hH5; simp; omega), h.rows.keep (.of_pick h.rd hg TO_r), hr', below_gr h.be hg (by have := h.hg2; have := h.h2r; omega), h.hg2, h.h2r, h.hrH, h.hH5⟩
/-- The result is stored. -/
structure DrawFin (W : World) (H g2 g5 : Nat) (zc oc : List Value) (x : Obj) (wq : World) : Prop where
  z2 : Blk wq g2 26 zc.toArray
  b5 : Blk wq g5 26 oc.toArray
  rows : ObjRows H x wq
  be : Below W.heap.size W wq
  hg2 : W.heap.size ≤ g2
  h25 : g2 < g5
theorem DrawMem.fin (h : DrawMem W r q H g2 g5 zc oc x wq) : DrawFin W H g2 g5 zc oc x wq := ⟨h.z2, h.b5, h.rows, h.be, h.hg2, by have := h.h2r; have := h.hrH; have := h.hH5; omega⟩
theorem DrawFin.put (h : DrawFin W H g2 g5 zc oc x wq) (i : Nat) (u : Value) : DrawFin W H g2 g5 (zc.set i u) oc x (wq.setCell ⟨g2, i, none⟩ u) :=
  ⟨by have := h.z2.set_ i u; simpa using this, h.b5.far (by have := h.h25; simp only [ne_eq]; omega) _, h.rows.keep (.of_set h.z2 TO_o i u), h.be.setCell h.hg2 _, h.hg2, h.h25⟩
end
end Go.Proofs.Ytmmenedjmdcbcaa
