/- Contracts of the drawings of the laws of twins. Condition: the sizes. -/
import Derived.Test.YtmmenedjmdcbcaaRows
import Derived.Test.YtmmenedjmdcbcaaBase
import Derived.Test.YtmmenedjmdcbcaaBase2
import Derived.Test.YtmmenedjmdcbcaaBase3
import Derived.Test.YtmmenedjmdcbcaaOnly
import Derived.Test.YtmmenedjmdcbcaaIn
import Derived.Test.YtmmenedjmdcbcaaName
import Derived.Test.YtmmenedjmdcbcaaEqB
import Derived.Test.YtmmenedjmdcbcaaFix
import Derived.Test.YtmmenedjmdcbcaaSec
import Derived.Test.YtmmenedjmdcbcaaObjS
import Derived.Test.YtmmenedjmdcbcaaSym
import Derived.Test.YtmmenedjmdcbcaaObj
import Derived.Test.YtmmenedjmdcbcaaMarkT
import Derived.Test.YtmmenedjmdcbcaaPick
import Derived.Test.YtmmenedjmdcbcaaPick2
import Derived.Test.YtmmenedjmdcbcaaReg
import Derived.Test.YtmmenedjmdcbcaaRegS
import Derived.Test.YtmmenedjmdcbcaaDrawN
import Derived.Test.YtmmenedjmdcbcaaRegK
import Derived.Test.YtmmenedjmdcbcaaKT
import Derived.Test.YtmmenedjmdcbcaaDby
import Derived.Test.YtmmenedjmdcbcaaDsec
import Derived.Test.YtmmenedjmdcbcaaDsym
import Derived.Test.YtmmenedjmdcbcaaOpenC
import Derived.Test.YtmmenedjmdcbcaaDobj
import Derived.Test.YtmmenedjmdcbcaaDme
import Derived.Test.YtmmenedjmdcbcaaDtw
import Derived.WalkKit
import Derived.WalkSpells
import Derived.WalkLawsBesides
import Derived.Handy
import Derived.BigQuiet
import Derived.Deep.RegionHeld3
import Derived.Deep.DrawnRows
import Derived.Deep.QuietTactic
import Derived.Deep.CutBlock
namespace Go.Proofs.Ytmmenedjmdcbcaa
open Go Go.RowKit

/-- An object was drawn for a law. -/
def DrewTO (w : World) (e : Ending) (w' : World) : Prop := ∃ x : Obj, e = .returned x.val ∧ x.At w' w'.heap.size ∧ ObjFitT x ∧ x.syms.length ≤ x.yc ∧ Below w.heap.size w w'
set_option maxRecDepth 100000 in
set_option maxHeartbeats 8000000 in
theorem DrawTwinsOf_any {A : Option Addr} {c : Nat} (cs : List Int) (w : World) (h1 : Reads w w.heap.size 1 A cs.length (nums .u8 cs)) (hx : ∀ x ∈ cs, 0 ≤ x ∧ x ≤ 255) (hm : cs.length ≤ 1048576) (hc : cs.length ≤ c) (hc2 : c ≤ maxLen) :
    Calls Try.prog 17 #[.slice A cs.length c] w (DrewTO w) := by
  have h1' : Reads (w.alloc (.cells #[.slice none 0 0, .slice none 0 0] 26)) (w.alloc (.cells #[.slice none 0 0, .slice none 0 0] 26)).heap.size 1 A cs.length (nums .u8 cs) := (h1.alloc (Nat.le_refl _) _).more (by simp)
  have HO := Lib.hid (open_any (A := A) (c := c) cs (w.alloc (.cells #[.slice none 0 0, .slice none 0 0] 26)) h1' hx hm hc hc2)
  clear h1 hx h1'
  go_enter Try.func17, Try.ntmps17
  go_wp2_with fail
  refine HO.out.mono ?_
  rintro e w1 ⟨rfl, hr, hz, hb⟩
  rw [World.size_alloc] at hr hz hb ⊢
  have HZ2 : Hid (Blk w1 w.heap.size 26 zObj.oc.toArray) := (Blk.new w 26 zObj.oc.toArray).below hb (by simp)
  have HBE : Hid (Below w.heap.size w w1) := ((Below.refl _ _).alloc (Nat.le_refl _) _).trans (hb.mono (by simp))
  have HR := Lib.hid hr
  obtain ⟨r, hrr⟩ : ∃ r, r = w.heap.size + 1 := ⟨_, rfl⟩
  rw [← hrr] at HR ⊢
  have h2r : w.heap.size < r := by omega
  have hrH : r < w1.heap.size := by omega
  clear hr hz hb hrr HO
  go_wp2_with fail
  refine (l20Twins_any r 0 _ HR.out (by omega)).mono ?_
  rintro e w2 ⟨x, rfl, hrows, hft, hr2, hg2⟩
  have HFT := Lib.hid hft
  obtain ⟨g2, hgg⟩ : ∃ g2, g2 = w.heap.size := ⟨_, rfl⟩
  have z2 : Blk w2 w.heap.size 26 zObj.oc.toArray := HZ2.out.grown hg2 (by simp; omega)
  have be2 := below_gr HBE.out hg2 (by omega)
  rw [← hgg] at z2 ⊢
  have hgw : w.heap.size ≤ g2 := by omega
  clear hgg
  have c0 : w2.cell? ⟨g2, 0, none⟩ = some (.slice none 0 0) := z2.cell 0
  have c1 : w2.cell? ⟨g2, 1, none⟩ = some (.slice none 0 0) := z2.cell 1
  have f0 : w2.frozen? ⟨g2, 0, none⟩ = false := z2.frozen 0
  have f1 : w2.frozen? ⟨g2, 1, none⟩ = false := z2.frozen 1
  have q0 := z2.set_ 0 (.slice x.sA x.secs.length x.sc)
  have q1 := q0.set_ 1 (.slice x.yA x.syms.length x.yc)
  have HQ := Lib.hid q1
  have HRW := Lib.hid ((hrows.keep (.of_set z2 TO_o 0 (.slice x.sA x.secs.length x.sc))).keep (.of_set q0 TO_o 1 (.slice x.yA x.syms.length x.yc)))
  have HBF := Lib.hid ((be2.setCell (p := ⟨g2, 0, none⟩) hgw (.slice x.sA x.secs.length x.sc)).setCell (p := ⟨g2, 1, none⟩) hgw (.slice x.yA x.syms.length x.yc))
  clear z2 be2 q0 q1 hrows hft hr2 hg2 HR HZ2 HBE
  simp only [Obj.val]
  go_wp2
  generalize World.setCell _ ⟨g2, 1, none⟩ _ = WF at HQ HRW HBF ⊢
  have y0 : WF.cell? ⟨g2, 0, none⟩ = some (.slice x.sA x.secs.length x.sc) := HQ.out.cell 0
  have y1 : WF.cell? ⟨g2, 1, none⟩ = some (.slice x.yA x.syms.length x.yc) := HQ.out.cell 1
  refine bodyPost_ret (v := x.val) (by simp [results, Try.results17, go_sem, y0, y1, Obj.val]) rfl ?_
  exact ⟨x, rfl, HRW.out.at_, HFT.out, own_capO HRW.out.oy, HBF.out⟩
set_option maxRecDepth 100000 in
set_option maxHeartbeats 8000000 in
theorem DrawTwinBytes_any {A : Option Addr} {c : Nat} (cs : List Int) (w : World) (h1 : Reads w w.heap.size 1 A cs.length (nums .u8 cs)) (hx : ∀ x ∈ cs, 0 ≤ x ∧ x ≤ 255) (hm : cs.length ≤ 1048576) (hc : cs.length ≤ c) (hc2 : c ≤ maxLen) :
    Calls Try.prog 25 #[.slice A cs.length c] w (DrewTO w) := by
  have h1' : Reads (w.alloc (.cells #[.slice none 0 0, .slice none 0 0] 26)) (w.alloc (.cells #[.slice none 0 0, .slice none 0 0] 26)).heap.size 1 A cs.length (nums .u8 cs) := (h1.alloc (Nat.le_refl _) _).more (by simp)
  have HO := Lib.hid (open_any (A := A) (c := c) cs (w.alloc (.cells #[.slice none 0 0, .slice none 0 0] 26)) h1' hx hm hc hc2)
  clear h1 hx h1'
  go_enter Try.func25, Try.ntmps25
  go_wp2_with fail
  refine HO.out.mono ?_
  rintro e w1 ⟨rfl, hr, hz, hb⟩
  rw [World.size_alloc] at hr hz hb ⊢
  have HZ2 : Hid (Blk w1 w.heap.size 26 zObj.oc.toArray) := (Blk.new w 26 zObj.oc.toArray).below hb (by simp)
  have HBE : Hid (Below w.heap.size w w1) := ((Below.refl _ _).alloc (Nat.le_refl _) _).trans (hb.mono (by simp))
  have HR := Lib.hid hr
  obtain ⟨r, hrr⟩ : ∃ r, r = w.heap.size + 1 := ⟨_, rfl⟩
  rw [← hrr] at HR ⊢
  have h2r : w.heap.size < r := by omega
  have hrH : r < w1.heap.size := by omega
  clear hr hz hb hrr HO
  go_wp2_with fail
  refine (l20Twins_any r 0 _ HR.out (by omega)).mono ?_
  rintro e w2 ⟨x, rfl, hrows, hft, hr2, hg2⟩
  have HFT := Lib.hid hft
  obtain ⟨g2, hgg⟩ : ∃ g2, g2 = w.heap.size := ⟨_, rfl⟩
  have z2 : Blk w2 w.heap.size 26 zObj.oc.toArray := HZ2.out.grown hg2 (by simp; omega)
  have be2 := below_gr HBE.out hg2 (by omega)
  rw [← hgg] at z2 ⊢
  have hgw : w.heap.size ≤ g2 := by omega
  clear hgg
  have c0 : w2.cell? ⟨g2, 0, none⟩ = some (.slice none 0 0) := z2.cell 0
  have c1 : w2.cell? ⟨g2, 1, none⟩ = some (.slice none 0 0) := z2.cell 1
  have f0 : w2.frozen? ⟨g2, 0, none⟩ = false := z2.frozen 0
  have f1 : w2.frozen? ⟨g2, 1, none⟩ = false := z2.frozen 1
  have q0 := z2.set_ 0 (.slice x.sA x.secs.length x.sc)
  have q1 := q0.set_ 1 (.slice x.yA x.syms.length x.yc)
  have HQ := Lib.hid q1
  have HRW := Lib.hid ((hrows.keep (.of_set z2 TO_o 0 (.slice x.sA x.secs.length x.sc))).keep (.of_set q0 TO_o 1 (.slice x.yA x.syms.length x.yc)))
  have HBF := Lib.hid ((be2.setCell (p := ⟨g2, 0, none⟩) hgw (.slice x.sA x.secs.length x.sc)).setCell (p := ⟨g2, 1, none⟩) hgw (.slice x.yA x.syms.length x.yc))
  clear z2 be2 q0 q1 hrows hft hr2 hg2 HR HZ2 HBE
  simp only [Obj.val]
  go_wp2
  generalize World.setCell _ ⟨g2, 1, none⟩ _ = WF at HQ HRW HBF ⊢
  have y0 : WF.cell? ⟨g2, 0, none⟩ = some (.slice x.sA x.secs.length x.sc) := HQ.out.cell 0
  have y1 : WF.cell? ⟨g2, 1, none⟩ = some (.slice x.yA x.syms.length x.yc) := HQ.out.cell 1
  refine bodyPost_ret (v := x.val) (by simp [results, Try.results25, go_sem, y0, y1, Obj.val]) rfl ?_
  exact ⟨x, rfl, HRW.out.at_, HFT.out, own_capO HRW.out.oy, HBF.out⟩
end Go.Proofs.Ytmmenedjmdcbcaa
