/- Contract of a step of a machine. Condition: the sizes. -/
import Derived.Test.YtbljkdhokbhcdaaRows
import Derived.Test.YtbljkdhokbhcdaaBase
import Derived.Test.YtbljkdhokbhcdaaBase2
import Derived.Test.YtbljkdhokbhcdaaBase3
import Derived.Test.YtbljkdhokbhcdaaOnly
import Derived.Test.YtbljkdhokbhcdaaIn
import Derived.Test.YtbljkdhokbhcdaaIn2
import Derived.Test.YtbljkdhokbhcdaaGet2IS
import Derived.Test.YtbljkdhokbhcdaaIntS
import Derived.Test.YtbljkdhokbhcdaaReg
import Derived.Test.YtbljkdhokbhcdaaRegS
import Derived.Test.YtbljkdhokbhcdaaPick2
import Derived.Test.YtbljkdhokbhcdaaKT
import Derived.Test.YtbljkdhokbhcdaaMc
import Derived.Test.YtbljkdhokbhcdaaMcy
import Derived.Test.YtbljkdhokbhcdaaCd
import Derived.Test.YtbljkdhokbhcdaaXm
import Derived.Test.YtbljkdhokbhcdaaDo
import Derived.WalkKit
import Derived.WalkSpells
import Derived.WalkLawsBesides
import Derived.Handy
import Derived.BigQuiet
import Derived.Deep.RegionHeld3
import Derived.Deep.DrawnRows
import Derived.Deep.QuietTactic
import Derived.Deep.CutBlock
namespace Go.Proofs.Ytbljkdhokbhcdaa
open Go Go.RowKit

/-- What a step hands back. -/
def Stepped (bs : List Int) (m : Mc) (w : World) (e : Ending) (w' : World) : Prop := ∃ z : Mc, e = .returned (.tuple #[z.val, .int .i64 (stepV bs m.v).2]) ∧ z.v = (stepV bs m.v).1 ∧ z.Own w' w.heap.size ∧ Below w.heap.size w w'
theorem Mc.Own.set3 {z : Mc} {w : World} {lo g : Nat} {cs : Array Value} (h : z.Own w lo) (hb : Blk w g 27 cs) (u0 u1 u2 : Value) : z.Own (((w.setCell ⟨g, 0, none⟩ u0).setCell ⟨g, 1, none⟩ u1).setCell ⟨g, 2, none⟩ u2) lo :=
  h.keep (((KeepT.of_set hb TI_m 0 u0).trans (KeepT.of_set (hb.set_ 0 u0) TI_m 1 u1)).trans (KeepT.of_set ((hb.set_ 0 u0).set_ 1 u1) TI_m 2 u2))
set_option maxRecDepth 100000 in
set_option maxHeartbeats 8000000 in
theorem implStep_any {A : Option Addr} {c B D : Nat} (m : Mc) (bs : List Int) (w : World) (h : m.At w B) (hB : B ≤ w.heap.size) (hs : m.small) (hr : Reads w D 1 A bs.length (nums .u8 bs)) (hD : D ≤ w.heap.size) (hbm : bs.length ≤ 1048576) (hbx : ∀ x ∈ bs, 0 ≤ x ∧ x ≤ 255) (hok : mOk m.pc m.st m.ca = true) :
    Calls Try.prog 27 #[m.val, .slice A bs.length c] w (Stepped bs m w) := by
  have HCP0 := Lib.hid (fun w' (hb : Below w.heap.size w w') => implCopy_any m w' ((h.more hB).below hb) hb.size hs)
  have HMV0 := Lib.hid (fun w' (hb : Below w.heap.size w w') => implMOk_any m w' ((h.more hB).below hb) hb.size hs)
  have HGC := Lib.hid (fun w' (hb : Below w.heap.size w w') => implGetCode_any (A := A) (c := c) bs m.pc w' ((hr.more hD).below hb) hb.size hbm hbx)
  have HGD := Lib.hid (fun (hq : 0 ≤ (codeAt bs m.pc).2.2) => codeAt_good (pc := m.pc) hbx hq)
  rw [hok] at HMV0
  have HOK := Lib.hid hok
  clear h hr hbx hok
  obtain ⟨pc, st, sA, sc, ca, cA, cc⟩ := m
  simp only [Mc.val] at *
  obtain ⟨hs1, hs2⟩ := hs
  simp only at hs1 hs2
  have HCP : Hid (∀ w' : World, Below w.heap.size w w' → Calls Try.prog 26 #[.agg #[.int .i64 pc, .slice sA st.length sc, .slice cA ca.length cc]] w' (fun e w'' => ∃ z : Mc, e = .returned (.agg #[.int .i64 z.pc, .slice z.sA z.st.length z.sc, .slice z.cA z.ca.length z.cc]) ∧ z.v = (pc, st, ca) ∧ z.Own w'' w'.heap.size ∧ Below w'.heap.size w' w'')) := HCP0.out
  have HMV := HMV0
  clear HCP0 HMV0
  obtain ⟨wA, hwA⟩ : ∃ wA, wA = (w.alloc (.cells #[.int .i64 pc, .slice sA st.length sc, .slice cA ca.length cc] 27)).alloc (.cells #[.int .i64 0, .slice none 0 0, .slice none 0 0] 27) := ⟨_, rfl⟩
  obtain ⟨g2, hg2⟩ : ∃ g2, g2 = w.heap.size := ⟨_, rfl⟩
  obtain ⟨g4, hg4⟩ : ∃ g4, g4 = w.heap.size + 1 := ⟨_, rfl⟩
  have HGA : Hid (Below w.heap.size w wA) := by rw [hwA]; exact ((Below.refl _ _).alloc (Nat.le_refl _) _).alloc (by simp) _
  have HA2 : Hid (Blk wA g2 27 #[.int .i64 pc, .slice sA st.length sc, .slice cA ca.length cc]) := by rw [hwA, hg2]; exact (Blk.new _ _ _).alloc _
  have HA4 : Hid (Blk wA g4 27 #[.int .i64 0, .slice none 0 0, .slice none 0 0]) := by
    rw [hwA, hg4]
    have h := Blk.new (w.alloc (.cells #[.int .i64 pc, .slice sA st.length sc, .slice cA ca.length cc] 27)) 27 #[.int .i64 0, .slice none 0 0, .slice none 0 0]
    simpa [Hid] using h
  have HGS : Hid (w.heap.size ≤ g2 ∧ g2 < g4) := by show _ ∧ _; omega
  go_enter Try.func27, Try.ntmps27
  go_upto_region 1 with fail
  rw [← hwA, ← hg4, ← hg2]
  clear hwA hg2 hg4
  have c0 : wA.cell? ⟨g2, 0, none⟩ = some (.int .i64 pc) := HA2.out.cell 0
  have c1 : wA.cell? ⟨g2, 1, none⟩ = some (.slice sA st.length sc) := HA2.out.cell 1
  have c2 : wA.cell? ⟨g2, 2, none⟩ = some (.slice cA ca.length cc) := HA2.out.cell 2
  go_wp2_with fail
  refine (HMV.out wA HGA.out).mono ?_
  rintro e w1 ⟨rfl, s9⟩
  have HG1 := Lib.hid (HGA.out.trans (s9.mono HGA.out.size))
  have H21 := Lib.hid (HA2.out.below s9 HA2.out.lt)
  have H41 := Lib.hid (HA4.out.below s9 HA4.out.lt)
  have hsz := s9.size
  have HSZ1 : Hid (g4 < w1.heap.size) := H41.out.lt
  clear s9 HGA HA2 HA4 c0 c1 c2 HMV hsz
  have c0 : w1.cell? ⟨g2, 0, none⟩ = some (.int .i64 pc) := H21.out.cell 0
  go_wp2_with fail
  refine (HGC.out w1 HG1.out).mono ?_
  rintro e w2 ⟨rfl, s9⟩
  have HSV : Hid (∀ d a en, codeAt bs pc = (d, a, en) → stepV bs (pc, st, ca) = (if en < 0 then ((pc, st, ca), 2) else if d = 0 then ((pc, st, ca), 1) else if (doV en st ca d a).2 = true then ((doV en st ca d a).1, 0) else ((pc, st, ca), 2))) := fun d a en h => by
    unfold stepV
    simp only [h]
  generalize codeAt bs pc = cd at *
  obtain ⟨d, a, en⟩ := cd
  have HSW := Lib.hid (HSV.out d a en rfl)
  simp only at HGD
  have HG2 := Lib.hid ((HG1.out.trans (s9.mono HG1.out.size)).alloc (Nat.le_trans HG1.out.size s9.size) (.cells #[.int .i64 d, .int .i64 a] 57))
  have H22 := Lib.hid ((H21.out.below s9 H21.out.lt).alloc (.cells #[.int .i64 d, .int .i64 a] 57))
  have H42 := Lib.hid ((H41.out.below s9 H41.out.lt).alloc (.cells #[.int .i64 d, .int .i64 a] 57))
  have H62 := Lib.hid (Blk.new w2 57 #[.int .i64 d, .int .i64 a])
  have HLT : Hid (g4 < w2.heap.size) := (H41.out.below s9 H41.out.lt).lt
  clear s9 HG1 H21 H41 c0 HSV HGC HSZ1
  go_upto_region 4 with fail
  obtain ⟨g6, hg6⟩ : ∃ g6, g6 = w2.heap.size := ⟨_, rfl⟩
  obtain ⟨w3, hw3⟩ : ∃ w3, w3 = w2.alloc (.cells #[.int .i64 d, .int .i64 a] 57) := ⟨_, rfl⟩
  rw [← hg6] at H62 HLT ⊢
  rw [← hw3] at HG2 H22 H42 H62 ⊢
  clear hg6 hw3
  by_cases hen : en < 0
  · have HR : Hid (stepV bs (pc, st, ca) = ((pc, st, ca), 2)) := by rw [HSW.out]; exact if_pos hen
    have c0 : w3.cell? ⟨g2, 0, none⟩ = some (.int .i64 pc) := H22.out.cell 0
    have c1 : w3.cell? ⟨g2, 1, none⟩ = some (.slice sA st.length sc) := H22.out.cell 1
    have c2 : w3.cell? ⟨g2, 2, none⟩ = some (.slice cA ca.length cc) := H22.out.cell 2
    go_wp2_with fail
    refine (HCP.out w3 HG2.out).mono ?_
    rintro e w9 ⟨z, rfl, hzv, hzo, s9⟩
    have HZV := Lib.hid hzv
    have HZO := Lib.hid (hzo.base HG2.out.size)
    have HZ4 := Lib.hid (H42.out.below s9 H42.out.lt)
    have HZB := Lib.hid (HG2.out.trans (s9.mono HG2.out.size))
    clear hzv hzo s9 c0 c1 c2
    have q0 : w9.cell? ⟨g4, 0, none⟩ = some (.int .i64 0) := HZ4.out.cell 0
    have q1 : w9.cell? ⟨g4, 1, none⟩ = some (.slice none 0 0) := HZ4.out.cell 1
    have q2 : w9.cell? ⟨g4, 2, none⟩ = some (.slice none 0 0) := HZ4.out.cell 2
    have p0 : w9.frozen? ⟨g4, 0, none⟩ = false := HZ4.out.frozen 0
    have p1 : w9.frozen? ⟨g4, 1, none⟩ = false := HZ4.out.frozen 1
    have p2 : w9.frozen? ⟨g4, 2, none⟩ = false := HZ4.out.frozen 2
    have HQ := Lib.hid (((HZ4.out.set_ 0 (.int .i64 z.pc)).set_ 1 (.slice z.sA z.st.length z.sc)).set_ 2 (.slice z.cA z.ca.length z.cc))
    have HOW := Lib.hid (HZO.out.set3 HZ4.out (.int .i64 z.pc) (.slice z.sA z.st.length z.sc) (.slice z.cA z.ca.length z.cc))
    have HBF := Lib.hid (((HZB.out.setCell (p := ⟨g4, 0, none⟩) (by have := HGS.out; simp only; omega) (.int .i64 z.pc)).setCell (p := ⟨g4, 1, none⟩) (by have := HGS.out; simp only; omega) (.slice z.sA z.st.length z.sc)).setCell (p := ⟨g4, 2, none⟩) (by have := HGS.out; simp only; omega) (.slice z.cA z.ca.length z.cc))
    go_wp2
    generalize World.setCell _ ⟨g4, 2, none⟩ _ = WF at HQ HOW HBF ⊢
    have y0 : WF.cell? ⟨g4, 0, none⟩ = some (.int .i64 z.pc) := HQ.out.cell 0
    have y1 : WF.cell? ⟨g4, 1, none⟩ = some (.slice z.sA z.st.length z.sc) := HQ.out.cell 1
    have y2 : WF.cell? ⟨g4, 2, none⟩ = some (.slice z.cA z.ca.length z.cc) := HQ.out.cell 2
    refine bodyPost_ret (v := .tuple #[.agg #[.int .i64 z.pc, .slice z.sA z.st.length z.sc, .slice z.cA z.ca.length z.cc], .int .i64 2]) (by simp [results, Try.results27, go_sem, y0, y1, y2]) rfl ?_
    exact ⟨z, by rw [show stepV bs (Mc.v ⟨pc, st, sA, sc, ca, cA, cc⟩) = _ from HR.out]; rfl, by rw [show stepV bs (Mc.v ⟨pc, st, sA, sc, ca, cA, cc⟩) = _ from HR.out]; exact HZV.out, HOW.out, HBF.out⟩
  · have HGD2 := Lib.hid (HGD.out (by omega))
    by_cases hd : d = 0
    · have HR : Hid (stepV bs (pc, st, ca) = ((pc, st, ca), 1)) := by rw [HSW.out, if_neg hen]; exact if_pos hd
      subst hd
      have k0 : w3.cell? ⟨g6, 0, none⟩ = some (.int .i64 0) := H62.out.cell 0
      have c0 : w3.cell? ⟨g2, 0, none⟩ = some (.int .i64 pc) := H22.out.cell 0
      have c1 : w3.cell? ⟨g2, 1, none⟩ = some (.slice sA st.length sc) := H22.out.cell 1
      have c2 : w3.cell? ⟨g2, 2, none⟩ = some (.slice cA ca.length cc) := H22.out.cell 2
      go_wp2_with fail
      refine (HCP.out w3 HG2.out).mono ?_
      rintro e w9 ⟨z, rfl, hzv, hzo, s9⟩
      have HZV := Lib.hid hzv
      have HZO := Lib.hid (hzo.base HG2.out.size)
      have HZ4 := Lib.hid (H42.out.below s9 H42.out.lt)
      have HZB := Lib.hid (HG2.out.trans (s9.mono HG2.out.size))
      clear hzv hzo s9 c0 c1 c2
      have q0 : w9.cell? ⟨g4, 0, none⟩ = some (.int .i64 0) := HZ4.out.cell 0
      have q1 : w9.cell? ⟨g4, 1, none⟩ = some (.slice none 0 0) := HZ4.out.cell 1
      have q2 : w9.cell? ⟨g4, 2, none⟩ = some (.slice none 0 0) := HZ4.out.cell 2
      have p0 : w9.frozen? ⟨g4, 0, none⟩ = false := HZ4.out.frozen 0
      have p1 : w9.frozen? ⟨g4, 1, none⟩ = false := HZ4.out.frozen 1
      have p2 : w9.frozen? ⟨g4, 2, none⟩ = false := HZ4.out.frozen 2
      have HQ := Lib.hid (((HZ4.out.set_ 0 (.int .i64 z.pc)).set_ 1 (.slice z.sA z.st.length z.sc)).set_ 2 (.slice z.cA z.ca.length z.cc))
      have HOW := Lib.hid (HZO.out.set3 HZ4.out (.int .i64 z.pc) (.slice z.sA z.st.length z.sc) (.slice z.cA z.ca.length z.cc))
      have HBF := Lib.hid (((HZB.out.setCell (p := ⟨g4, 0, none⟩) (by have := HGS.out; simp only; omega) (.int .i64 z.pc)).setCell (p := ⟨g4, 1, none⟩) (by have := HGS.out; simp only; omega) (.slice z.sA z.st.length z.sc)).setCell (p := ⟨g4, 2, none⟩) (by have := HGS.out; simp only; omega) (.slice z.cA z.ca.length z.cc))
      go_wp2
      generalize World.setCell _ ⟨g4, 2, none⟩ _ = WF at HQ HOW HBF ⊢
      have y0 : WF.cell? ⟨g4, 0, none⟩ = some (.int .i64 z.pc) := HQ.out.cell 0
      have y1 : WF.cell? ⟨g4, 1, none⟩ = some (.slice z.sA z.st.length z.sc) := HQ.out.cell 1
      have y2 : WF.cell? ⟨g4, 2, none⟩ = some (.slice z.cA z.ca.length z.cc) := HQ.out.cell 2
      refine bodyPost_ret (v := .tuple #[.agg #[.int .i64 z.pc, .slice z.sA z.st.length z.sc, .slice z.cA z.ca.length z.cc], .int .i64 1]) (by simp [results, Try.results27, go_sem, y0, y1, y2]) rfl ?_
      exact ⟨z, by rw [show stepV bs (Mc.v ⟨pc, st, sA, sc, ca, cA, cc⟩) = _ from HR.out]; rfl, by rw [show stepV bs (Mc.v ⟨pc, st, sA, sc, ca, cA, cc⟩) = _ from HR.out]; exact HZV.out, HOW.out, HBF.out⟩
    · have hdb : (d == 0) = false := by rw [beq_eq_false_iff_ne]; exact hd
      have HSX : Hid (stepV bs (pc, st, ca) = (if (doV en st ca d a).2 = true then ((doV en st ca d a).1, 0) else ((pc, st, ca), 2))) := by rw [HSW.out, if_neg hen]; exact if_neg hd
      clear HSW
      have k0 : w3.cell? ⟨g6, 0, none⟩ = some (.int .i64 d) := H62.out.cell 0
      have c0 : w3.cell? ⟨g2, 0, none⟩ = some (.int .i64 pc) := H22.out.cell 0
      have c1 : w3.cell? ⟨g2, 1, none⟩ = some (.slice sA st.length sc) := H22.out.cell 1
      have c2 : w3.cell? ⟨g2, 2, none⟩ = some (.slice cA ca.length cc) := H22.out.cell 2
      go_wp2_with fail
      refine (HCP.out w3 HG2.out).mono ?_
      rintro e w4 ⟨y, rfl, hyv, hyo, s9⟩
      have HYV : Hid (y.pc = pc ∧ y.st = st ∧ y.ca = ca) := by
        unfold Mc.v at hyv
        show _ ∧ _ ∧ _
        simpa only [Prod.mk.injEq] using hyv
      have HYO := Lib.hid (hyo.below ((Below.refl _ _).alloc (Nat.le_refl _) (.cells y.cells 27)))
      have HG4 := Lib.hid ((HG2.out.trans (s9.mono HG2.out.size)).alloc (Nat.le_trans HG2.out.size s9.size) (.cells y.cells 27))
      have H24 := Lib.hid ((H22.out.below s9 H22.out.lt).alloc (.cells y.cells 27))
      have H44 := Lib.hid ((H42.out.below s9 H42.out.lt).alloc (.cells y.cells 27))
      have H64 := Lib.hid ((H62.out.below s9 H62.out.lt).alloc (.cells y.cells 27))
      have H84 := Lib.hid (Blk.new w4 27 y.cells)
      have hz34 := s9.size
      have h4l3 := H42.out.lt
      clear hyv hyo s9 HG2 H22 H42 H62 k0 c0 c1 c2 hdb
      simp only [Mc.cells] at HYO HG4 H24 H44 H64 H84
      go_upto_region 9 with fail
      obtain ⟨g8, hg8⟩ : ∃ g8, g8 = w4.heap.size := ⟨_, rfl⟩
      obtain ⟨w5, hw5⟩ : ∃ w5, w5 = w4.alloc (.cells #[.int .i64 y.pc, .slice y.sA y.st.length y.sc, .slice y.cA y.ca.length y.cc] 27) := ⟨_, rfl⟩
      have hl3 : w3.heap.size ≤ g8 := by omega
      rw [← hg8] at H84 ⊢
      rw [← hw5] at HYO HG4 H24 H44 H64 H84 ⊢
      clear hg8 hw5 hz34
      have h35 : w3.heap.size ≤ w5.heap.size := by have := H84.out.lt; omega
      have k80 : w5.cell? ⟨g8, 0, none⟩ = some (.int .i64 y.pc) := H84.out.cell 0
      have k8f : w5.frozen? ⟨g8, 0, none⟩ = false := H84.out.frozen 0
      have k60 : w5.cell? ⟨g6, 0, none⟩ = some (.int .i64 d) := H64.out.cell 0
      have k61 : w5.cell? ⟨g6, 1, none⟩ = some (.int .i64 a) := H64.out.cell 1
      have h68 : g6 ≠ g8 := fun e => by
        have h1 := H64.out
        have h2 := H84.out
        unfold Blk at h1 h2
        rw [e, h2] at h1
        injection h1 with h1
        injection h1 with _ h1
        exact absurd h1 (by decide)
      obtain ⟨x, hx⟩ : ∃ x : Mc, x = { y with pc := en } := ⟨_, rfl⟩
      have HXV : Hid (x.pc = en ∧ x.st = st ∧ x.ca = ca) := by rw [hx]; exact ⟨rfl, HYV.out.2.1, HYV.out.2.2⟩
      have HXO : Hid (x.Own (w5.setCell ⟨g8, 0, none⟩ (.int .i64 en)) w3.heap.size) := by
        rw [hx]
        exact (show Mc.Own { y with pc := en } w5 w3.heap.size from ⟨HYO.out.os, HYO.out.oc, HYO.out.ap⟩).keep (.of_set H84.out TI_m 0 _)
      have HX8 : Hid (Blk (w5.setCell ⟨g8, 0, none⟩ (.int .i64 en)) g8 27 x.cells) := by rw [hx]; exact H84.out.set_ 0 _
      have HG5 : Hid (Below w.heap.size w (w5.setCell ⟨g8, 0, none⟩ (.int .i64 en))) := HG4.out.setCell (by have := HGS.out; simp only; omega) _
      have H25 : Hid (Blk (w5.setCell ⟨g8, 0, none⟩ (.int .i64 en)) g2 27 #[.int .i64 pc, .slice sA st.length sc, .slice cA ca.length cc]) := H24.out.far (by have := HGS.out; simp only [ne_eq]; omega) _
      have H45 : Hid (Blk (w5.setCell ⟨g8, 0, none⟩ (.int .i64 en)) g4 27 #[.int .i64 0, .slice none 0 0, .slice none 0 0]) := H44.out.far (by have := HGS.out; simp only [ne_eq]; omega) _
      go_wp2_with fail
      have hsz6 : (w5.setCell ⟨g8, 0, none⟩ (.int .i64 en)).heap.size = w5.heap.size := by simp
      have h6le : w5.heap.size ≤ (w5.setCell ⟨g8, 0, none⟩ (.int .i64 en)).heap.size := by omega
      clear hsz6
      generalize (w5.setCell ⟨g8, 0, none⟩ (.int .i64 en)) = w6 at *
      clear HYO HG4 H24 H44 H64 H84 k80 k8f k60 k61 h68 hx
      have HGS2 := HGS.out
      have hwl : w.heap.size ≤ w3.heap.size := by omega
      refine (do_any w3.heap.size w3.heap.size g8 x d a w6 HX8.out HXO.out ⟨Nat.le_refl _, hl3, by omega, by omega⟩ (by have := HGD2.out; omega) (by
        rw [HXV.out.1, HXV.out.2.1, HXV.out.2.2]
        obtain ⟨_, p2, p3, p4, p5⟩ := mOk_parts HOK.out
        exact mOk_of (by omega) p2 p3 p4 p5)).mono ?_
      rintro e w7 ⟨z, rfl, hzv, hz8, hzo, hzb⟩
      rw [HXV.out.1, HXV.out.2.1, HXV.out.2.2] at hzv ⊢
      have HZV0 := Lib.hid hzv
      have HZ8 := Lib.hid hz8
      have HZO := Lib.hid (hzo.base hwl)
      have HG7 := Lib.hid (HG5.out.trans (hzb.mono hwl))
      have H27 := Lib.hid (H25.out.below hzb (by omega))
      have H47 := Lib.hid (H45.out.below hzb (by omega))
      clear hzv hz8 hzo hzb HXV HXO HX8 HG5 H25 H45 HGS2
      cases hb : (doV en st ca d a).2
      · have HR : Hid (stepV bs (pc, st, ca) = ((pc, st, ca), 2)) := by rw [HSX.out, hb]; rfl
        clear HSX HZV0 hb
        have c0 : w7.cell? ⟨g2, 0, none⟩ = some (.int .i64 pc) := H27.out.cell 0
        have c1 : w7.cell? ⟨g2, 1, none⟩ = some (.slice sA st.length sc) := H27.out.cell 1
        have c2 : w7.cell? ⟨g2, 2, none⟩ = some (.slice cA ca.length cc) := H27.out.cell 2
        go_wp2_with fail
        refine (HCP.out w7 HG7.out).mono ?_
        rintro e w9 ⟨z, rfl, hzv, hzo, s9⟩
        have HZV := Lib.hid hzv
        have HZO := Lib.hid (hzo.base HG7.out.size)
        have HZ4 := Lib.hid (H47.out.below s9 H47.out.lt)
        have HZB := Lib.hid (HG7.out.trans (s9.mono HG7.out.size))
        clear hzv hzo s9 c0 c1 c2
        have q0 : w9.cell? ⟨g4, 0, none⟩ = some (.int .i64 0) := HZ4.out.cell 0
        have q1 : w9.cell? ⟨g4, 1, none⟩ = some (.slice none 0 0) := HZ4.out.cell 1
        have q2 : w9.cell? ⟨g4, 2, none⟩ = some (.slice none 0 0) := HZ4.out.cell 2
        have p0 : w9.frozen? ⟨g4, 0, none⟩ = false := HZ4.out.frozen 0
        have p1 : w9.frozen? ⟨g4, 1, none⟩ = false := HZ4.out.frozen 1
        have p2 : w9.frozen? ⟨g4, 2, none⟩ = false := HZ4.out.frozen 2
        have HQ := Lib.hid (((HZ4.out.set_ 0 (.int .i64 z.pc)).set_ 1 (.slice z.sA z.st.length z.sc)).set_ 2 (.slice z.cA z.ca.length z.cc))
        have HOW := Lib.hid (HZO.out.set3 HZ4.out (.int .i64 z.pc) (.slice z.sA z.st.length z.sc) (.slice z.cA z.ca.length z.cc))
        have HBF := Lib.hid (((HZB.out.setCell (p := ⟨g4, 0, none⟩) (by have := HGS.out; simp only; omega) (.int .i64 z.pc)).setCell (p := ⟨g4, 1, none⟩) (by have := HGS.out; simp only; omega) (.slice z.sA z.st.length z.sc)).setCell (p := ⟨g4, 2, none⟩) (by have := HGS.out; simp only; omega) (.slice z.cA z.ca.length z.cc))
        go_wp2
        generalize World.setCell _ ⟨g4, 2, none⟩ _ = WF at HQ HOW HBF ⊢
        have y0 : WF.cell? ⟨g4, 0, none⟩ = some (.int .i64 z.pc) := HQ.out.cell 0
        have y1 : WF.cell? ⟨g4, 1, none⟩ = some (.slice z.sA z.st.length z.sc) := HQ.out.cell 1
        have y2 : WF.cell? ⟨g4, 2, none⟩ = some (.slice z.cA z.ca.length z.cc) := HQ.out.cell 2
        refine bodyPost_ret (v := .tuple #[.agg #[.int .i64 z.pc, .slice z.sA z.st.length z.sc, .slice z.cA z.ca.length z.cc], .int .i64 2]) (by simp [results, Try.results27, go_sem, y0, y1, y2]) rfl ?_
        exact ⟨z, by rw [show stepV bs (Mc.v ⟨pc, st, sA, sc, ca, cA, cc⟩) = _ from HR.out]; rfl, by rw [show stepV bs (Mc.v ⟨pc, st, sA, sc, ca, cA, cc⟩) = _ from HR.out]; exact HZV.out, HOW.out, HBF.out⟩
      · have HR : Hid (stepV bs (pc, st, ca) = ((doV en st ca d a).1, 0)) := by rw [HSX.out]; exact if_pos hb
        have HZV := Lib.hid (HZV0.out hb)
        clear HSX HZV0 hb
        have k0 : w7.cell? ⟨g8, 0, none⟩ = some (.int .i64 z.pc) := HZ8.out.cell 0
        have k1 : w7.cell? ⟨g8, 1, none⟩ = some (.slice z.sA z.st.length z.sc) := HZ8.out.cell 1
        have k2 : w7.cell? ⟨g8, 2, none⟩ = some (.slice z.cA z.ca.length z.cc) := HZ8.out.cell 2
        have q0 : w7.cell? ⟨g4, 0, none⟩ = some (.int .i64 0) := H47.out.cell 0
        have q1 : w7.cell? ⟨g4, 1, none⟩ = some (.slice none 0 0) := H47.out.cell 1
        have q2 : w7.cell? ⟨g4, 2, none⟩ = some (.slice none 0 0) := H47.out.cell 2
        have p0 : w7.frozen? ⟨g4, 0, none⟩ = false := H47.out.frozen 0
        have p1 : w7.frozen? ⟨g4, 1, none⟩ = false := H47.out.frozen 1
        have p2 : w7.frozen? ⟨g4, 2, none⟩ = false := H47.out.frozen 2
        have HQ := Lib.hid (((H47.out.set_ 0 (.int .i64 z.pc)).set_ 1 (.slice z.sA z.st.length z.sc)).set_ 2 (.slice z.cA z.ca.length z.cc))
        have HOW := Lib.hid (HZO.out.set3 H47.out (.int .i64 z.pc) (.slice z.sA z.st.length z.sc) (.slice z.cA z.ca.length z.cc))
        have HBF := Lib.hid (((HG7.out.setCell (p := ⟨g4, 0, none⟩) (by have := HGS.out; simp only; omega) (.int .i64 z.pc)).setCell (p := ⟨g4, 1, none⟩) (by have := HGS.out; simp only; omega) (.slice z.sA z.st.length z.sc)).setCell (p := ⟨g4, 2, none⟩) (by have := HGS.out; simp only; omega) (.slice z.cA z.ca.length z.cc))
        go_wp2
        generalize World.setCell _ ⟨g4, 2, none⟩ _ = WF at HQ HOW HBF ⊢
        have y0 : WF.cell? ⟨g4, 0, none⟩ = some (.int .i64 z.pc) := HQ.out.cell 0
        have y1 : WF.cell? ⟨g4, 1, none⟩ = some (.slice z.sA z.st.length z.sc) := HQ.out.cell 1
        have y2 : WF.cell? ⟨g4, 2, none⟩ = some (.slice z.cA z.ca.length z.cc) := HQ.out.cell 2
        refine bodyPost_ret (v := .tuple #[.agg #[.int .i64 z.pc, .slice z.sA z.st.length z.sc, .slice z.cA z.ca.length z.cc], .int .i64 0]) (by simp [results, Try.results27, go_sem, y0, y1, y2]) rfl ?_
        exact ⟨z, by rw [show stepV bs (Mc.v ⟨pc, st, sA, sc, ca, cA, cc⟩) = _ from HR.out]; rfl, by rw [show stepV bs (Mc.v ⟨pc, st, sA, sc, ca, cA, cc⟩) = _ from HR.out]; exact HZV.out, HOW.out, HBF.out⟩
end Go.Proofs.Ytbljkdhokbhcdaa
