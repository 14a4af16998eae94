/- Contract of the reference's step of a machine. Condition: the sizes. -/
import Derived.Test.YtbljkdhokbhcdaaRows
import Derived.Test.YtbljkdhokbhcdaaBase
import Derived.Test.YtbljkdhokbhcdaaBase2
import Derived.Test.YtbljkdhokbhcdaaBase3
import Derived.Test.YtbljkdhokbhcdaaOnly
import Derived.Test.YtbljkdhokbhcdaaIn
import Derived.Test.YtbljkdhokbhcdaaIn2
import Derived.Test.YtbljkdhokbhcdaaGet2IS
import Derived.Test.YtbljkdhokbhcdaaIntS
import Derived.Test.YtbljkdhokbhcdaaReg
import Derived.Test.YtbljkdhokbhcdaaRegS
import Derived.Test.YtbljkdhokbhcdaaPick2
import Derived.Test.YtbljkdhokbhcdaaKT
import Derived.Test.YtbljkdhokbhcdaaMc
import Derived.Test.YtbljkdhokbhcdaaMcy
import Derived.Test.YtbljkdhokbhcdaaCd
import Derived.Test.YtbljkdhokbhcdaaXm
import Derived.Test.YtbljkdhokbhcdaaDo
import Derived.Test.YtbljkdhokbhcdaaMStI
import Derived.WalkKit
import Derived.WalkSpells
import Derived.WalkLawsBesides
import Derived.Handy
import Derived.BigQuiet
import Derived.Deep.RegionHeld3
import Derived.Deep.DrawnRows
import Derived.Deep.QuietTactic
import Derived.Deep.CutBlock
namespace Go.Proofs.Ytbljkdhokbhcdaa
open Go Go.RowKit

set_option maxRecDepth 100000 in
set_option maxHeartbeats 8000000 in
theorem specStep_any {A : Option Addr} {c B D : Nat} (m : Mc) (bs : List Int) (w : World) (h : m.At w B) (hB : B ≤ w.heap.size) (hs : m.small) (hr : Reads w D 1 A bs.length (nums .u8 bs)) (hD : D ≤ w.heap.size) (hbm : bs.length ≤ 1048576) (hbx : ∀ x ∈ bs, 0 ≤ x ∧ x ≤ 255) (hok : mOk m.pc m.st m.ca = true) :
    Calls Try.prog 23 #[m.val, .slice A bs.length c] w (Stepped bs m w) := by
  have HCP0 := Lib.hid (fun w' (hb : Below w.heap.size w w') => specCopy_any m w' ((h.more hB).below hb) hb.size hs)
  have HMV0 := Lib.hid (fun w' (hb : Below w.heap.size w w') => specMOk_any m w' ((h.more hB).below hb) hb.size hs)
  have HGC := Lib.hid (fun w' (hb : Below w.heap.size w w') => specGetCode_any (A := A) (c := c) bs m.pc w' ((hr.more hD).below hb) hb.size hbm hbx)
  have HGD := Lib.hid (fun (hq : 0 ≤ (codeAt bs m.pc).2.2) => codeAt_good (pc := m.pc) hbx hq)
  rw [hok] at HMV0
  have HOK := Lib.hid hok
  have HRS0 : Hid (∀ w1 wq, Below w.heap.size w w1 → Below w1.heap.size w1 wq → Reads wq w1.heap.size 1 m.sA m.st.length (nums .i64 m.st)) := fun w1 wq h1 h2 => (((h.1.more hB).below h1).more h1.size).below h2
  have HRC0 : Hid (∀ w1 wq, Below w.heap.size w w1 → Below w1.heap.size w1 wq → Reads wq w1.heap.size 1 m.cA m.ca.length (nums .i64 m.ca)) := fun w1 wq h1 h2 => (((h.2.more hB).below h1).more h1.size).below h2
  clear h hr hbx hok
  obtain ⟨pc, st, sA, sc, ca, cA, cc⟩ := m
  simp only [Mc.val] at *
  obtain ⟨hs1, hs2⟩ := hs
  simp only at hs1 hs2
  have HCP : Hid (∀ w' : World, Below w.heap.size w w' → Calls Try.prog 22 #[.agg #[.int .i64 pc, .slice sA st.length sc, .slice cA ca.length cc]] w' (fun e w'' => ∃ z : Mc, e = .returned (.agg #[.int .i64 z.pc, .slice z.sA z.st.length z.sc, .slice z.cA z.ca.length z.cc]) ∧ z.v = (pc, st, ca) ∧ z.Own w'' w'.heap.size ∧ Below w'.heap.size w' w'')) := HCP0.out
  have HMV := HMV0
  clear HCP0 HMV0
  obtain ⟨wA, hwA⟩ : ∃ wA, wA = (w.alloc (.cells #[.int .i64 pc, .slice sA st.length sc, .slice cA ca.length cc] 27)).alloc (.cells #[.int .i64 0, .slice none 0 0, .slice none 0 0] 27) := ⟨_, rfl⟩
  obtain ⟨g2, hg2⟩ : ∃ g2, g2 = w.heap.size := ⟨_, rfl⟩
  obtain ⟨g4, hg4⟩ : ∃ g4, g4 = w.heap.size + 1 := ⟨_, rfl⟩
  have HGA : Hid (Below w.heap.size w wA) := by rw [hwA]; exact ((Below.refl _ _).alloc (Nat.le_refl _) _).alloc (by simp) _
  have HA2 : Hid (Blk wA g2 27 #[.int .i64 pc, .slice sA st.length sc, .slice cA ca.length cc]) := by rw [hwA, hg2]; exact (Blk.new _ _ _).alloc _
  have HA4 : Hid (Blk wA g4 27 #[.int .i64 0, .slice none 0 0, .slice none 0 0]) := by
    rw [hwA, hg4]
    have h := Blk.new (w.alloc (.cells #[.int .i64 pc, .slice sA st.length sc, .slice cA ca.length cc] 27)) 27 #[.int .i64 0, .slice none 0 0, .slice none 0 0]
    simpa [Hid] using h
  have HGS : Hid (w.heap.size ≤ g2 ∧ g2 < g4) := by show _ ∧ _; omega
  go_enter Try.func23, Try.ntmps23
  go_upto_region 1 with fail
  rw [← hwA, ← hg4, ← hg2]
  clear hwA hg2 hg4
  have c0 : wA.cell? ⟨g2, 0, none⟩ = some (.int .i64 pc) := HA2.out.cell 0
  have c1 : wA.cell? ⟨g2, 1, none⟩ = some (.slice sA st.length sc) := HA2.out.cell 1
  have c2 : wA.cell? ⟨g2, 2, none⟩ = some (.slice cA ca.length cc) := HA2.out.cell 2
  go_wp2_with fail
  refine (HMV.out wA HGA.out).mono ?_
  rintro e w1 ⟨rfl, s9⟩
  have HG1 := Lib.hid (HGA.out.trans (s9.mono HGA.out.size))
  have H21 := Lib.hid (HA2.out.below s9 HA2.out.lt)
  have H41 := Lib.hid (HA4.out.below s9 HA4.out.lt)
  have hsz := s9.size
  have HSZ1 : Hid (g4 < w1.heap.size) := H41.out.lt
  clear s9 HGA HA2 HA4 c0 c1 c2 HMV hsz
  have c0 : w1.cell? ⟨g2, 0, none⟩ = some (.int .i64 pc) := H21.out.cell 0
  have c1 : w1.cell? ⟨g2, 1, none⟩ = some (.slice sA st.length sc) := H21.out.cell 1
  have c2 : w1.cell? ⟨g2, 2, none⟩ = some (.slice cA ca.length cc) := H21.out.cell 2
  have HSV : Hid (∀ d a en, codeAt bs pc = (d, a, en) → stepV bs (pc, st, ca) = (if en < 0 then ((pc, st, ca), 2) else if d = 0 then ((pc, st, ca), 1) else if (doV en st ca d a).2 = true then ((doV en st ca d a).1, 0) else ((pc, st, ca), 2))) := fun d a en h => by
    unfold stepV
    simp only [h]
  go_wp2_with fail
  refine (HCP.out w1 HG1.out).mono ?_
  rintro e w2 ⟨y, rfl, hyv, hyo, s9⟩
  obtain ⟨ypc, yst, xsA, xsc, yca, xcA, xcc⟩ := y
  have hyv2 : ypc = pc ∧ yst = st ∧ yca = ca := by
    unfold Mc.v at hyv
    simpa only [Prod.mk.injEq] using hyv
  obtain ⟨rfl, rfl, rfl⟩ := hyv2
  have HB2 : Hid (Below w1.heap.size w1 (w2.alloc (.cells #[.int .i64 ypc, .slice xsA yst.length xsc, .slice xcA yca.length xcc] 27))) := s9.alloc s9.size _
  have HYO : Hid ((⟨ypc, yst, xsA, xsc, yca, xcA, xcc⟩ : Mc).Own (w2.alloc (.cells #[.int .i64 ypc, .slice xsA yst.length xsc, .slice xcA yca.length xcc] 27)) w1.heap.size) := hyo.below ((Below.refl _ _).alloc (Nat.le_refl _) _)
  have H62 := Lib.hid (Blk.new w2 27 #[.int .i64 ypc, .slice xsA yst.length xsc, .slice xcA yca.length xcc])
  have hl62 := s9.size
  clear hyv hyo s9 c0 c1 c2
  go_upto_region 4 with fail
  obtain ⟨g6, hg6⟩ : ∃ g6, g6 = w2.heap.size := ⟨_, rfl⟩
  obtain ⟨w3, hw3⟩ : ∃ w3, w3 = w2.alloc (.cells #[.int .i64 ypc, .slice xsA yst.length xsc, .slice xcA yca.length xcc] 27) := ⟨_, rfl⟩
  have hl6 : w1.heap.size ≤ g6 := by omega
  rw [← hg6] at H62 ⊢
  rw [← hw3] at HB2 HYO H62 ⊢
  clear hg6 hw3 hl62
  have c0 : w3.cell? ⟨g2, 0, none⟩ = some (.int .i64 ypc) := (H21.out.below HB2.out H21.out.lt).cell 0
  go_wp2_with fail
  refine (HGC.out w3 (HG1.out.trans (HB2.out.mono HG1.out.size))).mono ?_
  rintro e w4 ⟨rfl, s9⟩
  generalize codeAt bs ypc = cd at *
  obtain ⟨d, a, en⟩ := cd
  have HSW := Lib.hid (HSV.out d a en rfl)
  simp only at HGD
  have HM4 : Hid (XM w1 w1.heap.size w1.heap.size g6 w4.heap.size d a (⟨ypc, yst, xsA, xsc, yca, xcA, xcc⟩ : Mc) (w4.alloc (.cells #[.int .i64 d, .int .i64 a] 57))) := by
    have hb4 := HB2.out.trans (s9.mono HB2.out.size)
    exact ⟨(H62.out.below s9 H62.out.lt).alloc _, Blk.new _ _ _, (HYO.out.below s9).below ((Below.refl _ _).alloc (Nat.le_refl _) _), hb4.alloc hb4.size _, Nat.le_refl _, hl6, Nat.le_refl _, by have := hb4.size; simp; omega⟩
  clear HB2 HYO H62 s9 c0 HSV HGC
  go_upto_region 5 with fail
  obtain ⟨g7, hg7⟩ : ∃ g7, g7 = w4.heap.size := ⟨_, rfl⟩
  obtain ⟨w5, hw5⟩ : ∃ w5, w5 = w4.alloc (.cells #[.int .i64 d, .int .i64 a] 57) := ⟨_, rfl⟩
  rw [← hg7, ← hw5] at HM4
  rw [← hg7, ← hw5]
  clear hg7 hw5
  have c1 : w5.cell? ⟨g2, 1, none⟩ = some (.slice sA yst.length sc) := (H21.out.below HM4.out.bl H21.out.lt).cell 1
  have b0 : w5.cell? ⟨g6, 0, none⟩ = some (.int .i64 ypc) := HM4.out.b.cell 0
  have bf : w5.frozen? ⟨g6, 0, none⟩ = false := HM4.out.b.frozen 0
  obtain ⟨q1, q2, q3, q4, q5⟩ := mOk_parts HOK.out
  have ys : IntKind.i64.wrap ((yst.length : Int) - 1) = (yst.length : Int) - 1 := IntWalk.i64_in _ (by omega)
  have HM6 : Hid (XM w1 w1.heap.size w1.heap.size g6 g7 d a ⟨en, yst, xsA, xsc, yca, xcA, xcc⟩ (w5.setCell ⟨g6, 0, none⟩ (.int .i64 en))) := HM4.out.pc en
  go_upto_region 8 with fail
  generalize (w5.setCell ⟨g6, 0, none⟩ (.int .i64 en)) = w6 at *
  clear HM4 b0 bf c1
  have HP4 := Lib.hid q4
  have HP5 := Lib.hid q5
  clear q4 q5
  obtain ⟨i0, hi0, hz0, hz1, hz2⟩ := info_parts mint_info
  have HZZ := Lib.hid hz0
  have HBW : Hid (∀ wq, Below w1.heap.size w1 wq → Below w.heap.size w wq) := fun wq hb => HG1.out.trans (hb.mono HG1.out.size)
  have H2W : Hid (∀ wq, Below w1.heap.size w1 wq → Blk wq g2 27 #[.int .i64 ypc, .slice sA yst.length sc, .slice cA yca.length cc]) := fun wq hb => H21.out.below hb H21.out.lt
  have H4W : Hid (∀ wq, Below w1.heap.size w1 wq → Blk wq g4 27 #[.int .i64 0, .slice none 0 0, .slice none 0 0]) := fun wq hb => H41.out.below hb H41.out.lt
  have HRS : Hid (∀ wq, Below w1.heap.size w1 wq → Reads wq w1.heap.size 1 sA yst.length (nums .i64 yst)) := fun wq hb => HRS0.out w1 wq HG1.out hb
  have HRC : Hid (∀ wq, Below w1.heap.size w1 wq → Reads wq w1.heap.size 1 cA yca.length (nums .i64 yca)) := fun wq hb => HRC0.out w1 wq HG1.out hb
  have HSB : Hid (∀ b off, sA = some ⟨b, off, none⟩ → 0 < yst.length → b < w1.heap.size) := fun b off hA h0 => by
    obtain ⟨b', off', hA', hb', _⟩ := (HRS0.out w1 w1 HG1.out (Below.refl _ _)).row_ h0 (by omega)
    rw [hA] at hA'
    injection hA' with hA'
    injection hA' with e1 e2
    omega
  have h2l1 := H21.out.lt
  clear HG1 H21 H41 HRS0 HRC0
  by_cases hen : en < 0
  · have HR : Hid (stepV bs (ypc, yst, yca) = ((ypc, yst, yca), 2)) := by rw [HSW.out]; exact if_pos hen
    have HGq := Lib.hid (HBW.out w6 HM6.out.bl)
    have H2q := Lib.hid (H2W.out w6 HM6.out.bl)
    have H4q := Lib.hid (H4W.out w6 HM6.out.bl)
    have c0 : w6.cell? ⟨g2, 0, none⟩ = some (.int .i64 ypc) := H2q.out.cell 0
    have c1 : w6.cell? ⟨g2, 1, none⟩ = some (.slice sA yst.length sc) := H2q.out.cell 1
    have c2 : w6.cell? ⟨g2, 2, none⟩ = some (.slice cA yca.length cc) := H2q.out.cell 2
    go_wp2_with fail
    refine (HCP.out w6 HGq.out).mono ?_
    rintro e w9 ⟨z, rfl, hzv, hzo, s9⟩
    have HZV := Lib.hid hzv
    have HZO := Lib.hid (hzo.base HGq.out.size)
    have HZ4 := Lib.hid (H4q.out.below s9 H4q.out.lt)
    have HZB := Lib.hid (HGq.out.trans (s9.mono HGq.out.size))
    clear hzv hzo s9 c0 c1 c2
    have q0 : w9.cell? ⟨g4, 0, none⟩ = some (.int .i64 0) := HZ4.out.cell 0
    have q1 : w9.cell? ⟨g4, 1, none⟩ = some (.slice none 0 0) := HZ4.out.cell 1
    have q2 : w9.cell? ⟨g4, 2, none⟩ = some (.slice none 0 0) := HZ4.out.cell 2
    have p0 : w9.frozen? ⟨g4, 0, none⟩ = false := HZ4.out.frozen 0
    have p1 : w9.frozen? ⟨g4, 1, none⟩ = false := HZ4.out.frozen 1
    have p2 : w9.frozen? ⟨g4, 2, none⟩ = false := HZ4.out.frozen 2
    have HQ := Lib.hid (((HZ4.out.set_ 0 (.int .i64 z.pc)).set_ 1 (.slice z.sA z.st.length z.sc)).set_ 2 (.slice z.cA z.ca.length z.cc))
    have HOW := Lib.hid (HZO.out.set3 HZ4.out (.int .i64 z.pc) (.slice z.sA z.st.length z.sc) (.slice z.cA z.ca.length z.cc))
    have HBF := Lib.hid (((HZB.out.setCell (p := ⟨g4, 0, none⟩) (by have := HGS.out; simp only; omega) (.int .i64 z.pc)).setCell (p := ⟨g4, 1, none⟩) (by have := HGS.out; simp only; omega) (.slice z.sA z.st.length z.sc)).setCell (p := ⟨g4, 2, none⟩) (by have := HGS.out; simp only; omega) (.slice z.cA z.ca.length z.cc))
    go_wp2
    generalize World.setCell _ ⟨g4, 2, none⟩ _ = WF at HQ HOW HBF ⊢
    have y0 : WF.cell? ⟨g4, 0, none⟩ = some (.int .i64 z.pc) := HQ.out.cell 0
    have y1 : WF.cell? ⟨g4, 1, none⟩ = some (.slice z.sA z.st.length z.sc) := HQ.out.cell 1
    have y2 : WF.cell? ⟨g4, 2, none⟩ = some (.slice z.cA z.ca.length z.cc) := HQ.out.cell 2
    refine bodyPost_ret (v := .tuple #[.agg #[.int .i64 z.pc, .slice z.sA z.st.length z.sc, .slice z.cA z.ca.length z.cc], .int .i64 2]) (by simp [results, Try.results23, go_sem, y0, y1, y2]) rfl ?_
    exact ⟨z, by rw [show stepV bs (Mc.v ⟨ypc, yst, sA, sc, yca, cA, cc⟩) = _ from HR.out]; rfl, by rw [show stepV bs (Mc.v ⟨ypc, yst, sA, sc, yca, cA, cc⟩) = _ from HR.out]; exact HZV.out, HOW.out, HBF.out⟩
  · have HGD2 := Lib.hid (HGD.out (by omega))
    by_cases hd : d = 0
    · have HR : Hid (stepV bs (ypc, yst, yca) = ((ypc, yst, yca), 1)) := by rw [HSW.out, if_neg hen]; exact if_pos hd
      subst hd
      have k0 : w6.cell? ⟨g7, 0, none⟩ = some (.int .i64 0) := HM6.out.c.cell 0
      have HGq := Lib.hid (HBW.out w6 HM6.out.bl)
      have H2q := Lib.hid (H2W.out w6 HM6.out.bl)
      have H4q := Lib.hid (H4W.out w6 HM6.out.bl)
      have c0 : w6.cell? ⟨g2, 0, none⟩ = some (.int .i64 ypc) := H2q.out.cell 0
      have c1 : w6.cell? ⟨g2, 1, none⟩ = some (.slice sA yst.length sc) := H2q.out.cell 1
      have c2 : w6.cell? ⟨g2, 2, none⟩ = some (.slice cA yca.length cc) := H2q.out.cell 2
      go_wp2_with fail
      refine (HCP.out w6 HGq.out).mono ?_
      rintro e w9 ⟨z, rfl, hzv, hzo, s9⟩
      have HZV := Lib.hid hzv
      have HZO := Lib.hid (hzo.base HGq.out.size)
      have HZ4 := Lib.hid (H4q.out.below s9 H4q.out.lt)
      have HZB := Lib.hid (HGq.out.trans (s9.mono HGq.out.size))
      clear hzv hzo s9 c0 c1 c2
      have q0 : w9.cell? ⟨g4, 0, none⟩ = some (.int .i64 0) := HZ4.out.cell 0
      have q1 : w9.cell? ⟨g4, 1, none⟩ = some (.slice none 0 0) := HZ4.out.cell 1
      have q2 : w9.cell? ⟨g4, 2, none⟩ = some (.slice none 0 0) := HZ4.out.cell 2
      have p0 : w9.frozen? ⟨g4, 0, none⟩ = false := HZ4.out.frozen 0
      have p1 : w9.frozen? ⟨g4, 1, none⟩ = false := HZ4.out.frozen 1
      have p2 : w9.frozen? ⟨g4, 2, none⟩ = false := HZ4.out.frozen 2
      have HQ := Lib.hid (((HZ4.out.set_ 0 (.int .i64 z.pc)).set_ 1 (.slice z.sA z.st.length z.sc)).set_ 2 (.slice z.cA z.ca.length z.cc))
      have HOW := Lib.hid (HZO.out.set3 HZ4.out (.int .i64 z.pc) (.slice z.sA z.st.length z.sc) (.slice z.cA z.ca.length z.cc))
      have HBF := Lib.hid (((HZB.out.setCell (p := ⟨g4, 0, none⟩) (by have := HGS.out; simp only; omega) (.int .i64 z.pc)).setCell (p := ⟨g4, 1, none⟩) (by have := HGS.out; simp only; omega) (.slice z.sA z.st.length z.sc)).setCell (p := ⟨g4, 2, none⟩) (by have := HGS.out; simp only; omega) (.slice z.cA z.ca.length z.cc))
      go_wp2
      generalize World.setCell _ ⟨g4, 2, none⟩ _ = WF at HQ HOW HBF ⊢
      have y0 : WF.cell? ⟨g4, 0, none⟩ = some (.int .i64 z.pc) := HQ.out.cell 0
      have y1 : WF.cell? ⟨g4, 1, none⟩ = some (.slice z.sA z.st.length z.sc) := HQ.out.cell 1
      have y2 : WF.cell? ⟨g4, 2, none⟩ = some (.slice z.cA z.ca.length z.cc) := HQ.out.cell 2
      refine bodyPost_ret (v := .tuple #[.agg #[.int .i64 z.pc, .slice z.sA z.st.length z.sc, .slice z.cA z.ca.length z.cc], .int .i64 1]) (by simp [results, Try.results23, go_sem, y0, y1, y2]) rfl ?_
      exact ⟨z, by rw [show stepV bs (Mc.v ⟨ypc, yst, sA, sc, yca, cA, cc⟩) = _ from HR.out]; rfl, by rw [show stepV bs (Mc.v ⟨ypc, yst, sA, sc, yca, cA, cc⟩) = _ from HR.out]; exact HZV.out, HOW.out, HBF.out⟩
    · have HSX : Hid (stepV bs (ypc, yst, yca) = (if (doV en yst yca d a).2 = true then ((doV en yst yca d a).1, 0) else ((ypc, yst, yca), 2))) := by rw [HSW.out, if_neg hen]; exact if_neg hd
      have hgd := HGD2.out
      have HGA2 : Hid (0 ≤ a ∧ a ≤ 65535 ∧ 0 ≤ en) := by show _ ∧ _ ∧ _; omega
      clear HSW HGD HGD2
      rcases (by omega : d = 1 ∨ d = 2 ∨ d = 3 ∨ d = 4 ∨ d = 5 ∨ d = 6 ∨ d = 7) with hd1 | hd1 | hd1 | hd1 | hd1 | hd1 | hd1
      · subst hd1
        clear hd hgd
        have b0 : w6.cell? ⟨g6, 0, none⟩ = some (.int .i64 en) := HM6.out.b.cell 0
        have b1 : w6.cell? ⟨g6, 1, none⟩ = some (.slice xsA yst.length xsc) := HM6.out.b.cell 1
        have b2 : w6.cell? ⟨g6, 2, none⟩ = some (.slice xcA yca.length xcc) := HM6.out.b.cell 2
        have k0 : w6.cell? ⟨g7, 0, none⟩ = some (.int .i64 1) := HM6.out.c.cell 0
        have k1 : w6.cell? ⟨g7, 1, none⟩ = some (.int .i64 a) := HM6.out.c.cell 1
        have f0 : w6.frozen? ⟨g6, 0, none⟩ = false := HM6.out.b.frozen 0
        have f1 : w6.frozen? ⟨g6, 1, none⟩ = false := HM6.out.b.frozen 1
        have f2 : w6.frozen? ⟨g6, 2, none⟩ = false := HM6.out.b.frozen 2
        have m1 : w6.cell? ⟨g2, 1, none⟩ = some (.slice sA yst.length sc) := (H2W.out w6 HM6.out.bl).cell 1
        have m2 : w6.cell? ⟨g2, 2, none⟩ = some (.slice cA yca.length cc) := (H2W.out w6 HM6.out.bl).cell 2
        have HRL : Hid (∀ wl, wl = w6.alloc (.cells #[.int .i64 a] 3) → Reads wl wl.heap.size 1 (some ⟨w6.heap.size, 0, none⟩) 1 [.int .i64 a]) := fun wl hwl => by rw [hwl]; exact reads_one (Blk.new _ _ _)
        have HML := Lib.hid (HM6.out.below ((Below.refl _ _).alloc (Nat.le_refl _) (.cells #[.int .i64 a] 3)))
        go_wp2_with (at_builtin; refine wpList_append_any _ rfl (.tmp 47) (.tmp 50) _ rfl w1.heap.size 3 i0 _ 1 8 Try.underlying22 hi0 HZZ.out hz1 hz2 rfl (by omega) (.slice xsA yst.length xsc) yst.length (nums .i64 (yst.take yst.length)) rfl (by rw [List.take_length]; exact HML.out.own.os) (w6.alloc (.cells #[.int .i64 a] 3)).heap.size (some ⟨w6.heap.size, 0, none⟩) 1 1 [.int .i64 a] rfl (by exact HRL.out _ rfl) (by simp [Value.oneCell']) (by unfold maxLen; omega) (by omega) (by exact HML.out.lt.2.2.2) ?_; intro v' w7 ho hg hat; obtain ⟨A9, c9, rfl⟩ := own_sliceM ho; have hX := HML.out.pushSt0 (k := yst.length) (Nat.le_refl _) hg ho hat; have x0_ : w7.cell? ⟨g6, 0, none⟩ = some (.int .i64 en) := hX.b.cell 0; have x1_ : w7.cell? ⟨g6, 1, none⟩ = some (.slice xsA yst.length xsc) := hX.b.cell 1; have x2_ : w7.cell? ⟨g6, 2, none⟩ = some (.slice xcA yca.length xcc) := hX.b.cell 2; have kk_ : w7.cell? ⟨g7, 1, none⟩ = some (.int .i64 a) := hX.c.cell 1; have f0_ : w7.frozen? ⟨g6, 0, none⟩ = false := hX.b.frozen 0; have f1_ : w7.frozen? ⟨g6, 1, none⟩ = false := hX.b.frozen 1; have HX9 := Lib.hid (hX.set_ 1 (.slice A9 (yst.length + 1) c9)); clear ho hg hat hX)
        have HMF : Hid (XM w1 w1.heap.size w1.heap.size g6 g7 1 a ⟨en, yst.take yst.length ++ [a], A9, c9, yca, xcA, xcc⟩ (w7.setCell ⟨g6, 1, none⟩ (.slice A9 (yst.length + 1) c9))) := HX9.out.toXM (by simp [Mc.cells])
        clear HX9 x0_ x1_ x2_ kk_ f0_ f1_ HML HRL HM6
        clear b0 b1 b2 k0 k1 f0 f1 f2 m1 m2
        generalize (w7.setCell ⟨g6, 1, none⟩ (.slice A9 (yst.length + 1) c9)) = wF at HMF ⊢
        have elen : (yst.take yst.length ++ [a]).length = yst.length + 1 := by simp
        by_cases h8 : yst.length + 1 ≤ 8
        · have HDV : Hid (doV en yst yca 1 a = ((en, yst.take yst.length ++ [a], yca), true)) := by
            have h := doV_1 en a yst yca
            rw [decide_eq_true h8] at h
            exact h
          have HMO : Hid (mOk ((en, yst.take yst.length ++ [a], yca) : McV).1 ((en, yst.take yst.length ++ [a], yca) : McV).2.1 ((en, yst.take yst.length ++ [a], yca) : McV).2.2 = true) := by
            have h := doV_ok (pc := en) (st := yst) (ca := yca) (mOk_of HGA2.out.2.2 q2 q3 HP4.out HP5.out) ⟨HGA2.out.1, HGA2.out.2.1⟩ (by rw [HDV.out])
            rw [HDV.out] at h
            exact h
          have HC : Hid (Calls Try.prog 20 #[Mc.val ⟨en, yst.take yst.length ++ [a], A9, c9, yca, xcA, xcc⟩] wF (Gives wF (.bool true))) := by
            have h := specMOk_any ⟨en, yst.take yst.length ++ [a], A9, c9, yca, xcA, xcc⟩ wF HMF.out.own.at_ (Nat.le_refl _) ⟨by simp; omega, by simp; omega⟩
            rw [show mOk (Mc.pc ⟨en, yst.take yst.length ++ [a], A9, c9, yca, xcA, xcc⟩) (Mc.st ⟨en, yst.take yst.length ++ [a], A9, c9, yca, xcA, xcc⟩) (Mc.ca ⟨en, yst.take yst.length ++ [a], A9, c9, yca, xcA, xcc⟩) = true from HMO.out] at h
            exact h
          simp only [Mc.val, elen] at HC
          refine HC.out.mono ?_
          rintro e w8 ⟨rfl, s9⟩
          have HMG := Lib.hid (HMF.out.below s9)
          clear HC HMF s9 HMO
          have HR : Hid (stepV bs (ypc, yst, yca) = ((en, yst.take yst.length ++ [a], yca), 0)) := by rw [HSX.out, HDV.out]; exact if_pos rfl
          obtain ⟨z, hz⟩ : ∃ z : Mc, z = ⟨en, yst.take yst.length ++ [a], A9, c9, yca, xcA, xcc⟩ := ⟨_, rfl⟩
          rw [← hz] at HMG
          have HZV : Hid (z.v = (en, yst.take yst.length ++ [a], yca)) := by rw [hz]; rfl
          clear hz HDV HSX
          have k0 : w8.cell? ⟨g6, 0, none⟩ = some (.int .i64 z.pc) := HMG.out.b.cell 0
          have k1 : w8.cell? ⟨g6, 1, none⟩ = some (.slice z.sA z.st.length z.sc) := HMG.out.b.cell 1
          have k2 : w8.cell? ⟨g6, 2, none⟩ = some (.slice z.cA z.ca.length z.cc) := HMG.out.b.cell 2
          have HZO := Lib.hid (HMG.out.own.base (HBW.out w1 (Below.refl _ _)).size)
          have HZ4 := Lib.hid (H4W.out w8 HMG.out.bl)
          have HZB := Lib.hid (HBW.out w8 HMG.out.bl)
          have q0 : w8.cell? ⟨g4, 0, none⟩ = some (.int .i64 0) := HZ4.out.cell 0
          have q1 : w8.cell? ⟨g4, 1, none⟩ = some (.slice none 0 0) := HZ4.out.cell 1
          have q2 : w8.cell? ⟨g4, 2, none⟩ = some (.slice none 0 0) := HZ4.out.cell 2
          have p0 : w8.frozen? ⟨g4, 0, none⟩ = false := HZ4.out.frozen 0
          have p1 : w8.frozen? ⟨g4, 1, none⟩ = false := HZ4.out.frozen 1
          have p2 : w8.frozen? ⟨g4, 2, none⟩ = false := HZ4.out.frozen 2
          have HQ := Lib.hid (((HZ4.out.set_ 0 (.int .i64 z.pc)).set_ 1 (.slice z.sA z.st.length z.sc)).set_ 2 (.slice z.cA z.ca.length z.cc))
          have HOW := Lib.hid (HZO.out.set3 HZ4.out (.int .i64 z.pc) (.slice z.sA z.st.length z.sc) (.slice z.cA z.ca.length z.cc))
          have HBF := Lib.hid (((HZB.out.setCell (p := ⟨g4, 0, none⟩) (by have := HGS.out; simp only; omega) (.int .i64 z.pc)).setCell (p := ⟨g4, 1, none⟩) (by have := HGS.out; simp only; omega) (.slice z.sA z.st.length z.sc)).setCell (p := ⟨g4, 2, none⟩) (by have := HGS.out; simp only; omega) (.slice z.cA z.ca.length z.cc))
          go_wp2
          generalize World.setCell _ ⟨g4, 2, none⟩ _ = WF at HQ HOW HBF ⊢
          have y0 : WF.cell? ⟨g4, 0, none⟩ = some (.int .i64 z.pc) := HQ.out.cell 0
          have y1 : WF.cell? ⟨g4, 1, none⟩ = some (.slice z.sA z.st.length z.sc) := HQ.out.cell 1
          have y2 : WF.cell? ⟨g4, 2, none⟩ = some (.slice z.cA z.ca.length z.cc) := HQ.out.cell 2
          refine bodyPost_ret (v := .tuple #[.agg #[.int .i64 z.pc, .slice z.sA z.st.length z.sc, .slice z.cA z.ca.length z.cc], .int .i64 0]) (by simp [results, Try.results23, go_sem, y0, y1, y2]) rfl ?_
          exact ⟨z, by rw [show stepV bs (Mc.v ⟨ypc, yst, sA, sc, yca, cA, cc⟩) = _ from HR.out]; rfl, by rw [show stepV bs (Mc.v ⟨ypc, yst, sA, sc, yca, cA, cc⟩) = _ from HR.out]; exact HZV.out, HOW.out, HBF.out⟩
        · have HDV : Hid (doV en yst yca 1 a = ((en, yst.take yst.length ++ [a], yca), false)) := by
            have h := doV_1 en a yst yca
            rw [decide_eq_false h8] at h
            exact h
          have HMO : Hid (mOk en (yst.take yst.length ++ [a]) yca = false) := doV_bad1 h8
          have HC : Hid (Calls Try.prog 20 #[Mc.val ⟨en, yst.take yst.length ++ [a], A9, c9, yca, xcA, xcc⟩] wF (Gives wF (.bool false))) := by
            have h := specMOk_any ⟨en, yst.take yst.length ++ [a], A9, c9, yca, xcA, xcc⟩ wF HMF.out.own.at_ (Nat.le_refl _) ⟨by simp; omega, by simp; omega⟩
            rw [show mOk (Mc.pc ⟨en, yst.take yst.length ++ [a], A9, c9, yca, xcA, xcc⟩) (Mc.st ⟨en, yst.take yst.length ++ [a], A9, c9, yca, xcA, xcc⟩) (Mc.ca ⟨en, yst.take yst.length ++ [a], A9, c9, yca, xcA, xcc⟩) = false from HMO.out] at h
            exact h
          simp only [Mc.val, elen] at HC
          refine HC.out.mono ?_
          rintro e w8 ⟨rfl, s9⟩
          have HMG := Lib.hid (HMF.out.below s9)
          clear HC HMF s9 HMO
          have HR : Hid (stepV bs (ypc, yst, yca) = ((ypc, yst, yca), 2)) := by rw [HSX.out, HDV.out]; exact if_neg (by simp)
          have HGq := Lib.hid (HBW.out w8 HMG.out.bl)
          have H2q := Lib.hid (H2W.out w8 HMG.out.bl)
          have H4q := Lib.hid (H4W.out w8 HMG.out.bl)
          have c0 : w8.cell? ⟨g2, 0, none⟩ = some (.int .i64 ypc) := H2q.out.cell 0
          have c1 : w8.cell? ⟨g2, 1, none⟩ = some (.slice sA yst.length sc) := H2q.out.cell 1
          have c2 : w8.cell? ⟨g2, 2, none⟩ = some (.slice cA yca.length cc) := H2q.out.cell 2
          go_wp2_with fail
          refine (HCP.out w8 HGq.out).mono ?_
          rintro e w9 ⟨z, rfl, hzv, hzo, s9⟩
          have HZV := Lib.hid hzv
          have HZO := Lib.hid (hzo.base HGq.out.size)
          have HZ4 := Lib.hid (H4q.out.below s9 H4q.out.lt)
          have HZB := Lib.hid (HGq.out.trans (s9.mono HGq.out.size))
          clear hzv hzo s9 c0 c1 c2
          have q0 : w9.cell? ⟨g4, 0, none⟩ = some (.int .i64 0) := HZ4.out.cell 0
          have q1 : w9.cell? ⟨g4, 1, none⟩ = some (.slice none 0 0) := HZ4.out.cell 1
          have q2 : w9.cell? ⟨g4, 2, none⟩ = some (.slice none 0 0) := HZ4.out.cell 2
          have p0 : w9.frozen? ⟨g4, 0, none⟩ = false := HZ4.out.frozen 0
          have p1 : w9.frozen? ⟨g4, 1, none⟩ = false := HZ4.out.frozen 1
          have p2 : w9.frozen? ⟨g4, 2, none⟩ = false := HZ4.out.frozen 2
          have HQ := Lib.hid (((HZ4.out.set_ 0 (.int .i64 z.pc)).set_ 1 (.slice z.sA z.st.length z.sc)).set_ 2 (.slice z.cA z.ca.length z.cc))
          have HOW := Lib.hid (HZO.out.set3 HZ4.out (.int .i64 z.pc) (.slice z.sA z.st.length z.sc) (.slice z.cA z.ca.length z.cc))
          have HBF := Lib.hid (((HZB.out.setCell (p := ⟨g4, 0, none⟩) (by have := HGS.out; simp only; omega) (.int .i64 z.pc)).setCell (p := ⟨g4, 1, none⟩) (by have := HGS.out; simp only; omega) (.slice z.sA z.st.length z.sc)).setCell (p := ⟨g4, 2, none⟩) (by have := HGS.out; simp only; omega) (.slice z.cA z.ca.length z.cc))
          go_wp2
          generalize World.setCell _ ⟨g4, 2, none⟩ _ = WF at HQ HOW HBF ⊢
          have y0 : WF.cell? ⟨g4, 0, none⟩ = some (.int .i64 z.pc) := HQ.out.cell 0
          have y1 : WF.cell? ⟨g4, 1, none⟩ = some (.slice z.sA z.st.length z.sc) := HQ.out.cell 1
          have y2 : WF.cell? ⟨g4, 2, none⟩ = some (.slice z.cA z.ca.length z.cc) := HQ.out.cell 2
          refine bodyPost_ret (v := .tuple #[.agg #[.int .i64 z.pc, .slice z.sA z.st.length z.sc, .slice z.cA z.ca.length z.cc], .int .i64 2]) (by simp [results, Try.results23, go_sem, y0, y1, y2]) rfl ?_
          exact ⟨z, by rw [show stepV bs (Mc.v ⟨ypc, yst, sA, sc, yca, cA, cc⟩) = _ from HR.out]; rfl, by rw [show stepV bs (Mc.v ⟨ypc, yst, sA, sc, yca, cA, cc⟩) = _ from HR.out]; exact HZV.out, HOW.out, HBF.out⟩
      · subst hd1
        clear hd hgd
        by_cases hl : yst.length < 2
        · have HDV : Hid (doV en yst yca 2 a = ((en, yst, yca), false)) := doV_23n en a yst yca (d := 2) (by omega) hl
          have HR : Hid (stepV bs (ypc, yst, yca) = ((ypc, yst, yca), 2)) := by rw [HSX.out, HDV.out]; exact if_neg (by simp)
          clear HSX HDV
          have b0 : w6.cell? ⟨g6, 0, none⟩ = some (.int .i64 en) := HM6.out.b.cell 0
          have b1 : w6.cell? ⟨g6, 1, none⟩ = some (.slice xsA yst.length xsc) := HM6.out.b.cell 1
          have b2 : w6.cell? ⟨g6, 2, none⟩ = some (.slice xcA yca.length xcc) := HM6.out.b.cell 2
          have k0 : w6.cell? ⟨g7, 0, none⟩ = some (.int .i64 2) := HM6.out.c.cell 0
          have k1 : w6.cell? ⟨g7, 1, none⟩ = some (.int .i64 a) := HM6.out.c.cell 1
          have f0 : w6.frozen? ⟨g6, 0, none⟩ = false := HM6.out.b.frozen 0
          have f1 : w6.frozen? ⟨g6, 1, none⟩ = false := HM6.out.b.frozen 1
          have f2 : w6.frozen? ⟨g6, 2, none⟩ = false := HM6.out.b.frozen 2
          have m1 : w6.cell? ⟨g2, 1, none⟩ = some (.slice sA yst.length sc) := (H2W.out w6 HM6.out.bl).cell 1
          have m2 : w6.cell? ⟨g2, 2, none⟩ = some (.slice cA yca.length cc) := (H2W.out w6 HM6.out.bl).cell 2
          have hq : ¬ (1 : Int) ≤ (yst.length : Int) - 1 := by omega
          have HGq := Lib.hid (HBW.out w6 HM6.out.bl)
          have H2q := Lib.hid (H2W.out w6 HM6.out.bl)
          have H4q := Lib.hid (H4W.out w6 HM6.out.bl)
          have c0 : w6.cell? ⟨g2, 0, none⟩ = some (.int .i64 ypc) := H2q.out.cell 0
          have c1 : w6.cell? ⟨g2, 1, none⟩ = some (.slice sA yst.length sc) := H2q.out.cell 1
          have c2 : w6.cell? ⟨g2, 2, none⟩ = some (.slice cA yca.length cc) := H2q.out.cell 2
          go_wp2_with fail
          refine (HCP.out w6 HGq.out).mono ?_
          rintro e w9 ⟨z, rfl, hzv, hzo, s9⟩
          have HZV := Lib.hid hzv
          have HZO := Lib.hid (hzo.base HGq.out.size)
          have HZ4 := Lib.hid (H4q.out.below s9 H4q.out.lt)
          have HZB := Lib.hid (HGq.out.trans (s9.mono HGq.out.size))
          clear hzv hzo s9 c0 c1 c2
          have q0 : w9.cell? ⟨g4, 0, none⟩ = some (.int .i64 0) := HZ4.out.cell 0
          have q1 : w9.cell? ⟨g4, 1, none⟩ = some (.slice none 0 0) := HZ4.out.cell 1
          have q2 : w9.cell? ⟨g4, 2, none⟩ = some (.slice none 0 0) := HZ4.out.cell 2
          have p0 : w9.frozen? ⟨g4, 0, none⟩ = false := HZ4.out.frozen 0
          have p1 : w9.frozen? ⟨g4, 1, none⟩ = false := HZ4.out.frozen 1
          have p2 : w9.frozen? ⟨g4, 2, none⟩ = false := HZ4.out.frozen 2
          have HQ := Lib.hid (((HZ4.out.set_ 0 (.int .i64 z.pc)).set_ 1 (.slice z.sA z.st.length z.sc)).set_ 2 (.slice z.cA z.ca.length z.cc))
          have HOW := Lib.hid (HZO.out.set3 HZ4.out (.int .i64 z.pc) (.slice z.sA z.st.length z.sc) (.slice z.cA z.ca.length z.cc))
          have HBF := Lib.hid (((HZB.out.setCell (p := ⟨g4, 0, none⟩) (by have := HGS.out; simp only; omega) (.int .i64 z.pc)).setCell (p := ⟨g4, 1, none⟩) (by have := HGS.out; simp only; omega) (.slice z.sA z.st.length z.sc)).setCell (p := ⟨g4, 2, none⟩) (by have := HGS.out; simp only; omega) (.slice z.cA z.ca.length z.cc))
          go_wp2
          generalize World.setCell _ ⟨g4, 2, none⟩ _ = WF at HQ HOW HBF ⊢
          have y0 : WF.cell? ⟨g4, 0, none⟩ = some (.int .i64 z.pc) := HQ.out.cell 0
          have y1 : WF.cell? ⟨g4, 1, none⟩ = some (.slice z.sA z.st.length z.sc) := HQ.out.cell 1
          have y2 : WF.cell? ⟨g4, 2, none⟩ = some (.slice z.cA z.ca.length z.cc) := HQ.out.cell 2
          refine bodyPost_ret (v := .tuple #[.agg #[.int .i64 z.pc, .slice z.sA z.st.length z.sc, .slice z.cA z.ca.length z.cc], .int .i64 2]) (by simp [results, Try.results23, go_sem, y0, y1, y2]) rfl ?_
          exact ⟨z, by rw [show stepV bs (Mc.v ⟨ypc, yst, sA, sc, yca, cA, cc⟩) = _ from HR.out]; rfl, by rw [show stepV bs (Mc.v ⟨ypc, yst, sA, sc, yca, cA, cc⟩) = _ from HR.out]; exact HZV.out, HOW.out, HBF.out⟩
        · obtain ⟨n, hn1, hn2⟩ : ∃ n, yst.length ≤ n + 2 ∧ n + 2 ≤ yst.length := ⟨yst.length - 2, by omega, by omega⟩
          have e5 : (yst.length : Int) - 1 = (n : Int) + 1 := by omega
          have hq : (1 : Int) ≤ (n : Int) + 1 := by omega
          have HVV := Lib.hid (doV_23 en a yst yca (d := 2) (by omega) hl)
          rw [show yst.length - 2 = n from by omega, show yst.length - 1 = n + 1 from by omega] at HVV
          obtain ⟨b, off, hA, _, _⟩ := (HRS.out w6 HM6.out.bl).row_ (by omega) (by omega)
          have HA := Lib.hid hA
          obtain ⟨gs, hA2, _⟩ := row_at HM6.out.own.os (by show 0 < yst.length; omega)
          have HA2 := Lib.hid hA2
          obtain ⟨u, hu⟩ : ∃ u, u = yst.getD n 0 := ⟨_, rfl⟩
          obtain ⟨y, hy⟩ : ∃ y, y = yst.getD (n + 1) 0 := ⟨_, rfl⟩
          have HX0 : Hid (0 ≤ u ∧ u ≤ 65535) := by rw [hu]; exact HP4.out _ (getD_mem (by omega))
          have HY0 : Hid (0 ≤ y ∧ y ≤ 65535) := by rw [hy]; exact HP4.out _ (getD_mem (by omega))
          have HCU : Hid (∀ wq, Below w1.heap.size w1 wq → wq.cell? ⟨b, off + n, none⟩ = some (.int .i64 u)) := fun wq hb => by
            rw [hu]
            obtain ⟨b', off', hA', _, hcs⟩ := (HRS.out wq hb).row_ (by omega) (by omega)
            rw [HA.out] at hA'
            injection hA' with hA'
            injection hA' with e1 e2
            subst e1 e2
            exact hcs n _ (by simp [nums, List.getD_eq_getElem?_getD, show n < yst.length by omega])
          have HCY : Hid (∀ wq, Below w1.heap.size w1 wq → wq.cell? ⟨b, off + (n + 1), none⟩ = some (.int .i64 y)) := fun wq hb => by
            rw [hy]
            obtain ⟨b', off', hA', _, hcs⟩ := (HRS.out wq hb).row_ (by omega) (by omega)
            rw [HA.out] at hA'
            injection hA' with hA'
            injection hA' with e1 e2
            subst e1 e2
            exact hcs (n + 1) _ (by simp [nums, List.getD_eq_getElem?_getD, show n + 1 < yst.length by omega])
          rw [← hu, ← hy] at HVV
          have HDV : Hid (doV en yst yca 2 a = ((en, yst.take n ++ [((u + y) % 65536)], yca), true)) := by
            have h := HVV.out
            rw [show arith 2 u y = ((u + y) % 65536) from by unfold arith; simp] at h
            exact h
          obtain ⟨hcap, hcm⟩ : yst.length ≤ xsc ∧ xsc ≤ maxLen := own_le_cap HM6.out.own.os
          unfold maxLen at hcm
          clear hu hy hA hA2 HVV hl
          have b0 : w6.cell? ⟨g6, 0, none⟩ = some (.int .i64 en) := HM6.out.b.cell 0
          have b1 : w6.cell? ⟨g6, 1, none⟩ = some (.slice xsA yst.length xsc) := HM6.out.b.cell 1
          have b2 : w6.cell? ⟨g6, 2, none⟩ = some (.slice xcA yca.length xcc) := HM6.out.b.cell 2
          have k0 : w6.cell? ⟨g7, 0, none⟩ = some (.int .i64 2) := HM6.out.c.cell 0
          have k1 : w6.cell? ⟨g7, 1, none⟩ = some (.int .i64 a) := HM6.out.c.cell 1
          have f0 : w6.frozen? ⟨g6, 0, none⟩ = false := HM6.out.b.frozen 0
          have f1 : w6.frozen? ⟨g6, 1, none⟩ = false := HM6.out.b.frozen 1
          have f2 : w6.frozen? ⟨g6, 2, none⟩ = false := HM6.out.b.frozen 2
          have m1 : w6.cell? ⟨g2, 1, none⟩ = some (.slice sA yst.length sc) := (H2W.out w6 HM6.out.bl).cell 1
          have m2 : w6.cell? ⟨g2, 2, none⟩ = some (.slice cA yca.length cc) := (H2W.out w6 HM6.out.bl).cell 2
          go_wp2
          try rw [e5]
          clear b0 b1 b2 k0 k1 f0 f1 f2 m1 m2
          clear e5 hq
          refine wp_region_facts (fun i v wv => match i with
              | 0 => v = .pointer (some ⟨g6, 1, none⟩)
              | 1 => v = .slice xsA yst.length xsc
              | 2 => v = .int .i64 ((n : Int) + 1)
              | 3 => v = .int .i64 (n : Int)
              | 4 => v = .slice xsA n xsc
              | 5 => v = .pointer (some ⟨g2, 1, none⟩)
              | 6 => v = .slice sA yst.length sc
              | 7 => v = .int .i64 ((n : Int) + 1)
              | 8 => v = .int .i64 (n : Int)
              | 9 => v = .pointer (some ⟨b, off + n, none⟩)
              | 10 => v = .int .i64 u
              | 11 => v = .pointer (some ⟨g2, 1, none⟩)
              | 12 => v = .slice sA yst.length sc
              | 13 => v = .int .i64 ((n : Int) + 1)
              | 14 => v = .pointer (some ⟨b, off + (n + 1), none⟩)
              | 15 => v = .int .i64 y
              | 16 => v = .int .i64 (u + y)
              | 17 => v = .int .i64 ((u + y) % 65536)
              | 18 => True
              | 19 => True
              | 20 => v = .pointer (some ⟨g6, 1, none⟩)
              | _ => True)
            (fun fl vs wq => Below w1.heap.size w1 wq ∧ (fl 19 = false → XM w1 w1.heap.size w1.heap.size g6 g7 2 a ⟨en, yst, xsA, xsc, yca, xcA, xcc⟩ wq) ∧ (fl 18 = true → fl 19 = false → ∃ gl, vs 18 = .slice (some ⟨gl, 0, none⟩) 1 1 ∧ Blk wq gl 3 #[.int .i64 ((u + y) % 65536)]) ∧ (fl 19 = true → ∃ (A9 : Option Addr) (c9 : Nat), vs 19 = .slice A9 (n + 1) c9 ∧ XC w1 w1.heap.size w1.heap.size g6 g7 2 a #[.int .i64 en, (if fl 21 = true then Value.slice A9 (n + 1) c9 else .slice xsA yst.length xsc), .slice xcA yca.length xcc] ⟨en, yst.take n ++ [((u + y) % 65536)], A9, c9, yca, xcA, xcc⟩ wq)) (fun _ _ => True) (by kernel_rfl) (by kernel_rfl) ?_ ?_ ?_ ?_
          · intro i v u u2 hk h
            exact h
          · intro fl vs hfl
            have zl := hfl 18 (by simp)
            have za := hfl 19 (by simp)
            have hM := HM6.out.below (below_drewN (Below.refl _ _) 1)
            exact ⟨hM.bl, fun _ => hM, fun h => by simp [zl] at h, fun h => by simp [za] at h⟩
          · refine ⟨?_, ?_, ?_, ?_, ?_, ?_, ?_, ?_, ?_, ?_, ?_, ?_, ?_, ?_, ?_, ?_, ?_, ?_, ?_, ?_, ?_, ?_, trivial⟩
            all_goals intro fl vs wr9 a1 hc hG hfi hcl hp K hK
            · have g0_ : a1.eval (.tmp 6) = .pointer (some ⟨g6, 0, none⟩) := hc.ev0 6 rfl
              unfold Oper.wp execOp
              simp only [g0_]
              go_simp
              exact hK _ _ trivial rfl (by simpa [upd] using hG)
            · have n_19 : fl 19 = false := by cases h : fl 19 with
                | false => rfl
                | true =>
                  have h4 := hcl 19 4 (by kernel_rfl) h
                  have h1 := hcl 4 1 (by kernel_rfl) h4
                  rw [show fl 1 = false from hfi] at h1; cases h1
              have e0 := hc.ev 130 0 rfl
              rw [show vs 0 = _ from (hp 0 (by kernel_rfl)).2] at e0
              have c0 : wr9.cell? ⟨g6, 1, none⟩ = some (.slice xsA yst.length xsc) := (hG.2.1 n_19).b.cell 1
              unfold Oper.wp execOp
              simp only [e0]
              go_simp
              exact hK _ _ trivial rfl (by simpa [upd] using hG)
            · refine op_move rfl ?_
              rw [hc.ev0 _ rfl]
              exact hK _ _ trivial rfl (by simpa [upd] using hG)
            · have e0 := hc.ev 132 2 rfl
              rw [show vs 2 = _ from (hp 2 (by kernel_rfl)).2] at e0
              have ww : IntKind.i64.wrap (n : Int) = (n : Int) := IntWalk.i64_in _ (by omega)
              unfold Oper.wp execOp
              simp only [e0]
              go_simp
              exact hK _ _ trivial rfl (by simpa [upd] using hG)
            · have e0 := hc.ev 131 1 rfl
              rw [show vs 1 = _ from (hp 1 (by kernel_rfl)).2, HA2.out] at e0
              have e1 := hc.ev 133 3 rfl
              rw [show vs 3 = _ from (hp 3 (by kernel_rfl)).2] at e1
              have i1 : (0 : Int) ≤ (n : Int) := Int.natCast_nonneg _
              have i2 : (n : Int) < (yst.length : Int) := by omega
              have i3 : (n : Int) + 1 < (yst.length : Int) := by omega
              have i4 : (0 : Int) ≤ (n : Int) + 1 := by omega
              have y1 : (n : Int) ≤ (xsc : Int) := by omega
              have y3 : (n : Int) ≤ (yst.length : Int) := by omega
              have y4 : (yst.length : Int) ≤ (xsc : Int) := by omega
              unfold Oper.wp execOp
              simp only [e0, e1, Option.map_some, Option.map_none]
              go_simp
              exact hK _ _ trivial (by show Value.slice _ _ _ = Value.slice xsA _ _; rw [HA2.out]) (by simpa [upd] using hG)
            · have g0_ : a1.eval (.tmp 2) = .pointer (some ⟨g2, 0, none⟩) := hc.ev0 2 rfl
              unfold Oper.wp execOp
              simp only [g0_]
              go_simp
              exact hK _ _ trivial rfl (by simpa [upd] using hG)
            · have e0 := hc.ev 135 5 rfl
              rw [show vs 5 = _ from (hp 5 (by kernel_rfl)).2] at e0
              have c0 : wr9.cell? ⟨g2, 1, none⟩ = some (.slice sA yst.length sc) := (H2W.out wr9 hG.1).cell 1
              unfold Oper.wp execOp
              simp only [e0]
              go_simp
              exact hK _ _ trivial rfl (by simpa [upd] using hG)
            · refine op_move rfl ?_
              rw [hc.ev0 _ rfl]
              exact hK _ _ trivial rfl (by simpa [upd] using hG)
            · have e0 := hc.ev 137 7 rfl
              rw [show vs 7 = _ from (hp 7 (by kernel_rfl)).2] at e0
              have ww : IntKind.i64.wrap (n : Int) = (n : Int) := IntWalk.i64_in _ (by omega)
              unfold Oper.wp execOp
              simp only [e0]
              go_simp
              exact hK _ _ trivial rfl (by simpa [upd] using hG)
            · have e0 := hc.ev 136 6 rfl
              rw [show vs 6 = _ from (hp 6 (by kernel_rfl)).2, HA.out] at e0
              have e1 := hc.ev 138 8 rfl
              rw [show vs 8 = _ from (hp 8 (by kernel_rfl)).2] at e1
              have i1 : (0 : Int) ≤ (n : Int) := Int.natCast_nonneg _
              have i2 : (n : Int) < (yst.length : Int) := by omega
              have i3 : (n : Int) + 1 < (yst.length : Int) := by omega
              have i4 : (0 : Int) ≤ (n : Int) + 1 := by omega
              have y1 : (n : Int) ≤ (xsc : Int) := by omega
              have y3 : (n : Int) ≤ (yst.length : Int) := by omega
              have y4 : (yst.length : Int) ≤ (xsc : Int) := by omega
              unfold Oper.wp execOp
              simp only [e0, e1]
              go_simp
              exact hK _ _ trivial (by first | rfl | simp) (by simpa [upd] using hG)
            · have e0 := hc.ev 139 9 rfl
              rw [show vs 9 = _ from (hp 9 (by kernel_rfl)).2] at e0
              have c0 : wr9.cell? ⟨b, off + n, none⟩ = some (.int .i64 u) := HCU.out wr9 hG.1
              unfold Oper.wp execOp
              simp only [e0]
              go_simp
              exact hK _ _ trivial rfl (by simpa [upd] using hG)
            · have g0_ : a1.eval (.tmp 2) = .pointer (some ⟨g2, 0, none⟩) := hc.ev0 2 rfl
              unfold Oper.wp execOp
              simp only [g0_]
              go_simp
              exact hK _ _ trivial rfl (by simpa [upd] using hG)
            · have e0 := hc.ev 141 11 rfl
              rw [show vs 11 = _ from (hp 11 (by kernel_rfl)).2] at e0
              have c0 : wr9.cell? ⟨g2, 1, none⟩ = some (.slice sA yst.length sc) := (H2W.out wr9 hG.1).cell 1
              unfold Oper.wp execOp
              simp only [e0]
              go_simp
              exact hK _ _ trivial rfl (by simpa [upd] using hG)
            · refine op_move rfl ?_
              rw [hc.ev0 _ rfl]
              exact hK _ _ trivial rfl (by simpa [upd] using hG)
            · have e0 := hc.ev 142 12 rfl
              rw [show vs 12 = _ from (hp 12 (by kernel_rfl)).2, HA.out] at e0
              have e1 := hc.ev 143 13 rfl
              rw [show vs 13 = _ from (hp 13 (by kernel_rfl)).2] at e1
              have i1 : (0 : Int) ≤ (n : Int) := Int.natCast_nonneg _
              have i2 : (n : Int) < (yst.length : Int) := by omega
              have i3 : (n : Int) + 1 < (yst.length : Int) := by omega
              have i4 : (0 : Int) ≤ (n : Int) + 1 := by omega
              have y1 : (n : Int) ≤ (xsc : Int) := by omega
              have y3 : (n : Int) ≤ (yst.length : Int) := by omega
              have y4 : (yst.length : Int) ≤ (xsc : Int) := by omega
              unfold Oper.wp execOp
              simp only [e0, e1]
              go_simp
              exact hK _ _ trivial (by first | rfl | simp) (by simpa [upd] using hG)
            · have e0 := hc.ev 144 14 rfl
              rw [show vs 14 = _ from (hp 14 (by kernel_rfl)).2] at e0
              have c0 : wr9.cell? ⟨b, off + (n + 1), none⟩ = some (.int .i64 y) := HCY.out wr9 hG.1
              unfold Oper.wp execOp
              simp only [e0]
              go_simp
              exact hK _ _ trivial rfl (by simpa [upd] using hG)
            · have e0 := hc.ev 140 10 rfl
              rw [show vs 10 = _ from (hp 10 (by kernel_rfl)).2] at e0
              have e1 := hc.ev 145 15 rfl
              rw [show vs 15 = _ from (hp 15 (by kernel_rfl)).2] at e1
              have hu0 := HX0.out
              have hy0 := HY0.out
              have w2_ : IntKind.i64.wrap (u + y) = u + y := IntWalk.i64_in _ (by omega)
              unfold Oper.wp execOp
              simp only [e0, e1]
              go_simp
              exact hK _ _ trivial rfl (by simpa [upd] using hG)
            · have e0 := hc.ev 146 16 rfl
              rw [show vs 16 = _ from (hp 16 (by kernel_rfl)).2] at e0
              have hu0 := HX0.out
              have hy0 := HY0.out
              have w4_ : IntKind.i64.wrap ((u + y).tmod 65536) = ((u + y) % 65536) := by rw [Int.tmod_eq_emod_of_nonneg (by omega)]; exact IntWalk.i64_in _ (by omega)
              have w4b_ : IntKind.i64.wrap ((u + y) % 65536) = ((u + y) % 65536) := IntWalk.i64_in _ (by omega)
              have w4c_ : 0 ≤ (u + y) := by omega
              unfold Oper.wp execOp
              simp only [e0]
              go_simp
              exact hK _ _ trivial (by show Value.int IntKind.i64 _ = Value.int IntKind.i64 _; rw [Int.tmod_eq_emod_of_nonneg (by omega)]) (by simpa [upd] using hG)
            · have n_19 : fl 19 = false := by cases h : fl 19 with
                | false => rfl
                | true =>
                  have h18 := hcl 19 18 (by kernel_rfl) h
                  rw [show fl 18 = false from hfi] at h18; cases h18
              have e0 := hc.ev 147 17 rfl
              rw [show vs 17 = _ from (hp 17 (by kernel_rfl)).2] at e0
              have hM := hG.2.1 n_19
              have s9 : Below wr9.heap.size wr9 (wr9.alloc (.cells #[.int .i64 ((u + y) % 65536)] 3)) := (Below.refl _ _).alloc (Nat.le_refl _) _
              unfold Oper.wp execOp
              simp only [e0, List.map_toArray, List.map_cons, List.map_nil]
              go_simp
              exact hK _ _ trivial trivial ⟨hG.1.trans (s9.mono hG.1.size), fun _ => hM.below s9, fun _ _ => ⟨_, by rw [upd_at], Blk.new _ _ _⟩, fun h => by simp [upd, n_19] at h⟩
            · have n_19 : fl 19 = false := hfi
              have n_21 : fl 21 = false := by cases h : fl 21 with
                | false => rfl
                | true => have := hcl 21 19 (by kernel_rfl) h; rw [n_19] at this; cases this
              have hM := hG.2.1 n_19
              obtain ⟨gl, hv, hbl⟩ := hG.2.2.1 (hp 18 (by kernel_rfl)).1 n_19
              have e1 := hc.ev 134 4 rfl
              rw [show vs 4 = _ from (hp 4 (by kernel_rfl)).2] at e1
              have e2 := hc.ev 148 18 rfl
              rw [hv] at e2
              have hR : Reads wr9 wr9.heap.size 1 (some ⟨gl, 0, none⟩) 1 [.int .i64 ((u + y) % 65536)] := reads_one hbl
              refine wp_append_any _ _ _ _ rfl w1.heap.size 3 i0 _ 1 8 Try.underlying22 hi0 hz0 hz1 hz2 rfl (by omega) (.slice xsA n xsc) n (nums .i64 (yst.take n)) e1 (own_pre hM.own.os (by simp; omega)) _ _ _ _ [.int .i64 ((u + y) % 65536)] e2 hR (by simp [Value.oneCell']) (by unfold maxLen; omega) (by omega) hM.lt.2.2.2 ?_
              intro v' w6' ho hg hat
              obtain ⟨A9, c9, rfl⟩ := own_sliceM ho
              have hX := hM.pushSt0 (k := n) (by simp; omega) hg ho hat
              exact hK _ _ trivial trivial ⟨hX.bl, fun h => by simp [upd] at h, fun _ h => by simp [upd] at h, fun _ => ⟨A9, c9, by rw [upd_at], by simpa [upd, n_21, Mc.cells] using hX⟩⟩
            · have g0_ : a1.eval (.tmp 6) = .pointer (some ⟨g6, 0, none⟩) := hc.ev0 6 rfl
              unfold Oper.wp execOp
              simp only [g0_]
              go_simp
              exact hK _ _ trivial rfl (by simpa [upd] using hG)
            · have n_21 : fl 21 = false := hfi
              obtain ⟨A9, c9, hv, hX⟩ := hG.2.2.2 (hp 19 (by kernel_rfl)).1
              have pa := (hp 19 (by kernel_rfl)).1
              have e1 := hc.ev 150 20 rfl
              rw [show vs 20 = _ from (hp 20 (by kernel_rfl)).2] at e1
              have e2 := hc.ev 149 19 rfl
              rw [hv] at e2
              have hX0 : XC w1 w1.heap.size w1.heap.size g6 g7 2 a #[.int .i64 en, .slice xsA yst.length xsc, .slice xcA yca.length xcc] ⟨en, yst.take n ++ [((u + y) % 65536)], A9, c9, yca, xcA, xcc⟩ wr9 := by simpa [n_21] using hX
              have c1_ : wr9.cell? ⟨g6, 1, none⟩ = some (.slice xsA yst.length xsc) := hX0.b.cell 1
              have f1_ : wr9.frozen? ⟨g6, 1, none⟩ = false := hX0.b.frozen 1
              have HQ := Lib.hid (hX0.set_ 1 (.slice A9 (n + 1) c9))
              clear hX hX0 hG
              unfold Oper.wp execOp
              simp only [e1, e2]
              go_simp
              exact hK undef _ trivial trivial ⟨HQ.out.bl, fun h => by simp [upd, pa] at h, fun _ h => by simp [upd, pa] at h, fun _ => ⟨A9, c9, by simpa [upd] using hv, by simpa [upd] using HQ.out⟩⟩
          · intro fl vs w9 hfl hG hF
            obtain ⟨A9, c9, hv, hX⟩ := hG.2.2.2 (hfl 19 (by simp))
            have qs := hfl 21 (by simp)
            simp only [qs, if_true] at hX
            have elen : (yst.take n ++ [((u + y) % 65536)]).length = n + 1 := by simp; omega
            have HMF : Hid (XM w1 w1.heap.size w1.heap.size g6 g7 2 a ⟨en, yst.take n ++ [((u + y) % 65536)], A9, c9, yca, xcA, xcc⟩ w9) := hX.toXM (by simp only [Mc.cells, elen])
            clear hX hv hG hF hfl qs HM6
            simp only [fill]
            go_simp
            have b0 : w9.cell? ⟨g6, 0, none⟩ = some (.int .i64 en) := HMF.out.b.cell 0
            have b1 : w9.cell? ⟨g6, 1, none⟩ = some (.slice A9 (n + 1) c9) := by
              have h := HMF.out.b.cell 1
              simp only [Mc.cells, elen] at h
              exact h
            have b2 : w9.cell? ⟨g6, 2, none⟩ = some (.slice xcA yca.length xcc) := HMF.out.b.cell 2
            go_wp2_with fail
            clear b0 b1 b2
            generalize w9 = wF at HMF ⊢
            have HMO : Hid (mOk ((en, yst.take n ++ [((u + y) % 65536)], yca) : McV).1 ((en, yst.take n ++ [((u + y) % 65536)], yca) : McV).2.1 ((en, yst.take n ++ [((u + y) % 65536)], yca) : McV).2.2 = true) := by
              have h := doV_ok (pc := en) (st := yst) (ca := yca) (mOk_of HGA2.out.2.2 q2 q3 HP4.out HP5.out) ⟨HGA2.out.1, HGA2.out.2.1⟩ (by rw [HDV.out])
              rw [HDV.out] at h
              exact h
            have HC : Hid (Calls Try.prog 20 #[Mc.val ⟨en, yst.take n ++ [((u + y) % 65536)], A9, c9, yca, xcA, xcc⟩] wF (Gives wF (.bool true))) := by
              have h := specMOk_any ⟨en, yst.take n ++ [((u + y) % 65536)], A9, c9, yca, xcA, xcc⟩ wF HMF.out.own.at_ (Nat.le_refl _) ⟨by simp; omega, by simp; omega⟩
              rw [show mOk (Mc.pc ⟨en, yst.take n ++ [((u + y) % 65536)], A9, c9, yca, xcA, xcc⟩) (Mc.st ⟨en, yst.take n ++ [((u + y) % 65536)], A9, c9, yca, xcA, xcc⟩) (Mc.ca ⟨en, yst.take n ++ [((u + y) % 65536)], A9, c9, yca, xcA, xcc⟩) = true from HMO.out] at h
              exact h
            simp only [Mc.val, elen] at HC
            refine HC.out.mono ?_
            rintro e w8 ⟨rfl, s9⟩
            have HMG := Lib.hid (HMF.out.below s9)
            clear HC HMF s9 HMO
            have HR : Hid (stepV bs (ypc, yst, yca) = ((en, yst.take n ++ [((u + y) % 65536)], yca), 0)) := by rw [HSX.out, HDV.out]; exact if_pos rfl
            obtain ⟨z, hz⟩ : ∃ z : Mc, z = ⟨en, yst.take n ++ [((u + y) % 65536)], A9, c9, yca, xcA, xcc⟩ := ⟨_, rfl⟩
            rw [← hz] at HMG
            have HZV : Hid (z.v = (en, yst.take n ++ [((u + y) % 65536)], yca)) := by rw [hz]; rfl
            clear hz HDV HSX
            have k0 : w8.cell? ⟨g6, 0, none⟩ = some (.int .i64 z.pc) := HMG.out.b.cell 0
            have k1 : w8.cell? ⟨g6, 1, none⟩ = some (.slice z.sA z.st.length z.sc) := HMG.out.b.cell 1
            have k2 : w8.cell? ⟨g6, 2, none⟩ = some (.slice z.cA z.ca.length z.cc) := HMG.out.b.cell 2
            have HZO := Lib.hid (HMG.out.own.base (HBW.out w1 (Below.refl _ _)).size)
            have HZ4 := Lib.hid (H4W.out w8 HMG.out.bl)
            have HZB := Lib.hid (HBW.out w8 HMG.out.bl)
            have q0 : w8.cell? ⟨g4, 0, none⟩ = some (.int .i64 0) := HZ4.out.cell 0
            have q1 : w8.cell? ⟨g4, 1, none⟩ = some (.slice none 0 0) := HZ4.out.cell 1
            have q2 : w8.cell? ⟨g4, 2, none⟩ = some (.slice none 0 0) := HZ4.out.cell 2
            have p0 : w8.frozen? ⟨g4, 0, none⟩ = false := HZ4.out.frozen 0
            have p1 : w8.frozen? ⟨g4, 1, none⟩ = false := HZ4.out.frozen 1
            have p2 : w8.frozen? ⟨g4, 2, none⟩ = false := HZ4.out.frozen 2
            have HQ := Lib.hid (((HZ4.out.set_ 0 (.int .i64 z.pc)).set_ 1 (.slice z.sA z.st.length z.sc)).set_ 2 (.slice z.cA z.ca.length z.cc))
            have HOW := Lib.hid (HZO.out.set3 HZ4.out (.int .i64 z.pc) (.slice z.sA z.st.length z.sc) (.slice z.cA z.ca.length z.cc))
            have HBF := Lib.hid (((HZB.out.setCell (p := ⟨g4, 0, none⟩) (by have := HGS.out; simp only; omega) (.int .i64 z.pc)).setCell (p := ⟨g4, 1, none⟩) (by have := HGS.out; simp only; omega) (.slice z.sA z.st.length z.sc)).setCell (p := ⟨g4, 2, none⟩) (by have := HGS.out; simp only; omega) (.slice z.cA z.ca.length z.cc))
            go_wp2
            generalize World.setCell _ ⟨g4, 2, none⟩ _ = WF at HQ HOW HBF ⊢
            have y0 : WF.cell? ⟨g4, 0, none⟩ = some (.int .i64 z.pc) := HQ.out.cell 0
            have y1 : WF.cell? ⟨g4, 1, none⟩ = some (.slice z.sA z.st.length z.sc) := HQ.out.cell 1
            have y2 : WF.cell? ⟨g4, 2, none⟩ = some (.slice z.cA z.ca.length z.cc) := HQ.out.cell 2
            refine bodyPost_ret (v := .tuple #[.agg #[.int .i64 z.pc, .slice z.sA z.st.length z.sc, .slice z.cA z.ca.length z.cc], .int .i64 0]) (by simp [results, Try.results23, go_sem, y0, y1, y2]) rfl ?_
            exact ⟨z, by rw [show stepV bs (Mc.v ⟨ypc, yst, sA, sc, yca, cA, cc⟩) = _ from HR.out]; rfl, by rw [show stepV bs (Mc.v ⟨ypc, yst, sA, sc, yca, cA, cc⟩) = _ from HR.out]; exact HZV.out, HOW.out, HBF.out⟩
      · subst hd1
        clear hd hgd
        by_cases hl : yst.length < 2
        · have HDV : Hid (doV en yst yca 3 a = ((en, yst, yca), false)) := doV_23n en a yst yca (d := 3) (by omega) hl
          have HR : Hid (stepV bs (ypc, yst, yca) = ((ypc, yst, yca), 2)) := by rw [HSX.out, HDV.out]; exact if_neg (by simp)
          clear HSX HDV
          have b0 : w6.cell? ⟨g6, 0, none⟩ = some (.int .i64 en) := HM6.out.b.cell 0
          have b1 : w6.cell? ⟨g6, 1, none⟩ = some (.slice xsA yst.length xsc) := HM6.out.b.cell 1
          have b2 : w6.cell? ⟨g6, 2, none⟩ = some (.slice xcA yca.length xcc) := HM6.out.b.cell 2
          have k0 : w6.cell? ⟨g7, 0, none⟩ = some (.int .i64 3) := HM6.out.c.cell 0
          have k1 : w6.cell? ⟨g7, 1, none⟩ = some (.int .i64 a) := HM6.out.c.cell 1
          have f0 : w6.frozen? ⟨g6, 0, none⟩ = false := HM6.out.b.frozen 0
          have f1 : w6.frozen? ⟨g6, 1, none⟩ = false := HM6.out.b.frozen 1
          have f2 : w6.frozen? ⟨g6, 2, none⟩ = false := HM6.out.b.frozen 2
          have m1 : w6.cell? ⟨g2, 1, none⟩ = some (.slice sA yst.length sc) := (H2W.out w6 HM6.out.bl).cell 1
          have m2 : w6.cell? ⟨g2, 2, none⟩ = some (.slice cA yca.length cc) := (H2W.out w6 HM6.out.bl).cell 2
          have hq : ¬ (1 : Int) ≤ (yst.length : Int) - 1 := by omega
          have HGq := Lib.hid (HBW.out w6 HM6.out.bl)
          have H2q := Lib.hid (H2W.out w6 HM6.out.bl)
          have H4q := Lib.hid (H4W.out w6 HM6.out.bl)
          have c0 : w6.cell? ⟨g2, 0, none⟩ = some (.int .i64 ypc) := H2q.out.cell 0
          have c1 : w6.cell? ⟨g2, 1, none⟩ = some (.slice sA yst.length sc) := H2q.out.cell 1
          have c2 : w6.cell? ⟨g2, 2, none⟩ = some (.slice cA yca.length cc) := H2q.out.cell 2
          go_wp2_with fail
          refine (HCP.out w6 HGq.out).mono ?_
          rintro e w9 ⟨z, rfl, hzv, hzo, s9⟩
          have HZV := Lib.hid hzv
          have HZO := Lib.hid (hzo.base HGq.out.size)
          have HZ4 := Lib.hid (H4q.out.below s9 H4q.out.lt)
          have HZB := Lib.hid (HGq.out.trans (s9.mono HGq.out.size))
          clear hzv hzo s9 c0 c1 c2
          have q0 : w9.cell? ⟨g4, 0, none⟩ = some (.int .i64 0) := HZ4.out.cell 0
          have q1 : w9.cell? ⟨g4, 1, none⟩ = some (.slice none 0 0) := HZ4.out.cell 1
          have q2 : w9.cell? ⟨g4, 2, none⟩ = some (.slice none 0 0) := HZ4.out.cell 2
          have p0 : w9.frozen? ⟨g4, 0, none⟩ = false := HZ4.out.frozen 0
          have p1 : w9.frozen? ⟨g4, 1, none⟩ = false := HZ4.out.frozen 1
          have p2 : w9.frozen? ⟨g4, 2, none⟩ = false := HZ4.out.frozen 2
          have HQ := Lib.hid (((HZ4.out.set_ 0 (.int .i64 z.pc)).set_ 1 (.slice z.sA z.st.length z.sc)).set_ 2 (.slice z.cA z.ca.length z.cc))
          have HOW := Lib.hid (HZO.out.set3 HZ4.out (.int .i64 z.pc) (.slice z.sA z.st.length z.sc) (.slice z.cA z.ca.length z.cc))
          have HBF := Lib.hid (((HZB.out.setCell (p := ⟨g4, 0, none⟩) (by have := HGS.out; simp only; omega) (.int .i64 z.pc)).setCell (p := ⟨g4, 1, none⟩) (by have := HGS.out; simp only; omega) (.slice z.sA z.st.length z.sc)).setCell (p := ⟨g4, 2, none⟩) (by have := HGS.out; simp only; omega) (.slice z.cA z.ca.length z.cc))
          go_wp2
          generalize World.setCell _ ⟨g4, 2, none⟩ _ = WF at HQ HOW HBF ⊢
          have y0 : WF.cell? ⟨g4, 0, none⟩ = some (.int .i64 z.pc) := HQ.out.cell 0
          have y1 : WF.cell? ⟨g4, 1, none⟩ = some (.slice z.sA z.st.length z.sc) := HQ.out.cell 1
          have y2 : WF.cell? ⟨g4, 2, none⟩ = some (.slice z.cA z.ca.length z.cc) := HQ.out.cell 2
          refine bodyPost_ret (v := .tuple #[.agg #[.int .i64 z.pc, .slice z.sA z.st.length z.sc, .slice z.cA z.ca.length z.cc], .int .i64 2]) (by simp [results, Try.results23, go_sem, y0, y1, y2]) rfl ?_
          exact ⟨z, by rw [show stepV bs (Mc.v ⟨ypc, yst, sA, sc, yca, cA, cc⟩) = _ from HR.out]; rfl, by rw [show stepV bs (Mc.v ⟨ypc, yst, sA, sc, yca, cA, cc⟩) = _ from HR.out]; exact HZV.out, HOW.out, HBF.out⟩
        · obtain ⟨n, hn1, hn2⟩ : ∃ n, yst.length ≤ n + 2 ∧ n + 2 ≤ yst.length := ⟨yst.length - 2, by omega, by omega⟩
          have e5 : (yst.length : Int) - 1 = (n : Int) + 1 := by omega
          have hq : (1 : Int) ≤ (n : Int) + 1 := by omega
          have HVV := Lib.hid (doV_23 en a yst yca (d := 3) (by omega) hl)
          rw [show yst.length - 2 = n from by omega, show yst.length - 1 = n + 1 from by omega] at HVV
          obtain ⟨b, off, hA, _, _⟩ := (HRS.out w6 HM6.out.bl).row_ (by omega) (by omega)
          have HA := Lib.hid hA
          obtain ⟨gs, hA2, _⟩ := row_at HM6.out.own.os (by show 0 < yst.length; omega)
          have HA2 := Lib.hid hA2
          obtain ⟨u, hu⟩ : ∃ u, u = yst.getD n 0 := ⟨_, rfl⟩
          obtain ⟨y, hy⟩ : ∃ y, y = yst.getD (n + 1) 0 := ⟨_, rfl⟩
          have HX0 : Hid (0 ≤ u ∧ u ≤ 65535) := by rw [hu]; exact HP4.out _ (getD_mem (by omega))
          have HY0 : Hid (0 ≤ y ∧ y ≤ 65535) := by rw [hy]; exact HP4.out _ (getD_mem (by omega))
          have HCU : Hid (∀ wq, Below w1.heap.size w1 wq → wq.cell? ⟨b, off + n, none⟩ = some (.int .i64 u)) := fun wq hb => by
            rw [hu]
            obtain ⟨b', off', hA', _, hcs⟩ := (HRS.out wq hb).row_ (by omega) (by omega)
            rw [HA.out] at hA'
            injection hA' with hA'
            injection hA' with e1 e2
            subst e1 e2
            exact hcs n _ (by simp [nums, List.getD_eq_getElem?_getD, show n < yst.length by omega])
          have HCY : Hid (∀ wq, Below w1.heap.size w1 wq → wq.cell? ⟨b, off + (n + 1), none⟩ = some (.int .i64 y)) := fun wq hb => by
            rw [hy]
            obtain ⟨b', off', hA', _, hcs⟩ := (HRS.out wq hb).row_ (by omega) (by omega)
            rw [HA.out] at hA'
            injection hA' with hA'
            injection hA' with e1 e2
            subst e1 e2
            exact hcs (n + 1) _ (by simp [nums, List.getD_eq_getElem?_getD, show n + 1 < yst.length by omega])
          rw [← hu, ← hy] at HVV
          have HDV : Hid (doV en yst yca 3 a = ((en, yst.take n ++ [((u - y + 65535 + 1) % 65536)], yca), true)) := by
            have h := HVV.out
            rw [show arith 3 u y = ((u - y + 65535 + 1) % 65536) from by unfold arith; rw [if_pos rfl]; omega] at h
            exact h
          obtain ⟨hcap, hcm⟩ : yst.length ≤ xsc ∧ xsc ≤ maxLen := own_le_cap HM6.out.own.os
          unfold maxLen at hcm
          clear hu hy hA hA2 HVV hl
          have b0 : w6.cell? ⟨g6, 0, none⟩ = some (.int .i64 en) := HM6.out.b.cell 0
          have b1 : w6.cell? ⟨g6, 1, none⟩ = some (.slice xsA yst.length xsc) := HM6.out.b.cell 1
          have b2 : w6.cell? ⟨g6, 2, none⟩ = some (.slice xcA yca.length xcc) := HM6.out.b.cell 2
          have k0 : w6.cell? ⟨g7, 0, none⟩ = some (.int .i64 3) := HM6.out.c.cell 0
          have k1 : w6.cell? ⟨g7, 1, none⟩ = some (.int .i64 a) := HM6.out.c.cell 1
          have f0 : w6.frozen? ⟨g6, 0, none⟩ = false := HM6.out.b.frozen 0
          have f1 : w6.frozen? ⟨g6, 1, none⟩ = false := HM6.out.b.frozen 1
          have f2 : w6.frozen? ⟨g6, 2, none⟩ = false := HM6.out.b.frozen 2
          have m1 : w6.cell? ⟨g2, 1, none⟩ = some (.slice sA yst.length sc) := (H2W.out w6 HM6.out.bl).cell 1
          have m2 : w6.cell? ⟨g2, 2, none⟩ = some (.slice cA yca.length cc) := (H2W.out w6 HM6.out.bl).cell 2
          go_wp2
          try rw [e5]
          clear b0 b1 b2 k0 k1 f0 f1 f2 m1 m2
          clear e5 hq
          refine wp_region_facts (fun i v wv => match i with
              | 0 => v = .pointer (some ⟨g6, 1, none⟩)
              | 1 => v = .slice xsA yst.length xsc
              | 2 => v = .int .i64 ((n : Int) + 1)
              | 3 => v = .int .i64 (n : Int)
              | 4 => v = .slice xsA n xsc
              | 5 => v = .pointer (some ⟨g2, 1, none⟩)
              | 6 => v = .slice sA yst.length sc
              | 7 => v = .int .i64 ((n : Int) + 1)
              | 8 => v = .int .i64 (n : Int)
              | 9 => v = .pointer (some ⟨b, off + n, none⟩)
              | 10 => v = .int .i64 u
              | 11 => v = .pointer (some ⟨g2, 1, none⟩)
              | 12 => v = .slice sA yst.length sc
              | 13 => v = .int .i64 ((n : Int) + 1)
              | 14 => v = .pointer (some ⟨b, off + (n + 1), none⟩)
              | 15 => v = .int .i64 y
              | 16 => v = .int .i64 (u - y)
              | 17 => v = .int .i64 (u - y + 65535)
              | 18 => v = .int .i64 (u - y + 65535 + 1)
              | 19 => v = .int .i64 ((u - y + 65535 + 1) % 65536)
              | 20 => True
              | 21 => True
              | 22 => v = .pointer (some ⟨g6, 1, none⟩)
              | _ => True)
            (fun fl vs wq => Below w1.heap.size w1 wq ∧ (fl 21 = false → XM w1 w1.heap.size w1.heap.size g6 g7 3 a ⟨en, yst, xsA, xsc, yca, xcA, xcc⟩ wq) ∧ (fl 20 = true → fl 21 = false → ∃ gl, vs 20 = .slice (some ⟨gl, 0, none⟩) 1 1 ∧ Blk wq gl 3 #[.int .i64 ((u - y + 65535 + 1) % 65536)]) ∧ (fl 21 = true → ∃ (A9 : Option Addr) (c9 : Nat), vs 21 = .slice A9 (n + 1) c9 ∧ XC w1 w1.heap.size w1.heap.size g6 g7 3 a #[.int .i64 en, (if fl 23 = true then Value.slice A9 (n + 1) c9 else .slice xsA yst.length xsc), .slice xcA yca.length xcc] ⟨en, yst.take n ++ [((u - y + 65535 + 1) % 65536)], A9, c9, yca, xcA, xcc⟩ wq)) (fun _ _ => True) (by kernel_rfl) (by kernel_rfl) ?_ ?_ ?_ ?_
          · intro i v u u2 hk h
            exact h
          · intro fl vs hfl
            have zl := hfl 20 (by simp)
            have za := hfl 21 (by simp)
            have hM := HM6.out.below (below_drewN (Below.refl _ _) 1)
            exact ⟨hM.bl, fun _ => hM, fun h => by simp [zl] at h, fun h => by simp [za] at h⟩
          · refine ⟨?_, ?_, ?_, ?_, ?_, ?_, ?_, ?_, ?_, ?_, ?_, ?_, ?_, ?_, ?_, ?_, ?_, ?_, ?_, ?_, ?_, ?_, ?_, ?_, trivial⟩
            all_goals intro fl vs wr9 a1 hc hG hfi hcl hp K hK
            · have g0_ : a1.eval (.tmp 6) = .pointer (some ⟨g6, 0, none⟩) := hc.ev0 6 rfl
              unfold Oper.wp execOp
              simp only [g0_]
              go_simp
              exact hK _ _ trivial rfl (by simpa [upd] using hG)
            · have n_21 : fl 21 = false := by cases h : fl 21 with
                | false => rfl
                | true =>
                  have h4 := hcl 21 4 (by kernel_rfl) h
                  have h1 := hcl 4 1 (by kernel_rfl) h4
                  rw [show fl 1 = false from hfi] at h1; cases h1
              have e0 := hc.ev 159 0 rfl
              rw [show vs 0 = _ from (hp 0 (by kernel_rfl)).2] at e0
              have c0 : wr9.cell? ⟨g6, 1, none⟩ = some (.slice xsA yst.length xsc) := (hG.2.1 n_21).b.cell 1
              unfold Oper.wp execOp
              simp only [e0]
              go_simp
              exact hK _ _ trivial rfl (by simpa [upd] using hG)
            · refine op_move rfl ?_
              rw [hc.ev0 _ rfl]
              exact hK _ _ trivial rfl (by simpa [upd] using hG)
            · have e0 := hc.ev 161 2 rfl
              rw [show vs 2 = _ from (hp 2 (by kernel_rfl)).2] at e0
              have ww : IntKind.i64.wrap (n : Int) = (n : Int) := IntWalk.i64_in _ (by omega)
              unfold Oper.wp execOp
              simp only [e0]
              go_simp
              exact hK _ _ trivial rfl (by simpa [upd] using hG)
            · have e0 := hc.ev 160 1 rfl
              rw [show vs 1 = _ from (hp 1 (by kernel_rfl)).2, HA2.out] at e0
              have e1 := hc.ev 162 3 rfl
              rw [show vs 3 = _ from (hp 3 (by kernel_rfl)).2] at e1
              have i1 : (0 : Int) ≤ (n : Int) := Int.natCast_nonneg _
              have i2 : (n : Int) < (yst.length : Int) := by omega
              have i3 : (n : Int) + 1 < (yst.length : Int) := by omega
              have i4 : (0 : Int) ≤ (n : Int) + 1 := by omega
              have y1 : (n : Int) ≤ (xsc : Int) := by omega
              have y3 : (n : Int) ≤ (yst.length : Int) := by omega
              have y4 : (yst.length : Int) ≤ (xsc : Int) := by omega
              unfold Oper.wp execOp
              simp only [e0, e1, Option.map_some, Option.map_none]
              go_simp
              exact hK _ _ trivial (by show Value.slice _ _ _ = Value.slice xsA _ _; rw [HA2.out]) (by simpa [upd] using hG)
            · have g0_ : a1.eval (.tmp 2) = .pointer (some ⟨g2, 0, none⟩) := hc.ev0 2 rfl
              unfold Oper.wp execOp
              simp only [g0_]
              go_simp
              exact hK _ _ trivial rfl (by simpa [upd] using hG)
            · have e0 := hc.ev 164 5 rfl
              rw [show vs 5 = _ from (hp 5 (by kernel_rfl)).2] at e0
              have c0 : wr9.cell? ⟨g2, 1, none⟩ = some (.slice sA yst.length sc) := (H2W.out wr9 hG.1).cell 1
              unfold Oper.wp execOp
              simp only [e0]
              go_simp
              exact hK _ _ trivial rfl (by simpa [upd] using hG)
            · refine op_move rfl ?_
              rw [hc.ev0 _ rfl]
              exact hK _ _ trivial rfl (by simpa [upd] using hG)
            · have e0 := hc.ev 166 7 rfl
              rw [show vs 7 = _ from (hp 7 (by kernel_rfl)).2] at e0
              have ww : IntKind.i64.wrap (n : Int) = (n : Int) := IntWalk.i64_in _ (by omega)
              unfold Oper.wp execOp
              simp only [e0]
              go_simp
              exact hK _ _ trivial rfl (by simpa [upd] using hG)
            · have e0 := hc.ev 165 6 rfl
              rw [show vs 6 = _ from (hp 6 (by kernel_rfl)).2, HA.out] at e0
              have e1 := hc.ev 167 8 rfl
              rw [show vs 8 = _ from (hp 8 (by kernel_rfl)).2] at e1
              have i1 : (0 : Int) ≤ (n : Int) := Int.natCast_nonneg _
              have i2 : (n : Int) < (yst.length : Int) := by omega
              have i3 : (n : Int) + 1 < (yst.length : Int) := by omega
              have i4 : (0 : Int) ≤ (n : Int) + 1 := by omega
              have y1 : (n : Int) ≤ (xsc : Int) := by omega
              have y3 : (n : Int) ≤ (yst.length : Int) := by omega
              have y4 : (yst.length : Int) ≤ (xsc : Int) := by omega
              unfold Oper.wp execOp
              simp only [e0, e1]
              go_simp
              exact hK _ _ trivial (by first | rfl | simp) (by simpa [upd] using hG)
            · have e0 := hc.ev 168 9 rfl
              rw [show vs 9 = _ from (hp 9 (by kernel_rfl)).2] at e0
              have c0 : wr9.cell? ⟨b, off + n, none⟩ = some (.int .i64 u) := HCU.out wr9 hG.1
              unfold Oper.wp execOp
              simp only [e0]
              go_simp
              exact hK _ _ trivial rfl (by simpa [upd] using hG)
            · have g0_ : a1.eval (.tmp 2) = .pointer (some ⟨g2, 0, none⟩) := hc.ev0 2 rfl
              unfold Oper.wp execOp
              simp only [g0_]
              go_simp
              exact hK _ _ trivial rfl (by simpa [upd] using hG)
            · have e0 := hc.ev 170 11 rfl
              rw [show vs 11 = _ from (hp 11 (by kernel_rfl)).2] at e0
              have c0 : wr9.cell? ⟨g2, 1, none⟩ = some (.slice sA yst.length sc) := (H2W.out wr9 hG.1).cell 1
              unfold Oper.wp execOp
              simp only [e0]
              go_simp
              exact hK _ _ trivial rfl (by simpa [upd] using hG)
            · refine op_move rfl ?_
              rw [hc.ev0 _ rfl]
              exact hK _ _ trivial rfl (by simpa [upd] using hG)
            · have e0 := hc.ev 171 12 rfl
              rw [show vs 12 = _ from (hp 12 (by kernel_rfl)).2, HA.out] at e0
              have e1 := hc.ev 172 13 rfl
              rw [show vs 13 = _ from (hp 13 (by kernel_rfl)).2] at e1
              have i1 : (0 : Int) ≤ (n : Int) := Int.natCast_nonneg _
              have i2 : (n : Int) < (yst.length : Int) := by omega
              have i3 : (n : Int) + 1 < (yst.length : Int) := by omega
              have i4 : (0 : Int) ≤ (n : Int) + 1 := by omega
              have y1 : (n : Int) ≤ (xsc : Int) := by omega
              have y3 : (n : Int) ≤ (yst.length : Int) := by omega
              have y4 : (yst.length : Int) ≤ (xsc : Int) := by omega
              unfold Oper.wp execOp
              simp only [e0, e1]
              go_simp
              exact hK _ _ trivial (by first | rfl | simp) (by simpa [upd] using hG)
            · have e0 := hc.ev 173 14 rfl
              rw [show vs 14 = _ from (hp 14 (by kernel_rfl)).2] at e0
              have c0 : wr9.cell? ⟨b, off + (n + 1), none⟩ = some (.int .i64 y) := HCY.out wr9 hG.1
              unfold Oper.wp execOp
              simp only [e0]
              go_simp
              exact hK _ _ trivial rfl (by simpa [upd] using hG)
            · have e0 := hc.ev 169 10 rfl
              rw [show vs 10 = _ from (hp 10 (by kernel_rfl)).2] at e0
              have e1 := hc.ev 174 15 rfl
              rw [show vs 15 = _ from (hp 15 (by kernel_rfl)).2] at e1
              have hu0 := HX0.out
              have hy0 := HY0.out
              have w2_ : IntKind.i64.wrap (u - y) = u - y := IntWalk.i64_in _ (by omega)
              unfold Oper.wp execOp
              simp only [e0, e1]
              go_simp
              exact hK _ _ trivial rfl (by simpa [upd] using hG)
            · have e0 := hc.ev 175 16 rfl
              rw [show vs 16 = _ from (hp 16 (by kernel_rfl)).2] at e0
              have hu0 := HX0.out
              have hy0 := HY0.out
              have w2_ : IntKind.i64.wrap (u - y + 65535) = u - y + 65535 := IntWalk.i64_in _ (by omega)
              unfold Oper.wp execOp
              simp only [e0]
              go_simp
              exact hK _ _ trivial rfl (by simpa [upd] using hG)
            · have e0 := hc.ev 176 17 rfl
              rw [show vs 17 = _ from (hp 17 (by kernel_rfl)).2] at e0
              have hu0 := HX0.out
              have hy0 := HY0.out
              have w2_ : IntKind.i64.wrap (u - y + 65535 + 1) = u - y + 65535 + 1 := IntWalk.i64_in _ (by omega)
              unfold Oper.wp execOp
              simp only [e0]
              go_simp
              exact hK _ _ trivial (by first | rfl | (show Value.int IntKind.i64 _ = Value.int IntKind.i64 _; congr 1; omega)) (by simpa [upd] using hG)
            · have e0 := hc.ev 177 18 rfl
              rw [show vs 18 = _ from (hp 18 (by kernel_rfl)).2] at e0
              have hu0 := HX0.out
              have hy0 := HY0.out
              have w4_ : IntKind.i64.wrap ((u - y + 65535 + 1).tmod 65536) = ((u - y + 65535 + 1) % 65536) := by rw [Int.tmod_eq_emod_of_nonneg (by omega)]; exact IntWalk.i64_in _ (by omega)
              have w4b_ : IntKind.i64.wrap ((u - y + 65535 + 1) % 65536) = ((u - y + 65535 + 1) % 65536) := IntWalk.i64_in _ (by omega)
              have w4c_ : 0 ≤ (u - y + 65535 + 1) := by omega
              unfold Oper.wp execOp
              simp only [e0]
              go_simp
              exact hK _ _ trivial (by show Value.int IntKind.i64 _ = Value.int IntKind.i64 _; rw [Int.tmod_eq_emod_of_nonneg (by omega)]) (by simpa [upd] using hG)
            · have n_21 : fl 21 = false := by cases h : fl 21 with
                | false => rfl
                | true =>
                  have h20 := hcl 21 20 (by kernel_rfl) h
                  rw [show fl 20 = false from hfi] at h20; cases h20
              have e0 := hc.ev 178 19 rfl
              rw [show vs 19 = _ from (hp 19 (by kernel_rfl)).2] at e0
              have hM := hG.2.1 n_21
              have s9 : Below wr9.heap.size wr9 (wr9.alloc (.cells #[.int .i64 ((u - y + 65535 + 1) % 65536)] 3)) := (Below.refl _ _).alloc (Nat.le_refl _) _
              unfold Oper.wp execOp
              simp only [e0, List.map_toArray, List.map_cons, List.map_nil]
              go_simp
              exact hK _ _ trivial trivial ⟨hG.1.trans (s9.mono hG.1.size), fun _ => hM.below s9, fun _ _ => ⟨_, by rw [upd_at], Blk.new _ _ _⟩, fun h => by simp [upd, n_21] at h⟩
            · have n_21 : fl 21 = false := hfi
              have n_23 : fl 23 = false := by cases h : fl 23 with
                | false => rfl
                | true => have := hcl 23 21 (by kernel_rfl) h; rw [n_21] at this; cases this
              have hM := hG.2.1 n_21
              obtain ⟨gl, hv, hbl⟩ := hG.2.2.1 (hp 20 (by kernel_rfl)).1 n_21
              have e1 := hc.ev 163 4 rfl
              rw [show vs 4 = _ from (hp 4 (by kernel_rfl)).2] at e1
              have e2 := hc.ev 179 20 rfl
              rw [hv] at e2
              have hR : Reads wr9 wr9.heap.size 1 (some ⟨gl, 0, none⟩) 1 [.int .i64 ((u - y + 65535 + 1) % 65536)] := reads_one hbl
              refine wp_append_any _ _ _ _ rfl w1.heap.size 3 i0 _ 1 8 Try.underlying22 hi0 hz0 hz1 hz2 rfl (by omega) (.slice xsA n xsc) n (nums .i64 (yst.take n)) e1 (own_pre hM.own.os (by simp; omega)) _ _ _ _ [.int .i64 ((u - y + 65535 + 1) % 65536)] e2 hR (by simp [Value.oneCell']) (by unfold maxLen; omega) (by omega) hM.lt.2.2.2 ?_
              intro v' w6' ho hg hat
              obtain ⟨A9, c9, rfl⟩ := own_sliceM ho
              have hX := hM.pushSt0 (k := n) (by simp; omega) hg ho hat
              exact hK _ _ trivial trivial ⟨hX.bl, fun h => by simp [upd] at h, fun _ h => by simp [upd] at h, fun _ => ⟨A9, c9, by rw [upd_at], by simpa [upd, n_23, Mc.cells] using hX⟩⟩
            · have g0_ : a1.eval (.tmp 6) = .pointer (some ⟨g6, 0, none⟩) := hc.ev0 6 rfl
              unfold Oper.wp execOp
              simp only [g0_]
              go_simp
              exact hK _ _ trivial rfl (by simpa [upd] using hG)
            · have n_23 : fl 23 = false := hfi
              obtain ⟨A9, c9, hv, hX⟩ := hG.2.2.2 (hp 21 (by kernel_rfl)).1
              have pa := (hp 21 (by kernel_rfl)).1
              have e1 := hc.ev 181 22 rfl
              rw [show vs 22 = _ from (hp 22 (by kernel_rfl)).2] at e1
              have e2 := hc.ev 180 21 rfl
              rw [hv] at e2
              have hX0 : XC w1 w1.heap.size w1.heap.size g6 g7 3 a #[.int .i64 en, .slice xsA yst.length xsc, .slice xcA yca.length xcc] ⟨en, yst.take n ++ [((u - y + 65535 + 1) % 65536)], A9, c9, yca, xcA, xcc⟩ wr9 := by simpa [n_23] using hX
              have c1_ : wr9.cell? ⟨g6, 1, none⟩ = some (.slice xsA yst.length xsc) := hX0.b.cell 1
              have f1_ : wr9.frozen? ⟨g6, 1, none⟩ = false := hX0.b.frozen 1
              have HQ := Lib.hid (hX0.set_ 1 (.slice A9 (n + 1) c9))
              clear hX hX0 hG
              unfold Oper.wp execOp
              simp only [e1, e2]
              go_simp
              exact hK undef _ trivial trivial ⟨HQ.out.bl, fun h => by simp [upd, pa] at h, fun _ h => by simp [upd, pa] at h, fun _ => ⟨A9, c9, by simpa [upd] using hv, by simpa [upd] using HQ.out⟩⟩
          · intro fl vs w9 hfl hG hF
            obtain ⟨A9, c9, hv, hX⟩ := hG.2.2.2 (hfl 21 (by simp))
            have qs := hfl 23 (by simp)
            simp only [qs, if_true] at hX
            have elen : (yst.take n ++ [((u - y + 65535 + 1) % 65536)]).length = n + 1 := by simp; omega
            have HMF : Hid (XM w1 w1.heap.size w1.heap.size g6 g7 3 a ⟨en, yst.take n ++ [((u - y + 65535 + 1) % 65536)], A9, c9, yca, xcA, xcc⟩ w9) := hX.toXM (by simp only [Mc.cells, elen])
            clear hX hv hG hF hfl qs HM6
            simp only [fill]
            go_simp
            have b0 : w9.cell? ⟨g6, 0, none⟩ = some (.int .i64 en) := HMF.out.b.cell 0
            have b1 : w9.cell? ⟨g6, 1, none⟩ = some (.slice A9 (n + 1) c9) := by
              have h := HMF.out.b.cell 1
              simp only [Mc.cells, elen] at h
              exact h
            have b2 : w9.cell? ⟨g6, 2, none⟩ = some (.slice xcA yca.length xcc) := HMF.out.b.cell 2
            go_wp2_with fail
            clear b0 b1 b2
            generalize w9 = wF at HMF ⊢
            have HMO : Hid (mOk ((en, yst.take n ++ [((u - y + 65535 + 1) % 65536)], yca) : McV).1 ((en, yst.take n ++ [((u - y + 65535 + 1) % 65536)], yca) : McV).2.1 ((en, yst.take n ++ [((u - y + 65535 + 1) % 65536)], yca) : McV).2.2 = true) := by
              have h := doV_ok (pc := en) (st := yst) (ca := yca) (mOk_of HGA2.out.2.2 q2 q3 HP4.out HP5.out) ⟨HGA2.out.1, HGA2.out.2.1⟩ (by rw [HDV.out])
              rw [HDV.out] at h
              exact h
            have HC : Hid (Calls Try.prog 20 #[Mc.val ⟨en, yst.take n ++ [((u - y + 65535 + 1) % 65536)], A9, c9, yca, xcA, xcc⟩] wF (Gives wF (.bool true))) := by
              have h := specMOk_any ⟨en, yst.take n ++ [((u - y + 65535 + 1) % 65536)], A9, c9, yca, xcA, xcc⟩ wF HMF.out.own.at_ (Nat.le_refl _) ⟨by simp; omega, by simp; omega⟩
              rw [show mOk (Mc.pc ⟨en, yst.take n ++ [((u - y + 65535 + 1) % 65536)], A9, c9, yca, xcA, xcc⟩) (Mc.st ⟨en, yst.take n ++ [((u - y + 65535 + 1) % 65536)], A9, c9, yca, xcA, xcc⟩) (Mc.ca ⟨en, yst.take n ++ [((u - y + 65535 + 1) % 65536)], A9, c9, yca, xcA, xcc⟩) = true from HMO.out] at h
              exact h
            simp only [Mc.val, elen] at HC
            refine HC.out.mono ?_
            rintro e w8 ⟨rfl, s9⟩
            have HMG := Lib.hid (HMF.out.below s9)
            clear HC HMF s9 HMO
            have HR : Hid (stepV bs (ypc, yst, yca) = ((en, yst.take n ++ [((u - y + 65535 + 1) % 65536)], yca), 0)) := by rw [HSX.out, HDV.out]; exact if_pos rfl
            obtain ⟨z, hz⟩ : ∃ z : Mc, z = ⟨en, yst.take n ++ [((u - y + 65535 + 1) % 65536)], A9, c9, yca, xcA, xcc⟩ := ⟨_, rfl⟩
            rw [← hz] at HMG
            have HZV : Hid (z.v = (en, yst.take n ++ [((u - y + 65535 + 1) % 65536)], yca)) := by rw [hz]; rfl
            clear hz HDV HSX
            have k0 : w8.cell? ⟨g6, 0, none⟩ = some (.int .i64 z.pc) := HMG.out.b.cell 0
            have k1 : w8.cell? ⟨g6, 1, none⟩ = some (.slice z.sA z.st.length z.sc) := HMG.out.b.cell 1
            have k2 : w8.cell? ⟨g6, 2, none⟩ = some (.slice z.cA z.ca.length z.cc) := HMG.out.b.cell 2
            have HZO := Lib.hid (HMG.out.own.base (HBW.out w1 (Below.refl _ _)).size)
            have HZ4 := Lib.hid (H4W.out w8 HMG.out.bl)
            have HZB := Lib.hid (HBW.out w8 HMG.out.bl)
            have q0 : w8.cell? ⟨g4, 0, none⟩ = some (.int .i64 0) := HZ4.out.cell 0
            have q1 : w8.cell? ⟨g4, 1, none⟩ = some (.slice none 0 0) := HZ4.out.cell 1
            have q2 : w8.cell? ⟨g4, 2, none⟩ = some (.slice none 0 0) := HZ4.out.cell 2
            have p0 : w8.frozen? ⟨g4, 0, none⟩ = false := HZ4.out.frozen 0
            have p1 : w8.frozen? ⟨g4, 1, none⟩ = false := HZ4.out.frozen 1
            have p2 : w8.frozen? ⟨g4, 2, none⟩ = false := HZ4.out.frozen 2
            have HQ := Lib.hid (((HZ4.out.set_ 0 (.int .i64 z.pc)).set_ 1 (.slice z.sA z.st.length z.sc)).set_ 2 (.slice z.cA z.ca.length z.cc))
            have HOW := Lib.hid (HZO.out.set3 HZ4.out (.int .i64 z.pc) (.slice z.sA z.st.length z.sc) (.slice z.cA z.ca.length z.cc))
            have HBF := Lib.hid (((HZB.out.setCell (p := ⟨g4, 0, none⟩) (by have := HGS.out; simp only; omega) (.int .i64 z.pc)).setCell (p := ⟨g4, 1, none⟩) (by have := HGS.out; simp only; omega) (.slice z.sA z.st.length z.sc)).setCell (p := ⟨g4, 2, none⟩) (by have := HGS.out; simp only; omega) (.slice z.cA z.ca.length z.cc))
            go_wp2
            generalize World.setCell _ ⟨g4, 2, none⟩ _ = WF at HQ HOW HBF ⊢
            have y0 : WF.cell? ⟨g4, 0, none⟩ = some (.int .i64 z.pc) := HQ.out.cell 0
            have y1 : WF.cell? ⟨g4, 1, none⟩ = some (.slice z.sA z.st.length z.sc) := HQ.out.cell 1
            have y2 : WF.cell? ⟨g4, 2, none⟩ = some (.slice z.cA z.ca.length z.cc) := HQ.out.cell 2
            refine bodyPost_ret (v := .tuple #[.agg #[.int .i64 z.pc, .slice z.sA z.st.length z.sc, .slice z.cA z.ca.length z.cc], .int .i64 0]) (by simp [results, Try.results23, go_sem, y0, y1, y2]) rfl ?_
            exact ⟨z, by rw [show stepV bs (Mc.v ⟨ypc, yst, sA, sc, yca, cA, cc⟩) = _ from HR.out]; rfl, by rw [show stepV bs (Mc.v ⟨ypc, yst, sA, sc, yca, cA, cc⟩) = _ from HR.out]; exact HZV.out, HOW.out, HBF.out⟩
      · subst hd1
        clear hd hgd
        have b0 : w6.cell? ⟨g6, 0, none⟩ = some (.int .i64 en) := HM6.out.b.cell 0
        have b1 : w6.cell? ⟨g6, 1, none⟩ = some (.slice xsA yst.length xsc) := HM6.out.b.cell 1
        have b2 : w6.cell? ⟨g6, 2, none⟩ = some (.slice xcA yca.length xcc) := HM6.out.b.cell 2
        have k0 : w6.cell? ⟨g7, 0, none⟩ = some (.int .i64 4) := HM6.out.c.cell 0
        have k1 : w6.cell? ⟨g7, 1, none⟩ = some (.int .i64 a) := HM6.out.c.cell 1
        have f0 : w6.frozen? ⟨g6, 0, none⟩ = false := HM6.out.b.frozen 0
        have f1 : w6.frozen? ⟨g6, 1, none⟩ = false := HM6.out.b.frozen 1
        have f2 : w6.frozen? ⟨g6, 2, none⟩ = false := HM6.out.b.frozen 2
        have m1 : w6.cell? ⟨g2, 1, none⟩ = some (.slice sA yst.length sc) := (H2W.out w6 HM6.out.bl).cell 1
        have m2 : w6.cell? ⟨g2, 2, none⟩ = some (.slice cA yca.length cc) := (H2W.out w6 HM6.out.bl).cell 2
        have HMF : Hid (XM w1 w1.heap.size w1.heap.size g6 g7 4 a ⟨a, yst, xsA, xsc, yca, xcA, xcc⟩ (w6.setCell ⟨g6, 0, none⟩ (.int .i64 a))) := HM6.out.pc a
        go_wp2_with fail
        clear HM6
        clear b0 b1 b2 k0 k1 f0 f1 f2 m1 m2
        generalize (w6.setCell ⟨g6, 0, none⟩ (.int .i64 a)) = wF at HMF ⊢
        have HDV : Hid (doV en yst yca 4 a = ((a, yst, yca), true)) := doV_4 en a yst yca
        have HMO : Hid (mOk ((a, yst, yca) : McV).1 ((a, yst, yca) : McV).2.1 ((a, yst, yca) : McV).2.2 = true) := by
          have h := doV_ok (pc := en) (st := yst) (ca := yca) (mOk_of HGA2.out.2.2 q2 q3 HP4.out HP5.out) ⟨HGA2.out.1, HGA2.out.2.1⟩ (by rw [HDV.out])
          rw [HDV.out] at h
          exact h
        have HC : Hid (Calls Try.prog 20 #[Mc.val ⟨a, yst, xsA, xsc, yca, xcA, xcc⟩] wF (Gives wF (.bool true))) := by
          have h := specMOk_any ⟨a, yst, xsA, xsc, yca, xcA, xcc⟩ wF HMF.out.own.at_ (Nat.le_refl _) ⟨by simp; omega, by simp; omega⟩
          rw [show mOk (Mc.pc ⟨a, yst, xsA, xsc, yca, xcA, xcc⟩) (Mc.st ⟨a, yst, xsA, xsc, yca, xcA, xcc⟩) (Mc.ca ⟨a, yst, xsA, xsc, yca, xcA, xcc⟩) = true from HMO.out] at h
          exact h
        simp only [Mc.val] at HC
        refine HC.out.mono ?_
        rintro e w8 ⟨rfl, s9⟩
        have HMG := Lib.hid (HMF.out.below s9)
        clear HC HMF s9 HMO
        have HR : Hid (stepV bs (ypc, yst, yca) = ((a, yst, yca), 0)) := by rw [HSX.out, HDV.out]; exact if_pos rfl
        obtain ⟨z, hz⟩ : ∃ z : Mc, z = ⟨a, yst, xsA, xsc, yca, xcA, xcc⟩ := ⟨_, rfl⟩
        rw [← hz] at HMG
        have HZV : Hid (z.v = (a, yst, yca)) := by rw [hz]; rfl
        clear hz HDV HSX
        have k0 : w8.cell? ⟨g6, 0, none⟩ = some (.int .i64 z.pc) := HMG.out.b.cell 0
        have k1 : w8.cell? ⟨g6, 1, none⟩ = some (.slice z.sA z.st.length z.sc) := HMG.out.b.cell 1
        have k2 : w8.cell? ⟨g6, 2, none⟩ = some (.slice z.cA z.ca.length z.cc) := HMG.out.b.cell 2
        have HZO := Lib.hid (HMG.out.own.base (HBW.out w1 (Below.refl _ _)).size)
        have HZ4 := Lib.hid (H4W.out w8 HMG.out.bl)
        have HZB := Lib.hid (HBW.out w8 HMG.out.bl)
        have q0 : w8.cell? ⟨g4, 0, none⟩ = some (.int .i64 0) := HZ4.out.cell 0
        have q1 : w8.cell? ⟨g4, 1, none⟩ = some (.slice none 0 0) := HZ4.out.cell 1
        have q2 : w8.cell? ⟨g4, 2, none⟩ = some (.slice none 0 0) := HZ4.out.cell 2
        have p0 : w8.frozen? ⟨g4, 0, none⟩ = false := HZ4.out.frozen 0
        have p1 : w8.frozen? ⟨g4, 1, none⟩ = false := HZ4.out.frozen 1
        have p2 : w8.frozen? ⟨g4, 2, none⟩ = false := HZ4.out.frozen 2
        have HQ := Lib.hid (((HZ4.out.set_ 0 (.int .i64 z.pc)).set_ 1 (.slice z.sA z.st.length z.sc)).set_ 2 (.slice z.cA z.ca.length z.cc))
        have HOW := Lib.hid (HZO.out.set3 HZ4.out (.int .i64 z.pc) (.slice z.sA z.st.length z.sc) (.slice z.cA z.ca.length z.cc))
        have HBF := Lib.hid (((HZB.out.setCell (p := ⟨g4, 0, none⟩) (by have := HGS.out; simp only; omega) (.int .i64 z.pc)).setCell (p := ⟨g4, 1, none⟩) (by have := HGS.out; simp only; omega) (.slice z.sA z.st.length z.sc)).setCell (p := ⟨g4, 2, none⟩) (by have := HGS.out; simp only; omega) (.slice z.cA z.ca.length z.cc))
        go_wp2
        generalize World.setCell _ ⟨g4, 2, none⟩ _ = WF at HQ HOW HBF ⊢
        have y0 : WF.cell? ⟨g4, 0, none⟩ = some (.int .i64 z.pc) := HQ.out.cell 0
        have y1 : WF.cell? ⟨g4, 1, none⟩ = some (.slice z.sA z.st.length z.sc) := HQ.out.cell 1
        have y2 : WF.cell? ⟨g4, 2, none⟩ = some (.slice z.cA z.ca.length z.cc) := HQ.out.cell 2
        refine bodyPost_ret (v := .tuple #[.agg #[.int .i64 z.pc, .slice z.sA z.st.length z.sc, .slice z.cA z.ca.length z.cc], .int .i64 0]) (by simp [results, Try.results23, go_sem, y0, y1, y2]) rfl ?_
        exact ⟨z, by rw [show stepV bs (Mc.v ⟨ypc, yst, sA, sc, yca, cA, cc⟩) = _ from HR.out]; rfl, by rw [show stepV bs (Mc.v ⟨ypc, yst, sA, sc, yca, cA, cc⟩) = _ from HR.out]; exact HZV.out, HOW.out, HBF.out⟩
      · subst hd1
        clear hd hgd
        by_cases hl : yst.length < 1
        · have HDV : Hid (doV en yst yca 5 a = ((en, yst, yca), false)) := doV_5n en a yst yca hl
          have HR : Hid (stepV bs (ypc, yst, yca) = ((ypc, yst, yca), 2)) := by rw [HSX.out, HDV.out]; exact if_neg (by simp)
          clear HSX HDV
          have b0 : w6.cell? ⟨g6, 0, none⟩ = some (.int .i64 en) := HM6.out.b.cell 0
          have b1 : w6.cell? ⟨g6, 1, none⟩ = some (.slice xsA yst.length xsc) := HM6.out.b.cell 1
          have b2 : w6.cell? ⟨g6, 2, none⟩ = some (.slice xcA yca.length xcc) := HM6.out.b.cell 2
          have k0 : w6.cell? ⟨g7, 0, none⟩ = some (.int .i64 5) := HM6.out.c.cell 0
          have k1 : w6.cell? ⟨g7, 1, none⟩ = some (.int .i64 a) := HM6.out.c.cell 1
          have f0 : w6.frozen? ⟨g6, 0, none⟩ = false := HM6.out.b.frozen 0
          have f1 : w6.frozen? ⟨g6, 1, none⟩ = false := HM6.out.b.frozen 1
          have f2 : w6.frozen? ⟨g6, 2, none⟩ = false := HM6.out.b.frozen 2
          have m1 : w6.cell? ⟨g2, 1, none⟩ = some (.slice sA yst.length sc) := (H2W.out w6 HM6.out.bl).cell 1
          have m2 : w6.cell? ⟨g2, 2, none⟩ = some (.slice cA yca.length cc) := (H2W.out w6 HM6.out.bl).cell 2
          have hq : ¬ (0 : Int) ≤ (yst.length : Int) - 1 := by omega
          have HGq := Lib.hid (HBW.out w6 HM6.out.bl)
          have H2q := Lib.hid (H2W.out w6 HM6.out.bl)
          have H4q := Lib.hid (H4W.out w6 HM6.out.bl)
          have c0 : w6.cell? ⟨g2, 0, none⟩ = some (.int .i64 ypc) := H2q.out.cell 0
          have c1 : w6.cell? ⟨g2, 1, none⟩ = some (.slice sA yst.length sc) := H2q.out.cell 1
          have c2 : w6.cell? ⟨g2, 2, none⟩ = some (.slice cA yca.length cc) := H2q.out.cell 2
          go_wp2_with fail
          refine (HCP.out w6 HGq.out).mono ?_
          rintro e w9 ⟨z, rfl, hzv, hzo, s9⟩
          have HZV := Lib.hid hzv
          have HZO := Lib.hid (hzo.base HGq.out.size)
          have HZ4 := Lib.hid (H4q.out.below s9 H4q.out.lt)
          have HZB := Lib.hid (HGq.out.trans (s9.mono HGq.out.size))
          clear hzv hzo s9 c0 c1 c2
          have q0 : w9.cell? ⟨g4, 0, none⟩ = some (.int .i64 0) := HZ4.out.cell 0
          have q1 : w9.cell? ⟨g4, 1, none⟩ = some (.slice none 0 0) := HZ4.out.cell 1
          have q2 : w9.cell? ⟨g4, 2, none⟩ = some (.slice none 0 0) := HZ4.out.cell 2
          have p0 : w9.frozen? ⟨g4, 0, none⟩ = false := HZ4.out.frozen 0
          have p1 : w9.frozen? ⟨g4, 1, none⟩ = false := HZ4.out.frozen 1
          have p2 : w9.frozen? ⟨g4, 2, none⟩ = false := HZ4.out.frozen 2
          have HQ := Lib.hid (((HZ4.out.set_ 0 (.int .i64 z.pc)).set_ 1 (.slice z.sA z.st.length z.sc)).set_ 2 (.slice z.cA z.ca.length z.cc))
          have HOW := Lib.hid (HZO.out.set3 HZ4.out (.int .i64 z.pc) (.slice z.sA z.st.length z.sc) (.slice z.cA z.ca.length z.cc))
          have HBF := Lib.hid (((HZB.out.setCell (p := ⟨g4, 0, none⟩) (by have := HGS.out; simp only; omega) (.int .i64 z.pc)).setCell (p := ⟨g4, 1, none⟩) (by have := HGS.out; simp only; omega) (.slice z.sA z.st.length z.sc)).setCell (p := ⟨g4, 2, none⟩) (by have := HGS.out; simp only; omega) (.slice z.cA z.ca.length z.cc))
          go_wp2
          generalize World.setCell _ ⟨g4, 2, none⟩ _ = WF at HQ HOW HBF ⊢
          have y0 : WF.cell? ⟨g4, 0, none⟩ = some (.int .i64 z.pc) := HQ.out.cell 0
          have y1 : WF.cell? ⟨g4, 1, none⟩ = some (.slice z.sA z.st.length z.sc) := HQ.out.cell 1
          have y2 : WF.cell? ⟨g4, 2, none⟩ = some (.slice z.cA z.ca.length z.cc) := HQ.out.cell 2
          refine bodyPost_ret (v := .tuple #[.agg #[.int .i64 z.pc, .slice z.sA z.st.length z.sc, .slice z.cA z.ca.length z.cc], .int .i64 2]) (by simp [results, Try.results23, go_sem, y0, y1, y2]) rfl ?_
          exact ⟨z, by rw [show stepV bs (Mc.v ⟨ypc, yst, sA, sc, yca, cA, cc⟩) = _ from HR.out]; rfl, by rw [show stepV bs (Mc.v ⟨ypc, yst, sA, sc, yca, cA, cc⟩) = _ from HR.out]; exact HZV.out, HOW.out, HBF.out⟩
        · obtain ⟨n, hn1, hn2⟩ : ∃ n, yst.length ≤ n + 1 ∧ n + 1 ≤ yst.length := ⟨yst.length - 1, by omega, by omega⟩
          have e5 : (yst.length : Int) - 1 = (n : Int) := by omega
          have hq : (0 : Int) ≤ (yst.length : Int) - 1 := by omega
          have i1 : (0 : Int) ≤ (n : Int) := Int.natCast_nonneg _
          have HVV := Lib.hid (doV_5 en a yst yca hl)
          rw [show yst.length - 1 = n from by omega] at HVV
          obtain ⟨b, off, hA, _, hcs⟩ := (HRS.out w6 HM6.out.bl).row_ (by omega) (by omega)
          have hc0 : w6.cell? ⟨b, off + n, none⟩ = some (.int .i64 (yst.getD n 0)) := hcs n _ (by simp [nums, List.getD_eq_getElem?_getD, show n < yst.length by omega])
          obtain ⟨gs, hA2, _⟩ := row_at HM6.out.own.os (by show 0 < yst.length; omega)
          have hbz : b < w1.heap.size := HSB.out b off hA (by omega)
          have hbg : b ≠ g6 := by omega
          obtain ⟨z0, hz0'⟩ : ∃ z0, z0 = yst.getD n 0 := ⟨_, rfl⟩
          rw [← hz0'] at hc0 HVV
          obtain ⟨hcap, hcm⟩ : yst.length ≤ xsc ∧ xsc ≤ maxLen := own_le_cap HM6.out.own.os
          unfold maxLen at hcm
          have i2 : (n : Int) < (yst.length : Int) := by omega
          have y1 : (n : Int) ≤ (xsc : Int) := by omega
          have y3 : (n : Int) ≤ (yst.length : Int) := by omega
          have y4 : (yst.length : Int) ≤ (xsc : Int) := by omega
          have elen : (yst.take n).length = n := by simp; omega
          have b0 : w6.cell? ⟨g6, 0, none⟩ = some (.int .i64 en) := HM6.out.b.cell 0
          have b1 : w6.cell? ⟨g6, 1, none⟩ = some (.slice xsA yst.length xsc) := HM6.out.b.cell 1
          have b2 : w6.cell? ⟨g6, 2, none⟩ = some (.slice xcA yca.length xcc) := HM6.out.b.cell 2
          have k0 : w6.cell? ⟨g7, 0, none⟩ = some (.int .i64 5) := HM6.out.c.cell 0
          have k1 : w6.cell? ⟨g7, 1, none⟩ = some (.int .i64 a) := HM6.out.c.cell 1
          have f0 : w6.frozen? ⟨g6, 0, none⟩ = false := HM6.out.b.frozen 0
          have f1 : w6.frozen? ⟨g6, 1, none⟩ = false := HM6.out.b.frozen 1
          have f2 : w6.frozen? ⟨g6, 2, none⟩ = false := HM6.out.b.frozen 2
          have m1 : w6.cell? ⟨g2, 1, none⟩ = some (.slice sA yst.length sc) := (H2W.out w6 HM6.out.bl).cell 1
          have m2 : w6.cell? ⟨g2, 2, none⟩ = some (.slice cA yca.length cc) := (H2W.out w6 HM6.out.bl).cell 2
          rw [hA] at m1
          have hgg : g2 ≠ g6 := by omega
          have hgc : g7 ≠ g6 := HM6.out.cNe
          have HMS := Lib.hid (HM6.out.stTo (k := n) (by simp; omega))
          change xsA = _ at hA2
          rw [hA2] at b1 HMS
          clear hA hA2 hcs hz0' HM6 hl
          by_cases hz : z0 = 0
          · have HDV : Hid (doV en yst yca 5 a = ((a, yst.take n, yca), true)) := by
              have h := HVV.out
              rw [if_pos hz] at h
              exact h
            subst hz
            have HMF := Lib.hid (HMS.out.pc a)
            clear HVV HMS
            go_wp2_with fail
            clear b0 b1 b2 k0 k1 f0 f1 f2 m1 m2
            generalize ((w6.setCell ⟨g6, 1, none⟩ (.slice (some ⟨gs, 0, none⟩) n xsc)).setCell ⟨g6, 0, none⟩ (.int .i64 a)) = wF at HMF ⊢
            have HMO : Hid (mOk ((a, yst.take n, yca) : McV).1 ((a, yst.take n, yca) : McV).2.1 ((a, yst.take n, yca) : McV).2.2 = true) := by
              have h := doV_ok (pc := en) (st := yst) (ca := yca) (mOk_of HGA2.out.2.2 q2 q3 HP4.out HP5.out) ⟨HGA2.out.1, HGA2.out.2.1⟩ (by rw [HDV.out])
              rw [HDV.out] at h
              exact h
            have HC : Hid (Calls Try.prog 20 #[Mc.val ⟨a, yst.take n, (some ⟨gs, 0, none⟩), xsc, yca, xcA, xcc⟩] wF (Gives wF (.bool true))) := by
              have h := specMOk_any ⟨a, yst.take n, (some ⟨gs, 0, none⟩), xsc, yca, xcA, xcc⟩ wF HMF.out.own.at_ (Nat.le_refl _) ⟨by simp; omega, by simp; omega⟩
              rw [show mOk (Mc.pc ⟨a, yst.take n, (some ⟨gs, 0, none⟩), xsc, yca, xcA, xcc⟩) (Mc.st ⟨a, yst.take n, (some ⟨gs, 0, none⟩), xsc, yca, xcA, xcc⟩) (Mc.ca ⟨a, yst.take n, (some ⟨gs, 0, none⟩), xsc, yca, xcA, xcc⟩) = true from HMO.out] at h
              exact h
            simp only [Mc.val, elen] at HC
            refine HC.out.mono ?_
            rintro e w8 ⟨rfl, s9⟩
            have HMG := Lib.hid (HMF.out.below s9)
            clear HC HMF s9 HMO
            have HR : Hid (stepV bs (ypc, yst, yca) = ((a, yst.take n, yca), 0)) := by rw [HSX.out, HDV.out]; exact if_pos rfl
            obtain ⟨z, hz⟩ : ∃ z : Mc, z = ⟨a, yst.take n, (some ⟨gs, 0, none⟩), xsc, yca, xcA, xcc⟩ := ⟨_, rfl⟩
            rw [← hz] at HMG
            have HZV : Hid (z.v = (a, yst.take n, yca)) := by rw [hz]; rfl
            clear hz HDV HSX
            have k0 : w8.cell? ⟨g6, 0, none⟩ = some (.int .i64 z.pc) := HMG.out.b.cell 0
            have k1 : w8.cell? ⟨g6, 1, none⟩ = some (.slice z.sA z.st.length z.sc) := HMG.out.b.cell 1
            have k2 : w8.cell? ⟨g6, 2, none⟩ = some (.slice z.cA z.ca.length z.cc) := HMG.out.b.cell 2
            have HZO := Lib.hid (HMG.out.own.base (HBW.out w1 (Below.refl _ _)).size)
            have HZ4 := Lib.hid (H4W.out w8 HMG.out.bl)
            have HZB := Lib.hid (HBW.out w8 HMG.out.bl)
            have q0 : w8.cell? ⟨g4, 0, none⟩ = some (.int .i64 0) := HZ4.out.cell 0
            have q1 : w8.cell? ⟨g4, 1, none⟩ = some (.slice none 0 0) := HZ4.out.cell 1
            have q2 : w8.cell? ⟨g4, 2, none⟩ = some (.slice none 0 0) := HZ4.out.cell 2
            have p0 : w8.frozen? ⟨g4, 0, none⟩ = false := HZ4.out.frozen 0
            have p1 : w8.frozen? ⟨g4, 1, none⟩ = false := HZ4.out.frozen 1
            have p2 : w8.frozen? ⟨g4, 2, none⟩ = false := HZ4.out.frozen 2
            have HQ := Lib.hid (((HZ4.out.set_ 0 (.int .i64 z.pc)).set_ 1 (.slice z.sA z.st.length z.sc)).set_ 2 (.slice z.cA z.ca.length z.cc))
            have HOW := Lib.hid (HZO.out.set3 HZ4.out (.int .i64 z.pc) (.slice z.sA z.st.length z.sc) (.slice z.cA z.ca.length z.cc))
            have HBF := Lib.hid (((HZB.out.setCell (p := ⟨g4, 0, none⟩) (by have := HGS.out; simp only; omega) (.int .i64 z.pc)).setCell (p := ⟨g4, 1, none⟩) (by have := HGS.out; simp only; omega) (.slice z.sA z.st.length z.sc)).setCell (p := ⟨g4, 2, none⟩) (by have := HGS.out; simp only; omega) (.slice z.cA z.ca.length z.cc))
            go_wp2
            generalize World.setCell _ ⟨g4, 2, none⟩ _ = WF at HQ HOW HBF ⊢
            have y0 : WF.cell? ⟨g4, 0, none⟩ = some (.int .i64 z.pc) := HQ.out.cell 0
            have y1 : WF.cell? ⟨g4, 1, none⟩ = some (.slice z.sA z.st.length z.sc) := HQ.out.cell 1
            have y2 : WF.cell? ⟨g4, 2, none⟩ = some (.slice z.cA z.ca.length z.cc) := HQ.out.cell 2
            refine bodyPost_ret (v := .tuple #[.agg #[.int .i64 z.pc, .slice z.sA z.st.length z.sc, .slice z.cA z.ca.length z.cc], .int .i64 0]) (by simp [results, Try.results23, go_sem, y0, y1, y2]) rfl ?_
            exact ⟨z, by rw [show stepV bs (Mc.v ⟨ypc, yst, sA, sc, yca, cA, cc⟩) = _ from HR.out]; rfl, by rw [show stepV bs (Mc.v ⟨ypc, yst, sA, sc, yca, cA, cc⟩) = _ from HR.out]; exact HZV.out, HOW.out, HBF.out⟩
          · have HDV : Hid (doV en yst yca 5 a = ((en, yst.take n, yca), true)) := by
              have h := HVV.out
              rw [if_neg hz] at h
              exact h
            have hzb : (z0 == 0) = false := by rw [beq_eq_false_iff_ne]; exact hz
            have HMF := HMS
            clear HVV HMS hz
            go_wp2_with fail
            clear b0 b1 b2 k0 k1 f0 f1 f2 m1 m2
            generalize (w6.setCell ⟨g6, 1, none⟩ (.slice (some ⟨gs, 0, none⟩) n xsc)) = wF at HMF ⊢
            have HMO : Hid (mOk ((en, yst.take n, yca) : McV).1 ((en, yst.take n, yca) : McV).2.1 ((en, yst.take n, yca) : McV).2.2 = true) := by
              have h := doV_ok (pc := en) (st := yst) (ca := yca) (mOk_of HGA2.out.2.2 q2 q3 HP4.out HP5.out) ⟨HGA2.out.1, HGA2.out.2.1⟩ (by rw [HDV.out])
              rw [HDV.out] at h
              exact h
            have HC : Hid (Calls Try.prog 20 #[Mc.val ⟨en, yst.take n, (some ⟨gs, 0, none⟩), xsc, yca, xcA, xcc⟩] wF (Gives wF (.bool true))) := by
              have h := specMOk_any ⟨en, yst.take n, (some ⟨gs, 0, none⟩), xsc, yca, xcA, xcc⟩ wF HMF.out.own.at_ (Nat.le_refl _) ⟨by simp; omega, by simp; omega⟩
              rw [show mOk (Mc.pc ⟨en, yst.take n, (some ⟨gs, 0, none⟩), xsc, yca, xcA, xcc⟩) (Mc.st ⟨en, yst.take n, (some ⟨gs, 0, none⟩), xsc, yca, xcA, xcc⟩) (Mc.ca ⟨en, yst.take n, (some ⟨gs, 0, none⟩), xsc, yca, xcA, xcc⟩) = true from HMO.out] at h
              exact h
            simp only [Mc.val, elen] at HC
            refine HC.out.mono ?_
            rintro e w8 ⟨rfl, s9⟩
            have HMG := Lib.hid (HMF.out.below s9)
            clear HC HMF s9 HMO
            have HR : Hid (stepV bs (ypc, yst, yca) = ((en, yst.take n, yca), 0)) := by rw [HSX.out, HDV.out]; exact if_pos rfl
            obtain ⟨z, hz⟩ : ∃ z : Mc, z = ⟨en, yst.take n, (some ⟨gs, 0, none⟩), xsc, yca, xcA, xcc⟩ := ⟨_, rfl⟩
            rw [← hz] at HMG
            have HZV : Hid (z.v = (en, yst.take n, yca)) := by rw [hz]; rfl
            clear hz HDV HSX
            have k0 : w8.cell? ⟨g6, 0, none⟩ = some (.int .i64 z.pc) := HMG.out.b.cell 0
            have k1 : w8.cell? ⟨g6, 1, none⟩ = some (.slice z.sA z.st.length z.sc) := HMG.out.b.cell 1
            have k2 : w8.cell? ⟨g6, 2, none⟩ = some (.slice z.cA z.ca.length z.cc) := HMG.out.b.cell 2
            have HZO := Lib.hid (HMG.out.own.base (HBW.out w1 (Below.refl _ _)).size)
            have HZ4 := Lib.hid (H4W.out w8 HMG.out.bl)
            have HZB := Lib.hid (HBW.out w8 HMG.out.bl)
            have q0 : w8.cell? ⟨g4, 0, none⟩ = some (.int .i64 0) := HZ4.out.cell 0
            have q1 : w8.cell? ⟨g4, 1, none⟩ = some (.slice none 0 0) := HZ4.out.cell 1
            have q2 : w8.cell? ⟨g4, 2, none⟩ = some (.slice none 0 0) := HZ4.out.cell 2
            have p0 : w8.frozen? ⟨g4, 0, none⟩ = false := HZ4.out.frozen 0
            have p1 : w8.frozen? ⟨g4, 1, none⟩ = false := HZ4.out.frozen 1
            have p2 : w8.frozen? ⟨g4, 2, none⟩ = false := HZ4.out.frozen 2
            have HQ := Lib.hid (((HZ4.out.set_ 0 (.int .i64 z.pc)).set_ 1 (.slice z.sA z.st.length z.sc)).set_ 2 (.slice z.cA z.ca.length z.cc))
            have HOW := Lib.hid (HZO.out.set3 HZ4.out (.int .i64 z.pc) (.slice z.sA z.st.length z.sc) (.slice z.cA z.ca.length z.cc))
            have HBF := Lib.hid (((HZB.out.setCell (p := ⟨g4, 0, none⟩) (by have := HGS.out; simp only; omega) (.int .i64 z.pc)).setCell (p := ⟨g4, 1, none⟩) (by have := HGS.out; simp only; omega) (.slice z.sA z.st.length z.sc)).setCell (p := ⟨g4, 2, none⟩) (by have := HGS.out; simp only; omega) (.slice z.cA z.ca.length z.cc))
            go_wp2
            generalize World.setCell _ ⟨g4, 2, none⟩ _ = WF at HQ HOW HBF ⊢
            have y0 : WF.cell? ⟨g4, 0, none⟩ = some (.int .i64 z.pc) := HQ.out.cell 0
            have y1 : WF.cell? ⟨g4, 1, none⟩ = some (.slice z.sA z.st.length z.sc) := HQ.out.cell 1
            have y2 : WF.cell? ⟨g4, 2, none⟩ = some (.slice z.cA z.ca.length z.cc) := HQ.out.cell 2
            refine bodyPost_ret (v := .tuple #[.agg #[.int .i64 z.pc, .slice z.sA z.st.length z.sc, .slice z.cA z.ca.length z.cc], .int .i64 0]) (by simp [results, Try.results23, go_sem, y0, y1, y2]) rfl ?_
            exact ⟨z, by rw [show stepV bs (Mc.v ⟨ypc, yst, sA, sc, yca, cA, cc⟩) = _ from HR.out]; rfl, by rw [show stepV bs (Mc.v ⟨ypc, yst, sA, sc, yca, cA, cc⟩) = _ from HR.out]; exact HZV.out, HOW.out, HBF.out⟩
      · subst hd1
        clear hd hgd
        have b0 : w6.cell? ⟨g6, 0, none⟩ = some (.int .i64 en) := HM6.out.b.cell 0
        have b1 : w6.cell? ⟨g6, 1, none⟩ = some (.slice xsA yst.length xsc) := HM6.out.b.cell 1
        have b2 : w6.cell? ⟨g6, 2, none⟩ = some (.slice xcA yca.length xcc) := HM6.out.b.cell 2
        have k0 : w6.cell? ⟨g7, 0, none⟩ = some (.int .i64 6) := HM6.out.c.cell 0
        have k1 : w6.cell? ⟨g7, 1, none⟩ = some (.int .i64 a) := HM6.out.c.cell 1
        have f0 : w6.frozen? ⟨g6, 0, none⟩ = false := HM6.out.b.frozen 0
        have f1 : w6.frozen? ⟨g6, 1, none⟩ = false := HM6.out.b.frozen 1
        have f2 : w6.frozen? ⟨g6, 2, none⟩ = false := HM6.out.b.frozen 2
        have m1 : w6.cell? ⟨g2, 1, none⟩ = some (.slice sA yst.length sc) := (H2W.out w6 HM6.out.bl).cell 1
        have m2 : w6.cell? ⟨g2, 2, none⟩ = some (.slice cA yca.length cc) := (H2W.out w6 HM6.out.bl).cell 2
        have HRL : Hid (∀ wl, wl = w6.alloc (.cells #[.int .i64 en] 3) → Reads wl wl.heap.size 1 (some ⟨w6.heap.size, 0, none⟩) 1 [.int .i64 en]) := fun wl hwl => by rw [hwl]; exact reads_one (Blk.new _ _ _)
        have HML := Lib.hid (HM6.out.below ((Below.refl _ _).alloc (Nat.le_refl _) (.cells #[.int .i64 en] 3)))
        go_wp2_with (at_builtin; refine wpList_append_any _ rfl (.tmp 65) (.tmp 67) _ rfl w1.heap.size 3 i0 _ 1 8 Try.underlying22 hi0 HZZ.out hz1 hz2 rfl (by omega) (.slice xcA yca.length xcc) yca.length (nums .i64 (yca.take yca.length)) rfl (by rw [List.take_length]; exact HML.out.own.oc) (w6.alloc (.cells #[.int .i64 en] 3)).heap.size (some ⟨w6.heap.size, 0, none⟩) 1 1 [.int .i64 en] rfl (by exact HRL.out _ rfl) (by simp [Value.oneCell']) (by unfold maxLen; omega) (by omega) (by exact HML.out.lt.2.2.2) ?_; intro v' w7 ho hg hat; obtain ⟨A9, c9, rfl⟩ := own_sliceM ho; have hX := HML.out.pushCa0 (k := yca.length) (Nat.le_refl _) hg ho hat; have x0_ : w7.cell? ⟨g6, 0, none⟩ = some (.int .i64 en) := hX.b.cell 0; have x1_ : w7.cell? ⟨g6, 1, none⟩ = some (.slice xsA yst.length xsc) := hX.b.cell 1; have x2_ : w7.cell? ⟨g6, 2, none⟩ = some (.slice xcA yca.length xcc) := hX.b.cell 2; have kk_ : w7.cell? ⟨g7, 1, none⟩ = some (.int .i64 a) := hX.c.cell 1; have f0_ : w7.frozen? ⟨g6, 0, none⟩ = false := hX.b.frozen 0; have f1_ : w7.frozen? ⟨g6, 2, none⟩ = false := hX.b.frozen 2; have HX9 := Lib.hid (hX.set_ 2 (.slice A9 (yca.length + 1) c9)); clear ho hg hat hX)
        have HMF0 := HX9.out.set_ 0 (.int .i64 a)
        have HMF : Hid (XM w1 w1.heap.size w1.heap.size g6 g7 6 a ⟨a, yst, xsA, xsc, yca.take yca.length ++ [en], A9, c9⟩ ((w7.setCell ⟨g6, 2, none⟩ (.slice A9 (yca.length + 1) c9)).setCell ⟨g6, 0, none⟩ (.int .i64 a))) := (show XC w1 w1.heap.size w1.heap.size g6 g7 6 a _ ⟨a, yst, xsA, xsc, yca.take yca.length ++ [en], A9, c9⟩ ((w7.setCell ⟨g6, 2, none⟩ (.slice A9 (yca.length + 1) c9)).setCell ⟨g6, 0, none⟩ (.int .i64 a)) from ⟨HMF0.b, HMF0.c, ⟨HMF0.own.os, HMF0.own.oc, HMF0.own.ap⟩, HMF0.bl, HMF0.lt⟩).toXM (by simp [Mc.cells])
        clear HX9 HMF0 x0_ x1_ x2_ kk_ f0_ f1_ HML HRL HM6
        clear b0 b1 b2 k0 k1 f0 f1 f2 m1 m2
        generalize ((w7.setCell ⟨g6, 2, none⟩ (.slice A9 (yca.length + 1) c9)).setCell ⟨g6, 0, none⟩ (.int .i64 a)) = wF at HMF ⊢
        have elen : (yca.take yca.length ++ [en]).length = yca.length + 1 := by simp
        by_cases h8 : yca.length + 1 ≤ 8
        · have HDV : Hid (doV en yst yca 6 a = ((a, yst, yca.take yca.length ++ [en]), true)) := by
            have h := doV_6 en a yst yca
            rw [decide_eq_true h8] at h
            exact h
          have HMO : Hid (mOk ((a, yst, yca.take yca.length ++ [en]) : McV).1 ((a, yst, yca.take yca.length ++ [en]) : McV).2.1 ((a, yst, yca.take yca.length ++ [en]) : McV).2.2 = true) := by
            have h := doV_ok (pc := en) (st := yst) (ca := yca) (mOk_of HGA2.out.2.2 q2 q3 HP4.out HP5.out) ⟨HGA2.out.1, HGA2.out.2.1⟩ (by rw [HDV.out])
            rw [HDV.out] at h
            exact h
          have HC : Hid (Calls Try.prog 20 #[Mc.val ⟨a, yst, xsA, xsc, yca.take yca.length ++ [en], A9, c9⟩] wF (Gives wF (.bool true))) := by
            have h := specMOk_any ⟨a, yst, xsA, xsc, yca.take yca.length ++ [en], A9, c9⟩ wF HMF.out.own.at_ (Nat.le_refl _) ⟨by simp; omega, by simp; omega⟩
            rw [show mOk (Mc.pc ⟨a, yst, xsA, xsc, yca.take yca.length ++ [en], A9, c9⟩) (Mc.st ⟨a, yst, xsA, xsc, yca.take yca.length ++ [en], A9, c9⟩) (Mc.ca ⟨a, yst, xsA, xsc, yca.take yca.length ++ [en], A9, c9⟩) = true from HMO.out] at h
            exact h
          simp only [Mc.val, elen] at HC
          refine HC.out.mono ?_
          rintro e w8 ⟨rfl, s9⟩
          have HMG := Lib.hid (HMF.out.below s9)
          clear HC HMF s9 HMO
          have HR : Hid (stepV bs (ypc, yst, yca) = ((a, yst, yca.take yca.length ++ [en]), 0)) := by rw [HSX.out, HDV.out]; exact if_pos rfl
          obtain ⟨z, hz⟩ : ∃ z : Mc, z = ⟨a, yst, xsA, xsc, yca.take yca.length ++ [en], A9, c9⟩ := ⟨_, rfl⟩
          rw [← hz] at HMG
          have HZV : Hid (z.v = (a, yst, yca.take yca.length ++ [en])) := by rw [hz]; rfl
          clear hz HDV HSX
          have k0 : w8.cell? ⟨g6, 0, none⟩ = some (.int .i64 z.pc) := HMG.out.b.cell 0
          have k1 : w8.cell? ⟨g6, 1, none⟩ = some (.slice z.sA z.st.length z.sc) := HMG.out.b.cell 1
          have k2 : w8.cell? ⟨g6, 2, none⟩ = some (.slice z.cA z.ca.length z.cc) := HMG.out.b.cell 2
          have HZO := Lib.hid (HMG.out.own.base (HBW.out w1 (Below.refl _ _)).size)
          have HZ4 := Lib.hid (H4W.out w8 HMG.out.bl)
          have HZB := Lib.hid (HBW.out w8 HMG.out.bl)
          have q0 : w8.cell? ⟨g4, 0, none⟩ = some (.int .i64 0) := HZ4.out.cell 0
          have q1 : w8.cell? ⟨g4, 1, none⟩ = some (.slice none 0 0) := HZ4.out.cell 1
          have q2 : w8.cell? ⟨g4, 2, none⟩ = some (.slice none 0 0) := HZ4.out.cell 2
          have p0 : w8.frozen? ⟨g4, 0, none⟩ = false := HZ4.out.frozen 0
          have p1 : w8.frozen? ⟨g4, 1, none⟩ = false := HZ4.out.frozen 1
          have p2 : w8.frozen? ⟨g4, 2, none⟩ = false := HZ4.out.frozen 2
          have HQ := Lib.hid (((HZ4.out.set_ 0 (.int .i64 z.pc)).set_ 1 (.slice z.sA z.st.length z.sc)).set_ 2 (.slice z.cA z.ca.length z.cc))
          have HOW := Lib.hid (HZO.out.set3 HZ4.out (.int .i64 z.pc) (.slice z.sA z.st.length z.sc) (.slice z.cA z.ca.length z.cc))
          have HBF := Lib.hid (((HZB.out.setCell (p := ⟨g4, 0, none⟩) (by have := HGS.out; simp only; omega) (.int .i64 z.pc)).setCell (p := ⟨g4, 1, none⟩) (by have := HGS.out; simp only; omega) (.slice z.sA z.st.length z.sc)).setCell (p := ⟨g4, 2, none⟩) (by have := HGS.out; simp only; omega) (.slice z.cA z.ca.length z.cc))
          go_wp2
          generalize World.setCell _ ⟨g4, 2, none⟩ _ = WF at HQ HOW HBF ⊢
          have y0 : WF.cell? ⟨g4, 0, none⟩ = some (.int .i64 z.pc) := HQ.out.cell 0
          have y1 : WF.cell? ⟨g4, 1, none⟩ = some (.slice z.sA z.st.length z.sc) := HQ.out.cell 1
          have y2 : WF.cell? ⟨g4, 2, none⟩ = some (.slice z.cA z.ca.length z.cc) := HQ.out.cell 2
          refine bodyPost_ret (v := .tuple #[.agg #[.int .i64 z.pc, .slice z.sA z.st.length z.sc, .slice z.cA z.ca.length z.cc], .int .i64 0]) (by simp [results, Try.results23, go_sem, y0, y1, y2]) rfl ?_
          exact ⟨z, by rw [show stepV bs (Mc.v ⟨ypc, yst, sA, sc, yca, cA, cc⟩) = _ from HR.out]; rfl, by rw [show stepV bs (Mc.v ⟨ypc, yst, sA, sc, yca, cA, cc⟩) = _ from HR.out]; exact HZV.out, HOW.out, HBF.out⟩
        · have HDV : Hid (doV en yst yca 6 a = ((a, yst, yca.take yca.length ++ [en]), false)) := by
            have h := doV_6 en a yst yca
            rw [decide_eq_false h8] at h
            exact h
          have HMO : Hid (mOk a yst (yca.take yca.length ++ [en]) = false) := doV_bad6 h8
          have HC : Hid (Calls Try.prog 20 #[Mc.val ⟨a, yst, xsA, xsc, yca.take yca.length ++ [en], A9, c9⟩] wF (Gives wF (.bool false))) := by
            have h := specMOk_any ⟨a, yst, xsA, xsc, yca.take yca.length ++ [en], A9, c9⟩ wF HMF.out.own.at_ (Nat.le_refl _) ⟨by simp; omega, by simp; omega⟩
            rw [show mOk (Mc.pc ⟨a, yst, xsA, xsc, yca.take yca.length ++ [en], A9, c9⟩) (Mc.st ⟨a, yst, xsA, xsc, yca.take yca.length ++ [en], A9, c9⟩) (Mc.ca ⟨a, yst, xsA, xsc, yca.take yca.length ++ [en], A9, c9⟩) = false from HMO.out] at h
            exact h
          simp only [Mc.val, elen] at HC
          refine HC.out.mono ?_
          rintro e w8 ⟨rfl, s9⟩
          have HMG := Lib.hid (HMF.out.below s9)
          clear HC HMF s9 HMO
          have HR : Hid (stepV bs (ypc, yst, yca) = ((ypc, yst, yca), 2)) := by rw [HSX.out, HDV.out]; exact if_neg (by simp)
          have HGq := Lib.hid (HBW.out w8 HMG.out.bl)
          have H2q := Lib.hid (H2W.out w8 HMG.out.bl)
          have H4q := Lib.hid (H4W.out w8 HMG.out.bl)
          have c0 : w8.cell? ⟨g2, 0, none⟩ = some (.int .i64 ypc) := H2q.out.cell 0
          have c1 : w8.cell? ⟨g2, 1, none⟩ = some (.slice sA yst.length sc) := H2q.out.cell 1
          have c2 : w8.cell? ⟨g2, 2, none⟩ = some (.slice cA yca.length cc) := H2q.out.cell 2
          go_wp2_with fail
          refine (HCP.out w8 HGq.out).mono ?_
          rintro e w9 ⟨z, rfl, hzv, hzo, s9⟩
          have HZV := Lib.hid hzv
          have HZO := Lib.hid (hzo.base HGq.out.size)
          have HZ4 := Lib.hid (H4q.out.below s9 H4q.out.lt)
          have HZB := Lib.hid (HGq.out.trans (s9.mono HGq.out.size))
          clear hzv hzo s9 c0 c1 c2
          have q0 : w9.cell? ⟨g4, 0, none⟩ = some (.int .i64 0) := HZ4.out.cell 0
          have q1 : w9.cell? ⟨g4, 1, none⟩ = some (.slice none 0 0) := HZ4.out.cell 1
          have q2 : w9.cell? ⟨g4, 2, none⟩ = some (.slice none 0 0) := HZ4.out.cell 2
          have p0 : w9.frozen? ⟨g4, 0, none⟩ = false := HZ4.out.frozen 0
          have p1 : w9.frozen? ⟨g4, 1, none⟩ = false := HZ4.out.frozen 1
          have p2 : w9.frozen? ⟨g4, 2, none⟩ = false := HZ4.out.frozen 2
          have HQ := Lib.hid (((HZ4.out.set_ 0 (.int .i64 z.pc)).set_ 1 (.slice z.sA z.st.length z.sc)).set_ 2 (.slice z.cA z.ca.length z.cc))
          have HOW := Lib.hid (HZO.out.set3 HZ4.out (.int .i64 z.pc) (.slice z.sA z.st.length z.sc) (.slice z.cA z.ca.length z.cc))
          have HBF := Lib.hid (((HZB.out.setCell (p := ⟨g4, 0, none⟩) (by have := HGS.out; simp only; omega) (.int .i64 z.pc)).setCell (p := ⟨g4, 1, none⟩) (by have := HGS.out; simp only; omega) (.slice z.sA z.st.length z.sc)).setCell (p := ⟨g4, 2, none⟩) (by have := HGS.out; simp only; omega) (.slice z.cA z.ca.length z.cc))
          go_wp2
          generalize World.setCell _ ⟨g4, 2, none⟩ _ = WF at HQ HOW HBF ⊢
          have y0 : WF.cell? ⟨g4, 0, none⟩ = some (.int .i64 z.pc) := HQ.out.cell 0
          have y1 : WF.cell? ⟨g4, 1, none⟩ = some (.slice z.sA z.st.length z.sc) := HQ.out.cell 1
          have y2 : WF.cell? ⟨g4, 2, none⟩ = some (.slice z.cA z.ca.length z.cc) := HQ.out.cell 2
          refine bodyPost_ret (v := .tuple #[.agg #[.int .i64 z.pc, .slice z.sA z.st.length z.sc, .slice z.cA z.ca.length z.cc], .int .i64 2]) (by simp [results, Try.results23, go_sem, y0, y1, y2]) rfl ?_
          exact ⟨z, by rw [show stepV bs (Mc.v ⟨ypc, yst, sA, sc, yca, cA, cc⟩) = _ from HR.out]; rfl, by rw [show stepV bs (Mc.v ⟨ypc, yst, sA, sc, yca, cA, cc⟩) = _ from HR.out]; exact HZV.out, HOW.out, HBF.out⟩
      · subst hd1
        clear hd hgd
        by_cases hl : yca.length < 1
        · have HDV : Hid (doV en yst yca 7 a = ((en, yst, yca), false)) := doV_7n en a yst yca hl
          have HR : Hid (stepV bs (ypc, yst, yca) = ((ypc, yst, yca), 2)) := by rw [HSX.out, HDV.out]; exact if_neg (by simp)
          clear HSX HDV
          have b0 : w6.cell? ⟨g6, 0, none⟩ = some (.int .i64 en) := HM6.out.b.cell 0
          have b1 : w6.cell? ⟨g6, 1, none⟩ = some (.slice xsA yst.length xsc) := HM6.out.b.cell 1
          have b2 : w6.cell? ⟨g6, 2, none⟩ = some (.slice xcA yca.length xcc) := HM6.out.b.cell 2
          have k0 : w6.cell? ⟨g7, 0, none⟩ = some (.int .i64 7) := HM6.out.c.cell 0
          have k1 : w6.cell? ⟨g7, 1, none⟩ = some (.int .i64 a) := HM6.out.c.cell 1
          have f0 : w6.frozen? ⟨g6, 0, none⟩ = false := HM6.out.b.frozen 0
          have f1 : w6.frozen? ⟨g6, 1, none⟩ = false := HM6.out.b.frozen 1
          have f2 : w6.frozen? ⟨g6, 2, none⟩ = false := HM6.out.b.frozen 2
          have m1 : w6.cell? ⟨g2, 1, none⟩ = some (.slice sA yst.length sc) := (H2W.out w6 HM6.out.bl).cell 1
          have m2 : w6.cell? ⟨g2, 2, none⟩ = some (.slice cA yca.length cc) := (H2W.out w6 HM6.out.bl).cell 2
          have hq : ¬ (0 : Int) < (yca.length : Int) := by omega
          have HGq := Lib.hid (HBW.out w6 HM6.out.bl)
          have H2q := Lib.hid (H2W.out w6 HM6.out.bl)
          have H4q := Lib.hid (H4W.out w6 HM6.out.bl)
          have c0 : w6.cell? ⟨g2, 0, none⟩ = some (.int .i64 ypc) := H2q.out.cell 0
          have c1 : w6.cell? ⟨g2, 1, none⟩ = some (.slice sA yst.length sc) := H2q.out.cell 1
          have c2 : w6.cell? ⟨g2, 2, none⟩ = some (.slice cA yca.length cc) := H2q.out.cell 2
          go_wp2_with fail
          refine (HCP.out w6 HGq.out).mono ?_
          rintro e w9 ⟨z, rfl, hzv, hzo, s9⟩
          have HZV := Lib.hid hzv
          have HZO := Lib.hid (hzo.base HGq.out.size)
          have HZ4 := Lib.hid (H4q.out.below s9 H4q.out.lt)
          have HZB := Lib.hid (HGq.out.trans (s9.mono HGq.out.size))
          clear hzv hzo s9 c0 c1 c2
          have q0 : w9.cell? ⟨g4, 0, none⟩ = some (.int .i64 0) := HZ4.out.cell 0
          have q1 : w9.cell? ⟨g4, 1, none⟩ = some (.slice none 0 0) := HZ4.out.cell 1
          have q2 : w9.cell? ⟨g4, 2, none⟩ = some (.slice none 0 0) := HZ4.out.cell 2
          have p0 : w9.frozen? ⟨g4, 0, none⟩ = false := HZ4.out.frozen 0
          have p1 : w9.frozen? ⟨g4, 1, none⟩ = false := HZ4.out.frozen 1
          have p2 : w9.frozen? ⟨g4, 2, none⟩ = false := HZ4.out.frozen 2
          have HQ := Lib.hid (((HZ4.out.set_ 0 (.int .i64 z.pc)).set_ 1 (.slice z.sA z.st.length z.sc)).set_ 2 (.slice z.cA z.ca.length z.cc))
          have HOW := Lib.hid (HZO.out.set3 HZ4.out (.int .i64 z.pc) (.slice z.sA z.st.length z.sc) (.slice z.cA z.ca.length z.cc))
          have HBF := Lib.hid (((HZB.out.setCell (p := ⟨g4, 0, none⟩) (by have := HGS.out; simp only; omega) (.int .i64 z.pc)).setCell (p := ⟨g4, 1, none⟩) (by have := HGS.out; simp only; omega) (.slice z.sA z.st.length z.sc)).setCell (p := ⟨g4, 2, none⟩) (by have := HGS.out; simp only; omega) (.slice z.cA z.ca.length z.cc))
          go_wp2
          generalize World.setCell _ ⟨g4, 2, none⟩ _ = WF at HQ HOW HBF ⊢
          have y0 : WF.cell? ⟨g4, 0, none⟩ = some (.int .i64 z.pc) := HQ.out.cell 0
          have y1 : WF.cell? ⟨g4, 1, none⟩ = some (.slice z.sA z.st.length z.sc) := HQ.out.cell 1
          have y2 : WF.cell? ⟨g4, 2, none⟩ = some (.slice z.cA z.ca.length z.cc) := HQ.out.cell 2
          refine bodyPost_ret (v := .tuple #[.agg #[.int .i64 z.pc, .slice z.sA z.st.length z.sc, .slice z.cA z.ca.length z.cc], .int .i64 2]) (by simp [results, Try.results23, go_sem, y0, y1, y2]) rfl ?_
          exact ⟨z, by rw [show stepV bs (Mc.v ⟨ypc, yst, sA, sc, yca, cA, cc⟩) = _ from HR.out]; rfl, by rw [show stepV bs (Mc.v ⟨ypc, yst, sA, sc, yca, cA, cc⟩) = _ from HR.out]; exact HZV.out, HOW.out, HBF.out⟩
        · have hq : (0 : Int) < (yca.length : Int) := by omega
          obtain ⟨n, hn1, hn2⟩ : ∃ n, yca.length ≤ n + 1 ∧ n + 1 ≤ yca.length := ⟨yca.length - 1, by omega, by omega⟩
          have e6 : (yca.length : Int) - 1 = (n : Int) := by omega
          have e6w : IntKind.i64.wrap ((yca.length : Int) - 1) = (n : Int) := by rw [IntWalk.i64_in _ (by omega)]; exact e6
          have e6x : IntKind.i64.wrap (n : Int) = (n : Int) := IntWalk.i64_in _ (by omega)
          have HVV := Lib.hid (doV_7 en a yst yca hl)
          rw [show yca.length - 1 = n from by omega] at HVV
          obtain ⟨b, off, hA, _, hcs⟩ := (HRC.out w6 HM6.out.bl).row_ (by omega) (by omega)
          have hc0 : w6.cell? ⟨b, off + n, none⟩ = some (.int .i64 (yca.getD n 0)) := hcs n _ (by simp [nums, List.getD_eq_getElem?_getD, show n < yca.length by omega])
          obtain ⟨gs, hA2, _⟩ := row_at HM6.out.own.oc (by show 0 < yca.length; omega)
          have HA2 := Lib.hid hA2
          obtain ⟨z0, hz0'⟩ : ∃ z0, z0 = yca.getD n 0 := ⟨_, rfl⟩
          rw [← hz0'] at hc0 HVV
          have HDV : Hid (doV en yst yca 7 a = ((z0, yst, yca.take n), true)) := HVV.out
          obtain ⟨hcap, hcm⟩ : yca.length ≤ xcc ∧ xcc ≤ maxLen := own_le_cap HM6.out.own.oc
          unfold maxLen at hcm
          have i1 : (0 : Int) ≤ (n : Int) := Int.natCast_nonneg _
          have i2 : (n : Int) < (yca.length : Int) := by omega
          have y1 : (n : Int) ≤ (xcc : Int) := by omega
          have y3 : (n : Int) ≤ (yca.length : Int) := by omega
          have y4 : (yca.length : Int) ≤ (xcc : Int) := by omega
          have elen : (yca.take n).length = n := by simp; omega
          have b0 : w6.cell? ⟨g6, 0, none⟩ = some (.int .i64 en) := HM6.out.b.cell 0
          have b1 : w6.cell? ⟨g6, 1, none⟩ = some (.slice xsA yst.length xsc) := HM6.out.b.cell 1
          have b2 : w6.cell? ⟨g6, 2, none⟩ = some (.slice xcA yca.length xcc) := HM6.out.b.cell 2
          have k0 : w6.cell? ⟨g7, 0, none⟩ = some (.int .i64 7) := HM6.out.c.cell 0
          have k1 : w6.cell? ⟨g7, 1, none⟩ = some (.int .i64 a) := HM6.out.c.cell 1
          have f0 : w6.frozen? ⟨g6, 0, none⟩ = false := HM6.out.b.frozen 0
          have f1 : w6.frozen? ⟨g6, 1, none⟩ = false := HM6.out.b.frozen 1
          have f2 : w6.frozen? ⟨g6, 2, none⟩ = false := HM6.out.b.frozen 2
          have m1 : w6.cell? ⟨g2, 1, none⟩ = some (.slice sA yst.length sc) := (H2W.out w6 HM6.out.bl).cell 1
          have m2 : w6.cell? ⟨g2, 2, none⟩ = some (.slice cA yca.length cc) := (H2W.out w6 HM6.out.bl).cell 2
          rw [hA] at m2
          have HMF : Hid (XM w1 w1.heap.size w1.heap.size g6 g7 7 a ⟨z0, yst, xsA, xsc, yca.take n, xcA, xcc⟩ ((w6.setCell ⟨g6, 0, none⟩ (.int .i64 z0)).setCell ⟨g6, 2, none⟩ (.slice xcA n xcc))) := (HM6.out.pc z0).caTo (k := n) (by simp; omega)
          change xcA = _ at hA2
          rw [hA2] at b2 HMF
          clear hA hA2 hcs hz0' HVV HM6 hl
          go_wp2_with fail
          clear b0 b1 b2 k0 k1 f0 f1 f2 m1 m2
          generalize ((w6.setCell ⟨g6, 0, none⟩ (.int .i64 z0)).setCell ⟨g6, 2, none⟩ (.slice (some ⟨gs, 0, none⟩) n xcc)) = wF at HMF ⊢
          have HMO : Hid (mOk ((z0, yst, yca.take n) : McV).1 ((z0, yst, yca.take n) : McV).2.1 ((z0, yst, yca.take n) : McV).2.2 = true) := by
            have h := doV_ok (pc := en) (st := yst) (ca := yca) (mOk_of HGA2.out.2.2 q2 q3 HP4.out HP5.out) ⟨HGA2.out.1, HGA2.out.2.1⟩ (by rw [HDV.out])
            rw [HDV.out] at h
            exact h
          have HC : Hid (Calls Try.prog 20 #[Mc.val ⟨z0, yst, xsA, xsc, yca.take n, (some ⟨gs, 0, none⟩), xcc⟩] wF (Gives wF (.bool true))) := by
            have h := specMOk_any ⟨z0, yst, xsA, xsc, yca.take n, (some ⟨gs, 0, none⟩), xcc⟩ wF HMF.out.own.at_ (Nat.le_refl _) ⟨by simp; omega, by simp; omega⟩
            rw [show mOk (Mc.pc ⟨z0, yst, xsA, xsc, yca.take n, (some ⟨gs, 0, none⟩), xcc⟩) (Mc.st ⟨z0, yst, xsA, xsc, yca.take n, (some ⟨gs, 0, none⟩), xcc⟩) (Mc.ca ⟨z0, yst, xsA, xsc, yca.take n, (some ⟨gs, 0, none⟩), xcc⟩) = true from HMO.out] at h
            exact h
          simp only [Mc.val, elen] at HC
          refine HC.out.mono ?_
          rintro e w8 ⟨rfl, s9⟩
          have HMG := Lib.hid (HMF.out.below s9)
          clear HC HMF s9 HMO
          have HR : Hid (stepV bs (ypc, yst, yca) = ((z0, yst, yca.take n), 0)) := by rw [HSX.out, HDV.out]; exact if_pos rfl
          obtain ⟨z, hz⟩ : ∃ z : Mc, z = ⟨z0, yst, xsA, xsc, yca.take n, (some ⟨gs, 0, none⟩), xcc⟩ := ⟨_, rfl⟩
          rw [← hz] at HMG
          have HZV : Hid (z.v = (z0, yst, yca.take n)) := by rw [hz]; rfl
          clear hz HDV HSX
          have k0 : w8.cell? ⟨g6, 0, none⟩ = some (.int .i64 z.pc) := HMG.out.b.cell 0
          have k1 : w8.cell? ⟨g6, 1, none⟩ = some (.slice z.sA z.st.length z.sc) := HMG.out.b.cell 1
          have k2 : w8.cell? ⟨g6, 2, none⟩ = some (.slice z.cA z.ca.length z.cc) := HMG.out.b.cell 2
          have HZO := Lib.hid (HMG.out.own.base (HBW.out w1 (Below.refl _ _)).size)
          have HZ4 := Lib.hid (H4W.out w8 HMG.out.bl)
          have HZB := Lib.hid (HBW.out w8 HMG.out.bl)
          have q0 : w8.cell? ⟨g4, 0, none⟩ = some (.int .i64 0) := HZ4.out.cell 0
          have q1 : w8.cell? ⟨g4, 1, none⟩ = some (.slice none 0 0) := HZ4.out.cell 1
          have q2 : w8.cell? ⟨g4, 2, none⟩ = some (.slice none 0 0) := HZ4.out.cell 2
          have p0 : w8.frozen? ⟨g4, 0, none⟩ = false := HZ4.out.frozen 0
          have p1 : w8.frozen? ⟨g4, 1, none⟩ = false := HZ4.out.frozen 1
          have p2 : w8.frozen? ⟨g4, 2, none⟩ = false := HZ4.out.frozen 2
          have HQ := Lib.hid (((HZ4.out.set_ 0 (.int .i64 z.pc)).set_ 1 (.slice z.sA z.st.length z.sc)).set_ 2 (.slice z.cA z.ca.length z.cc))
          have HOW := Lib.hid (HZO.out.set3 HZ4.out (.int .i64 z.pc) (.slice z.sA z.st.length z.sc) (.slice z.cA z.ca.length z.cc))
          have HBF := Lib.hid (((HZB.out.setCell (p := ⟨g4, 0, none⟩) (by have := HGS.out; simp only; omega) (.int .i64 z.pc)).setCell (p := ⟨g4, 1, none⟩) (by have := HGS.out; simp only; omega) (.slice z.sA z.st.length z.sc)).setCell (p := ⟨g4, 2, none⟩) (by have := HGS.out; simp only; omega) (.slice z.cA z.ca.length z.cc))
          go_wp2
          generalize World.setCell _ ⟨g4, 2, none⟩ _ = WF at HQ HOW HBF ⊢
          have y0 : WF.cell? ⟨g4, 0, none⟩ = some (.int .i64 z.pc) := HQ.out.cell 0
          have y1 : WF.cell? ⟨g4, 1, none⟩ = some (.slice z.sA z.st.length z.sc) := HQ.out.cell 1
          have y2 : WF.cell? ⟨g4, 2, none⟩ = some (.slice z.cA z.ca.length z.cc) := HQ.out.cell 2
          refine bodyPost_ret (v := .tuple #[.agg #[.int .i64 z.pc, .slice z.sA z.st.length z.sc, .slice z.cA z.ca.length z.cc], .int .i64 0]) (by simp [results, Try.results23, go_sem, y0, y1, y2]) rfl ?_
          exact ⟨z, by rw [show stepV bs (Mc.v ⟨ypc, yst, sA, sc, yca, cA, cc⟩) = _ from HR.out]; rfl, by rw [show stepV bs (Mc.v ⟨ypc, yst, sA, sc, yca, cA, cc⟩) = _ from HR.out]; exact HZV.out, HOW.out, HBF.out⟩
end Go.Proofs.Ytbljkdhokbhcdaa
