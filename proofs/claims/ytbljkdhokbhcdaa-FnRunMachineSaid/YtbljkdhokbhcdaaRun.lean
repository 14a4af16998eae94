/- Contracts of RunMachine. Condition: the sizes. -/
import Derived.Test.YtbljkdhokbhcdaaRows
import Derived.Test.YtbljkdhokbhcdaaBase
import Derived.Test.YtbljkdhokbhcdaaBase2
import Derived.Test.YtbljkdhokbhcdaaBase3
import Derived.Test.YtbljkdhokbhcdaaOnly
import Derived.Test.YtbljkdhokbhcdaaIn
import Derived.Test.YtbljkdhokbhcdaaIn2
import Derived.Test.YtbljkdhokbhcdaaGet2IS
import Derived.Test.YtbljkdhokbhcdaaIntS
import Derived.Test.YtbljkdhokbhcdaaReg
import Derived.Test.YtbljkdhokbhcdaaRegS
import Derived.Test.YtbljkdhokbhcdaaPick2
import Derived.Test.YtbljkdhokbhcdaaKT
import Derived.Test.YtbljkdhokbhcdaaMc
import Derived.Test.YtbljkdhokbhcdaaMcy
import Derived.Test.YtbljkdhokbhcdaaCd
import Derived.Test.YtbljkdhokbhcdaaXm
import Derived.Test.YtbljkdhokbhcdaaDo
import Derived.Test.YtbljkdhokbhcdaaMStI
import Derived.Test.YtbljkdhokbhcdaaMStS
import Derived.WalkKit
import Derived.WalkSpells
import Derived.WalkLawsBesides
import Derived.Handy
import Derived.BigQuiet
import Derived.Deep.RegionHeld3
import Derived.Deep.DrawnRows
import Derived.Deep.QuietTactic
import Derived.Deep.CutBlock
namespace Go.Proofs.Ytbljkdhokbhcdaa
open Go Go.RowKit

/-- A machine after some steps, and how it ended. -/
def runV (bs : List Int) : Nat → McV → McV × Int
  | 0, v => (v, 3)
  | n + 1, v => if (stepV bs v).2 = 0 then runV bs n (stepV bs v).1 else stepV bs v
def runM (bs : List Int) (v : McV) (steps : Int) : McV × Int := if vOk v = true ∧ 0 ≤ steps ∧ steps ≤ 100 then runV bs steps.toNat v else ((0, [], []), 2)
theorem runV_go {bs : List Int} {n : Nat} {v : McV} (h : (stepV bs v).2 = 0) : runV bs (n + 1) v = runV bs n (stepV bs v).1 := if_pos h
theorem runV_end {bs : List Int} {n : Nat} {v : McV} (h : ¬ (stepV bs v).2 = 0) : runV bs (n + 1) v = stepV bs v := if_neg h
theorem stepV_end (bs : List Int) (v : McV) : 0 ≤ (stepV bs v).2 ∧ (stepV bs v).2 ≤ 2 := by
  unfold stepV
  split
  · simp
  · split
    · simp
    · split <;> simp
/-- What a run hands back. -/
def Ran (res : McV × Int) (w : World) (e : Ending) (w' : World) : Prop := ∃ z : Mc, e = .returned (.tuple #[z.val, .int .i64 res.2]) ∧ z.v = res.1 ∧ z.Own w' w.heap.size ∧ Below w.heap.size w w'
theorem Mc.small_v {z m : Mc} (hz : z.v = m.v) (h : m.small) : z.small := by
  unfold Mc.v at hz
  simp only [Prod.mk.injEq] at hz
  obtain ⟨_, h1, h2⟩ := hz
  unfold Mc.small
  rw [h1, h2]
  exact h
theorem Mc.small_ok {z : Mc} (h : vOk z.v = true) : z.small := by
  obtain ⟨_, h1, h2, _⟩ := mOk_parts h
  exact ⟨by simp only [Mc.v] at h1; omega, by simp only [Mc.v] at h2; omega⟩
set_option maxRecDepth 100000 in
set_option maxHeartbeats 16000000 in
theorem implRun_any {A : Option Addr} {c B D : Nat} (m : Mc) (bs : List Int) (steps : Int) (w : World) (h : m.At w B) (hB : B ≤ w.heap.size) (hs : m.small) (hr : Reads w D 1 A bs.length (nums .u8 bs)) (hD : D ≤ w.heap.size) (hbm : bs.length ≤ 1048576) (hbx : ∀ x ∈ bs, 0 ≤ x ∧ x ≤ 255) :
    Calls Try.prog 9 #[m.val, .slice A bs.length c, .int .i64 steps] w (Ran (runM bs m.v steps) w) := by
  have HCP0 := Lib.hid (fun w' (hb : Below w.heap.size w w') => implCopy_any m w' ((h.more hB).below hb) hb.size hs)
  have HMV0 := Lib.hid (fun w' (hb : Below w.heap.size w w') => implMOk_any m w' ((h.more hB).below hb) hb.size hs)
  have HST := Lib.hid (fun (z : Mc) w' (hb : Below w.heap.size w w') (hz : z.Own w' w.heap.size) (hok : vOk z.v = true) => implStep_any (A := A) (c := c) z bs w' hz.at_ (Nat.le_refl _) (Mc.small_ok hok) ((hr.more hD).below hb) hb.size hbm hbx hok)
  have HSO := Lib.hid (fun (v : McV) (hv : vOk v = true) => stepV_ok hbx hv)
  clear h hr hbx
  obtain ⟨pc, st, sA, sc, ca, cA, cc⟩ := m
  simp only [Mc.val] at *
  obtain ⟨hs1, hs2⟩ := hs
  simp only at hs1 hs2
  have HCP : Hid (∀ w' : World, Below w.heap.size w w' → Calls Try.prog 26 #[.agg #[.int .i64 pc, .slice sA st.length sc, .slice cA ca.length cc]] w' (fun e w'' => ∃ z : Mc, e = .returned (.agg #[.int .i64 z.pc, .slice z.sA z.st.length z.sc, .slice z.cA z.ca.length z.cc]) ∧ z.v = (pc, st, ca) ∧ z.Own w'' w'.heap.size ∧ Below w'.heap.size w' w'')) := HCP0.out
  have HMV := HMV0
  clear HCP0 HMV0
  obtain ⟨wA, hwA⟩ : ∃ wA, wA = (w.alloc (.cells #[.int .i64 pc, .slice sA st.length sc, .slice cA ca.length cc] 27)).alloc (.cells #[.int .i64 0, .slice none 0 0, .slice none 0 0] 27) := ⟨_, rfl⟩
  obtain ⟨g2, hg2⟩ : ∃ g2, g2 = w.heap.size := ⟨_, rfl⟩
  obtain ⟨g4, hg4⟩ : ∃ g4, g4 = w.heap.size + 1 := ⟨_, rfl⟩
  have HGA : Hid (Below w.heap.size w wA) := by rw [hwA]; exact ((Below.refl _ _).alloc (Nat.le_refl _) _).alloc (by simp) _
  have HA2 : Hid (Blk wA g2 27 #[.int .i64 pc, .slice sA st.length sc, .slice cA ca.length cc]) := by rw [hwA, hg2]; exact (Blk.new _ _ _).alloc _
  have HA4 : Hid (Blk wA g4 27 #[.int .i64 0, .slice none 0 0, .slice none 0 0]) := by
    rw [hwA, hg4]
    have h := Blk.new (w.alloc (.cells #[.int .i64 pc, .slice sA st.length sc, .slice cA ca.length cc] 27)) 27 #[.int .i64 0, .slice none 0 0, .slice none 0 0]
    simpa [Hid] using h
  have HGS : Hid (w.heap.size ≤ g2 ∧ g2 < g4) := by show _ ∧ _; omega
  have HRM : Hid (runM bs (pc, st, ca) steps = (if mOk pc st ca = true ∧ 0 ≤ steps ∧ steps ≤ 100 then runV bs steps.toNat (pc, st, ca) else ((0, [], []), 2))) := rfl
  show Calls Try.prog 9 #[.agg #[.int .i64 pc, .slice sA st.length sc, .slice cA ca.length cc], .slice A bs.length c, .int .i64 steps] w (Ran (runM bs (pc, st, ca) steps) w)
  go_enter Try.func9, Try.ntmps9
  go_upto_region 1 with fail
  rw [← hwA, ← hg4, ← hg2]
  clear hwA hg2 hg4
  have c0 : wA.cell? ⟨g2, 0, none⟩ = some (.int .i64 pc) := HA2.out.cell 0
  have c1 : wA.cell? ⟨g2, 1, none⟩ = some (.slice sA st.length sc) := HA2.out.cell 1
  have c2 : wA.cell? ⟨g2, 2, none⟩ = some (.slice cA ca.length cc) := HA2.out.cell 2
  go_wp2_with fail
  refine (HMV.out wA HGA.out).mono ?_
  rintro e w1 ⟨rfl, s9⟩
  have HG1 := Lib.hid (HGA.out.trans (s9.mono HGA.out.size))
  have H21 := Lib.hid (HA2.out.below s9 HA2.out.lt)
  have H41 := Lib.hid (HA4.out.below s9 HA4.out.lt)
  clear s9 HGA HA2 HA4 c0 c1 c2 HMV
  cases hok : mOk pc st ca
  · have HR : Hid (runM bs (pc, st, ca) steps = ((0, [], []), 2)) := by rw [HRM.out, hok]; exact if_neg (by simp)
    clear hok HRM
    have q0 : w1.cell? ⟨g4, 0, none⟩ = some (.int .i64 0) := H41.out.cell 0
    have q1 : w1.cell? ⟨g4, 1, none⟩ = some (.slice none 0 0) := H41.out.cell 1
    have q2 : w1.cell? ⟨g4, 2, none⟩ = some (.slice none 0 0) := H41.out.cell 2
    have p0 : w1.frozen? ⟨g4, 0, none⟩ = false := H41.out.frozen 0
    have p1 : w1.frozen? ⟨g4, 1, none⟩ = false := H41.out.frozen 1
    have p2 : w1.frozen? ⟨g4, 2, none⟩ = false := H41.out.frozen 2
    have HQ := Lib.hid (((H41.out.set_ 0 (.int .i64 0)).set_ 1 (.slice none 0 0)).set_ 2 (.slice none 0 0))
    have HBF := Lib.hid (((HG1.out.setCell (p := ⟨g4, 0, none⟩) (by have := HGS.out; simp only; omega) (.int .i64 0)).setCell (p := ⟨g4, 1, none⟩) (by have := HGS.out; simp only; omega) (.slice none 0 0)).setCell (p := ⟨g4, 2, none⟩) (by have := HGS.out; simp only; omega) (.slice none 0 0))
    go_wp2
    generalize World.setCell _ ⟨g4, 2, none⟩ _ = WF at HQ HBF ⊢
    have y0 : WF.cell? ⟨g4, 0, none⟩ = some (.int .i64 0) := HQ.out.cell 0
    have y1 : WF.cell? ⟨g4, 1, none⟩ = some (.slice none 0 0) := HQ.out.cell 1
    have y2 : WF.cell? ⟨g4, 2, none⟩ = some (.slice none 0 0) := HQ.out.cell 2
    refine bodyPost_ret (v := .tuple #[.agg #[.int .i64 0, .slice none 0 0, .slice none 0 0], .int .i64 2]) (by simp [results, Try.results9, go_sem, y0, y1, y2]) rfl ?_
    rw [HR.out]
    exact ⟨⟨0, [], none, 0, [], none, 0⟩, rfl, rfl, ⟨⟨rfl, .inl ⟨rfl, rfl⟩⟩, ⟨rfl, .inl ⟨rfl, rfl⟩⟩, fun g h => by cases h⟩, HBF.out⟩
  · have HOK := Lib.hid hok
    clear hok
    go_wp2_with fail
    refine (within_any _ _ _ _).mono ?_
    rintro e w' ⟨rfl, rfl⟩
    by_cases hst : 0 ≤ steps ∧ steps ≤ 100
    · rw [inB_true hst.1 hst.2]
      obtain ⟨n, rfl⟩ := Int.eq_ofNat_of_zero_le hst.1
      have hn : n ≤ 100 := by omega
      have HRN : Hid (runM bs (pc, st, ca) (n : Int) = runV bs n (pc, st, ca)) := by
        have h := HRM.out
        rw [if_pos ⟨HOK.out, hst⟩, Int.toNat_natCast] at h
        exact h
      clear HRM hst
      have c0 : w1.cell? ⟨g2, 0, none⟩ = some (.int .i64 pc) := H21.out.cell 0
      have c1 : w1.cell? ⟨g2, 1, none⟩ = some (.slice sA st.length sc) := H21.out.cell 1
      have c2 : w1.cell? ⟨g2, 2, none⟩ = some (.slice cA ca.length cc) := H21.out.cell 2
      go_wp2_with fail
      refine (HCP.out w1 HG1.out).mono ?_
      rintro e w2 ⟨y, rfl, hyv, hyo, s9⟩
      have HYV := Lib.hid hyv
      have HYO : Hid (y.Own (w2.alloc (.cells y.cells 27)) w.heap.size) := (hyo.base HG1.out.size).below ((Below.refl _ _).alloc (Nat.le_refl _) _)
      have HG2 := Lib.hid ((HG1.out.trans (s9.mono HG1.out.size)).alloc (Nat.le_trans HG1.out.size s9.size) (.cells y.cells 27))
      have H42 := Lib.hid ((H41.out.below s9 H41.out.lt).alloc (.cells y.cells 27))
      have H82 := Lib.hid (Blk.new w2 27 y.cells)
      have hl4 := (H41.out.below s9 H41.out.lt).lt
      clear hyv hyo s9 HG1 H21 H41 c0 c1 c2
      simp only [Mc.cells] at HYO HG2 H42 H82
      go_upto_region 4 with fail
      obtain ⟨g8, hg8⟩ : ∃ g8, g8 = w2.heap.size := ⟨_, rfl⟩
      obtain ⟨w3, hw3⟩ : ∃ w3, w3 = w2.alloc (.cells #[.int .i64 y.pc, .slice y.sA y.st.length y.sc, .slice y.cA y.ca.length y.cc] 27) := ⟨_, rfl⟩
      rw [← hg8] at H82 hl4 ⊢
      rw [← hw3] at HYO HG2 H42 H82 ⊢
      clear hg8 hw3
      go_wp2
      go_loopw [23] (fun kv wr => ∃ (k : Nat) (z : Mc), kv = .int .i64 (k : Int) ∧ k ≤ n ∧ Hid (Blk wr g8 27 z.cells) ∧ Hid (Blk wr g4 27 #[.int .i64 0, .slice none 0 0, .slice none 0 0]) ∧ Hid (z.Own wr w.heap.size) ∧ Hid (Below w.heap.size w wr) ∧ Hid (runM bs (pc, st, ca) (n : Int) = runV bs (n - k) z.v) ∧ Hid (vOk z.v = true)) (fun kv _ => n - (intOf kv).toNat)
      case atStart => exact ⟨0, y, rfl, Nat.zero_le _, H82, H42, HYO, HG2, by rw [HYV.out]; exact HRN, by rw [HYV.out]; exact HOK⟩
      case round =>
        clear HYO HG2 H42 H82 HYV HRN HOK
        obtain ⟨k, z, rfl, hk, H8, H4, HO, HG, HRK, HVK⟩ := hrel
        have hgs := HGS.out
        by_cases hlt : k < n
        · have hlt' : (k : Int) < (n : Int) := by omega
          have b0 : wr.cell? ⟨g8, 0, none⟩ = some (.int .i64 z.pc) := H8.out.cell 0
          have b1 : wr.cell? ⟨g8, 1, none⟩ = some (.slice z.sA z.st.length z.sc) := H8.out.cell 1
          have b2 : wr.cell? ⟨g8, 2, none⟩ = some (.slice z.cA z.ca.length z.cc) := H8.out.cell 2
          have HRK2 : Hid (runM bs (pc, st, ca) (n : Int) = (if (stepV bs z.v).2 = 0 then runV bs (n - (k + 1)) (stepV bs z.v).1 else stepV bs z.v)) := by
            rw [HRK.out, show n - k = (n - (k + 1)) + 1 from by omega]
            rfl
          have HVK2 := Lib.hid (HSO.out z.v HVK.out)
          have HSC := Lib.hid (HST.out z wr HG.out HO.out HVK.out)
          go_wp2_with fail
          refine HSC.out.mono ?_
          rintro e w5 ⟨x, rfl, hxv, hxo, s9⟩
          have hse := stepV_end bs z.v
          generalize stepV bs z.v = sv at *
          obtain ⟨vn, en⟩ := sv
          simp only at hse
          have HXV := Lib.hid hxv
          have HXO : Hid (x.Own (w5.alloc (.cells x.cells 27)) w.heap.size) := (hxo.base HG.out.size).below ((Below.refl _ _).alloc (Nat.le_refl _) _)
          have HG5 := Lib.hid ((HG.out.trans (s9.mono HG.out.size)).alloc (Nat.le_trans HG.out.size s9.size) (.cells x.cells 27))
          have H45 := Lib.hid ((H4.out.below s9 H4.out.lt).alloc (.cells x.cells 27))
          have H85 := Lib.hid ((H8.out.below s9 H8.out.lt).alloc (.cells x.cells 27))
          have H95 := Lib.hid (Blk.new w5 27 x.cells)
          have hl8 := (H8.out.below s9 H8.out.lt).lt
          clear hxv hxo s9 HG H4 H8 HO HSC HRK b0 b1 b2
          simp only [Mc.cells] at HXO HG5 H45 H85 H95
          simp only [Mc.val]
          go_upto_region 7 with fail
          obtain ⟨g9, hg9⟩ : ∃ g9, g9 = w5.heap.size := ⟨_, rfl⟩
          obtain ⟨w6, hw6⟩ : ∃ w6, w6 = w5.alloc (.cells #[.int .i64 x.pc, .slice x.sA x.st.length x.sc, .slice x.cA x.ca.length x.cc] 27) := ⟨_, rfl⟩
          rw [← hg9] at H95 hl8 ⊢
          rw [← hw6] at HXO HG5 H45 H85 H95 ⊢
          clear hg9 hw6
          have a0 : w6.cell? ⟨g9, 0, none⟩ = some (.int .i64 x.pc) := H95.out.cell 0
          have a1 : w6.cell? ⟨g9, 1, none⟩ = some (.slice x.sA x.st.length x.sc) := H95.out.cell 1
          have a2 : w6.cell? ⟨g9, 2, none⟩ = some (.slice x.cA x.ca.length x.cc) := H95.out.cell 2
          have b0 : w6.cell? ⟨g8, 0, none⟩ = some (.int .i64 z.pc) := H85.out.cell 0
          have b1 : w6.cell? ⟨g8, 1, none⟩ = some (.slice z.sA z.st.length z.sc) := H85.out.cell 1
          have b2 : w6.cell? ⟨g8, 2, none⟩ = some (.slice z.cA z.ca.length z.cc) := H85.out.cell 2
          have f0 : w6.frozen? ⟨g8, 0, none⟩ = false := H85.out.frozen 0
          have f1 : w6.frozen? ⟨g8, 1, none⟩ = false := H85.out.frozen 1
          have f2 : w6.frozen? ⟨g8, 2, none⟩ = false := H85.out.frozen 2
          have HQ8 := Lib.hid (((H85.out.set_ 0 (.int .i64 x.pc)).set_ 1 (.slice x.sA x.st.length x.sc)).set_ 2 (.slice x.cA x.ca.length x.cc))
          have HQO := Lib.hid (HXO.out.set3 H85.out (.int .i64 x.pc) (.slice x.sA x.st.length x.sc) (.slice x.cA x.ca.length x.cc))
          have HQB := Lib.hid (((HG5.out.setCell (p := ⟨g8, 0, none⟩) (by simp only; omega) (.int .i64 x.pc)).setCell (p := ⟨g8, 1, none⟩) (by simp only; omega) (.slice x.sA x.st.length x.sc)).setCell (p := ⟨g8, 2, none⟩) (by simp only; omega) (.slice x.cA x.ca.length x.cc))
          have HQ4 : Hid (Blk (((w6.setCell ⟨g8, 0, none⟩ (.int .i64 x.pc)).setCell ⟨g8, 1, none⟩ (.slice x.sA x.st.length x.sc)).setCell ⟨g8, 2, none⟩ (.slice x.cA x.ca.length x.cc)) g4 27 #[.int .i64 0, .slice none 0 0, .slice none 0 0]) := ((H45.out.far (by simp only [ne_eq]; omega) _).far (by simp only [ne_eq]; omega) _).far (by simp only [ne_eq]; omega) _
          by_cases hen : en = 0
          · subst hen
            have HRX : Hid (runM bs (pc, st, ca) (n : Int) = runV bs (n - (k + 1)) x.v) := by rw [HRK2.out, HXV.out]; rfl
            have HVX : Hid (vOk x.v = true) := by rw [HXV.out]; exact HVK2
            clear HRK2 HVK2 HXV
            go_wp2
            go_roundw
            case rel => exact ⟨k + 1, x, by go_num, by omega, HQ8, HQ4, HQO, HQB, HRX, HVX⟩
            case measure => simp [intOf]; omega
          · have heb : (en == 0) = false := by rw [beq_eq_false_iff_ne]; exact hen
            have hebn : (en != 0) = true := by rw [bne_iff_ne]; exact hen
            have HR : Hid (runM bs (pc, st, ca) (n : Int) = (vn, en)) := by rw [HRK2.out]; exact if_neg hen
            have HZV : Hid (x.v = vn) := HXV.out
            clear HRK2 HXV hen
            have q0 : w6.cell? ⟨g4, 0, none⟩ = some (.int .i64 0) := H45.out.cell 0
            have q1 : w6.cell? ⟨g4, 1, none⟩ = some (.slice none 0 0) := H45.out.cell 1
            have q2 : w6.cell? ⟨g4, 2, none⟩ = some (.slice none 0 0) := H45.out.cell 2
            have p0 : w6.frozen? ⟨g4, 0, none⟩ = false := H45.out.frozen 0
            have p1 : w6.frozen? ⟨g4, 1, none⟩ = false := H45.out.frozen 1
            have p2 : w6.frozen? ⟨g4, 2, none⟩ = false := H45.out.frozen 2
            have HQ := Lib.hid (((H45.out.set_ 0 (.int .i64 x.pc)).set_ 1 (.slice x.sA x.st.length x.sc)).set_ 2 (.slice x.cA x.ca.length x.cc))
            have HOW := Lib.hid (HXO.out.set3 H45.out (.int .i64 x.pc) (.slice x.sA x.st.length x.sc) (.slice x.cA x.ca.length x.cc))
            have HBF := Lib.hid (((HG5.out.setCell (p := ⟨g4, 0, none⟩) (by have := HGS.out; simp only; omega) (.int .i64 x.pc)).setCell (p := ⟨g4, 1, none⟩) (by have := HGS.out; simp only; omega) (.slice x.sA x.st.length x.sc)).setCell (p := ⟨g4, 2, none⟩) (by have := HGS.out; simp only; omega) (.slice x.cA x.ca.length x.cc))
            go_wp2
            generalize World.setCell _ ⟨g4, 2, none⟩ _ = WF at HQ HOW HBF ⊢
            have y0 : WF.cell? ⟨g4, 0, none⟩ = some (.int .i64 x.pc) := HQ.out.cell 0
            have y1 : WF.cell? ⟨g4, 1, none⟩ = some (.slice x.sA x.st.length x.sc) := HQ.out.cell 1
            have y2 : WF.cell? ⟨g4, 2, none⟩ = some (.slice x.cA x.ca.length x.cc) := HQ.out.cell 2
            refine bodyPost_ret (v := .tuple #[.agg #[.int .i64 x.pc, .slice x.sA x.st.length x.sc, .slice x.cA x.ca.length x.cc], .int .i64 en]) (by simp [results, Try.results9, go_sem, y0, y1, y2]) rfl ?_
            exact ⟨x, by rw [HR.out]; rfl, HZV.out.trans (by rw [HR.out]), HOW.out, HBF.out⟩
        · have HR : Hid (runM bs (pc, st, ca) (n : Int) = (z.v, 3)) := by rw [HRK.out, show n - k = 0 from by omega]; rfl
          have b0 : wr.cell? ⟨g8, 0, none⟩ = some (.int .i64 z.pc) := H8.out.cell 0
          have b1 : wr.cell? ⟨g8, 1, none⟩ = some (.slice z.sA z.st.length z.sc) := H8.out.cell 1
          have b2 : wr.cell? ⟨g8, 2, none⟩ = some (.slice z.cA z.ca.length z.cc) := H8.out.cell 2
          have q0 : wr.cell? ⟨g4, 0, none⟩ = some (.int .i64 0) := H4.out.cell 0
          have q1 : wr.cell? ⟨g4, 1, none⟩ = some (.slice none 0 0) := H4.out.cell 1
          have q2 : wr.cell? ⟨g4, 2, none⟩ = some (.slice none 0 0) := H4.out.cell 2
          have p0 : wr.frozen? ⟨g4, 0, none⟩ = false := H4.out.frozen 0
          have p1 : wr.frozen? ⟨g4, 1, none⟩ = false := H4.out.frozen 1
          have p2 : wr.frozen? ⟨g4, 2, none⟩ = false := H4.out.frozen 2
          have HQ := Lib.hid (((H4.out.set_ 0 (.int .i64 z.pc)).set_ 1 (.slice z.sA z.st.length z.sc)).set_ 2 (.slice z.cA z.ca.length z.cc))
          have HOW := Lib.hid (HO.out.set3 H4.out (.int .i64 z.pc) (.slice z.sA z.st.length z.sc) (.slice z.cA z.ca.length z.cc))
          have HBF := Lib.hid (((HG.out.setCell (p := ⟨g4, 0, none⟩) (by have := HGS.out; simp only; omega) (.int .i64 z.pc)).setCell (p := ⟨g4, 1, none⟩) (by have := HGS.out; simp only; omega) (.slice z.sA z.st.length z.sc)).setCell (p := ⟨g4, 2, none⟩) (by have := HGS.out; simp only; omega) (.slice z.cA z.ca.length z.cc))
          go_wp2
          generalize World.setCell _ ⟨g4, 2, none⟩ _ = WF at HQ HOW HBF ⊢
          have y0 : WF.cell? ⟨g4, 0, none⟩ = some (.int .i64 z.pc) := HQ.out.cell 0
          have y1 : WF.cell? ⟨g4, 1, none⟩ = some (.slice z.sA z.st.length z.sc) := HQ.out.cell 1
          have y2 : WF.cell? ⟨g4, 2, none⟩ = some (.slice z.cA z.ca.length z.cc) := HQ.out.cell 2
          refine bodyPost_ret (v := .tuple #[.agg #[.int .i64 z.pc, .slice z.sA z.st.length z.sc, .slice z.cA z.ca.length z.cc], .int .i64 3]) (by simp [results, Try.results9, go_sem, y0, y1, y2]) rfl ?_
          exact ⟨z, by rw [HR.out]; rfl, by rw [HR.out], HOW.out, HBF.out⟩
    · have HIB := Lib.hid (inB_false (n := steps) (lo := 0) (hi := 100) (by omega))
      rw [HIB.out]
      have HR : Hid (runM bs (pc, st, ca) steps = ((0, [], []), 2)) := by rw [HRM.out]; exact if_neg (fun h => hst h.2)
      clear HRM hst
      have q0 : w1.cell? ⟨g4, 0, none⟩ = some (.int .i64 0) := H41.out.cell 0
      have q1 : w1.cell? ⟨g4, 1, none⟩ = some (.slice none 0 0) := H41.out.cell 1
      have q2 : w1.cell? ⟨g4, 2, none⟩ = some (.slice none 0 0) := H41.out.cell 2
      have p0 : w1.frozen? ⟨g4, 0, none⟩ = false := H41.out.frozen 0
      have p1 : w1.frozen? ⟨g4, 1, none⟩ = false := H41.out.frozen 1
      have p2 : w1.frozen? ⟨g4, 2, none⟩ = false := H41.out.frozen 2
      have HQ := Lib.hid (((H41.out.set_ 0 (.int .i64 0)).set_ 1 (.slice none 0 0)).set_ 2 (.slice none 0 0))
      have HBF := Lib.hid (((HG1.out.setCell (p := ⟨g4, 0, none⟩) (by have := HGS.out; simp only; omega) (.int .i64 0)).setCell (p := ⟨g4, 1, none⟩) (by have := HGS.out; simp only; omega) (.slice none 0 0)).setCell (p := ⟨g4, 2, none⟩) (by have := HGS.out; simp only; omega) (.slice none 0 0))
      go_wp2
      generalize World.setCell _ ⟨g4, 2, none⟩ _ = WF at HQ HBF ⊢
      have y0 : WF.cell? ⟨g4, 0, none⟩ = some (.int .i64 0) := HQ.out.cell 0
      have y1 : WF.cell? ⟨g4, 1, none⟩ = some (.slice none 0 0) := HQ.out.cell 1
      have y2 : WF.cell? ⟨g4, 2, none⟩ = some (.slice none 0 0) := HQ.out.cell 2
      refine bodyPost_ret (v := .tuple #[.agg #[.int .i64 0, .slice none 0 0, .slice none 0 0], .int .i64 2]) (by simp [results, Try.results9, go_sem, y0, y1, y2]) rfl ?_
      rw [HR.out]
      exact ⟨⟨0, [], none, 0, [], none, 0⟩, rfl, rfl, ⟨⟨rfl, .inl ⟨rfl, rfl⟩⟩, ⟨rfl, .inl ⟨rfl, rfl⟩⟩, fun g h => by cases h⟩, HBF.out⟩
set_option maxRecDepth 100000 in
set_option maxHeartbeats 16000000 in
theorem specRun_any {A : Option Addr} {c B D : Nat} (m : Mc) (bs : List Int) (steps : Int) (w : World) (h : m.At w B) (hB : B ≤ w.heap.size) (hs : m.small) (hr : Reads w D 1 A bs.length (nums .u8 bs)) (hD : D ≤ w.heap.size) (hbm : bs.length ≤ 1048576) (hbx : ∀ x ∈ bs, 0 ≤ x ∧ x ≤ 255) :
    Calls Try.prog 6 #[m.val, .slice A bs.length c, .int .i64 steps] w (Ran (runM bs m.v steps) w) := by
  have HCP0 := Lib.hid (fun w' (hb : Below w.heap.size w w') => specCopy_any m w' ((h.more hB).below hb) hb.size hs)
  have HMV0 := Lib.hid (fun w' (hb : Below w.heap.size w w') => specMOk_any m w' ((h.more hB).below hb) hb.size hs)
  have HST := Lib.hid (fun (z : Mc) w' (hb : Below w.heap.size w w') (hz : z.Own w' w.heap.size) (hok : vOk z.v = true) => specStep_any (A := A) (c := c) z bs w' hz.at_ (Nat.le_refl _) (Mc.small_ok hok) ((hr.more hD).below hb) hb.size hbm hbx hok)
  have HSO := Lib.hid (fun (v : McV) (hv : vOk v = true) => stepV_ok hbx hv)
  clear h hr hbx
  obtain ⟨pc, st, sA, sc, ca, cA, cc⟩ := m
  simp only [Mc.val] at *
  obtain ⟨hs1, hs2⟩ := hs
  simp only at hs1 hs2
  have HCP : Hid (∀ w' : World, Below w.heap.size w w' → Calls Try.prog 22 #[.agg #[.int .i64 pc, .slice sA st.length sc, .slice cA ca.length cc]] w' (fun e w'' => ∃ z : Mc, e = .returned (.agg #[.int .i64 z.pc, .slice z.sA z.st.length z.sc, .slice z.cA z.ca.length z.cc]) ∧ z.v = (pc, st, ca) ∧ z.Own w'' w'.heap.size ∧ Below w'.heap.size w' w'')) := HCP0.out
  have HMV := HMV0
  clear HCP0 HMV0
  obtain ⟨wA, hwA⟩ : ∃ wA, wA = (w.alloc (.cells #[.int .i64 pc, .slice sA st.length sc, .slice cA ca.length cc] 27)).alloc (.cells #[.int .i64 0, .slice none 0 0, .slice none 0 0] 27) := ⟨_, rfl⟩
  obtain ⟨g2, hg2⟩ : ∃ g2, g2 = w.heap.size := ⟨_, rfl⟩
  obtain ⟨g4, hg4⟩ : ∃ g4, g4 = w.heap.size + 1 := ⟨_, rfl⟩
  have HGA : Hid (Below w.heap.size w wA) := by rw [hwA]; exact ((Below.refl _ _).alloc (Nat.le_refl _) _).alloc (by simp) _
  have HA2 : Hid (Blk wA g2 27 #[.int .i64 pc, .slice sA st.length sc, .slice cA ca.length cc]) := by rw [hwA, hg2]; exact (Blk.new _ _ _).alloc _
  have HA4 : Hid (Blk wA g4 27 #[.int .i64 0, .slice none 0 0, .slice none 0 0]) := by
    rw [hwA, hg4]
    have h := Blk.new (w.alloc (.cells #[.int .i64 pc, .slice sA st.length sc, .slice cA ca.length cc] 27)) 27 #[.int .i64 0, .slice none 0 0, .slice none 0 0]
    simpa [Hid] using h
  have HGS : Hid (w.heap.size ≤ g2 ∧ g2 < g4) := by show _ ∧ _; omega
  have HRM : Hid (runM bs (pc, st, ca) steps = (if mOk pc st ca = true ∧ 0 ≤ steps ∧ steps ≤ 100 then runV bs steps.toNat (pc, st, ca) else ((0, [], []), 2))) := rfl
  show Calls Try.prog 6 #[.agg #[.int .i64 pc, .slice sA st.length sc, .slice cA ca.length cc], .slice A bs.length c, .int .i64 steps] w (Ran (runM bs (pc, st, ca) steps) w)
  go_enter Try.func6, Try.ntmps6
  go_upto_region 1 with fail
  rw [← hwA, ← hg4, ← hg2]
  clear hwA hg2 hg4
  have c0 : wA.cell? ⟨g2, 0, none⟩ = some (.int .i64 pc) := HA2.out.cell 0
  have c1 : wA.cell? ⟨g2, 1, none⟩ = some (.slice sA st.length sc) := HA2.out.cell 1
  have c2 : wA.cell? ⟨g2, 2, none⟩ = some (.slice cA ca.length cc) := HA2.out.cell 2
  go_wp2_with fail
  refine (HMV.out wA HGA.out).mono ?_
  rintro e w1 ⟨rfl, s9⟩
  have HG1 := Lib.hid (HGA.out.trans (s9.mono HGA.out.size))
  have H21 := Lib.hid (HA2.out.below s9 HA2.out.lt)
  have H41 := Lib.hid (HA4.out.below s9 HA4.out.lt)
  clear s9 HGA HA2 HA4 c0 c1 c2 HMV
  cases hok : mOk pc st ca
  · have HR : Hid (runM bs (pc, st, ca) steps = ((0, [], []), 2)) := by rw [HRM.out, hok]; exact if_neg (by simp)
    clear hok HRM
    have q0 : w1.cell? ⟨g4, 0, none⟩ = some (.int .i64 0) := H41.out.cell 0
    have q1 : w1.cell? ⟨g4, 1, none⟩ = some (.slice none 0 0) := H41.out.cell 1
    have q2 : w1.cell? ⟨g4, 2, none⟩ = some (.slice none 0 0) := H41.out.cell 2
    have p0 : w1.frozen? ⟨g4, 0, none⟩ = false := H41.out.frozen 0
    have p1 : w1.frozen? ⟨g4, 1, none⟩ = false := H41.out.frozen 1
    have p2 : w1.frozen? ⟨g4, 2, none⟩ = false := H41.out.frozen 2
    have HQ := Lib.hid (((H41.out.set_ 0 (.int .i64 0)).set_ 1 (.slice none 0 0)).set_ 2 (.slice none 0 0))
    have HBF := Lib.hid (((HG1.out.setCell (p := ⟨g4, 0, none⟩) (by have := HGS.out; simp only; omega) (.int .i64 0)).setCell (p := ⟨g4, 1, none⟩) (by have := HGS.out; simp only; omega) (.slice none 0 0)).setCell (p := ⟨g4, 2, none⟩) (by have := HGS.out; simp only; omega) (.slice none 0 0))
    go_wp2
    generalize World.setCell _ ⟨g4, 2, none⟩ _ = WF at HQ HBF ⊢
    have y0 : WF.cell? ⟨g4, 0, none⟩ = some (.int .i64 0) := HQ.out.cell 0
    have y1 : WF.cell? ⟨g4, 1, none⟩ = some (.slice none 0 0) := HQ.out.cell 1
    have y2 : WF.cell? ⟨g4, 2, none⟩ = some (.slice none 0 0) := HQ.out.cell 2
    refine bodyPost_ret (v := .tuple #[.agg #[.int .i64 0, .slice none 0 0, .slice none 0 0], .int .i64 2]) (by simp [results, Try.results6, go_sem, y0, y1, y2]) rfl ?_
    rw [HR.out]
    exact ⟨⟨0, [], none, 0, [], none, 0⟩, rfl, rfl, ⟨⟨rfl, .inl ⟨rfl, rfl⟩⟩, ⟨rfl, .inl ⟨rfl, rfl⟩⟩, fun g h => by cases h⟩, HBF.out⟩
  · have HOK := Lib.hid hok
    clear hok
    go_wp2_with fail
    refine (l1In_any _ _ _ _).mono ?_
    rintro e w' ⟨rfl, rfl⟩
    by_cases hst : 0 ≤ steps ∧ steps ≤ 100
    · rw [inB_true hst.1 hst.2]
      obtain ⟨n, rfl⟩ := Int.eq_ofNat_of_zero_le hst.1
      have hn : n ≤ 100 := by omega
      have HRN : Hid (runM bs (pc, st, ca) (n : Int) = runV bs n (pc, st, ca)) := by
        have h := HRM.out
        rw [if_pos ⟨HOK.out, hst⟩, Int.toNat_natCast] at h
        exact h
      clear HRM hst
      have c0 : w1.cell? ⟨g2, 0, none⟩ = some (.int .i64 pc) := H21.out.cell 0
      have c1 : w1.cell? ⟨g2, 1, none⟩ = some (.slice sA st.length sc) := H21.out.cell 1
      have c2 : w1.cell? ⟨g2, 2, none⟩ = some (.slice cA ca.length cc) := H21.out.cell 2
      go_wp2_with fail
      refine (HCP.out w1 HG1.out).mono ?_
      rintro e w2 ⟨y, rfl, hyv, hyo, s9⟩
      have HYV := Lib.hid hyv
      have HYO : Hid (y.Own (w2.alloc (.cells y.cells 27)) w.heap.size) := (hyo.base HG1.out.size).below ((Below.refl _ _).alloc (Nat.le_refl _) _)
      have HG2 := Lib.hid ((HG1.out.trans (s9.mono HG1.out.size)).alloc (Nat.le_trans HG1.out.size s9.size) (.cells y.cells 27))
      have H42 := Lib.hid ((H41.out.below s9 H41.out.lt).alloc (.cells y.cells 27))
      have H82 := Lib.hid (Blk.new w2 27 y.cells)
      have hl4 := (H41.out.below s9 H41.out.lt).lt
      clear hyv hyo s9 HG1 H21 H41 c0 c1 c2
      simp only [Mc.cells] at HYO HG2 H42 H82
      go_upto_region 4 with fail
      obtain ⟨g8, hg8⟩ : ∃ g8, g8 = w2.heap.size := ⟨_, rfl⟩
      obtain ⟨w3, hw3⟩ : ∃ w3, w3 = w2.alloc (.cells #[.int .i64 y.pc, .slice y.sA y.st.length y.sc, .slice y.cA y.ca.length y.cc] 27) := ⟨_, rfl⟩
      rw [← hg8] at H82 hl4 ⊢
      rw [← hw3] at HYO HG2 H42 H82 ⊢
      clear hg8 hw3
      go_wp2
      go_loopw [9] (fun kv wr => ∃ (k : Nat) (z : Mc), kv = .int .i64 (k : Int) ∧ k ≤ n ∧ Hid (Blk wr g8 27 z.cells) ∧ Hid (Blk wr g4 27 #[.int .i64 0, .slice none 0 0, .slice none 0 0]) ∧ Hid (z.Own wr w.heap.size) ∧ Hid (Below w.heap.size w wr) ∧ Hid (runM bs (pc, st, ca) (n : Int) = runV bs (n - k) z.v) ∧ Hid (vOk z.v = true)) (fun kv _ => n - (intOf kv).toNat)
      case atStart => exact ⟨0, y, rfl, Nat.zero_le _, H82, H42, HYO, HG2, by rw [HYV.out]; exact HRN, by rw [HYV.out]; exact HOK⟩
      case round =>
        clear HYO HG2 H42 H82 HYV HRN HOK
        obtain ⟨k, z, rfl, hk, H8, H4, HO, HG, HRK, HVK⟩ := hrel
        have hgs := HGS.out
        by_cases hlt : k < n
        · have hlt' : (k : Int) < (n : Int) := by omega
          have b0 : wr.cell? ⟨g8, 0, none⟩ = some (.int .i64 z.pc) := H8.out.cell 0
          have b1 : wr.cell? ⟨g8, 1, none⟩ = some (.slice z.sA z.st.length z.sc) := H8.out.cell 1
          have b2 : wr.cell? ⟨g8, 2, none⟩ = some (.slice z.cA z.ca.length z.cc) := H8.out.cell 2
          have HRK2 : Hid (runM bs (pc, st, ca) (n : Int) = (if (stepV bs z.v).2 = 0 then runV bs (n - (k + 1)) (stepV bs z.v).1 else stepV bs z.v)) := by
            rw [HRK.out, show n - k = (n - (k + 1)) + 1 from by omega]
            rfl
          have HVK2 := Lib.hid (HSO.out z.v HVK.out)
          have HSC := Lib.hid (HST.out z wr HG.out HO.out HVK.out)
          go_wp2_with fail
          refine HSC.out.mono ?_
          rintro e w5 ⟨x, rfl, hxv, hxo, s9⟩
          have hse := stepV_end bs z.v
          generalize stepV bs z.v = sv at *
          obtain ⟨vn, en⟩ := sv
          simp only at hse
          have HXV := Lib.hid hxv
          have HXO : Hid (x.Own (w5.alloc (.cells x.cells 27)) w.heap.size) := (hxo.base HG.out.size).below ((Below.refl _ _).alloc (Nat.le_refl _) _)
          have HG5 := Lib.hid ((HG.out.trans (s9.mono HG.out.size)).alloc (Nat.le_trans HG.out.size s9.size) (.cells x.cells 27))
          have H45 := Lib.hid ((H4.out.below s9 H4.out.lt).alloc (.cells x.cells 27))
          have H85 := Lib.hid ((H8.out.below s9 H8.out.lt).alloc (.cells x.cells 27))
          have H95 := Lib.hid (Blk.new w5 27 x.cells)
          have hl8 := (H8.out.below s9 H8.out.lt).lt
          clear hxv hxo s9 HG H4 H8 HO HSC HRK b0 b1 b2
          simp only [Mc.cells] at HXO HG5 H45 H85 H95
          simp only [Mc.val]
          go_upto_region 8 with fail
          obtain ⟨g9, hg9⟩ : ∃ g9, g9 = w5.heap.size := ⟨_, rfl⟩
          obtain ⟨w6, hw6⟩ : ∃ w6, w6 = w5.alloc (.cells #[.int .i64 x.pc, .slice x.sA x.st.length x.sc, .slice x.cA x.ca.length x.cc] 27) := ⟨_, rfl⟩
          rw [← hg9] at H95 hl8 ⊢
          rw [← hw6] at HXO HG5 H45 H85 H95 ⊢
          clear hg9 hw6
          have a0 : w6.cell? ⟨g9, 0, none⟩ = some (.int .i64 x.pc) := H95.out.cell 0
          have a1 : w6.cell? ⟨g9, 1, none⟩ = some (.slice x.sA x.st.length x.sc) := H95.out.cell 1
          have a2 : w6.cell? ⟨g9, 2, none⟩ = some (.slice x.cA x.ca.length x.cc) := H95.out.cell 2
          have b0 : w6.cell? ⟨g8, 0, none⟩ = some (.int .i64 z.pc) := H85.out.cell 0
          have b1 : w6.cell? ⟨g8, 1, none⟩ = some (.slice z.sA z.st.length z.sc) := H85.out.cell 1
          have b2 : w6.cell? ⟨g8, 2, none⟩ = some (.slice z.cA z.ca.length z.cc) := H85.out.cell 2
          have f0 : w6.frozen? ⟨g8, 0, none⟩ = false := H85.out.frozen 0
          have f1 : w6.frozen? ⟨g8, 1, none⟩ = false := H85.out.frozen 1
          have f2 : w6.frozen? ⟨g8, 2, none⟩ = false := H85.out.frozen 2
          have HQ8 := Lib.hid (((H85.out.set_ 0 (.int .i64 x.pc)).set_ 1 (.slice x.sA x.st.length x.sc)).set_ 2 (.slice x.cA x.ca.length x.cc))
          have HQO := Lib.hid (HXO.out.set3 H85.out (.int .i64 x.pc) (.slice x.sA x.st.length x.sc) (.slice x.cA x.ca.length x.cc))
          have HQB := Lib.hid (((HG5.out.setCell (p := ⟨g8, 0, none⟩) (by simp only; omega) (.int .i64 x.pc)).setCell (p := ⟨g8, 1, none⟩) (by simp only; omega) (.slice x.sA x.st.length x.sc)).setCell (p := ⟨g8, 2, none⟩) (by simp only; omega) (.slice x.cA x.ca.length x.cc))
          have HQ4 : Hid (Blk (((w6.setCell ⟨g8, 0, none⟩ (.int .i64 x.pc)).setCell ⟨g8, 1, none⟩ (.slice x.sA x.st.length x.sc)).setCell ⟨g8, 2, none⟩ (.slice x.cA x.ca.length x.cc)) g4 27 #[.int .i64 0, .slice none 0 0, .slice none 0 0]) := ((H45.out.far (by simp only [ne_eq]; omega) _).far (by simp only [ne_eq]; omega) _).far (by simp only [ne_eq]; omega) _
          by_cases hen : en = 0
          · subst hen
            have HRX : Hid (runM bs (pc, st, ca) (n : Int) = runV bs (n - (k + 1)) x.v) := by rw [HRK2.out, HXV.out]; rfl
            have HVX : Hid (vOk x.v = true) := by rw [HXV.out]; exact HVK2
            clear HRK2 HVK2 HXV
            go_wp2
            go_roundw
            case rel => exact ⟨k + 1, x, by go_num, by omega, HQ8, HQ4, HQO, HQB, HRX, HVX⟩
            case measure => simp [intOf]; omega
          · have heb : (en == 0) = false := by rw [beq_eq_false_iff_ne]; exact hen
            have hebn : (en != 0) = true := by rw [bne_iff_ne]; exact hen
            have HR : Hid (runM bs (pc, st, ca) (n : Int) = (vn, en)) := by rw [HRK2.out]; exact if_neg hen
            have HZV : Hid (x.v = vn) := HXV.out
            clear HRK2 HXV hen
            go_upto_region 9 with fail
            generalize (((w6.setCell ⟨g8, 0, none⟩ (.int .i64 x.pc)).setCell ⟨g8, 1, none⟩ (.slice x.sA x.st.length x.sc)).setCell ⟨g8, 2, none⟩ (.slice x.cA x.ca.length x.cc)) = w7 at *
            clear a0 a1 a2 b0 b1 b2 f0 f1 f2
            have b0 : w7.cell? ⟨g8, 0, none⟩ = some (.int .i64 x.pc) := HQ8.out.cell 0
            have b1 : w7.cell? ⟨g8, 1, none⟩ = some (.slice x.sA x.st.length x.sc) := HQ8.out.cell 1
            have b2 : w7.cell? ⟨g8, 2, none⟩ = some (.slice x.cA x.ca.length x.cc) := HQ8.out.cell 2
            have q0 : w7.cell? ⟨g4, 0, none⟩ = some (.int .i64 0) := HQ4.out.cell 0
            have q1 : w7.cell? ⟨g4, 1, none⟩ = some (.slice none 0 0) := HQ4.out.cell 1
            have q2 : w7.cell? ⟨g4, 2, none⟩ = some (.slice none 0 0) := HQ4.out.cell 2
            have p0 : w7.frozen? ⟨g4, 0, none⟩ = false := HQ4.out.frozen 0
            have p1 : w7.frozen? ⟨g4, 1, none⟩ = false := HQ4.out.frozen 1
            have p2 : w7.frozen? ⟨g4, 2, none⟩ = false := HQ4.out.frozen 2
            have HQ := Lib.hid (((HQ4.out.set_ 0 (.int .i64 x.pc)).set_ 1 (.slice x.sA x.st.length x.sc)).set_ 2 (.slice x.cA x.ca.length x.cc))
            have HOW := Lib.hid (HQO.out.set3 HQ4.out (.int .i64 x.pc) (.slice x.sA x.st.length x.sc) (.slice x.cA x.ca.length x.cc))
            have HBF := Lib.hid (((HQB.out.setCell (p := ⟨g4, 0, none⟩) (by have := HGS.out; simp only; omega) (.int .i64 x.pc)).setCell (p := ⟨g4, 1, none⟩) (by have := HGS.out; simp only; omega) (.slice x.sA x.st.length x.sc)).setCell (p := ⟨g4, 2, none⟩) (by have := HGS.out; simp only; omega) (.slice x.cA x.ca.length x.cc))
            go_wp2
            generalize World.setCell _ ⟨g4, 2, none⟩ _ = WF at HQ HOW HBF ⊢
            have y0 : WF.cell? ⟨g4, 0, none⟩ = some (.int .i64 x.pc) := HQ.out.cell 0
            have y1 : WF.cell? ⟨g4, 1, none⟩ = some (.slice x.sA x.st.length x.sc) := HQ.out.cell 1
            have y2 : WF.cell? ⟨g4, 2, none⟩ = some (.slice x.cA x.ca.length x.cc) := HQ.out.cell 2
            refine bodyPost_ret (v := .tuple #[.agg #[.int .i64 x.pc, .slice x.sA x.st.length x.sc, .slice x.cA x.ca.length x.cc], .int .i64 en]) (by simp [results, Try.results6, go_sem, y0, y1, y2]) rfl ?_
            exact ⟨x, by rw [HR.out]; rfl, HZV.out.trans (by rw [HR.out]), HOW.out, HBF.out⟩
        · have HR : Hid (runM bs (pc, st, ca) (n : Int) = (z.v, 3)) := by rw [HRK.out, show n - k = 0 from by omega]; rfl
          have b0 : wr.cell? ⟨g8, 0, none⟩ = some (.int .i64 z.pc) := H8.out.cell 0
          have b1 : wr.cell? ⟨g8, 1, none⟩ = some (.slice z.sA z.st.length z.sc) := H8.out.cell 1
          have b2 : wr.cell? ⟨g8, 2, none⟩ = some (.slice z.cA z.ca.length z.cc) := H8.out.cell 2
          have q0 : wr.cell? ⟨g4, 0, none⟩ = some (.int .i64 0) := H4.out.cell 0
          have q1 : wr.cell? ⟨g4, 1, none⟩ = some (.slice none 0 0) := H4.out.cell 1
          have q2 : wr.cell? ⟨g4, 2, none⟩ = some (.slice none 0 0) := H4.out.cell 2
          have p0 : wr.frozen? ⟨g4, 0, none⟩ = false := H4.out.frozen 0
          have p1 : wr.frozen? ⟨g4, 1, none⟩ = false := H4.out.frozen 1
          have p2 : wr.frozen? ⟨g4, 2, none⟩ = false := H4.out.frozen 2
          have HQ := Lib.hid (((H4.out.set_ 0 (.int .i64 z.pc)).set_ 1 (.slice z.sA z.st.length z.sc)).set_ 2 (.slice z.cA z.ca.length z.cc))
          have HOW := Lib.hid (HO.out.set3 H4.out (.int .i64 z.pc) (.slice z.sA z.st.length z.sc) (.slice z.cA z.ca.length z.cc))
          have HBF := Lib.hid (((HG.out.setCell (p := ⟨g4, 0, none⟩) (by have := HGS.out; simp only; omega) (.int .i64 z.pc)).setCell (p := ⟨g4, 1, none⟩) (by have := HGS.out; simp only; omega) (.slice z.sA z.st.length z.sc)).setCell (p := ⟨g4, 2, none⟩) (by have := HGS.out; simp only; omega) (.slice z.cA z.ca.length z.cc))
          go_wp2
          generalize World.setCell _ ⟨g4, 2, none⟩ _ = WF at HQ HOW HBF ⊢
          have y0 : WF.cell? ⟨g4, 0, none⟩ = some (.int .i64 z.pc) := HQ.out.cell 0
          have y1 : WF.cell? ⟨g4, 1, none⟩ = some (.slice z.sA z.st.length z.sc) := HQ.out.cell 1
          have y2 : WF.cell? ⟨g4, 2, none⟩ = some (.slice z.cA z.ca.length z.cc) := HQ.out.cell 2
          refine bodyPost_ret (v := .tuple #[.agg #[.int .i64 z.pc, .slice z.sA z.st.length z.sc, .slice z.cA z.ca.length z.cc], .int .i64 3]) (by simp [results, Try.results6, go_sem, y0, y1, y2]) rfl ?_
          exact ⟨z, by rw [HR.out]; rfl, by rw [HR.out], HOW.out, HBF.out⟩
    · have HIB := Lib.hid (inB_false (n := steps) (lo := 0) (hi := 100) (by omega))
      rw [HIB.out]
      have HR : Hid (runM bs (pc, st, ca) steps = ((0, [], []), 2)) := by rw [HRM.out]; exact if_neg (fun h => hst h.2)
      clear HRM hst
      have q0 : w1.cell? ⟨g4, 0, none⟩ = some (.int .i64 0) := H41.out.cell 0
      have q1 : w1.cell? ⟨g4, 1, none⟩ = some (.slice none 0 0) := H41.out.cell 1
      have q2 : w1.cell? ⟨g4, 2, none⟩ = some (.slice none 0 0) := H41.out.cell 2
      have p0 : w1.frozen? ⟨g4, 0, none⟩ = false := H41.out.frozen 0
      have p1 : w1.frozen? ⟨g4, 1, none⟩ = false := H41.out.frozen 1
      have p2 : w1.frozen? ⟨g4, 2, none⟩ = false := H41.out.frozen 2
      have HQ := Lib.hid (((H41.out.set_ 0 (.int .i64 0)).set_ 1 (.slice none 0 0)).set_ 2 (.slice none 0 0))
      have HBF := Lib.hid (((HG1.out.setCell (p := ⟨g4, 0, none⟩) (by have := HGS.out; simp only; omega) (.int .i64 0)).setCell (p := ⟨g4, 1, none⟩) (by have := HGS.out; simp only; omega) (.slice none 0 0)).setCell (p := ⟨g4, 2, none⟩) (by have := HGS.out; simp only; omega) (.slice none 0 0))
      go_wp2
      generalize World.setCell _ ⟨g4, 2, none⟩ _ = WF at HQ HBF ⊢
      have y0 : WF.cell? ⟨g4, 0, none⟩ = some (.int .i64 0) := HQ.out.cell 0
      have y1 : WF.cell? ⟨g4, 1, none⟩ = some (.slice none 0 0) := HQ.out.cell 1
      have y2 : WF.cell? ⟨g4, 2, none⟩ = some (.slice none 0 0) := HQ.out.cell 2
      refine bodyPost_ret (v := .tuple #[.agg #[.int .i64 0, .slice none 0 0, .slice none 0 0], .int .i64 2]) (by simp [results, Try.results6, go_sem, y0, y1, y2]) rfl ?_
      rw [HR.out]
      exact ⟨⟨0, [], none, 0, [], none, 0⟩, rfl, rfl, ⟨⟨rfl, .inl ⟨rfl, rfl⟩⟩, ⟨rfl, .inl ⟨rfl, rfl⟩⟩, fun g h => by cases h⟩, HBF.out⟩
end Go.Proofs.Ytbljkdhokbhcdaa
