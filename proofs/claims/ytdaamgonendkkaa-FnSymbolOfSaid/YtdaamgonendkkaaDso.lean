/- Contract of the drawing of the law of SymbolOf. Condition: the sizes. -/
import Derived.Test.YtdaamgonendkkaaRows
import Derived.Test.YtdaamgonendkkaaBase
import Derived.Test.YtdaamgonendkkaaBase2
import Derived.Test.YtdaamgonendkkaaBase3
import Derived.Test.YtdaamgonendkkaaOnly
import Derived.Test.YtdaamgonendkkaaIn
import Derived.Test.YtdaamgonendkkaaName
import Derived.Test.YtdaamgonendkkaaEqB
import Derived.Test.YtdaamgonendkkaaFix
import Derived.Test.YtdaamgonendkkaaSec
import Derived.Test.YtdaamgonendkkaaObjS
import Derived.Test.YtdaamgonendkkaaSym
import Derived.Test.YtdaamgonendkkaaObj
import Derived.Test.YtdaamgonendkkaaMarkT
import Derived.Test.YtdaamgonendkkaaPick
import Derived.Test.YtdaamgonendkkaaPick2
import Derived.Test.YtdaamgonendkkaaReg
import Derived.Test.YtdaamgonendkkaaRegS
import Derived.Test.YtdaamgonendkkaaDrawN
import Derived.Test.YtdaamgonendkkaaRegK
import Derived.Test.YtdaamgonendkkaaKT
import Derived.Test.YtdaamgonendkkaaDby
import Derived.Test.YtdaamgonendkkaaDsec
import Derived.Test.YtdaamgonendkkaaDsym
import Derived.Test.YtdaamgonendkkaaOpenC
import Derived.Test.YtdaamgonendkkaaDobj
import Derived.Test.YtdaamgonendkkaaDme
import Derived.WalkKit
import Derived.WalkSpells
import Derived.WalkLawsBesides
import Derived.Handy
import Derived.BigQuiet
import Derived.Deep.RegionHeld3
import Derived.Deep.DrawnRows
import Derived.Deep.QuietTactic
namespace Go.Proofs.Ytdaamgonendkkaa
open Go Go.RowKit

def DrewSO (w : World) (e : Ending) (w' : World) : Prop := ∃ (x : Obj) (nm : ByteArray), e = .returned (.tuple #[x.val, .string nm]) ∧ x.At w' w'.heap.size ∧ ObjFit x ∧ x.syms.length ≤ x.yc ∧ nm.size ≤ 9 ∧ Below w.heap.size w w'
set_option maxRecDepth 100000 in
set_option maxHeartbeats 8000000 in
theorem DrawSymbolOf_any {A : Option Addr} {c : Nat} (cs : List Int) (w : World) (h1 : Reads w w.heap.size 1 A cs.length (nums .u8 cs)) (hx : ∀ x ∈ cs, 0 ≤ x ∧ x ≤ 255) (hm : cs.length ≤ 1048576) (hc : cs.length ≤ c) (hc2 : c ≤ maxLen) :
    Calls Try.prog 26 #[.slice A cs.length c] w (DrewSO w) := by
  have h1' : Reads (w.alloc (.cells #[.slice none 0 0, .slice none 0 0] 47)) (w.alloc (.cells #[.slice none 0 0, .slice none 0 0] 47)).heap.size 1 A cs.length (nums .u8 cs) := (h1.alloc (Nat.le_refl _) _).more (by simp)
  have HO := Lib.hid (open_any (A := A) (c := c) cs (w.alloc (.cells #[.slice none 0 0, .slice none 0 0] 47)) h1' hx hm hc hc2)
  clear h1 hx h1'
  go_enter Try.func26, Try.ntmps26
  go_wp2_with fail
  refine HO.out.mono ?_
  rintro e w1 ⟨rfl, hr, hz, hb⟩
  rw [World.size_alloc] at hr hz hb ⊢
  have HZ2 : Hid (Blk w1 w.heap.size 47 zObj.oc.toArray) := (Blk.new w 47 zObj.oc.toArray).below hb (by simp)
  have HBE : Hid (Below w.heap.size w w1) := ((Below.refl _ _).alloc (Nat.le_refl _) _).trans (hb.mono (by simp))
  have HR := Lib.hid hr
  obtain ⟨r, hrr⟩ : ∃ r, r = w.heap.size + 1 := ⟨_, rfl⟩
  rw [← hrr] at HR ⊢
  have h2r : w.heap.size < r := by omega
  have hrH : r < w1.heap.size := by omega
  clear hr hz hb hrr HO
  go_wp2_with fail
  refine (l20Object_any r 0 9 _ HR.out (by omega) (by omega) (by omega)).mono ?_
  rintro e w2 ⟨x, rfl, hrows, hft, hr2, hg2⟩
  have HFT := Lib.hid hft
  have HMM : Hid (DrawMem w r 800 w1.heap.size w.heap.size w2.heap.size zObj.oc x.oc x (w2.alloc (.cells #[.slice x.sA x.secs.length x.sc, .slice x.yA x.syms.length x.yc] 47))) :=
    ⟨(HZ2.out.grown hg2 (by simp; omega)).alloc _, Blk.new w2 47 _, hrows.keep (.of_alloc _ _ _), (hr2.more (by omega)).alloc _, (below_gr HBE.out hg2 (by omega)).alloc (by have := HBE.out.size; have := hg2.size; omega) _, Nat.le_refl _, h2r, hrH, hg2.size⟩
  obtain ⟨H, hH⟩ : ∃ H, H = w1.heap.size := ⟨_, rfl⟩
  obtain ⟨g2, hgg⟩ : ∃ g2, g2 = w.heap.size := ⟨_, rfl⟩
  rw [← hH] at HMM
  rw [← hgg] at HMM ⊢
  clear hH hgg hrows hft hr2 hg2 HR HZ2 HBE
  have HM : Hid (DrawMem w r 800 H g2 w2.heap.size zObj.oc x.oc x (w2.alloc (.cells #[.slice x.sA x.secs.length x.sc, .slice x.yA x.syms.length x.yc] 47))) := HMM.out
  simp only [Obj.val]
  clear HMM
  by_cases hly : x.syms.length = 0
  · have hl0 : decide ((0 : Int) < (x.syms.length : Int)) = false := decide_eq_false (by omega)
    have hln : ¬ (0 : Int) < (x.syms.length : Int) := by omega
    clear hly
    go_wp2
    obtain ⟨g5, hg5⟩ : ∃ g5, g5 = w2.heap.size := ⟨_, rfl⟩
    rw [← hg5] at HM ⊢
    generalize w2.alloc _ = w3 at HM ⊢
    clear hg5 hl0 hln
    obtain ⟨q, hq⟩ : ∃ q : Nat, q = 800 := ⟨_, rfl⟩
    rw [← hq] at HM
    have hqb : q ≤ 900 := by omega
    clear hq
    refine wp_region_facts (fun i v wf => match i with
        | 0 => v = x.val
        | 1 => v = .pointer (some ⟨r, 0, none⟩)
        | 2 => IsStr (fun x => x.size ≤ 9) v
        | 3 => True
        | _ => IsStr (fun x => x.size ≤ 9) v)
      (fun fl _ wq => (fl 3 = false → DrawMem w r (q + (b1 (fl 2) 2)) H g2 g5 zObj.oc x.oc x wq) ∧ (fl 3 = true → DrawFin w H g2 g5 x.oc x.oc x wq)) (fun _ _ => True) (by kernel_rfl) (by kernel_rfl) ?_ ?_ ?_ ?_
    · intro i v u u2 hk h
      match i, h with
      | 0, h => exact h
      | 1, h => exact h
      | 2, h => exact h
      | 3, h => trivial
      | _ + 4, h => exact h
    · intro fl _ hfl
      exact ⟨fun _ => by simpa [hfl, b1_false] using (show DrawMem w r q H g2 g5 zObj.oc x.oc x w3.drew from HM.out.drewN 1), fun h => by rw [hfl 3 (by simp)] at h; cases h⟩
    · refine ⟨?_, ?_, ?_, ?_, ?_, trivial⟩
      all_goals intro fl vs wr a1 hc hG hfi hcl hp K hK
      · have hS : Blk wr g5 47 x.oc.toArray ∧ ObjRows H x wr := by
          cases h : fl 3 with
          | false => exact ⟨(hG.1 h).b5, (hG.1 h).rows⟩
          | true => exact ⟨(hG.2 h).b5, (hG.2 h).rows⟩
        have e1 : a1.eval (.tmp 5) = .pointer (some ⟨g5, 0, none⟩) := hc.ev0 5 rfl
        have c0 : wr.cell? ⟨g5, 0, none⟩ = some (.slice x.sA x.secs.length x.sc) := hS.1.cell 0
        have c1 : wr.cell? ⟨g5, 1, none⟩ = some (.slice x.yA x.syms.length x.yc) := hS.1.cell 1
        unfold Oper.wp execOp
        simp only [e1]
        go_simp
        exact hK _ _ trivial rfl (by simpa [upd] using hG)
      · have hS : Blk wr g5 47 x.oc.toArray ∧ ObjRows H x wr := by
          cases h : fl 3 with
          | false => exact ⟨(hG.1 h).b5, (hG.1 h).rows⟩
          | true => exact ⟨(hG.2 h).b5, (hG.2 h).rows⟩
        refine op_move rfl ?_
        rw [hc.ev0 _ rfl]
        exact hK _ _ trivial rfl (by simpa [upd] using hG)
      · have n3 : fl 3 = false := by cases h : fl 3 with
          | false => rfl
          | true => have := hcl 3 2 (by kernel_rfl) h; rw [show fl 2 = false from hfi] at this; cases this
        have hS := hG.1 n3
        have hfi2 : fl 2 = false := hfi
        have hcnt0 := b1_le (fl 2) 2
        have e1 := hc.ev 31 1 rfl
        rw [show vs 1 = _ from (hp 1 (by kernel_rfl)).2] at e1
        refine op_name rfl e1 rfl hS.rd (by omega) (by omega) (by omega) ?_
        intro v w9 sa sb hr9 hg9
        exact hK _ _ trivial ⟨v, rfl, sa⟩ ⟨fun _ => (hS.pick hr9 hg9).moreq (by simp [upd, b1_true, b1_false, hfi2] <;> omega), fun h => by simp [upd, n3] at h⟩
      · have hfi2 : fl 3 = false := hfi
        have hS := hG.1 hfi2
        have e1 : a1.eval (.tmp 2) = .pointer (some ⟨g2, 0, none⟩) := hc.ev0 2 rfl
        have e2 := hc.ev 30 0 rfl
        rw [show vs 0 = _ from (hp 0 (by kernel_rfl)).2] at e2
        have c0 : wr.cell? ⟨g2, 0, none⟩ = some (.slice none 0 0) := hS.z2.cell 0
        have c1 : wr.cell? ⟨g2, 1, none⟩ = some (.slice none 0 0) := hS.z2.cell 1
        have f0 : wr.frozen? ⟨g2, 0, none⟩ = false := hS.z2.frozen 0
        have f1 : wr.frozen? ⟨g2, 1, none⟩ = false := hS.z2.frozen 1
        have HP := Lib.hid ((hS.fin.put 0 (.slice x.sA x.secs.length x.sc)).put 1 (.slice x.yA x.syms.length x.yc))
        unfold Oper.wp execOp
        simp only [e1, e2, Obj.val]
        go_simp
        exact hK undef _ trivial trivial ⟨fun h => by simp [upd] at h, fun _ => HP.out⟩
      · have h := (hp 2 (by kernel_rfl)).2
        refine op_assign rfl ?_
        rw [hc.ev 32 2 rfl]
        exact hK _ _ trivial h (by simpa [upd] using hG)
    · intro fl vs w9 hfl hG hF
      obtain ⟨nm, hnm, hn9⟩ := hF 4 (by simp)
      have HD := Lib.hid (hG.2 (hfl 3 (by simp)))
      clear hG hF hfl
      simp only [fill]
      go_simp
      go_wp2
      have y0 : w9.cell? ⟨g2, 0, none⟩ = some (.slice x.sA x.secs.length x.sc) := HD.out.z2.cell 0
      have y1 : w9.cell? ⟨g2, 1, none⟩ = some (.slice x.yA x.syms.length x.yc) := HD.out.z2.cell 1
      refine bodyPost_ret (v := .tuple #[x.val, .string nm]) (by simp [results, Try.results26, go_sem, y0, y1, Obj.val]) rfl ?_
      exact ⟨x, nm, rfl, HD.out.rows.at_, HFT.out, own_capO HD.out.rows.oy, hn9, HD.out.be⟩
  · have hl0 : decide ((0 : Int) < (x.syms.length : Int)) = true := decide_eq_true (by omega)
    have hlp : 0 < x.syms.length := by omega
    have hl13 : x.syms.length ≤ 13 := HFT.out.ly
    clear hly
    go_wp2_with fail
    obtain ⟨g5, hg5⟩ : ∃ g5, g5 = w2.heap.size := ⟨_, rfl⟩
    rw [← hg5] at HM ⊢
    generalize w2.alloc _ = w3a at HM ⊢
    clear hg5
    refine (pick_any r _ 3 _ HM.out.rd (by omega) (by omega) (by omega)).mono ?_
    rintro e w3 ⟨v, rfl, ⟨va, vb⟩, hr3, hg3⟩
    have HM3 := Lib.hid (HM.out.pick hr3 hg3)
    clear HM hr3 hg3
    obtain ⟨q, hq⟩ : ∃ q : Nat, q = 800 + 1 := ⟨_, rfl⟩
    rw [← hq] at HM3
    have hqb : q ≤ 900 := by omega
    have HM := Lib.hid HM3.out
    clear hq HM3
    by_cases hv : 0 < v
    · have hvb : decide (0 < v) = true := decide_eq_true hv
      go_wp2
      refine wp_region_facts (fun i v wf => match i with
          | 0 => v = x.val
          | 1 => v = .pointer (some ⟨g5, 1, none⟩)
          | 2 => v = .slice x.yA x.syms.length x.yc
          | 3 => v = .pointer (some ⟨r, 0, none⟩)
          | 4 => v = .pointer (some ⟨g5, 1, none⟩)
          | 5 => v = .slice x.yA x.syms.length x.yc
          | 6 => v = .int .i64 (x.syms.length)
          | 7 => IsInt 0 ((x.syms.length : Int) - 1) v
          | 8 => (∃ (gy k : Nat), v = .pointer (some ⟨gy, k * 4, none⟩) ∧ k < x.syms.length ∧ x.yA = some ⟨gy, 0, none⟩)
          | 9 => (∃ (gy k : Nat), v = .pointer (some ⟨gy, k * 4, none⟩) ∧ k < x.syms.length ∧ x.yA = some ⟨gy, 0, none⟩)
          | 10 => IsStr (fun x => x.size ≤ 9) v
          | 11 => True
          | _ => IsStr (fun x => x.size ≤ 9) v)
        (fun fl _ wq => (fl 11 = false → DrawMem w r (q + (b1 (fl 7) 1)) H g2 g5 zObj.oc x.oc x wq) ∧ (fl 11 = true → DrawFin w H g2 g5 x.oc x.oc x wq)) (fun _ _ => True) (by kernel_rfl) (by kernel_rfl) ?_ ?_ ?_ ?_
      · intro i v u u2 hk h
        match i, h with
        | 0, h => exact h
        | 1, h => exact h
        | 2, h => exact h
        | 3, h => exact h
        | 4, h => exact h
        | 5, h => exact h
        | 6, h => exact h
        | 7, h => exact h
        | 8, h => exact h
        | 9, h => exact h
        | 10, h => exact h
        | 11, h => trivial
        | _ + 12, h => exact h
      · intro fl _ hfl
        exact ⟨fun _ => by simpa [hfl, b1_false] using (show DrawMem w r q H g2 g5 zObj.oc x.oc x w3.drew from HM.out.drewN 1), fun h => by rw [hfl 11 (by simp)] at h; cases h⟩
      · refine ⟨?_, ?_, ?_, ?_, ?_, ?_, ?_, ?_, ?_, ?_, ?_, ?_, ?_, trivial⟩
        all_goals intro fl vs wr a1 hc hG hfi hcl hp K hK
        · have hS : Blk wr g5 47 x.oc.toArray ∧ ObjRows H x wr := by
            cases h : fl 11 with
            | false => exact ⟨(hG.1 h).b5, (hG.1 h).rows⟩
            | true => exact ⟨(hG.2 h).b5, (hG.2 h).rows⟩
          have e1 : a1.eval (.tmp 5) = .pointer (some ⟨g5, 0, none⟩) := hc.ev0 5 rfl
          have c0 : wr.cell? ⟨g5, 0, none⟩ = some (.slice x.sA x.secs.length x.sc) := hS.1.cell 0
          have c1 : wr.cell? ⟨g5, 1, none⟩ = some (.slice x.yA x.syms.length x.yc) := hS.1.cell 1
          unfold Oper.wp execOp
          simp only [e1]
          go_simp
          exact hK _ _ trivial rfl (by simpa [upd] using hG)
        · have hS : Blk wr g5 47 x.oc.toArray ∧ ObjRows H x wr := by
            cases h : fl 11 with
            | false => exact ⟨(hG.1 h).b5, (hG.1 h).rows⟩
            | true => exact ⟨(hG.2 h).b5, (hG.2 h).rows⟩
          have e1 : a1.eval (.tmp 5) = .pointer (some ⟨g5, 0, none⟩) := hc.ev0 5 rfl
          unfold Oper.wp execOp
          simp only [e1]
          go_simp
          exact hK _ _ trivial rfl (by simpa [upd] using hG)
        · have hS : Blk wr g5 47 x.oc.toArray ∧ ObjRows H x wr := by
            cases h : fl 11 with
            | false => exact ⟨(hG.1 h).b5, (hG.1 h).rows⟩
            | true => exact ⟨(hG.2 h).b5, (hG.2 h).rows⟩
          have e1 := hc.ev 20 1 rfl
          rw [show vs 1 = _ from (hp 1 (by kernel_rfl)).2] at e1
          have ec : wr.cell? ⟨g5, 1, none⟩ = some (.slice x.yA x.syms.length x.yc) := hS.1.cell 1
          unfold Oper.wp execOp
          simp only [e1]
          go_simp
          exact hK _ _ trivial rfl (by simpa [upd] using hG)
        · have hS : Blk wr g5 47 x.oc.toArray ∧ ObjRows H x wr := by
            cases h : fl 11 with
            | false => exact ⟨(hG.1 h).b5, (hG.1 h).rows⟩
            | true => exact ⟨(hG.2 h).b5, (hG.2 h).rows⟩
          refine op_move rfl ?_
          rw [hc.ev0 _ rfl]
          exact hK _ _ trivial rfl (by simpa [upd] using hG)
        · have hS : Blk wr g5 47 x.oc.toArray ∧ ObjRows H x wr := by
            cases h : fl 11 with
            | false => exact ⟨(hG.1 h).b5, (hG.1 h).rows⟩
            | true => exact ⟨(hG.2 h).b5, (hG.2 h).rows⟩
          have e1 : a1.eval (.tmp 5) = .pointer (some ⟨g5, 0, none⟩) := hc.ev0 5 rfl
          unfold Oper.wp execOp
          simp only [e1]
          go_simp
          exact hK _ _ trivial rfl (by simpa [upd] using hG)
        · have hS : Blk wr g5 47 x.oc.toArray ∧ ObjRows H x wr := by
            cases h : fl 11 with
            | false => exact ⟨(hG.1 h).b5, (hG.1 h).rows⟩
            | true => exact ⟨(hG.2 h).b5, (hG.2 h).rows⟩
          have e1 := hc.ev 23 4 rfl
          rw [show vs 4 = _ from (hp 4 (by kernel_rfl)).2] at e1
          have ec : wr.cell? ⟨g5, 1, none⟩ = some (.slice x.yA x.syms.length x.yc) := hS.1.cell 1
          unfold Oper.wp execOp
          simp only [e1]
          go_simp
          exact hK _ _ trivial rfl (by simpa [upd] using hG)
        · have hS : Blk wr g5 47 x.oc.toArray ∧ ObjRows H x wr := by
            cases h : fl 11 with
            | false => exact ⟨(hG.1 h).b5, (hG.1 h).rows⟩
            | true => exact ⟨(hG.2 h).b5, (hG.2 h).rows⟩
          have e1 := hc.ev 24 5 rfl
          rw [show vs 5 = _ from (hp 5 (by kernel_rfl)).2] at e1
          unfold Oper.wp execOp
          simp only [resolve, invoke, builtin, Sem.run_bind, Sem.run_pure, Result.andThen_ok, List.map_toArray, List.map_cons, List.map_nil, e1]
          go_simp
          exact hK _ _ trivial rfl (by simpa [upd] using hG)
        · have n11 : fl 11 = false := by cases h : fl 11 with
            | false => rfl
            | true => have := hcl 11 7 (by kernel_rfl) h; rw [show fl 7 = false from hfi] at this; cases this
          have hS := hG.1 n11
          have hfi2 : fl 7 = false := hfi
          have hcnt0 := b1_le (fl 7) 1
          have e1 := hc.ev 22 3 rfl
          rw [show vs 3 = _ from (hp 3 (by kernel_rfl)).2] at e1
          have e2 := hc.ev 25 6 rfl
          rw [show vs 6 = _ from (hp 6 (by kernel_rfl)).2] at e2
          refine op_pick rfl e1 e2 hS.rd (by omega) (by omega) (by omega) ?_
          intro v w9 va vb hr9 hg9
          exact hK _ _ trivial ⟨v, rfl, va, vb⟩ ⟨fun _ => (hS.pick hr9 hg9).moreq (by simp [upd, b1_true, b1_false, hfi2] <;> omega), fun h => by simp [upd, n11] at h⟩
        · have hS : Blk wr g5 47 x.oc.toArray ∧ ObjRows H x wr := by
            cases h : fl 11 with
            | false => exact ⟨(hG.1 h).b5, (hG.1 h).rows⟩
            | true => exact ⟨(hG.2 h).b5, (hG.2 h).rows⟩
          obtain ⟨u, hu, ua, ub⟩ := (hp 7 (by kernel_rfl)).2
          have e1 := hc.ev 21 2 rfl
          rw [show vs 2 = _ from (hp 2 (by kernel_rfl)).2] at e1
          have e2 := hc.ev 26 7 rfl
          rw [hu] at e2
          obtain ⟨gy, hyA, _, _⟩ := own_addrS hS.2.oy hlp
          rw [hyA] at e1
          obtain ⟨k, rfl⟩ := Int.eq_ofNat_of_zero_le ua
          have hk : (k : Int) < (x.syms.length : Int) := by omega
          unfold Oper.wp execOp
          simp only [e1, e2]
          go_simp
          exact hK _ _ trivial ⟨gy, k, rfl, by omega, hyA⟩ (by simpa [upd] using hG)
        · have hS : Blk wr g5 47 x.oc.toArray ∧ ObjRows H x wr := by
            cases h : fl 11 with
            | false => exact ⟨(hG.1 h).b5, (hG.1 h).rows⟩
            | true => exact ⟨(hG.2 h).b5, (hG.2 h).rows⟩
          obtain ⟨gy, k, hu, hk, hyA⟩ := (hp 8 (by kernel_rfl)).2
          have e1 := hc.ev 27 8 rfl
          rw [hu] at e1
          unfold Oper.wp execOp
          simp only [e1]
          go_simp
          exact hK _ _ trivial ⟨gy, k, rfl, hk, hyA⟩ (by simpa [upd] using hG)
        · have hS : Blk wr g5 47 x.oc.toArray ∧ ObjRows H x wr := by
            cases h : fl 11 with
            | false => exact ⟨(hG.1 h).b5, (hG.1 h).rows⟩
            | true => exact ⟨(hG.2 h).b5, (hG.2 h).rows⟩
          obtain ⟨gy, k, hu, hk, hyA⟩ := (hp 9 (by kernel_rfl)).2
          have e1 := hc.ev 28 9 rfl
          rw [hu] at e1
          have c0 : wr.cell? ⟨gy, k * 4, none⟩ = some (.string x.syms[k].name) := by
            have h1 := hS.2.oy
            rw [hyA] at h1
            exact (h1.cellAt (k * 4 + 0) (by omega)).trans (flat_get Sym.cells 4 Sym.cells_len x.syms k 0 hk (by omega))
          have hn9 := HFT.out.fy _ (List.getElem_mem hk)
          generalize x.syms[k].name = nk at *
          unfold Oper.wp execOp
          simp only [e1]
          go_simp
          exact hK _ _ trivial ⟨nk, rfl, hn9⟩ (by simpa [upd] using hG)
        · have hfi2 : fl 11 = false := hfi
          have hS := hG.1 hfi2
          have e1 : a1.eval (.tmp 2) = .pointer (some ⟨g2, 0, none⟩) := hc.ev0 2 rfl
          have e2 := hc.ev 19 0 rfl
          rw [show vs 0 = _ from (hp 0 (by kernel_rfl)).2] at e2
          have c0 : wr.cell? ⟨g2, 0, none⟩ = some (.slice none 0 0) := hS.z2.cell 0
          have c1 : wr.cell? ⟨g2, 1, none⟩ = some (.slice none 0 0) := hS.z2.cell 1
          have f0 : wr.frozen? ⟨g2, 0, none⟩ = false := hS.z2.frozen 0
          have f1 : wr.frozen? ⟨g2, 1, none⟩ = false := hS.z2.frozen 1
          have HP := Lib.hid ((hS.fin.put 0 (.slice x.sA x.secs.length x.sc)).put 1 (.slice x.yA x.syms.length x.yc))
          unfold Oper.wp execOp
          simp only [e1, e2, Obj.val]
          go_simp
          exact hK undef _ trivial trivial ⟨fun h => by simp [upd] at h, fun _ => HP.out⟩
        · have h := (hp 10 (by kernel_rfl)).2
          refine op_assign rfl ?_
          rw [hc.ev 29 10 rfl]
          exact hK _ _ trivial h (by simpa [upd] using hG)
      · intro fl vs w9 hfl hG hF
        obtain ⟨nm, hnm, hn9⟩ := hF 12 (by simp)
        have HD := Lib.hid (hG.2 (hfl 11 (by simp)))
        clear hG hF hfl
        simp only [fill]
        go_simp
        go_wp2
        have y0 : w9.cell? ⟨g2, 0, none⟩ = some (.slice x.sA x.secs.length x.sc) := HD.out.z2.cell 0
        have y1 : w9.cell? ⟨g2, 1, none⟩ = some (.slice x.yA x.syms.length x.yc) := HD.out.z2.cell 1
        refine bodyPost_ret (v := .tuple #[x.val, .string nm]) (by simp [results, Try.results26, go_sem, y0, y1, Obj.val]) rfl ?_
        exact ⟨x, nm, rfl, HD.out.rows.at_, HFT.out, own_capO HD.out.rows.oy, hn9, HD.out.be⟩
    · have hvb : decide (0 < v) = false := decide_eq_false hv
      go_wp2
      refine wp_region_facts (fun i v wf => match i with
          | 0 => v = x.val
          | 1 => v = .pointer (some ⟨r, 0, none⟩)
          | 2 => IsStr (fun x => x.size ≤ 9) v
          | 3 => True
          | _ => IsStr (fun x => x.size ≤ 9) v)
        (fun fl _ wq => (fl 3 = false → DrawMem w r (q + (b1 (fl 2) 2)) H g2 g5 zObj.oc x.oc x wq) ∧ (fl 3 = true → DrawFin w H g2 g5 x.oc x.oc x wq)) (fun _ _ => True) (by kernel_rfl) (by kernel_rfl) ?_ ?_ ?_ ?_
      · intro i v u u2 hk h
        match i, h with
        | 0, h => exact h
        | 1, h => exact h
        | 2, h => exact h
        | 3, h => trivial
        | _ + 4, h => exact h
      · intro fl _ hfl
        exact ⟨fun _ => by simpa [hfl, b1_false] using (show DrawMem w r q H g2 g5 zObj.oc x.oc x w3.drew from HM.out.drewN 1), fun h => by rw [hfl 3 (by simp)] at h; cases h⟩
      · refine ⟨?_, ?_, ?_, ?_, ?_, trivial⟩
        all_goals intro fl vs wr a1 hc hG hfi hcl hp K hK
        · have hS : Blk wr g5 47 x.oc.toArray ∧ ObjRows H x wr := by
            cases h : fl 3 with
            | false => exact ⟨(hG.1 h).b5, (hG.1 h).rows⟩
            | true => exact ⟨(hG.2 h).b5, (hG.2 h).rows⟩
          have e1 : a1.eval (.tmp 5) = .pointer (some ⟨g5, 0, none⟩) := hc.ev0 5 rfl
          have c0 : wr.cell? ⟨g5, 0, none⟩ = some (.slice x.sA x.secs.length x.sc) := hS.1.cell 0
          have c1 : wr.cell? ⟨g5, 1, none⟩ = some (.slice x.yA x.syms.length x.yc) := hS.1.cell 1
          unfold Oper.wp execOp
          simp only [e1]
          go_simp
          exact hK _ _ trivial rfl (by simpa [upd] using hG)
        · have hS : Blk wr g5 47 x.oc.toArray ∧ ObjRows H x wr := by
            cases h : fl 3 with
            | false => exact ⟨(hG.1 h).b5, (hG.1 h).rows⟩
            | true => exact ⟨(hG.2 h).b5, (hG.2 h).rows⟩
          refine op_move rfl ?_
          rw [hc.ev0 _ rfl]
          exact hK _ _ trivial rfl (by simpa [upd] using hG)
        · have n3 : fl 3 = false := by cases h : fl 3 with
            | false => rfl
            | true => have := hcl 3 2 (by kernel_rfl) h; rw [show fl 2 = false from hfi] at this; cases this
          have hS := hG.1 n3
          have hfi2 : fl 2 = false := hfi
          have hcnt0 := b1_le (fl 2) 2
          have e1 := hc.ev 31 1 rfl
          rw [show vs 1 = _ from (hp 1 (by kernel_rfl)).2] at e1
          refine op_name rfl e1 rfl hS.rd (by omega) (by omega) (by omega) ?_
          intro v w9 sa sb hr9 hg9
          exact hK _ _ trivial ⟨v, rfl, sa⟩ ⟨fun _ => (hS.pick hr9 hg9).moreq (by simp [upd, b1_true, b1_false, hfi2] <;> omega), fun h => by simp [upd, n3] at h⟩
        · have hfi2 : fl 3 = false := hfi
          have hS := hG.1 hfi2
          have e1 : a1.eval (.tmp 2) = .pointer (some ⟨g2, 0, none⟩) := hc.ev0 2 rfl
          have e2 := hc.ev 30 0 rfl
          rw [show vs 0 = _ from (hp 0 (by kernel_rfl)).2] at e2
          have c0 : wr.cell? ⟨g2, 0, none⟩ = some (.slice none 0 0) := hS.z2.cell 0
          have c1 : wr.cell? ⟨g2, 1, none⟩ = some (.slice none 0 0) := hS.z2.cell 1
          have f0 : wr.frozen? ⟨g2, 0, none⟩ = false := hS.z2.frozen 0
          have f1 : wr.frozen? ⟨g2, 1, none⟩ = false := hS.z2.frozen 1
          have HP := Lib.hid ((hS.fin.put 0 (.slice x.sA x.secs.length x.sc)).put 1 (.slice x.yA x.syms.length x.yc))
          unfold Oper.wp execOp
          simp only [e1, e2, Obj.val]
          go_simp
          exact hK undef _ trivial trivial ⟨fun h => by simp [upd] at h, fun _ => HP.out⟩
        · have h := (hp 2 (by kernel_rfl)).2
          refine op_assign rfl ?_
          rw [hc.ev 32 2 rfl]
          exact hK _ _ trivial h (by simpa [upd] using hG)
      · intro fl vs w9 hfl hG hF
        obtain ⟨nm, hnm, hn9⟩ := hF 4 (by simp)
        have HD := Lib.hid (hG.2 (hfl 3 (by simp)))
        clear hG hF hfl
        simp only [fill]
        go_simp
        go_wp2
        have y0 : w9.cell? ⟨g2, 0, none⟩ = some (.slice x.sA x.secs.length x.sc) := HD.out.z2.cell 0
        have y1 : w9.cell? ⟨g2, 1, none⟩ = some (.slice x.yA x.syms.length x.yc) := HD.out.z2.cell 1
        refine bodyPost_ret (v := .tuple #[x.val, .string nm]) (by simp [results, Try.results26, go_sem, y0, y1, Obj.val]) rfl ?_
        exact ⟨x, nm, rfl, HD.out.rows.at_, HFT.out, own_capO HD.out.rows.oy, hn9, HD.out.be⟩
end Go.Proofs.Ytdaamgonendkkaa
