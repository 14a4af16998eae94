/- Contract of the drawing of the law of SectionsAlike. Condition: the sizes. -/
import Derived.Test.YtmmenedjmdcbcaaRows
import Derived.Test.YtmmenedjmdcbcaaBase
import Derived.Test.YtmmenedjmdcbcaaBase2
import Derived.Test.YtmmenedjmdcbcaaBase3
import Derived.Test.YtmmenedjmdcbcaaOnly
import Derived.Test.YtmmenedjmdcbcaaIn
import Derived.Test.YtmmenedjmdcbcaaName
import Derived.Test.YtmmenedjmdcbcaaEqB
import Derived.Test.YtmmenedjmdcbcaaFix
import Derived.Test.YtmmenedjmdcbcaaSec
import Derived.Test.YtmmenedjmdcbcaaObjS
import Derived.Test.YtmmenedjmdcbcaaSym
import Derived.Test.YtmmenedjmdcbcaaObj
import Derived.Test.YtmmenedjmdcbcaaMarkT
import Derived.Test.YtmmenedjmdcbcaaPick
import Derived.Test.YtmmenedjmdcbcaaPick2
import Derived.Test.YtmmenedjmdcbcaaReg
import Derived.Test.YtmmenedjmdcbcaaRegS
import Derived.Test.YtmmenedjmdcbcaaDrawN
import Derived.Test.YtmmenedjmdcbcaaRegK
import Derived.Test.YtmmenedjmdcbcaaKT
import Derived.Test.YtmmenedjmdcbcaaDby
import Derived.Test.YtmmenedjmdcbcaaDsec
import Derived.Test.YtmmenedjmdcbcaaDsym
import Derived.Test.YtmmenedjmdcbcaaOpenC
import Derived.Test.YtmmenedjmdcbcaaDobj
import Derived.Test.YtmmenedjmdcbcaaDme
import Derived.Test.YtmmenedjmdcbcaaDtw
import Derived.WalkKit
import Derived.WalkSpells
import Derived.WalkLawsBesides
import Derived.Handy
import Derived.BigQuiet
import Derived.Deep.RegionHeld3
import Derived.Deep.DrawnRows
import Derived.Deep.QuietTactic
namespace Go.Proofs.Ytmmenedjmdcbcaa
open Go Go.RowKit

theorem DrawFin.alloc {W wq : World} {H g2 g5 : Nat} {zc oc : List Value} {x : Obj} (h : DrawFin W H g2 g5 zc oc x wq) (o : Go.Obj) : DrawFin W H g2 g5 zc oc x (wq.alloc o) :=
  ⟨h.z2.alloc _, h.b5.alloc _, h.rows.keep (.of_alloc _ _ _), h.be.alloc h.be.size _, h.hg2, h.h25⟩
/-- An object and two numbers were drawn. -/
def DrewSA (w : World) (e : Ending) (w' : World) : Prop := ∃ (x : Obj) (a b : Int), e = .returned (.tuple #[x.val, .int .i64 a, .int .i64 b]) ∧ x.At w' w'.heap.size ∧ ObjFitT x ∧ x.syms.length ≤ x.yc ∧ (-1 ≤ a ∧ a ≤ 10) ∧ (-1 ≤ b ∧ b ≤ 10) ∧ Below w.heap.size w w'
set_option maxRecDepth 100000 in
set_option maxHeartbeats 8000000 in
theorem DrawSectionsAlike_any {A : Option Addr} {c : Nat} (cs : List Int) (w : World) (h1 : Reads w w.heap.size 1 A cs.length (nums .u8 cs)) (hx : ∀ x ∈ cs, 0 ≤ x ∧ x ≤ 255) (hm : cs.length ≤ 1048576) (hc : cs.length ≤ c) (hc2 : c ≤ maxLen) :
    Calls Try.prog 9 #[.slice A cs.length c] w (DrewSA w) := by
  have h1' : Reads (w.alloc (.cells #[.slice none 0 0, .slice none 0 0] 26)) (w.alloc (.cells #[.slice none 0 0, .slice none 0 0] 26)).heap.size 1 A cs.length (nums .u8 cs) := (h1.alloc (Nat.le_refl _) _).more (by simp)
  have HO := Lib.hid (open_any (A := A) (c := c) cs (w.alloc (.cells #[.slice none 0 0, .slice none 0 0] 26)) h1' hx hm hc hc2)
  clear h1 hx h1'
  go_enter Try.func9, Try.ntmps9
  go_wp2_with fail
  refine HO.out.mono ?_
  rintro e w1 ⟨rfl, hr, hz, hb⟩
  rw [World.size_alloc] at hr hz hb ⊢
  have HZ2 : Hid (Blk w1 w.heap.size 26 zObj.oc.toArray) := (Blk.new w 26 zObj.oc.toArray).below hb (by simp)
  have HBE : Hid (Below w.heap.size w w1) := ((Below.refl _ _).alloc (Nat.le_refl _) _).trans (hb.mono (by simp))
  have HR := Lib.hid hr
  obtain ⟨r, hrr⟩ : ∃ r, r = w.heap.size + 1 := ⟨_, rfl⟩
  rw [← hrr] at HR ⊢
  have h2r : w.heap.size < r := by omega
  have hrH : r < w1.heap.size := by omega
  clear hr hz hb hrr HO
  go_wp2_with fail
  refine (l20Twins_any r 0 _ HR.out (by omega)).mono ?_
  rintro e w2 ⟨x, rfl, hrows, hft, hr2, hg2⟩
  have HFT := Lib.hid hft
  have HMM : Hid (DrawMem w r 810 w1.heap.size w.heap.size w2.heap.size zObj.oc x.oc x (w2.alloc (.cells #[.slice x.sA x.secs.length x.sc, .slice x.yA x.syms.length x.yc] 26))) :=
    ⟨(HZ2.out.grown hg2 (by simp; omega)).alloc _, Blk.new w2 26 _, hrows.keep (.of_alloc _ _ _), (hr2.more (by omega)).alloc _, (below_gr HBE.out hg2 (by omega)).alloc (by have := HBE.out.size; have := hg2.size; omega) _, Nat.le_refl _, h2r, hrH, hg2.size⟩
  obtain ⟨H, hH⟩ : ∃ H, H = w1.heap.size := ⟨_, rfl⟩
  obtain ⟨g2, hgg⟩ : ∃ g2, g2 = w.heap.size := ⟨_, rfl⟩
  rw [← hH] at HMM
  rw [← hgg] at HMM ⊢
  clear hH hgg hrows hft hr2 hg2 HR HZ2 HBE
  have HM : Hid (DrawMem w r 810 H g2 w2.heap.size zObj.oc x.oc x (w2.alloc (.cells #[.slice x.sA x.secs.length x.sc, .slice x.yA x.syms.length x.yc] 26))) := HMM.out
  simp only [Obj.val]
  have hl5 : x.secs.length ≤ 5 := HFT.out.ls
  clear HMM
  go_wp2
  obtain ⟨g5, hg5⟩ : ∃ g5, g5 = w2.heap.size := ⟨_, rfl⟩
  rw [← hg5] at HM ⊢
  generalize w2.alloc _ = w3 at HM ⊢
  clear hg5
  have hrg : r < g5 := by have := HM.out.hrH; have := HM.out.hH5; omega
  obtain ⟨q, hq⟩ : ∃ q : Nat, q = 810 := ⟨_, rfl⟩
  rw [← hq] at HM
  have hqb : q ≤ 900 := by omega
  clear hq
  refine wp_region_facts (fun i v wf => match i with
      | 0 => v = x.val
      | 1 => v = .pointer (some ⟨r, 0, none⟩)
      | 2 => v = .int .i64 (x.secs.length : Int)
      | 3 => v = .int .i64 ((x.secs.length : Int) + 1)
      | 4 => IsInt 0 (((x.secs.length : Int) + 1) - 1) v
      | 5 => v = .int .i64 (x.secs.length : Int)
      | 6 => v = .int .i64 ((x.secs.length : Int) - 1)
      | 7 => IsInt 0 5 v
      | 8 => LitI (fun b => b ≠ r ∧ b ≠ g2) 2 (-1) (10) v wf
      | 9 => v = .pointer (some ⟨r, 0, none⟩)
      | 10 => IsInt 0 (2 - 1) v
      | 11 => AdI (fun b => b ≠ r ∧ b ≠ g2) (-1) (10) v wf
      | 12 => IsInt (-1) (10) v
      | 13 => v = .pointer (some ⟨r, 0, none⟩)
      | 14 => v = .int .i64 (x.secs.length : Int)
      | 15 => v = .int .i64 ((x.secs.length : Int) + 1)
      | 16 => IsInt 0 (((x.secs.length : Int) + 1) - 1) v
      | 17 => v = .pointer (some ⟨r, 0, none⟩)
      | 18 => IsInt 0 (14 - 1) v
      | 19 => IsInt (0) (1) v
      | 20 => IsInt (-1) 10 v
      | 21 => True
      | 22 => IsInt (-1) (10) v
      | _ => IsInt (-1) 10 v)
    (fun fl _ wq => (fl 21 = false → DrawMem w r (q + (b1 (fl 4) 1 + b1 (fl 10) 1 + b1 (fl 16) 1 + b1 (fl 18) 1)) H g2 g5 zObj.oc x.oc x wq) ∧ (fl 21 = true → DrawFin w H g2 g5 x.oc x.oc x wq)) (Keeps (fun b => b ≠ r ∧ b ≠ g2)) (by kernel_rfl) (by kernel_rfl) ?_ ?_ ?_ ?_
  · intro i v u u2 hk h
    match i, h with
    | 0, h => exact h
    | 1, h => exact h
    | 2, h => exact h
    | 3, h => exact h
    | 4, h => exact h
    | 5, h => exact h
    | 6, h => exact h
    | 7, h => exact h
    | 8, h => exact h.keeps hk
    | 9, h => exact h
    | 10, h => exact h
    | 11, h => exact h.keeps hk
    | 12, h => exact h
    | 13, h => exact h
    | 14, h => exact h
    | 15, h => exact h
    | 16, h => exact h
    | 17, h => exact h
    | 18, h => exact h
    | 19, h => exact h
    | 20, h => exact h
    | 21, h => trivial
    | 22, h => exact h
    | _ + 23, h => exact h
  · intro fl _ hfl
    exact ⟨fun _ => by simpa [hfl, b1_false] using (show DrawMem w r q H g2 g5 zObj.oc x.oc x w3.drew from HM.out.drewN 1), fun h => by rw [hfl 21 (by simp)] at h; cases h⟩
  · refine ⟨?_, ?_, ?_, ?_, ?_, ?_, ?_, ?_, ?_, ?_, ?_, ?_, ?_, ?_, ?_, ?_, ?_, ?_, ?_, ?_, ?_, ?_, ?_, ?_, trivial⟩
    all_goals intro fl vs wr a1 hc hG hfi hcl hp K hK
    · have hSZ : g2 < wr.heap.size ∧ r < wr.heap.size := by
        cases h : fl 21 with
        | false => exact ⟨(hG.1 h).z2.lt, (hG.1 h).size.2.2⟩
        | true => exact ⟨(hG.2 h).z2.lt, by have := (hG.2 h).b5.lt; omega⟩
      have hS : Blk wr g5 26 x.oc.toArray ∧ ObjRows H x wr := by
        cases h : fl 21 with
        | false => exact ⟨(hG.1 h).b5, (hG.1 h).rows⟩
        | true => exact ⟨(hG.2 h).b5, (hG.2 h).rows⟩
      have e1 : a1.eval (.tmp 6) = .pointer (some ⟨g5, 0, none⟩) := hc.ev0 6 rfl
      have c0 : wr.cell? ⟨g5, 0, none⟩ = some (.slice x.sA x.secs.length x.sc) := hS.1.cell 0
      have c1 : wr.cell? ⟨g5, 1, none⟩ = some (.slice x.yA x.syms.length x.yc) := hS.1.cell 1
      unfold Oper.wp execOp
      simp only [e1]
      go_simp
      exact hK _ _ (Keeps.refl _ _) rfl (by simpa [upd] using hG)
    · have hSZ : g2 < wr.heap.size ∧ r < wr.heap.size := by
        cases h : fl 21 with
        | false => exact ⟨(hG.1 h).z2.lt, (hG.1 h).size.2.2⟩
        | true => exact ⟨(hG.2 h).z2.lt, by have := (hG.2 h).b5.lt; omega⟩
      have hS : Blk wr g5 26 x.oc.toArray ∧ ObjRows H x wr := by
        cases h : fl 21 with
        | false => exact ⟨(hG.1 h).b5, (hG.1 h).rows⟩
        | true => exact ⟨(hG.2 h).b5, (hG.2 h).rows⟩
      refine op_move rfl ?_
      rw [hc.ev0 _ rfl]
      exact hK _ _ (Keeps.refl _ _) rfl (by simpa [upd] using hG)
    · have hSZ : g2 < wr.heap.size ∧ r < wr.heap.size := by
        cases h : fl 21 with
        | false => exact ⟨(hG.1 h).z2.lt, (hG.1 h).size.2.2⟩
        | true => exact ⟨(hG.2 h).z2.lt, by have := (hG.2 h).b5.lt; omega⟩
      have hS : Blk wr g5 26 x.oc.toArray ∧ ObjRows H x wr := by
        cases h : fl 21 with
        | false => exact ⟨(hG.1 h).b5, (hG.1 h).rows⟩
        | true => exact ⟨(hG.2 h).b5, (hG.2 h).rows⟩
      refine op_move rfl ?_
      rw [hc.ev0 _ rfl]
      exact hK _ _ (Keeps.refl _ _) rfl (by simpa [upd] using hG)
    · have hSZ : g2 < wr.heap.size ∧ r < wr.heap.size := by
        cases h : fl 21 with
        | false => exact ⟨(hG.1 h).z2.lt, (hG.1 h).size.2.2⟩
        | true => exact ⟨(hG.2 h).z2.lt, by have := (hG.2 h).b5.lt; omega⟩
      have hS : Blk wr g5 26 x.oc.toArray ∧ ObjRows H x wr := by
        cases h : fl 21 with
        | false => exact ⟨(hG.1 h).b5, (hG.1 h).rows⟩
        | true => exact ⟨(hG.2 h).b5, (hG.2 h).rows⟩
      have e1 := hc.ev 17 2 rfl
      rw [show vs 2 = _ from (hp 2 (by kernel_rfl)).2] at e1
      have y1 : IntKind.i64.wrap ((x.secs.length : Int) + 1) = (x.secs.length : Int) + 1 := IntWalk.i64_in _ (by omega)
      unfold Oper.wp execOp
      simp only [e1]
      go_simp
      exact hK _ _ (Keeps.refl _ _) rfl (by simpa [upd] using hG)
    · have hSZ : g2 < wr.heap.size ∧ r < wr.heap.size := by
        cases h : fl 21 with
        | false => exact ⟨(hG.1 h).z2.lt, (hG.1 h).size.2.2⟩
        | true => exact ⟨(hG.2 h).z2.lt, by have := (hG.2 h).b5.lt; omega⟩
      have n4 : fl 4 = false := hfi
      have n10 : fl 10 = false := by cases h : fl 10 with
        | false => rfl
        | true => have := hcl 10 4 (by kernel_rfl) h; rw [n4] at this; cases this
      have n16 : fl 16 = false := by cases h : fl 16 with
        | false => rfl
        | true => have := hcl 16 10 (by kernel_rfl) h; rw [n10] at this; cases this
      have n18 : fl 18 = false := by cases h : fl 18 with
        | false => rfl
        | true => have := hcl 18 16 (by kernel_rfl) h; rw [n16] at this; cases this
      have n21 : fl 21 = false := by cases h : fl 21 with
        | false => rfl
        | true => have := hcl 21 18 (by kernel_rfl) h; rw [n18] at this; cases this
      have hS := hG.1 n21
      have hfi2 : fl 4 = false := hfi
      have hcnt0 := b1_le (fl 4) 1
      have hcnt1 := b1_le (fl 10) 1
      have hcnt2 := b1_le (fl 16) 1
      have hcnt3 := b1_le (fl 18) 1
      have e1 := hc.ev 16 1 rfl
      rw [show vs 1 = _ from (hp 1 (by kernel_rfl)).2] at e1
      have e2 := hc.ev 18 3 rfl
      rw [show vs 3 = _ from (hp 3 (by kernel_rfl)).2] at e2
      refine op_pick rfl e1 e2 hS.rd (by omega) (by omega) (by omega) ?_
      intro v w9 va vb hr9 hg9
      exact hK _ _ (Keeps.grown hg9 (by simp)) ⟨v, rfl, va, vb⟩ ⟨fun _ => (hS.pick hr9 hg9).moreq (by simp [upd, b1_true, b1_false, hfi2] <;> omega), fun h => by simp [upd, n21] at h⟩
    · have hSZ : g2 < wr.heap.size ∧ r < wr.heap.size := by
        cases h : fl 21 with
        | false => exact ⟨(hG.1 h).z2.lt, (hG.1 h).size.2.2⟩
        | true => exact ⟨(hG.2 h).z2.lt, by have := (hG.2 h).b5.lt; omega⟩
      have hS : Blk wr g5 26 x.oc.toArray ∧ ObjRows H x wr := by
        cases h : fl 21 with
        | false => exact ⟨(hG.1 h).b5, (hG.1 h).rows⟩
        | true => exact ⟨(hG.2 h).b5, (hG.2 h).rows⟩
      refine op_move rfl ?_
      rw [hc.ev0 _ rfl]
      exact hK _ _ (Keeps.refl _ _) rfl (by simpa [upd] using hG)
    · have hSZ : g2 < wr.heap.size ∧ r < wr.heap.size := by
        cases h : fl 21 with
        | false => exact ⟨(hG.1 h).z2.lt, (hG.1 h).size.2.2⟩
        | true => exact ⟨(hG.2 h).z2.lt, by have := (hG.2 h).b5.lt; omega⟩
      have hS : Blk wr g5 26 x.oc.toArray ∧ ObjRows H x wr := by
        cases h : fl 21 with
        | false => exact ⟨(hG.1 h).b5, (hG.1 h).rows⟩
        | true => exact ⟨(hG.2 h).b5, (hG.2 h).rows⟩
      have e1 := hc.ev 20 5 rfl
      rw [show vs 5 = _ from (hp 5 (by kernel_rfl)).2] at e1
      have y1 : IntKind.i64.wrap ((x.secs.length : Int) - 1) = (x.secs.length : Int) - 1 := IntWalk.i64_in _ (by omega)
      unfold Oper.wp execOp
      simp only [e1]
      go_simp
      exact hK _ _ (Keeps.refl _ _) rfl (by simpa [upd] using hG)
    · have hSZ : g2 < wr.heap.size ∧ r < wr.heap.size := by
        cases h : fl 21 with
        | false => exact ⟨(hG.1 h).z2.lt, (hG.1 h).size.2.2⟩
        | true => exact ⟨(hG.2 h).z2.lt, by have := (hG.2 h).b5.lt; omega⟩
      have hS : Blk wr g5 26 x.oc.toArray ∧ ObjRows H x wr := by
        cases h : fl 21 with
        | false => exact ⟨(hG.1 h).b5, (hG.1 h).rows⟩
        | true => exact ⟨(hG.2 h).b5, (hG.2 h).rows⟩
      have e1 := hc.ev 21 6 rfl
      rw [show vs 6 = _ from (hp 6 (by kernel_rfl)).2] at e1
      unfold Oper.wp execOp
      simp only [resolve, invoke, builtin, Sem.run_bind, Sem.run_pure, Result.andThen_ok, List.map_toArray, List.map_cons, List.map_nil, e1]
      go_simp
      exact hK _ _ (Keeps.refl _ _) ⟨_, rfl, by first | omega | (split <;> omega), by first | omega | (split <;> omega)⟩ (by simpa [upd] using hG)
    · have hSZ : g2 < wr.heap.size ∧ r < wr.heap.size := by
        cases h : fl 21 with
        | false => exact ⟨(hG.1 h).z2.lt, (hG.1 h).size.2.2⟩
        | true => exact ⟨(hG.2 h).z2.lt, by have := (hG.2 h).b5.lt; omega⟩
      obtain ⟨x0, hx0, xa0, xb0⟩ := (hp 4 (by kernel_rfl)).2
      have e0 := hc.ev 19 4 rfl
      rw [hx0] at e0
      obtain ⟨x1, hx1, xa1, xb1⟩ := (hp 7 (by kernel_rfl)).2
      have e1 := hc.ev 22 7 rfl
      rw [hx1] at e1
      unfold Oper.wp execOp
      simp only [e0, e1, List.map_toArray, List.map_cons, List.map_nil]
      go_simp
      exact hK _ _ (Keeps.alloc _ _ _) ⟨_, [x0, x1], rfl, ⟨by omega, by omega⟩, rfl, by intro y hy; simp at hy; omega, Blk.new _ _ _⟩ ⟨fun h => by simpa [upd] using (hG.1 (by simpa [upd] using h)).alloc _, fun h => by simpa [upd] using (hG.2 (by simpa [upd] using h)).alloc _⟩
    · have hSZ : g2 < wr.heap.size ∧ r < wr.heap.size := by
        cases h : fl 21 with
        | false => exact ⟨(hG.1 h).z2.lt, (hG.1 h).size.2.2⟩
        | true => exact ⟨(hG.2 h).z2.lt, by have := (hG.2 h).b5.lt; omega⟩
      have hS : Blk wr g5 26 x.oc.toArray ∧ ObjRows H x wr := by
        cases h : fl 21 with
        | false => exact ⟨(hG.1 h).b5, (hG.1 h).rows⟩
        | true => exact ⟨(hG.2 h).b5, (hG.2 h).rows⟩
      refine op_move rfl ?_
      rw [hc.ev0 _ rfl]
      exact hK _ _ (Keeps.refl _ _) rfl (by simpa [upd] using hG)
    · have hSZ : g2 < wr.heap.size ∧ r < wr.heap.size := by
        cases h : fl 21 with
        | false => exact ⟨(hG.1 h).z2.lt, (hG.1 h).size.2.2⟩
        | true => exact ⟨(hG.2 h).z2.lt, by have := (hG.2 h).b5.lt; omega⟩
      have n10 : fl 10 = false := hfi
      have n16 : fl 16 = false := by cases h : fl 16 with
        | false => rfl
        | true => have := hcl 16 10 (by kernel_rfl) h; rw [n10] at this; cases this
      have n18 : fl 18 = false := by cases h : fl 18 with
        | false => rfl
        | true => have := hcl 18 16 (by kernel_rfl) h; rw [n16] at this; cases this
      have n21 : fl 21 = false := by cases h : fl 21 with
        | false => rfl
        | true => have := hcl 21 18 (by kernel_rfl) h; rw [n18] at this; cases this
      have hS := hG.1 n21
      have hfi2 : fl 10 = false := hfi
      have hcnt0 := b1_le (fl 4) 1
      have hcnt1 := b1_le (fl 10) 1
      have hcnt2 := b1_le (fl 16) 1
      have hcnt3 := b1_le (fl 18) 1
      have e1 := hc.ev 24 9 rfl
      rw [show vs 9 = _ from (hp 9 (by kernel_rfl)).2] at e1
      refine op_pick rfl e1 rfl hS.rd (by omega) (by omega) (by omega) ?_
      intro v w9 va vb hr9 hg9
      exact hK _ _ (Keeps.grown hg9 (by simp)) ⟨v, rfl, va, vb⟩ ⟨fun _ => (hS.pick hr9 hg9).moreq (by simp [upd, b1_true, b1_false, hfi2] <;> omega), fun h => by simp [upd, n21] at h⟩
    · have hSZ : g2 < wr.heap.size ∧ r < wr.heap.size := by
        cases h : fl 21 with
        | false => exact ⟨(hG.1 h).z2.lt, (hG.1 h).size.2.2⟩
        | true => exact ⟨(hG.2 h).z2.lt, by have := (hG.2 h).b5.lt; omega⟩
      obtain ⟨x, hx, xa, xb⟩ := (hp 10 (by kernel_rfl)).2
      have hx2 : x < 2 := by omega
      obtain ⟨g, hg, hget⟩ := LitI.get (hp 8 (by kernel_rfl)).2 xa (by omega)
      have e1 := hc.ev 23 8 rfl
      rw [hg] at e1
      have e2 := hc.ev 25 10 rfl
      rw [hx] at e2
      unfold Oper.wp execOp
      simp only [e1, e2]
      go_simp
      exact hK _ _ (Keeps.refl _ _) hget (by simpa [upd] using hG)
    · have hSZ : g2 < wr.heap.size ∧ r < wr.heap.size := by
        cases h : fl 21 with
        | false => exact ⟨(hG.1 h).z2.lt, (hG.1 h).size.2.2⟩
        | true => exact ⟨(hG.2 h).z2.lt, by have := (hG.2 h).b5.lt; omega⟩
      obtain ⟨b, o, x, hv, hb, hcx, xa, xb⟩ := (hp 11 (by kernel_rfl)).2
      have e1 := hc.ev 26 11 rfl
      rw [hv] at e1
      unfold Oper.wp execOp
      simp only [e1]
      go_simp
      exact hK _ _ (Keeps.refl _ _) ⟨x, rfl, xa, xb⟩ (by simpa [upd] using hG)
    · have hSZ : g2 < wr.heap.size ∧ r < wr.heap.size := by
        cases h : fl 21 with
        | false => exact ⟨(hG.1 h).z2.lt, (hG.1 h).size.2.2⟩
        | true => exact ⟨(hG.2 h).z2.lt, by have := (hG.2 h).b5.lt; omega⟩
      have hS : Blk wr g5 26 x.oc.toArray ∧ ObjRows H x wr := by
        cases h : fl 21 with
        | false => exact ⟨(hG.1 h).b5, (hG.1 h).rows⟩
        | true => exact ⟨(hG.2 h).b5, (hG.2 h).rows⟩
      refine op_move rfl ?_
      rw [hc.ev0 _ rfl]
      exact hK _ _ (Keeps.refl _ _) rfl (by simpa [upd] using hG)
    · have hSZ : g2 < wr.heap.size ∧ r < wr.heap.size := by
        cases h : fl 21 with
        | false => exact ⟨(hG.1 h).z2.lt, (hG.1 h).size.2.2⟩
        | true => exact ⟨(hG.2 h).z2.lt, by have := (hG.2 h).b5.lt; omega⟩
      have hS : Blk wr g5 26 x.oc.toArray ∧ ObjRows H x wr := by
        cases h : fl 21 with
        | false => exact ⟨(hG.1 h).b5, (hG.1 h).rows⟩
        | true => exact ⟨(hG.2 h).b5, (hG.2 h).rows⟩
      refine op_move rfl ?_
      rw [hc.ev0 _ rfl]
      exact hK _ _ (Keeps.refl _ _) rfl (by simpa [upd] using hG)
    · have hSZ : g2 < wr.heap.size ∧ r < wr.heap.size := by
        cases h : fl 21 with
        | false => exact ⟨(hG.1 h).z2.lt, (hG.1 h).size.2.2⟩
        | true => exact ⟨(hG.2 h).z2.lt, by have := (hG.2 h).b5.lt; omega⟩
      have hS : Blk wr g5 26 x.oc.toArray ∧ ObjRows H x wr := by
        cases h : fl 21 with
        | false => exact ⟨(hG.1 h).b5, (hG.1 h).rows⟩
        | true => exact ⟨(hG.2 h).b5, (hG.2 h).rows⟩
      have e1 := hc.ev 29 14 rfl
      rw [show vs 14 = _ from (hp 14 (by kernel_rfl)).2] at e1
      have y1 : IntKind.i64.wrap ((x.secs.length : Int) + 1) = (x.secs.length : Int) + 1 := IntWalk.i64_in _ (by omega)
      unfold Oper.wp execOp
      simp only [e1]
      go_simp
      exact hK _ _ (Keeps.refl _ _) rfl (by simpa [upd] using hG)
    · have hSZ : g2 < wr.heap.size ∧ r < wr.heap.size := by
        cases h : fl 21 with
        | false => exact ⟨(hG.1 h).z2.lt, (hG.1 h).size.2.2⟩
        | true => exact ⟨(hG.2 h).z2.lt, by have := (hG.2 h).b5.lt; omega⟩
      have n16 : fl 16 = false := hfi
      have n18 : fl 18 = false := by cases h : fl 18 with
        | false => rfl
        | true => have := hcl 18 16 (by kernel_rfl) h; rw [n16] at this; cases this
      have n21 : fl 21 = false := by cases h : fl 21 with
        | false => rfl
        | true => have := hcl 21 18 (by kernel_rfl) h; rw [n18] at this; cases this
      have hS := hG.1 n21
      have hfi2 : fl 16 = false := hfi
      have hcnt0 := b1_le (fl 4) 1
      have hcnt1 := b1_le (fl 10) 1
      have hcnt2 := b1_le (fl 16) 1
      have hcnt3 := b1_le (fl 18) 1
      have e1 := hc.ev 28 13 rfl
      rw [show vs 13 = _ from (hp 13 (by kernel_rfl)).2] at e1
      have e2 := hc.ev 30 15 rfl
      rw [show vs 15 = _ from (hp 15 (by kernel_rfl)).2] at e2
      refine op_pick rfl e1 e2 hS.rd (by omega) (by omega) (by omega) ?_
      intro v w9 va vb hr9 hg9
      exact hK _ _ (Keeps.grown hg9 (by simp)) ⟨v, rfl, va, vb⟩ ⟨fun _ => (hS.pick hr9 hg9).moreq (by simp [upd, b1_true, b1_false, hfi2] <;> omega), fun h => by simp [upd, n21] at h⟩
    · have hSZ : g2 < wr.heap.size ∧ r < wr.heap.size := by
        cases h : fl 21 with
        | false => exact ⟨(hG.1 h).z2.lt, (hG.1 h).size.2.2⟩
        | true => exact ⟨(hG.2 h).z2.lt, by have := (hG.2 h).b5.lt; omega⟩
      have hS : Blk wr g5 26 x.oc.toArray ∧ ObjRows H x wr := by
        cases h : fl 21 with
        | false => exact ⟨(hG.1 h).b5, (hG.1 h).rows⟩
        | true => exact ⟨(hG.2 h).b5, (hG.2 h).rows⟩
      refine op_move rfl ?_
      rw [hc.ev0 _ rfl]
      exact hK _ _ (Keeps.refl _ _) rfl (by simpa [upd] using hG)
    · have hSZ : g2 < wr.heap.size ∧ r < wr.heap.size := by
        cases h : fl 21 with
        | false => exact ⟨(hG.1 h).z2.lt, (hG.1 h).size.2.2⟩
        | true => exact ⟨(hG.2 h).z2.lt, by have := (hG.2 h).b5.lt; omega⟩
      have n21 : fl 21 = false := by cases h : fl 21 with
        | false => rfl
        | true => have := hcl 21 18 (by kernel_rfl) h; rw [show fl 18 = false from hfi] at this; cases this
      have hS := hG.1 n21
      have hfi2 : fl 18 = false := hfi
      have hcnt0 := b1_le (fl 4) 1
      have hcnt1 := b1_le (fl 10) 1
      have hcnt2 := b1_le (fl 16) 1
      have hcnt3 := b1_le (fl 18) 1
      have e1 := hc.ev 32 17 rfl
      rw [show vs 17 = _ from (hp 17 (by kernel_rfl)).2] at e1
      refine op_pick rfl e1 rfl hS.rd (by omega) (by omega) (by omega) ?_
      intro v w9 va vb hr9 hg9
      exact hK _ _ (Keeps.grown hg9 (by simp)) ⟨v, rfl, va, vb⟩ ⟨fun _ => (hS.pick hr9 hg9).moreq (by simp [upd, b1_true, b1_false, hfi2] <;> omega), fun h => by simp [upd, n21] at h⟩
    · have hSZ : g2 < wr.heap.size ∧ r < wr.heap.size := by
        cases h : fl 21 with
        | false => exact ⟨(hG.1 h).z2.lt, (hG.1 h).size.2.2⟩
        | true => exact ⟨(hG.2 h).z2.lt, by have := (hG.2 h).b5.lt; omega⟩
      obtain ⟨x, hx, xa, xb⟩ := (hp 18 (by kernel_rfl)).2
      have e1 := hc.ev 33 18 rfl
      rw [hx] at e1
      unfold Oper.wp execOp
      simp only [e1]
      go_simp
      exact hK _ _ (Keeps.refl _ _) ⟨_, rfl, by rw [quo_wrap xa (by omega) (by omega)]; omega, by rw [quo_wrap xa (by omega) (by omega)]; omega⟩ (by simpa [upd] using hG)
    · have hSZ : g2 < wr.heap.size ∧ r < wr.heap.size := by
        cases h : fl 21 with
        | false => exact ⟨(hG.1 h).z2.lt, (hG.1 h).size.2.2⟩
        | true => exact ⟨(hG.2 h).z2.lt, by have := (hG.2 h).b5.lt; omega⟩
      have hS : Blk wr g5 26 x.oc.toArray ∧ ObjRows H x wr := by
        cases h : fl 21 with
        | false => exact ⟨(hG.1 h).b5, (hG.1 h).rows⟩
        | true => exact ⟨(hG.2 h).b5, (hG.2 h).rows⟩
      obtain ⟨u, hu, ua, ub⟩ := (hp 16 (by kernel_rfl)).2
      obtain ⟨u2, hu2, ua2, ub2⟩ := (hp 19 (by kernel_rfl)).2
      have e1 := hc.ev 31 16 rfl
      have e2 := hc.ev 34 19 rfl
      rw [hu] at e1
      rw [hu2] at e2
      have y1 : IntKind.i64.wrap (u - u2) = u - u2 := IntWalk.i64_in _ (by omega)
      unfold Oper.wp execOp
      simp only [e1, e2]
      go_simp
      exact hK _ _ (Keeps.refl _ _) ⟨_, rfl, by omega, by omega⟩ (by simpa [upd] using hG)
    · have hSZ : g2 < wr.heap.size ∧ r < wr.heap.size := by
        cases h : fl 21 with
        | false => exact ⟨(hG.1 h).z2.lt, (hG.1 h).size.2.2⟩
        | true => exact ⟨(hG.2 h).z2.lt, by have := (hG.2 h).b5.lt; omega⟩
      have hfi2 : fl 21 = false := hfi
      have hS := hG.1 hfi2
      have e1 : a1.eval (.tmp 2) = .pointer (some ⟨g2, 0, none⟩) := hc.ev0 2 rfl
      have e2 := hc.ev 15 0 rfl
      rw [show vs 0 = _ from (hp 0 (by kernel_rfl)).2] at e2
      have c0 : wr.cell? ⟨g2, 0, none⟩ = some (.slice none 0 0) := hS.z2.cell 0
      have c1 : wr.cell? ⟨g2, 1, none⟩ = some (.slice none 0 0) := hS.z2.cell 1
      have f0 : wr.frozen? ⟨g2, 0, none⟩ = false := hS.z2.frozen 0
      have f1 : wr.frozen? ⟨g2, 1, none⟩ = false := hS.z2.frozen 1
      have HP := Lib.hid ((hS.fin.put 0 (.slice x.sA x.secs.length x.sc)).put 1 (.slice x.yA x.syms.length x.yc))
      unfold Oper.wp execOp
      simp only [e1, e2, Obj.val]
      go_simp
      exact hK undef _ ((Keeps.set_ (fun h => h.2 rfl) _).trans (Keeps.set_ (fun h => h.2 rfl) _)) trivial ⟨fun h => by simp [upd] at h, fun _ => HP.out⟩
    · have hSZ : g2 < wr.heap.size ∧ r < wr.heap.size := by
        cases h : fl 21 with
        | false => exact ⟨(hG.1 h).z2.lt, (hG.1 h).size.2.2⟩
        | true => exact ⟨(hG.2 h).z2.lt, by have := (hG.2 h).b5.lt; omega⟩
      have h := (hp 12 (by kernel_rfl)).2
      refine op_assign rfl ?_
      rw [hc.ev 27 12 rfl]
      exact hK _ _ (Keeps.refl _ _) h (by simpa [upd] using hG)
    · have hSZ : g2 < wr.heap.size ∧ r < wr.heap.size := by
        cases h : fl 21 with
        | false => exact ⟨(hG.1 h).z2.lt, (hG.1 h).size.2.2⟩
        | true => exact ⟨(hG.2 h).z2.lt, by have := (hG.2 h).b5.lt; omega⟩
      have h := (hp 20 (by kernel_rfl)).2
      refine op_assign rfl ?_
      rw [hc.ev 35 20 rfl]
      exact hK _ _ (Keeps.refl _ _) h (by simpa [upd] using hG)
  · intro fl vs w9 hfl hG hF
    obtain ⟨a, ha, ha0, ha1⟩ := hF 22 (by simp)
    obtain ⟨b, hb, hb0, hb1⟩ := hF 23 (by simp)
    have HD := Lib.hid (hG.2 (hfl 21 (by simp)))
    clear hG hF hfl
    simp only [fill]
    go_simp
    go_wp2
    have y0 : w9.cell? ⟨g2, 0, none⟩ = some (.slice x.sA x.secs.length x.sc) := HD.out.z2.cell 0
    have y1 : w9.cell? ⟨g2, 1, none⟩ = some (.slice x.yA x.syms.length x.yc) := HD.out.z2.cell 1
    refine bodyPost_ret (v := .tuple #[x.val, .int .i64 a, .int .i64 b]) (by simp [results, Try.results9, go_sem, y0, y1, Obj.val]) rfl ?_
    exact ⟨x, a, b, rfl, HD.out.rows.at_, HFT.out, own_capO HD.out.rows.oy, ⟨ha0, ha1⟩, ⟨hb0, hb1⟩, HD.out.be⟩
end Go.Proofs.Ytmmenedjmdcbcaa
