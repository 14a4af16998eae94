/- Contract of the drawing of RunMachine. Condition: the size. -/
import Derived.Test.YtbljkdhokbhcdaaRows
import Derived.Test.YtbljkdhokbhcdaaBase
import Derived.Test.YtbljkdhokbhcdaaBase2
import Derived.Test.YtbljkdhokbhcdaaBase3
import Derived.Test.YtbljkdhokbhcdaaOnly
import Derived.Test.YtbljkdhokbhcdaaIn
import Derived.Test.YtbljkdhokbhcdaaIn2
import Derived.Test.YtbljkdhokbhcdaaPick
import Derived.Test.YtbljkdhokbhcdaaPick2
import Derived.Test.YtbljkdhokbhcdaaReg
import Derived.Test.YtbljkdhokbhcdaaRegS
import Derived.Test.YtbljkdhokbhcdaaRegI
import Derived.Test.YtbljkdhokbhcdaaKT
import Derived.Test.YtbljkdhokbhcdaaMc
import Derived.Test.YtbljkdhokbhcdaaMcy
import Derived.Test.YtbljkdhokbhcdaaCd
import Derived.Test.YtbljkdhokbhcdaaDcd
import Derived.Test.YtbljkdhokbhcdaaDpr
import Derived.Test.YtbljkdhokbhcdaaDmc
import Derived.Test.YtbljkdhokbhcdaaRun
import Derived.Test.YtbljkdhokbhcdaaFRun
import Derived.WalkKit
import Derived.WalkSpells
import Derived.WalkLawsBesides
import Derived.Handy
import Derived.BigQuiet
import Derived.Deep.RegionHeld3
import Derived.Deep.DrawnRows
import Derived.Deep.QuietTactic
import Derived.Deep.CutBlock
namespace Go.Proofs.Ytbljkdhokbhcdaa
open Go Go.RowKit

def TB (t : TypeId) : Prop := t = 3 ∨ t = 5
theorem TB_r : ¬ TB 62 := by unfold TB; decide
theorem TB_m : ¬ TB 27 := by unfold TB; decide
theorem Mc.Own.keepB {m : Mc} {w w' : World} {lo : Nat} (h : m.Own w lo) (k : KeepT TB w w') : m.Own w' lo := ⟨k.own h.os (.inl rfl), k.own h.oc (.inl rfl), h.ap⟩
/-- What was drawn: the result's place, the machine's block and rows, the bytes. -/
structure DRf (W : World) (g2 g6 lo : Nat) (cs : Array Value) (x : Mc) (A : Option Addr) (c : Nat) (bs : List Int) (wq : World) : Prop where
  z : Blk wq g2 27 cs
  b : Blk wq g6 27 x.cells
  own : x.Own wq lo
  ro : wq.ownsRow lo 5 1 (.slice A bs.length c) bs.length (nums .u8 bs)
  be : Below W.heap.size W wq
  lt : W.heap.size ≤ g2 ∧ g2 < lo ∧ g2 < g6
/-- While it is drawn. -/
structure DRm (W : World) (r q g2 g6 lo : Nat) (x : Mc) (A : Option Addr) (c : Nat) (bs : List Int) (wq : World) : Prop where
  f : DRf W g2 g6 lo #[.int .i64 0, .slice none 0 0, .slice none 0 0] x A c bs wq
  rd : Rdr wq r q
  lr : g2 < r ∧ r < g6
section
variable {W wq w' : World} {r q g2 g6 lo : Nat} {cs : Array Value} {x : Mc} {A : Option Addr} {c : Nat} {bs : List Int}
theorem DRm.alloc (h : DRm W r q g2 g6 lo x A c bs wq) (o : Go.Obj) : DRm W r q g2 g6 lo x A c bs (wq.alloc o) :=
  ⟨⟨h.f.z.alloc _, h.f.b.alloc _, h.f.own.keepB (.of_alloc _ _ _), (KeepT.of_alloc TB _ _).own h.f.ro (.inr rfl), h.f.be.alloc h.f.be.size _, h.f.lt⟩, h.rd.alloc _, h.lr⟩
theorem DRm.more {q' : Nat} (h : DRm W r q g2 g6 lo x A c bs wq) (hq : q ≤ q') : DRm W r q' g2 g6 lo x A c bs wq := ⟨h.f, h.rd.more hq, h.lr⟩
theorem DRm.drewN (h : DRm W r q g2 g6 lo x A c bs wq) (n : Nat) : DRm W r q g2 g6 lo x A c bs (wq.drewN n) :=
  ⟨⟨h.f.z.drewN n, h.f.b.drewN n, h.f.own.keepB ⟨Nat.le_refl _, fun _ _ _ _ _ => rfl⟩, (⟨Nat.le_refl _, fun _ _ _ _ _ => rfl⟩ : KeepT TB wq (wq.drewN n)).own h.f.ro (.inr rfl), below_drewN h.f.be n, h.f.lt⟩, h.rd, h.lr⟩
theorem DRm.pick {q' : Nat} (h : DRm W r q g2 g6 lo x A c bs wq) (hr' : Rdr w' r q') (hg : wq.grownBy w' (some r)) : DRm W r q' g2 g6 lo x A c bs w' :=
  ⟨⟨h.f.z.grown hg (by have := h.lr; simp; omega), h.f.b.grown hg (by have := h.lr; simp; omega), h.f.own.keepB (.of_pick h.rd hg TB_r), (KeepT.of_pick (T := TB) h.rd hg TB_r).own h.f.ro (.inr rfl), below_gr h.f.be hg (by have := h.lr; have := h.f.lt; omega), h.f.lt⟩, hr', h.lr⟩
theorem DRf.set2 (h : DRf W g2 g6 lo cs x A c bs wq) (i : Nat) (u : Value) : DRf W g2 g6 lo (cs.setIfInBounds i u) x A c bs (wq.setCell ⟨g2, i, none⟩ u) :=
  ⟨h.z.set_ i u, h.b.far (by have := h.lt; simp only [ne_eq]; omega) _, h.own.keepB (.of_set h.z TB_m i u), (KeepT.of_set (T := TB) h.z TB_m i u).own h.ro (.inr rfl), h.be.setCell (by have := h.lt; simp only; omega) _, h.lt⟩
theorem DRf.put3 (h : DRf W g2 g6 lo #[.int .i64 0, .slice none 0 0, .slice none 0 0] x A c bs wq) : DRf W g2 g6 lo x.cells x A c bs (((wq.setCell ⟨g2, 0, none⟩ (.int .i64 x.pc)).setCell ⟨g2, 1, none⟩ (.slice x.sA x.st.length x.sc)).setCell ⟨g2, 2, none⟩ (.slice x.cA x.ca.length x.cc)) := by
  have := ((h.set2 0 (.int .i64 x.pc)).set2 1 (.slice x.sA x.st.length x.sc)).set2 2 (.slice x.cA x.ca.length x.cc)
  simpa [Mc.cells] using this
theorem DRf.alloc (h : DRf W g2 g6 lo cs x A c bs wq) (o : Go.Obj) : DRf W g2 g6 lo cs x A c bs (wq.alloc o) :=
  ⟨h.z.alloc _, h.b.alloc _, h.own.keepB (.of_alloc _ _ _), (KeepT.of_alloc TB _ _).own h.ro (.inr rfl), h.be.alloc h.be.size _, h.lt⟩
theorem DRm.zero (h : DRm W r q g2 g6 lo x A c bs wq) : DRm W r q g2 g6 lo ⟨0, [], none, 0, [], none, 0⟩ A c bs (((wq.setCell ⟨g6, 0, none⟩ (.int .i64 0)).setCell ⟨g6, 1, none⟩ (.slice none 0 0)).setCell ⟨g6, 2, none⟩ (.slice none 0 0)) := by
  have hl := h.lr
  have hf := h.f.lt
  have b0 := h.f.b.set_ 0 (.int .i64 0)
  have b1 := b0.set_ 1 (.slice none 0 0)
  have b2 := b1.set_ 2 (.slice none 0 0)
  have k : KeepT TB wq (((wq.setCell ⟨g6, 0, none⟩ (.int .i64 0)).setCell ⟨g6, 1, none⟩ (.slice none 0 0)).setCell ⟨g6, 2, none⟩ (.slice none 0 0)) := ((KeepT.of_set h.f.b TB_m 0 _).trans (KeepT.of_set b0 TB_m 1 _)).trans (KeepT.of_set b1 TB_m 2 _)
  refine ⟨⟨((h.f.z.far (by simp only [ne_eq]; omega) _).far (by simp only [ne_eq]; omega) _).far (by simp only [ne_eq]; omega) _, by simpa [Mc.cells] using b2, ⟨⟨rfl, .inl ⟨rfl, rfl⟩⟩, ⟨rfl, .inl ⟨rfl, rfl⟩⟩, fun g h => by cases h⟩, k.own h.f.ro (.inr rfl), ((h.f.be.setCell (by simp only; omega) _).setCell (by simp only; omega) _).setCell (by simp only; omega) _, hf⟩, ((h.rd.setCell (by simp only; omega) _).setCell (by simp only; omega) _).setCell (by simp only; omega) _, hl⟩
theorem DRm.size (h : DRm W r q g2 g6 lo x A c bs wq) : W.heap.size ≤ wq.heap.size ∧ r < wq.heap.size ∧ g6 < wq.heap.size ∧ g2 < wq.heap.size := ⟨h.f.be.size, h.rd.lt, h.f.b.lt, h.f.z.lt⟩
end
set_option maxRecDepth 100000 in
set_option maxHeartbeats 8000000 in
theorem DrawRunMachine_any {A : Option Addr} {c : Nat} (cs : List Int) (w : World) (h1 : Reads w w.heap.size 1 A cs.length (nums .u8 cs)) (hx : ∀ x ∈ cs, 0 ≤ x ∧ x ≤ 255) (hm : cs.length ≤ 1048576) (hc : cs.length ≤ c) (hc2 : c ≤ maxLen) :
    Calls Try.prog 15 #[.slice A cs.length c] w (DrewRun w) := by
  have h1' : Reads (w.alloc (.cells #[.int .i64 0, .slice none 0 0, .slice none 0 0] 27)) (w.alloc (.cells #[.int .i64 0, .slice none 0 0, .slice none 0 0] 27)).heap.size 1 A cs.length (nums .u8 cs) := (h1.alloc (Nat.le_refl _) _).more (by simp)
  have HO := Lib.hid (open_any (A := A) (c := c) cs (w.alloc (.cells #[.int .i64 0, .slice none 0 0, .slice none 0 0] 27)) h1' hx hm hc hc2)
  clear h1 hx h1'
  go_enter Try.func15, Try.ntmps15
  go_wp2_with fail
  refine HO.out.mono ?_
  rintro e w1 ⟨rfl, hr, hz, hb⟩
  rw [World.size_alloc] at hr hz hb ⊢
  have HZ2 : Hid (Blk w1 w.heap.size 27 #[.int .i64 0, .slice none 0 0, .slice none 0 0]) := (Blk.new w 27 _).below hb (by simp)
  have HBE : Hid (Below w.heap.size w w1) := ((Below.refl _ _).alloc (Nat.le_refl _) _).trans (hb.mono (by simp))
  have HR := Lib.hid hr
  obtain ⟨r, hrr⟩ : ∃ r, r = w.heap.size + 1 := ⟨_, rfl⟩
  rw [← hrr] at HR ⊢
  have h2r : w.heap.size < r := by omega
  have hrH : r < w1.heap.size := by omega
  clear hr hz hb hrr HO
  go_wp2_with fail
  refine (l20Machine_any r 0 9 _ HR.out (by omega) (by omega) (by omega)).mono ?_
  rintro e w2 ⟨m, rfl, hown, hml, hr2, hg2⟩
  have HM2 : Hid (DRm w r 100 w.heap.size w2.heap.size w1.heap.size m none 0 [] (w2.alloc (.cells m.cells 27))) :=
    ⟨⟨(HZ2.out.grown hg2 (by simp; omega)).alloc _, Blk.new w2 _ _, hown.keepM (.of_alloc _ _ _), ⟨rfl, .inl ⟨rfl, rfl⟩⟩, (below_gr HBE.out hg2 (by omega)).alloc (by have := HBE.out.size; have := hg2.size; omega) _, Nat.le_refl _, by omega, by have := hg2.size; omega⟩, (hr2.more (by omega)).alloc _, h2r, by have := hg2.size; omega⟩
  obtain ⟨lo, hlo⟩ : ∃ lo, lo = w1.heap.size := ⟨_, rfl⟩
  obtain ⟨g2, hgg⟩ : ∃ g2, g2 = w.heap.size := ⟨_, rfl⟩
  obtain ⟨g6, hg6⟩ : ∃ g6, g6 = w2.heap.size := ⟨_, rfl⟩
  have hrlo : r < lo := by omega
  have hlo6 : lo ≤ g6 := by have := hg2.size; omega
  rw [← hlo, ← hgg, ← hg6] at HM2
  clear hown hr2 hg2 HR HZ2 HBE
  simp only [Mc.val, Mc.cells] at HM2 ⊢
  go_upto_region 3 with fail
  rw [← hgg, ← hg6]
  generalize World.alloc w2 _ = w3 at HM2 ⊢
  clear hlo hgg hg6
  go_wp2_with fail
  refine (l20Program_any r 100 _ HM2.out.rd (by omega)).mono ?_
  rintro e w4 ⟨A, c4, bs, rfl, hrow, hbl, hbx, hr4, hg4⟩
  have HBX := Lib.hid hbx
  have HM4 : Hid (DRm w r 200 g2 g6 lo m A c4 bs w4) := by
    have hh := HM2.out.pick hr4 hg4
    have hz := HM2.out.size
    exact ⟨⟨hh.f.z, hh.f.b, hh.f.own, own_base hrow (by omega), hh.f.be, hh.f.lt⟩, hh.rd, hh.lr⟩
  clear HM2 hrow hbx hr4 hg4
  obtain ⟨c, hcc⟩ : ∃ c', c' = c4 := ⟨_, rfl⟩
  rw [← hcc] at HM4 ⊢
  clear hcc
  go_wp2_with fail
  refine (pick_any r _ 4 _ HM4.out.rd (by omega) (by omega) (by omega)).mono ?_
  rintro e w5 ⟨v, rfl, ⟨va, vb⟩, hr5, hg5⟩
  have HM5 := Lib.hid (HM4.out.pick hr5 hg5)
  clear HM4 hr5 hg5
  by_cases hv : 0 < v
  · have k0 : w5.cell? ⟨g6, 0, none⟩ = some (.int .i64 m.pc) := HM5.out.f.b.cell 0
    have k1 : w5.cell? ⟨g6, 1, none⟩ = some (.slice m.sA m.st.length m.sc) := HM5.out.f.b.cell 1
    have k2 : w5.cell? ⟨g6, 2, none⟩ = some (.slice m.cA m.ca.length m.cc) := HM5.out.f.b.cell 2
    have t0 : w5.frozen? ⟨g6, 0, none⟩ = false := HM5.out.f.b.frozen 0
    have t1 : w5.frozen? ⟨g6, 1, none⟩ = false := HM5.out.f.b.frozen 1
    have t2 : w5.frozen? ⟨g6, 2, none⟩ = false := HM5.out.f.b.frozen 2
    go_upto_region 6 with fail
    have HM6 := Lib.hid HM5.out.zero
    clear HM5 k0 k1 k2 t0 t1 t2
    generalize World.setCell _ ⟨g6, 2, none⟩ _ = w6 at HM6 ⊢
    obtain ⟨x, hx⟩ : ∃ x : Mc, x = ⟨0, [], none, 0, [], none, 0⟩ := ⟨_, rfl⟩
    rw [← hx] at HM6
    have hml' : x.st.length ≤ 9 ∧ x.ca.length ≤ 9 := by rw [hx]; simp
    clear hml hx
    obtain ⟨q, hq⟩ : ∃ q : Nat, q = 201 := ⟨_, rfl⟩
    have HM : Hid (DRm w r q g2 g6 lo x A c bs w6) := by rw [hq]; exact HM6.out
    have hqb : q ≤ 201 := by omega
    clear HM6 hq
    refine wp_region_facts (fun i v wf => match i with
        | 0 => v = x.val
        | 1 => v = .slice A bs.length c
        | 2 => v = .pointer (some ⟨r, 0, none⟩)
        | 3 => IsInt 0 (20 - 1) v
        | 4 => LitI (fun b => b ≠ r ∧ b ≠ g2) 4 (-1) 101 v wf
        | 5 => LitI (fun b => b ≠ r ∧ b ≠ g2) 7 0 3 v wf
        | 6 => v = .pointer (some ⟨r, 0, none⟩)
        | 7 => IsInt 0 (7 - 1) v
        | 8 => AdI (fun b => b ≠ r ∧ b ≠ g2) 0 3 v wf
        | 9 => IsInt 0 3 v
        | 10 => AdI (fun b => b ≠ r ∧ b ≠ g2) (-1) 101 v wf
        | 11 => IsInt (-1) 101 v
        | 12 => True
        | 13 => v = .slice A bs.length c
        | _ => IsInt (-1) 101 v)
      (fun fl vs wq => (fl 12 = false → DRm w r (q + (b1 (fl 3) 1 + b1 (fl 7) 1)) g2 g6 lo x A c bs wq) ∧ (fl 12 = true → DRf w g2 g6 lo x.cells x A c bs wq) ∧ r < wq.heap.size) (Keeps (fun b => b ≠ r ∧ b ≠ g2)) (by kernel_rfl) (by kernel_rfl) ?_ ?_ ?_ ?_
    · intro i v u u2 hk h
      match i, h with
      | 0, h => exact h
      | 1, h => exact h
      | 2, h => exact h
      | 3, h => exact h
      | 4, h => exact h.keeps hk
      | 5, h => exact h.keeps hk
      | 6, h => exact h
      | 7, h => exact h
      | 8, h => exact h.keeps hk
      | 9, h => exact h
      | 10, h => exact h.keeps hk
      | 11, h => exact h
      | 12, h => trivial
      | 13, h => exact h
      | _ + 14, h => exact h
    · intro fl vs hfl
      exact ⟨fun _ => (HM.out.drewN 1).more (by omega), fun h => (by rw [hfl 12 (by simp)] at h; cases h), HM.out.size.2.1⟩
    · refine ⟨?_, ?_, ?_, ?_, ?_, ?_, ?_, ?_, ?_, ?_, ?_, ?_, ?_, ?_, ?_, trivial⟩
      all_goals intro fl vs wr a1 hc hG hfi hcl hp K hK
      · have n12 : fl 12 = false := by
          cases h : fl 12 with
          | false => rfl
          | true =>
            have h := hcl 12 0 (by kernel_rfl) h
            rw [show fl 0 = false from hfi] at h
            cases h
        have hS := hG.1 n12
        have e1 : a1.eval (.tmp 6) = .pointer (some ⟨g6, 0, none⟩) := hc.ev0 6 rfl
        have c0 : wr.cell? ⟨g6, 0, none⟩ = some (.int .i64 x.pc) := hS.f.b.cell 0
        have c1 : wr.cell? ⟨g6, 1, none⟩ = some (.slice x.sA x.st.length x.sc) := hS.f.b.cell 1
        have c2 : wr.cell? ⟨g6, 2, none⟩ = some (.slice x.cA x.ca.length x.cc) := hS.f.b.cell 2
        unfold Oper.wp execOp
        simp only [e1]
        go_simp
        exact hK _ _ (Keeps.refl _ _) rfl (by simpa [upd] using hG)
      · refine op_move rfl ?_
        rw [hc.ev0 _ rfl]
        exact hK _ _ (Keeps.refl _ _) rfl (by simpa [upd] using hG)
      · refine op_move rfl ?_
        rw [hc.ev0 _ rfl]
        exact hK _ _ (Keeps.refl _ _) rfl (by simpa [upd] using hG)
      · have n12 : fl 12 = false := by
          cases h : fl 12 with
          | false => rfl
          | true =>
            have h := hcl 12 7 (by kernel_rfl) h
            have h := hcl 7 3 (by kernel_rfl) h
            rw [show fl 3 = false from hfi] at h
            cases h
        have hS := hG.1 n12
        have hfi2 : fl 3 = false := hfi
        have hcnt3 := b1_le (fl 3) 1
        have hcnt7 := b1_le (fl 7) 1
        have e1 := hc.ev 20 2 rfl
        rw [show vs 2 = _ from (hp 2 (by kernel_rfl)).2] at e1
        refine op_pick rfl e1 rfl hS.rd (by omega) (by omega) (by omega) ?_
        intro v w9 va vb hr9 hg9
        exact hK _ _ (Keeps.grown hg9 (fun k e h => by injection e with e; exact h.1 e.symm)) ⟨v, rfl, va, vb⟩ ⟨fun _ => (hS.pick hr9 hg9).more (by simp [upd, b1_true, b1_false, hfi2] <;> omega), fun h => by simp [upd, n12] at h, Nat.lt_of_lt_of_le hG.2.2 hg9.size⟩
      · obtain ⟨x0, hx0, xa0, xb0⟩ := (hp 3 (by kernel_rfl)).2
        have e0 := hc.ev 21 3 rfl
        rw [hx0] at e0
        unfold Oper.wp execOp
        simp only [e0, List.map_toArray, List.map_cons, List.map_nil]
        have hg2s : g2 < wr.heap.size := by
          cases h : fl 12 with
          | false => exact (hG.1 h).size.2.2.2
          | true => exact (hG.2.1 h).z.lt
        go_simp
        exact hK _ _ (Keeps.alloc _ _ _) ⟨_, [x0, 100, 101, -1], rfl, ⟨by have := hG.2.2; omega, by have := hg2s; omega⟩, rfl, by intro y hy; simp at hy; omega, Blk.new _ _ _⟩ ⟨fun h => by simpa [upd] using (hG.1 (by simpa [upd] using h)).alloc _, fun h => (hG.2.1 (by simpa [upd] using h)).alloc _, by have := hG.2.2; simp; omega⟩
      · have hg2s : g2 < wr.heap.size := by
          cases h : fl 12 with
          | false => exact (hG.1 h).size.2.2.2
          | true => exact (hG.2.1 h).z.lt
        go_simp
        exact hK _ _ (Keeps.alloc _ _ _) ⟨_, [0, 0, 0, 0, 1, 2, 3], rfl, ⟨by have := hG.2.2; omega, by have := hg2s; omega⟩, rfl, by intro y hy; simp at hy; omega, Blk.new _ _ _⟩ ⟨fun h => by simpa [upd] using (hG.1 (by simpa [upd] using h)).alloc _, fun h => (hG.2.1 (by simpa [upd] using h)).alloc _, by have := hG.2.2; simp; omega⟩
      · refine op_move rfl ?_
        rw [hc.ev0 _ rfl]
        exact hK _ _ (Keeps.refl _ _) rfl (by simpa [upd] using hG)
      · have n12 : fl 12 = false := by
          cases h : fl 12 with
          | false => rfl
          | true =>
            have h := hcl 12 7 (by kernel_rfl) h
            rw [show fl 7 = false from hfi] at h
            cases h
        have hS := hG.1 n12
        have hfi2 : fl 7 = false := hfi
        have hcnt3 := b1_le (fl 3) 1
        have hcnt7 := b1_le (fl 7) 1
        have e1 := hc.ev 24 6 rfl
        rw [show vs 6 = _ from (hp 6 (by kernel_rfl)).2] at e1
        refine op_pick rfl e1 rfl hS.rd (by omega) (by omega) (by omega) ?_
        intro v w9 va vb hr9 hg9
        exact hK _ _ (Keeps.grown hg9 (fun k e h => by injection e with e; exact h.1 e.symm)) ⟨v, rfl, va, vb⟩ ⟨fun _ => (hS.pick hr9 hg9).more (by simp [upd, b1_true, b1_false, hfi2] <;> omega), fun h => by simp [upd, n12] at h, Nat.lt_of_lt_of_le hG.2.2 hg9.size⟩
      · obtain ⟨u, hx, xa, xb⟩ := (hp 7 (by kernel_rfl)).2
        have hx2 : u < 7 := by omega
        obtain ⟨gg, hgg, hget⟩ := LitI.get (hp 5 (by kernel_rfl)).2 xa (by omega)
        have e1 := hc.ev 23 5 rfl
        rw [hgg] at e1
        have e2 := hc.ev 25 7 rfl
        rw [hx] at e2
        unfold Oper.wp execOp
        simp only [e1, e2]
        go_simp
        exact hK _ _ (Keeps.refl _ _) hget (by simpa [upd] using hG)
      · obtain ⟨b, o, u, hv, hb, hcx, xa, xb⟩ := (hp 8 (by kernel_rfl)).2
        have e1 := hc.ev 26 8 rfl
        rw [hv] at e1
        unfold Oper.wp execOp
        simp only [e1]
        go_simp
        exact hK _ _ (Keeps.refl _ _) ⟨u, rfl, xa, xb⟩ (by simpa [upd] using hG)
      · obtain ⟨u, hx, xa, xb⟩ := (hp 9 (by kernel_rfl)).2
        have hx2 : u < 4 := by omega
        obtain ⟨gg, hgg, hget⟩ := LitI.get (hp 4 (by kernel_rfl)).2 xa (by omega)
        have e1 := hc.ev 22 4 rfl
        rw [hgg] at e1
        have e2 := hc.ev 27 9 rfl
        rw [hx] at e2
        unfold Oper.wp execOp
        simp only [e1, e2]
        go_simp
        exact hK _ _ (Keeps.refl _ _) hget (by simpa [upd] using hG)
      · obtain ⟨b, o, u, hv, hb, hcx, xa, xb⟩ := (hp 10 (by kernel_rfl)).2
        have e1 := hc.ev 28 10 rfl
        rw [hv] at e1
        unfold Oper.wp execOp
        simp only [e1]
        go_simp
        exact hK _ _ (Keeps.refl _ _) ⟨u, rfl, xa, xb⟩ (by simpa [upd] using hG)
      · have n12 : fl 12 = false := hfi
        have hS := (hG.1 n12).f
        have e1 : a1.eval (.tmp 2) = .pointer (some ⟨g2, 0, none⟩) := hc.ev0 2 rfl
        have e2 := hc.ev 18 0 rfl
        rw [show vs 0 = _ from (hp 0 (by kernel_rfl)).2] at e2
        have c0 : wr.cell? ⟨g2, 0, none⟩ = some (.int .i64 0) := hS.z.cell 0
        have c1 : wr.cell? ⟨g2, 1, none⟩ = some (.slice none 0 0) := hS.z.cell 1
        have c2 : wr.cell? ⟨g2, 2, none⟩ = some (.slice none 0 0) := hS.z.cell 2
        have f0 : wr.frozen? ⟨g2, 0, none⟩ = false := hS.z.frozen 0
        have f1 : wr.frozen? ⟨g2, 1, none⟩ = false := hS.z.frozen 1
        have f2 : wr.frozen? ⟨g2, 2, none⟩ = false := hS.z.frozen 2
        have HP := Lib.hid hS.put3
        unfold Oper.wp execOp
        simp only [e1, e2, Mc.val]
        go_simp
        exact hK undef _ (((Keeps.set_ (fun h => h.2 rfl) _).trans (Keeps.set_ (fun h => h.2 rfl) _)).trans (Keeps.set_ (fun h => h.2 rfl) _)) trivial ⟨fun h => by simp [upd] at h, fun _ => HP.out, by simpa using hG.2.2⟩
      · have h := (hp 1 (by kernel_rfl)).2
        refine op_assign rfl ?_
        rw [hc.ev 19 1 rfl]
        exact hK _ _ (Keeps.refl _ _) h (by simpa [upd] using hG)
      · have h := (hp 11 (by kernel_rfl)).2
        refine op_assign rfl ?_
        rw [hc.ev 29 11 rfl]
        exact hK _ _ (Keeps.refl _ _) h (by simpa [upd] using hG)
    · intro fl vs w9 hfl hG hF
      obtain ⟨stp, hst, sa, sb⟩ := hF 14 (by simp)
      have h13 : vs 13 = _ := hF 13 (by simp)
      have HD := Lib.hid (hG.2.1 (hfl 12 (by simp)))
      clear hG hF hfl HM
      simp only [fill]
      rw [hst, h13]
      go_simp
      go_wp2
      have y0 : w9.cell? ⟨g2, 0, none⟩ = some (.int .i64 x.pc) := HD.out.z.cell 0
      have y1 : w9.cell? ⟨g2, 1, none⟩ = some (.slice x.sA x.st.length x.sc) := HD.out.z.cell 1
      have y2 : w9.cell? ⟨g2, 2, none⟩ = some (.slice x.cA x.ca.length x.cc) := HD.out.z.cell 2
      refine bodyPost_ret (v := .tuple #[x.val, .slice A bs.length c, .int .i64 stp]) (by simp [results, Try.results15, go_sem, y0, y1, y2, Mc.val]) rfl ?_
      exact ⟨x, A, c, bs, stp, rfl, HD.out.own.at_, ⟨by omega, by omega⟩, Reads.of_own HD.out.ro, by omega, HBX.out, ⟨sa, sb⟩, HD.out.be⟩
  · go_upto_region 6 with fail
    obtain ⟨x, hx⟩ : ∃ x : Mc, x = m := ⟨_, rfl⟩
    have hml' : x.st.length ≤ 9 ∧ x.ca.length ≤ 9 := by rw [hx]; exact hml
    rw [← hx] at HM5
    obtain ⟨q, hq⟩ : ∃ q : Nat, q = 201 := ⟨_, rfl⟩
    have HM : Hid (DRm w r q g2 g6 lo x A c bs w5) := by rw [hq]; exact HM5.out
    have hqb : q ≤ 201 := by omega
    clear HM5 hq hml hx
    refine wp_region_facts (fun i v wf => match i with
        | 0 => v = x.val
        | 1 => v = .slice A bs.length c
        | 2 => v = .pointer (some ⟨r, 0, none⟩)
        | 3 => IsInt 0 (20 - 1) v
        | 4 => LitI (fun b => b ≠ r ∧ b ≠ g2) 4 (-1) 101 v wf
        | 5 => LitI (fun b => b ≠ r ∧ b ≠ g2) 7 0 3 v wf
        | 6 => v = .pointer (some ⟨r, 0, none⟩)
        | 7 => IsInt 0 (7 - 1) v
        | 8 => AdI (fun b => b ≠ r ∧ b ≠ g2) 0 3 v wf
        | 9 => IsInt 0 3 v
        | 10 => AdI (fun b => b ≠ r ∧ b ≠ g2) (-1) 101 v wf
        | 11 => IsInt (-1) 101 v
        | 12 => True
        | 13 => v = .slice A bs.length c
        | _ => IsInt (-1) 101 v)
      (fun fl vs wq => (fl 12 = false → DRm w r (q + (b1 (fl 3) 1 + b1 (fl 7) 1)) g2 g6 lo x A c bs wq) ∧ (fl 12 = true → DRf w g2 g6 lo x.cells x A c bs wq) ∧ r < wq.heap.size) (Keeps (fun b => b ≠ r ∧ b ≠ g2)) (by kernel_rfl) (by kernel_rfl) ?_ ?_ ?_ ?_
    · intro i v u u2 hk h
      match i, h with
      | 0, h => exact h
      | 1, h => exact h
      | 2, h => exact h
      | 3, h => exact h
      | 4, h => exact h.keeps hk
      | 5, h => exact h.keeps hk
      | 6, h => exact h
      | 7, h => exact h
      | 8, h => exact h.keeps hk
      | 9, h => exact h
      | 10, h => exact h.keeps hk
      | 11, h => exact h
      | 12, h => trivial
      | 13, h => exact h
      | _ + 14, h => exact h
    · intro fl vs hfl
      exact ⟨fun _ => (HM.out.drewN 1).more (by omega), fun h => (by rw [hfl 12 (by simp)] at h; cases h), HM.out.size.2.1⟩
    · refine ⟨?_, ?_, ?_, ?_, ?_, ?_, ?_, ?_, ?_, ?_, ?_, ?_, ?_, ?_, ?_, trivial⟩
      all_goals intro fl vs wr a1 hc hG hfi hcl hp K hK
      · have n12 : fl 12 = false := by
          cases h : fl 12 with
          | false => rfl
          | true =>
            have h := hcl 12 0 (by kernel_rfl) h
            rw [show fl 0 = false from hfi] at h
            cases h
        have hS := hG.1 n12
        have e1 : a1.eval (.tmp 6) = .pointer (some ⟨g6, 0, none⟩) := hc.ev0 6 rfl
        have c0 : wr.cell? ⟨g6, 0, none⟩ = some (.int .i64 x.pc) := hS.f.b.cell 0
        have c1 : wr.cell? ⟨g6, 1, none⟩ = some (.slice x.sA x.st.length x.sc) := hS.f.b.cell 1
        have c2 : wr.cell? ⟨g6, 2, none⟩ = some (.slice x.cA x.ca.length x.cc) := hS.f.b.cell 2
        unfold Oper.wp execOp
        simp only [e1]
        go_simp
        exact hK _ _ (Keeps.refl _ _) rfl (by simpa [upd] using hG)
      · refine op_move rfl ?_
        rw [hc.ev0 _ rfl]
        exact hK _ _ (Keeps.refl _ _) rfl (by simpa [upd] using hG)
      · refine op_move rfl ?_
        rw [hc.ev0 _ rfl]
        exact hK _ _ (Keeps.refl _ _) rfl (by simpa [upd] using hG)
      · have n12 : fl 12 = false := by
          cases h : fl 12 with
          | false => rfl
          | true =>
            have h := hcl 12 7 (by kernel_rfl) h
            have h := hcl 7 3 (by kernel_rfl) h
            rw [show fl 3 = false from hfi] at h
            cases h
        have hS := hG.1 n12
        have hfi2 : fl 3 = false := hfi
        have hcnt3 := b1_le (fl 3) 1
        have hcnt7 := b1_le (fl 7) 1
        have e1 := hc.ev 20 2 rfl
        rw [show vs 2 = _ from (hp 2 (by kernel_rfl)).2] at e1
        refine op_pick rfl e1 rfl hS.rd (by omega) (by omega) (by omega) ?_
        intro v w9 va vb hr9 hg9
        exact hK _ _ (Keeps.grown hg9 (fun k e h => by injection e with e; exact h.1 e.symm)) ⟨v, rfl, va, vb⟩ ⟨fun _ => (hS.pick hr9 hg9).more (by simp [upd, b1_true, b1_false, hfi2] <;> omega), fun h => by simp [upd, n12] at h, Nat.lt_of_lt_of_le hG.2.2 hg9.size⟩
      · obtain ⟨x0, hx0, xa0, xb0⟩ := (hp 3 (by kernel_rfl)).2
        have e0 := hc.ev 21 3 rfl
        rw [hx0] at e0
        unfold Oper.wp execOp
        simp only [e0, List.map_toArray, List.map_cons, List.map_nil]
        have hg2s : g2 < wr.heap.size := by
          cases h : fl 12 with
          | false => exact (hG.1 h).size.2.2.2
          | true => exact (hG.2.1 h).z.lt
        go_simp
        exact hK _ _ (Keeps.alloc _ _ _) ⟨_, [x0, 100, 101, -1], rfl, ⟨by have := hG.2.2; omega, by have := hg2s; omega⟩, rfl, by intro y hy; simp at hy; omega, Blk.new _ _ _⟩ ⟨fun h => by simpa [upd] using (hG.1 (by simpa [upd] using h)).alloc _, fun h => (hG.2.1 (by simpa [upd] using h)).alloc _, by have := hG.2.2; simp; omega⟩
      · have hg2s : g2 < wr.heap.size := by
          cases h : fl 12 with
          | false => exact (hG.1 h).size.2.2.2
          | true => exact (hG.2.1 h).z.lt
        go_simp
        exact hK _ _ (Keeps.alloc _ _ _) ⟨_, [0, 0, 0, 0, 1, 2, 3], rfl, ⟨by have := hG.2.2; omega, by have := hg2s; omega⟩, rfl, by intro y hy; simp at hy; omega, Blk.new _ _ _⟩ ⟨fun h => by simpa [upd] using (hG.1 (by simpa [upd] using h)).alloc _, fun h => (hG.2.1 (by simpa [upd] using h)).alloc _, by have := hG.2.2; simp; omega⟩
      · refine op_move rfl ?_
        rw [hc.ev0 _ rfl]
        exact hK _ _ (Keeps.refl _ _) rfl (by simpa [upd] using hG)
      · have n12 : fl 12 = false := by
          cases h : fl 12 with
          | false => rfl
          | true =>
            have h := hcl 12 7 (by kernel_rfl) h
            rw [show fl 7 = false from hfi] at h
            cases h
        have hS := hG.1 n12
        have hfi2 : fl 7 = false := hfi
        have hcnt3 := b1_le (fl 3) 1
        have hcnt7 := b1_le (fl 7) 1
        have e1 := hc.ev 24 6 rfl
        rw [show vs 6 = _ from (hp 6 (by kernel_rfl)).2] at e1
        refine op_pick rfl e1 rfl hS.rd (by omega) (by omega) (by omega) ?_
        intro v w9 va vb hr9 hg9
        exact hK _ _ (Keeps.grown hg9 (fun k e h => by injection e with e; exact h.1 e.symm)) ⟨v, rfl, va, vb⟩ ⟨fun _ => (hS.pick hr9 hg9).more (by simp [upd, b1_true, b1_false, hfi2] <;> omega), fun h => by simp [upd, n12] at h, Nat.lt_of_lt_of_le hG.2.2 hg9.size⟩
      · obtain ⟨u, hx, xa, xb⟩ := (hp 7 (by kernel_rfl)).2
        have hx2 : u < 7 := by omega
        obtain ⟨gg, hgg, hget⟩ := LitI.get (hp 5 (by kernel_rfl)).2 xa (by omega)
        have e1 := hc.ev 23 5 rfl
        rw [hgg] at e1
        have e2 := hc.ev 25 7 rfl
        rw [hx] at e2
        unfold Oper.wp execOp
        simp only [e1, e2]
        go_simp
        exact hK _ _ (Keeps.refl _ _) hget (by simpa [upd] using hG)
      · obtain ⟨b, o, u, hv, hb, hcx, xa, xb⟩ := (hp 8 (by kernel_rfl)).2
        have e1 := hc.ev 26 8 rfl
        rw [hv] at e1
        unfold Oper.wp execOp
        simp only [e1]
        go_simp
        exact hK _ _ (Keeps.refl _ _) ⟨u, rfl, xa, xb⟩ (by simpa [upd] using hG)
      · obtain ⟨u, hx, xa, xb⟩ := (hp 9 (by kernel_rfl)).2
        have hx2 : u < 4 := by omega
        obtain ⟨gg, hgg, hget⟩ := LitI.get (hp 4 (by kernel_rfl)).2 xa (by omega)
        have e1 := hc.ev 22 4 rfl
        rw [hgg] at e1
        have e2 := hc.ev 27 9 rfl
        rw [hx] at e2
        unfold Oper.wp execOp
        simp only [e1, e2]
        go_simp
        exact hK _ _ (Keeps.refl _ _) hget (by simpa [upd] using hG)
      · obtain ⟨b, o, u, hv, hb, hcx, xa, xb⟩ := (hp 10 (by kernel_rfl)).2
        have e1 := hc.ev 28 10 rfl
        rw [hv] at e1
        unfold Oper.wp execOp
        simp only [e1]
        go_simp
        exact hK _ _ (Keeps.refl _ _) ⟨u, rfl, xa, xb⟩ (by simpa [upd] using hG)
      · have n12 : fl 12 = false := hfi
        have hS := (hG.1 n12).f
        have e1 : a1.eval (.tmp 2) = .pointer (some ⟨g2, 0, none⟩) := hc.ev0 2 rfl
        have e2 := hc.ev 18 0 rfl
        rw [show vs 0 = _ from (hp 0 (by kernel_rfl)).2] at e2
        have c0 : wr.cell? ⟨g2, 0, none⟩ = some (.int .i64 0) := hS.z.cell 0
        have c1 : wr.cell? ⟨g2, 1, none⟩ = some (.slice none 0 0) := hS.z.cell 1
        have c2 : wr.cell? ⟨g2, 2, none⟩ = some (.slice none 0 0) := hS.z.cell 2
        have f0 : wr.frozen? ⟨g2, 0, none⟩ = false := hS.z.frozen 0
        have f1 : wr.frozen? ⟨g2, 1, none⟩ = false := hS.z.frozen 1
        have f2 : wr.frozen? ⟨g2, 2, none⟩ = false := hS.z.frozen 2
        have HP := Lib.hid hS.put3
        unfold Oper.wp execOp
        simp only [e1, e2, Mc.val]
        go_simp
        exact hK undef _ (((Keeps.set_ (fun h => h.2 rfl) _).trans (Keeps.set_ (fun h => h.2 rfl) _)).trans (Keeps.set_ (fun h => h.2 rfl) _)) trivial ⟨fun h => by simp [upd] at h, fun _ => HP.out, by simpa using hG.2.2⟩
      · have h := (hp 1 (by kernel_rfl)).2
        refine op_assign rfl ?_
        rw [hc.ev 19 1 rfl]
        exact hK _ _ (Keeps.refl _ _) h (by simpa [upd] using hG)
      · have h := (hp 11 (by kernel_rfl)).2
        refine op_assign rfl ?_
        rw [hc.ev 29 11 rfl]
        exact hK _ _ (Keeps.refl _ _) h (by simpa [upd] using hG)
    · intro fl vs w9 hfl hG hF
      obtain ⟨stp, hst, sa, sb⟩ := hF 14 (by simp)
      have h13 : vs 13 = _ := hF 13 (by simp)
      have HD := Lib.hid (hG.2.1 (hfl 12 (by simp)))
      clear hG hF hfl HM
      simp only [fill]
      rw [hst, h13]
      go_simp
      go_wp2
      have y0 : w9.cell? ⟨g2, 0, none⟩ = some (.int .i64 x.pc) := HD.out.z.cell 0
      have y1 : w9.cell? ⟨g2, 1, none⟩ = some (.slice x.sA x.st.length x.sc) := HD.out.z.cell 1
      have y2 : w9.cell? ⟨g2, 2, none⟩ = some (.slice x.cA x.ca.length x.cc) := HD.out.z.cell 2
      refine bodyPost_ret (v := .tuple #[x.val, .slice A bs.length c, .int .i64 stp]) (by simp [results, Try.results15, go_sem, y0, y1, y2, Mc.val]) rfl ?_
      exact ⟨x, A, c, bs, stp, rfl, HD.out.own.at_, ⟨by omega, by omega⟩, Reads.of_own HD.out.ro, by omega, HBX.out, ⟨sa, sb⟩, HD.out.be⟩
end Go.Proofs.Ytbljkdhokbhcdaa
