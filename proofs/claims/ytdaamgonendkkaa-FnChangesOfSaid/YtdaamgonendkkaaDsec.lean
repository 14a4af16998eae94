/- Contract of the drawing of a section. Condition: not too many draws. -/
import Derived.Test.YtdaamgonendkkaaRows
import Derived.Test.YtdaamgonendkkaaBase
import Derived.Test.YtdaamgonendkkaaBase2
import Derived.Test.YtdaamgonendkkaaBase3
import Derived.Test.YtdaamgonendkkaaOnly
import Derived.Test.YtdaamgonendkkaaIn
import Derived.Test.YtdaamgonendkkaaName
import Derived.Test.YtdaamgonendkkaaEqB
import Derived.Test.YtdaamgonendkkaaFix
import Derived.Test.YtdaamgonendkkaaSec
import Derived.Test.YtdaamgonendkkaaObjS
import Derived.Test.YtdaamgonendkkaaPick
import Derived.Test.YtdaamgonendkkaaPick2
import Derived.Test.YtdaamgonendkkaaReg
import Derived.Test.YtdaamgonendkkaaRegS
import Derived.Test.YtdaamgonendkkaaDrawN
import Derived.Test.YtdaamgonendkkaaRegK
import Derived.Test.YtdaamgonendkkaaKT
import Derived.Test.YtdaamgonendkkaaDby
import Derived.WalkKit
import Derived.WalkSpells
import Derived.WalkLawsBesides
import Derived.Handy
import Derived.BigQuiet
import Derived.Deep.RegionHeld3
import Derived.Deep.DrawnRows
import Derived.Deep.QuietTactic
import Derived.Deep.CutBlock
namespace Go.Proofs.Ytdaamgonendkkaa
open Go Go.RowKit

theorem fix_info : (Try.prog.info? 107).map (fun i => (i.zero, i.size, i.bytes)) = some (some (.agg #[.int .i64 0, .int .i64 0, .int .i64 0, .int .i64 0]), 4, 32) := by kernel_rfl
theorem own_types_ne2 {w : World} {b1 b2 : Nat} {e1 e2 : TypeId} {s1 s2 : Nat} {A1 A2 : Option Addr} {n1 c1 n2 c2 : Nat} {xs ys : List Value} (h1 : w.ownsRow b1 e1 s1 (.slice A1 n1 c1) n1 xs) (h2 : w.ownsRow b2 e2 s2 (.slice A2 n2 c2) n2 ys) (hne : e1 ≠ e2) : ∀ a1 a2, A1 = some a1 → A2 = some a2 → a1.block ≠ a2.block := by
  rintro a1 a2 rfl rfl heq
  rcases h1.2 with ⟨hv, _⟩ | ⟨g1, cap1, cur1, hv1, _, hg1, _⟩
  · cases hv
  · rcases h2.2 with ⟨hv, _⟩ | ⟨g2, cap2, cur2, hv2, _, hg2, _⟩
    · cases hv
    · injection hv1 with q1
      injection q1 with q1
      injection hv2 with q2
      injection q2 with q2
      subst q1 q2
      simp only at heq
      subst heq
      rw [hg1] at hg2
      injection hg2 with hg2
      injection hg2 with _ hg2
      exact hne hg2
/-- The types that a section's parts have. -/
def TS (t : TypeId) : Prop := t = 5 ∨ t = 107
theorem TS_b : TS 5 := .inl rfl
theorem TS_f : TS 107 := .inr rfl
theorem TS_s : ¬ TS 80 := by unfold TS; decide
theorem TS_r : ¬ TS 90 := by unfold TS; decide
theorem Sec.Own.keepT {T : TypeId → Prop} {w w' : World} {lo : Nat} {x : Sec} (h : x.Own w lo) (k : KeepT T w w') (hb : T 5) (hf : T 107) : x.Own w' lo := ⟨k.own h.1 hb, k.own h.2 hf⟩
def zSec : Sec := ⟨ByteArray.empty, 0, 0, [], none, 0, 0, [], none, 0⟩
/-- While a section is drawn: the result's place, the section under way with its parts, the reader. -/
structure SecMem (w : World) (r q g6 g7 : Nat) (x y : Sec) (wq : World) : Prop where
  z6 : Blk wq g6 80 zSec.cells.toArray
  b7 : Blk wq g7 80 x.cells.toArray
  own : y.Own wq w.heap.size
  rd : Rdr wq r q
  gr : w.grownBy wq (some r)
  hr : r < w.heap.size
  h6 : w.heap.size ≤ g6
  h67 : g6 < g7
section
variable {w wq w' : World} {r q g6 g7 : Nat} {x y : Sec}
theorem SecMem.alloc (h : SecMem w r q g6 g7 x y wq) (o : Go.Obj) : SecMem w r q g6 g7 x y (wq.alloc o) :=
  ⟨h.z6.alloc _, h.b7.alloc _, h.own.keepT (T := TS) (.of_alloc _ _ _) TS_b TS_f, h.rd.alloc _, gr_alloc h.gr _, h.hr, h.h6, h.h67⟩
theorem SecMem.moreq {q' : Nat} (h : SecMem w r q g6 g7 x y wq) (hq : q ≤ q') : SecMem w r q' g6 g7 x y wq := ⟨h.z6, h.b7, h.own, h.rd.more hq, h.gr, h.hr, h.h6, h.h67⟩
theorem SecMem.drewN (h : SecMem w r q g6 g7 x y wq) (n : Nat) : SecMem w r q g6 g7 x y (wq.drewN n) :=
  ⟨h.z6.drewN n, h.b7.drewN n, h.own, h.rd, gr_drewN h.gr n, h.hr, h.h6, h.h67⟩
theorem SecMem.below (h : SecMem w r q g6 g7 x y wq) (hb : Below wq.heap.size wq w') : SecMem w r q g6 g7 x y w' :=
  ⟨h.z6.below hb h.z6.lt, h.b7.below hb h.b7.lt, h.own.below hb, h.rd.below hb, gr_below h.gr hb, h.hr, h.h6, h.h67⟩
theorem SecMem.pick {q' : Nat} (h : SecMem w r q g6 g7 x y wq) (hr' : Rdr w' r q') (hg : wq.grownBy w' (some r)) : SecMem w r q' g6 g7 x y w' :=
  ⟨h.z6.grown hg (by have := h.hr; have := h.h6; simp; omega), h.b7.grown hg (by have := h.hr; have := h.h6; have := h.h67; simp; omega), h.own.keepT (T := TS) (.of_pick h.rd hg TS_r) TS_b TS_f, hr', gr_trans h.gr hg, h.hr, h.h6, h.h67⟩
theorem SecMem.put (h : SecMem w r q g6 g7 x y wq) (i : Nat) (u : Value) (x' y' : Sec) (he : x'.cells.toArray = x.cells.toArray.setIfInBounds i u) (ho : y'.Own wq w.heap.size) : SecMem w r q g6 g7 x' y' (wq.setCell ⟨g7, i, none⟩ u) :=
  ⟨h.z6.far (by have := h.h67; simp only [ne_eq]; omega) _, by rw [he]; exact h.b7.set_ i u, ho.keepT (T := TS) (.of_set h.b7 TS_s i u) TS_b TS_f, h.rd.setCell (by have := h.hr; have := h.h6; have := h.h67; simp only; omega) _, gr_setCell h.gr (by have := h.h6; have := h.h67; simp only; omega) _, h.hr, h.h6, h.h67⟩
theorem SecMem.push {A' : Option Addr} {c' : Nat} {f : Fix} (h : SecMem w r q g6 g7 x y wq) (ho : w'.ownsRow w.heap.size 107 4 (.slice A' (y.fixups.length + 1) c') (y.fixups.length + 1) (y.fixups.flatMap Fix.cells ++ f.cells)) (hg : wq.grownBy w' (y.fixupsA.map (·.block))) :
    SecMem w r q g6 g7 x { y with fixups := y.fixups ++ [f], fixupsA := A', fixupsc := c' } w' :=
  ⟨h.z6.grown hg (blk_row_ne h.z6 h.own.2 (by decide)), h.b7.grown hg (blk_row_ne h.b7 h.own.2 (by decide)), ⟨own_other h.own.1 hg (own_types_ne2 h.own.1 h.own.2 (by decide)), by simpa using ho⟩, h.rd.row hg h.own.2 h.hr, gr_row h.gr hg h.own.2 (Nat.le_refl _), h.hr, h.h6, h.h67⟩
theorem SecMem.cells (h : SecMem w r q g6 g7 x y wq) (i : Nat) : wq.cell? ⟨g7, i, none⟩ = x.cells.toArray[i]? := h.b7.cell i
theorem SecMem.free (h : SecMem w r q g6 g7 x y wq) (i : Nat) : wq.frozen? ⟨g7, i, none⟩ = false := h.b7.frozen i
theorem SecMem.size (h : SecMem w r q g6 g7 x y wq) : w.heap.size ≤ wq.heap.size ∧ r < wq.heap.size ∧ g7 < wq.heap.size ∧ g6 < wq.heap.size := ⟨h.gr.size, by have := h.gr.size; have := h.hr; omega, h.b7.lt, h.z6.lt⟩
end
def SecEnd (n : Int) (x : Sec) : Prop := x.name.size ≤ 9 ∧ x.bytes.length ≤ 49 ∧ isB x.bytes ∧ x.fixups.length ≤ 5 ∧ (n = 0 → 0 ≤ secSize x ∧ secSize x ≤ 48)
def SecNew (x : Sec) (nm : ByteArray) (kd : Int) : Prop := x.name = nm ∧ x.kind = kd ∧ x.bytes = [] ∧ x.bytesA = none ∧ x.bytesc = 0 ∧ x.size = 0 ∧ x.fixups = [] ∧ x.fixupsA = none ∧ x.fixupsc = 0
def SecGood (x : Sec) : Prop := x.name.size ≤ 9 ∧ x.bytes.length ≤ 14 ∧ isB x.bytes ∧ x.fixups.length ≤ 3 ∧ 0 ≤ secSize x ∧ secSize x ≤ 48
theorem SecNew.good_blank {x : Sec} {nm : ByteArray} {kd sz : Int} (h : SecNew x nm kd) (hn : nm.size ≤ 9) (hk : kd = 3) (h0 : 0 ≤ sz) (h1 : sz ≤ 48) : SecGood { x with size := sz } := by
  obtain ⟨a, b, c, d, e, f, g, i, j⟩ := h
  have hs : secSize { x with size := sz } = sz := by unfold secSize; rw [if_pos (by simp only; rw [b, hk])]
  refine ⟨by simp only; rw [a]; exact hn, by simp [c], by simp [c, isB], by simp [g], by rw [hs]; exact h0, by rw [hs]; exact h1⟩
theorem SecNew.good_full {x : Sec} {nm : ByteArray} {kd : Int} {bs : List Int} {A : Option Addr} {c : Nat} (h : SecNew x nm kd) (hn : nm.size ≤ 9) (hk : kd ≠ 3) (h0 : bs.length ≤ 14) (h1 : isB bs) : SecGood { x with bytes := bs, bytesA := A, bytesc := c } := by
  obtain ⟨a, b, c', d, e, f, g, i, j⟩ := h
  have hs : secSize { x with bytes := bs, bytesA := A, bytesc := c } = bs.length := by unfold secSize; rw [if_neg (by simp only; rw [b]; exact hk)]
  refine ⟨by simp only; rw [a]; exact hn, h0, h1, by simp [g], by rw [hs]; omega, by rw [hs]; omega⟩
theorem SecGood.end_ {x : Sec} (h : SecGood x) (n : Int) : SecEnd n x := ⟨h.1, by have := h.2.1; omega, h.2.2.1, by have := h.2.2.2.1; omega, fun _ => h.2.2.2.2⟩
/-- While the result is stored. -/
structure SecR (w : World) (r q g6 : Nat) (y : Sec) (cs : List Value) (wq : World) : Prop where
  z6 : Blk wq g6 80 cs.toArray
  own : y.Own wq w.heap.size
  rd : Rdr wq r q
  gr : w.grownBy wq (some r)
  hr : r < w.heap.size
theorem SecR.put {w wq : World} {r q : Nat} {y : Sec} {cs : List Value} (h : SecR w r q w.heap.size y cs wq) (i : Nat) (u : Value) : SecR w r q w.heap.size y (cs.set i u) (wq.setCell ⟨w.heap.size, i, none⟩ u) :=
  ⟨by have := h.z6.set_ i u; simpa using this, h.own.keepT (T := TS) (.of_set h.z6 TS_s i u) TS_b TS_f, h.rd.setCell (by have := h.hr; simp only; omega) _, gr_setCell h.gr (Nat.le_refl _) _, h.hr⟩
def SecRes (w : World) (r q : Nat) (x : Sec) (wq : World) : Prop := x.Own wq w.heap.size ∧ Rdr wq r q ∧ w.grownBy wq (some r) ∧ Blk wq w.heap.size 80 x.cells.toArray
/-- A section was drawn. -/
def DrewSec (w : World) (r P : Nat) (n : Int) (e : Ending) (w' : World) : Prop := ∃ x : Sec, e = .returned x.val ∧ x.Own w' w.heap.size ∧ (x.name.size ≤ 9 ∧ x.bytes.length ≤ 49 ∧ isB x.bytes ∧ x.fixups.length ≤ 5 ∧ (n = 0 → 0 ≤ secSize x ∧ secSize x ≤ 48)) ∧ Rdr w' r (P + 100) ∧ w.grownBy w' (some r)
set_option maxRecDepth 100000 in
set_option maxHeartbeats 8000000 in
theorem l20Section_any (r P : Nat) (many n : Int) (w : World) (hr : Rdr w r P) (hP : P ≤ 100000) (hm0 : 0 ≤ many) (hm : many ≤ 1000) (hn : n = 0 ∨ n = 1) : Calls Try.prog 75 #[.pointer (some ⟨r, 0, none⟩), .int .i64 many, .int .i64 n] w (DrewSec w r P n) := by
  obtain ⟨i0, hi0, hz0, hz1, hz2⟩ := info_parts fix_info
  have hrl := hr.lt
  have HR := Lib.hid hr
  have HNN := Lib.hid hn
  clear hr hn
  go_enter Try.func75, Try.ntmps75
  go_wp2_with fail
  refine (l20Name_any r P 0 _ (HR.out.alloc _) (by omega) (by omega) (by omega)).mono ?_
  rintro e w1 ⟨nm, rfl, ⟨hnm, _⟩, hr1, hg1⟩
  go_wp2_with fail
  refine (pick_any r _ 3 _ hr1 (by omega) (by omega) (by omega)).mono ?_
  rintro e w2 ⟨v2, rfl, ⟨v2a, v2b⟩, hr2, hg2⟩
  have y1 : IntKind.i64.wrap (1 + v2) = 1 + v2 := IntWalk.i64_in _ (by omega)
  go_wp2_with fail
  refine (pick_any r _ 4 _ (hr2.alloc _) (by omega) (by omega) (by omega)).mono ?_
  rintro e w3 ⟨v3, rfl, ⟨v3a, v3b⟩, hr3, hg3⟩
  have hK : Blk w3 w2.heap.size 3 (nums .i64 [1, 2, 4, 8]).toArray := (Blk.new w2 3 (nums .i64 [1, 2, 4, 8]).toArray).grown hg3 (by have := hg1.size; have := hg2.size; simp at *; omega)
  obtain ⟨al, hal, hcal⟩ := lit_at hK v3a (by simp; omega)
  have hg13 := gr_trans (gr_alloc (gr_trans hg1 hg2) _) hg3
  have zz3 := hg13.size
  have z1 := hg1.size
  have z2 := hg2.size
  have z3 := hg3.size
  simp only [World.size_alloc] at zz3 z1 z2 z3
  obtain ⟨x0, hx0⟩ : ∃ x0 : Sec, x0 = ⟨nm, 1 + v2, al, [], none, 0, 0, [], none, 0⟩ := ⟨_, rfl⟩
  have HM : Hid (SecMem w r (P + 4) w.heap.size w3.heap.size x0 x0 (w3.alloc (.cells #[.string nm, .int .i64 (1 + v2), .int .i64 al, .slice none 0 0, .int .i64 0, .slice none 0 0] 80))) := by
    subst hx0
    have zz : Blk w3 w.heap.size 80 zSec.cells.toArray := ((((Blk.new w 80 zSec.cells.toArray).grown hg1 (by simp; omega)).grown hg2 (by simp; omega)).alloc _).grown hg3 (by simp; omega)
    have hgg : w.grownBy w3 (some r) := gr_trans (gr_alloc (gr_trans (gr_trans (gr_alloc (grown_refl w (some r)) _) hg1) hg2) _) hg3
    exact ⟨zz.alloc _, Blk.new w3 80 _, ⟨⟨rfl, .inl ⟨rfl, rfl⟩⟩, ⟨rfl, .inl ⟨rfl, rfl⟩⟩⟩, hr3.alloc _ |>.more (by omega), gr_alloc hgg _, hrl, Nat.le_refl _, by omega⟩
  have HX0 : Hid (SecNew x0 nm (1 + v2)) := by subst hx0; exact ⟨rfl, rfl, rfl, rfl, rfl, rfl, rfl, rfl, rfl⟩
  clear hK hal hg1 hg2 hg3 hg13 hr1 hr2 hr3 HR hx0
  go_upto_if 24 with fail
  clear y1 hcal
  obtain ⟨g7, hg7⟩ : ∃ g7, g7 = w3.heap.size := ⟨_, rfl⟩
  rw [← hg7] at HM ⊢
  generalize w3.alloc _ = W0 at HM ⊢
  clear zz3 z1 z2 z3 hg7
  go_cut [] from 11 (fun wc => ∃ (x : Sec) (q : Nat), Hid (SecMem w r q w.heap.size g7 x x wc) ∧ q ≤ P + 60 ∧ Hid (SecGood x))
  case first =>
    by_cases hk : 1 + v2 = 3
    · have hkb : (1 + v2 == 3) = true := by rw [hk]; rfl
      go_wp2_with fail
      refine (pick_any r _ 12 _ HM.out.rd (by omega) (by omega) (by omega)).mono ?_
      rintro e w4 ⟨v4, rfl, ⟨v4a, v4b⟩, hr4, hg4⟩
      have HM4 := Lib.hid (HM.out.pick hr4 hg4)
      have hz4 := HM4.out.size
      clear HM hr4 hg4
      go_wp2_with fail
      refine (pick_any r _ 9 _ (HM4.out.alloc _).rd (by omega) (by omega) (by omega)).mono ?_
      rintro e w5 ⟨v5, rfl, ⟨v5a, v5b⟩, hr5, hg5⟩
      have HM5 := Lib.hid ((HM4.out.alloc (.cells #[.int .i64 v4, .int .i64 48] 3)).pick hr5 hg5)
      have hK : Blk w5 w4.heap.size 3 (nums .i64 [v4, 48]).toArray := (Blk.new w4 3 (nums .i64 [v4, 48]).toArray).grown hg5 (by simp; omega)
      have y2 : IntKind.i64.wrap (v5.tdiv 8) = v5 / 8 := quo_wrap v5a (by omega) (by omega)
      have yq0 : 0 ≤ v5 / 8 := by omega
      have yq1 : v5 / 8 < 2 := by omega
      obtain ⟨sz, hsz, hc⟩ := lit_at hK yq0 (by simp; omega)
      have hszb : 0 ≤ sz ∧ sz ≤ 48 := by simp at hsz; omega
      have HF := Lib.hid (HM5.out.put 4 (.int .i64 sz) { x0 with size := sz } { x0 with size := sz } rfl HM5.out.own)
      have HGD : Hid (SecGood { x0 with size := sz }) := HX0.out.good_blank hnm hk hszb.1 hszb.2
      obtain ⟨e4, f4⟩ : w5.cell? ⟨g7, 4, none⟩ = some (.int .i64 x0.size) ∧ w5.frozen? ⟨g7, 4, none⟩ = false := ⟨HM5.out.cells 4, HM5.out.free 4⟩
      generalize x0.size = sz0 at e4
      clear hK hsz hr5 hg5 HM4 HM5
      go_wp2
      go_meet
      case rel => exact ⟨_, _, HF, by omega, HGD⟩
    · have hkb : (1 + v2 == 3) = false := by rw [beq_eq_false_iff_ne]; exact hk
      go_wp2_with fail
      refine (l20Bytes_any r _ _ HM.out.rd (by omega)).mono ?_
      rintro e w4 ⟨A4, c4, bs, rfl, ob, hbl, hbs, hr4, hg4⟩
      have HM4 := Lib.hid (HM.out.pick hr4 hg4)
      have HO4 := Lib.hid (own_base (base' := w.heap.size) ob HM.out.gr.size)
      have HF := Lib.hid (HM4.out.put 3 (.slice A4 bs.length c4) { x0 with bytes := bs, bytesA := A4, bytesc := c4 } { x0 with bytes := bs, bytesA := A4, bytesc := c4 } rfl ⟨HO4.out, HM4.out.own.2⟩)
      have HGD : Hid (SecGood { x0 with bytes := bs, bytesA := A4, bytesc := c4 }) := HX0.out.good_full hnm hk (by omega) hbs
      obtain ⟨e3, f3⟩ : w4.cell? ⟨g7, 3, none⟩ = some (.slice x0.bytesA x0.bytes.length x0.bytesc) ∧ w4.frozen? ⟨g7, 3, none⟩ = false := ⟨HM4.out.cells 3, HM4.out.free 3⟩
      generalize Value.slice x0.bytesA x0.bytes.length x0.bytesc = b0 at e3
      have HX1 : Hid (({ x0 with bytes := bs, bytesA := A4, bytesc := c4 } : Sec).fixups = []) := HX0.out.2.2.2.2.2.2.1
      clear ob hbl hbs hr4 hg4 HM HO4 HM4 HX0
      obtain ⟨x1, hx1⟩ : ∃ x1 : Sec, x1 = { x0 with bytes := bs, bytesA := A4, bytesc := c4 } := ⟨_, rfl⟩
      rw [← hx1] at HF HGD HX1
      clear hx1 hkb hk
      go_wp2_with fail
      generalize w4.setCell _ _ = w5 at HF ⊢
      clear e3 f3 b0
      refine (pick_any r _ 4 _ HF.out.rd (by omega) (by omega) (by omega)).mono ?_
      rintro e w6 ⟨v6, rfl, ⟨v6a, v6b⟩, hr6, hg6⟩
      have HM6 := Lib.hid (HF.out.pick hr6 hg6)
      clear HF hr6 hg6
      obtain ⟨m, hm1⟩ : ∃ m : Nat, v6 = m := ⟨v6.toNat, by omega⟩
      subst hm1
      go_wp2
      go_loopw [8, 9] (fun av kv wr => ∃ (at_ : Int) (j : Nat) (q : Nat) (x : Sec), av = .int .i64 at_ ∧ kv = .int .i64 j ∧ (0 ≤ at_ ∧ at_ ≤ 14) ∧ j ≤ 3 ∧ q + 7 * j ≤ P + 60 ∧ Hid (SecMem w r q w.heap.size g7 x x wr) ∧ Hid (SecGood x) ∧ Hid (x.fixups.length + j ≤ 3)) (fun _ kv _ => (intOf kv).toNat)
      case atStart => exact ⟨0, m, _, x1, rfl, rfl, ⟨by omega, by omega⟩, by omega, by omega, HM6, HGD, Lib.hid (by rw [HX1.out]; simp; omega)⟩
      case round =>
        obtain ⟨at_, j, q, x, rfl, rfl, ⟨ha0, ha1⟩, hj3, hqj, HM10, HGX, HFX⟩ := hrel
        clear HM6 HGD HX1
        by_cases hgo : 0 < j ∧ 0 < many
        · obtain ⟨hj, hmy⟩ := hgo
          have hjb : (0 : Int) < (j : Int) := by omega
          have hz10 := HM10.out.size
          go_wp2_with fail
          refine (pick_any r _ 3 _ HM10.out.rd (by omega) (by omega) (by omega)).mono ?_
          rintro e w11 ⟨a1, rfl, ⟨a1a, a1b⟩, hr11, hg11⟩
          have HM11 := Lib.hid (HM10.out.pick hr11 hg11)
          have hz11 := HM11.out.size
          clear HM10 hr11 hg11
          have y1 : IntKind.i64.wrap (at_ + a1) = at_ + a1 := IntWalk.i64_in _ (by omega)
          go_wp2_with fail
          refine (pick_any r _ 3 _ HM11.out.rd (by omega) (by omega) (by omega)).mono ?_
          rintro e w12 ⟨a2, rfl, ⟨a2a, a2b⟩, hr12, hg12⟩
          have HM12 := Lib.hid (HM11.out.pick hr12 hg12)
          have hz12 := HM12.out.size
          clear HM11 hr12 hg12
          have y2 : IntKind.i64.wrap (1 + a2) = 1 + a2 := IntWalk.i64_in _ (by omega)
          go_wp2_with fail
          refine (pick_any r _ many _ HM12.out.rd (by omega) (by omega) (by omega)).mono ?_
          rintro e w13 ⟨a3, rfl, ⟨a3a, a3b⟩, hr13, hg13⟩
          have HM13 := Lib.hid (HM12.out.pick hr13 hg13)
          have hz13 := HM13.out.size
          clear HM12 hr13 hg13
          go_wp2_with fail
          refine (pick_any r _ 9 _ HM13.out.rd (by omega) (by omega) (by omega)).mono ?_
          rintro e w14 ⟨a4, rfl, ⟨a4a, a4b⟩, hr14, hg14⟩
          have HM14 := Lib.hid (HM13.out.pick hr14 hg14)
          have hz14 := HM14.out.size
          clear HM13 hr14 hg14
          have y3 : IntKind.i64.wrap (a4 - 4) = a4 - 4 := IntWalk.i64_in _ (by omega)
          go_wp2_with fail
          refine (pick_any r _ 256 _ HM14.out.rd (by omega) (by omega) (by omega)).mono ?_
          rintro e w15 ⟨a5, rfl, ⟨a5a, a5b⟩, hr15, hg15⟩
          have HM15 := Lib.hid (HM14.out.pick hr15 hg15)
          have hz15 := HM15.out.size
          clear HM14 hr15 hg15
          go_wp2_with fail
          refine (pick_any r _ 256 _ HM15.out.rd (by omega) (by omega) (by omega)).mono ?_
          rintro e w16 ⟨a6, rfl, ⟨a6a, a6b⟩, hr16, hg16⟩
          have HM16 := Lib.hid (HM15.out.pick hr16 hg16)
          have hz16 := HM16.out.size
          clear HM15 hr16 hg16
          have y4 : IntKind.i64.wrap (-a6) = -a6 := IntWalk.i64_in _ (by omega)
          go_wp2_with fail
          refine (pick_any r _ 7 _ ((HM16.out.alloc (.cells #[.int .i64 (a4 - 4), .int .i64 0, .int .i64 a5, .int .i64 (-a6)] 3)).alloc (.cells #[.int .i64 0, .int .i64 0, .int .i64 0, .int .i64 1, .int .i64 1, .int .i64 2, .int .i64 3] 3)).rd (by omega) (by omega) (by omega)).mono ?_
          rintro e w17 ⟨a7, rfl, ⟨a7a, a7b⟩, hr17, hg17⟩
          have HM17 := Lib.hid (((HM16.out.alloc (.cells #[.int .i64 (a4 - 4), .int .i64 0, .int .i64 a5, .int .i64 (-a6)] 3)).alloc (.cells #[.int .i64 0, .int .i64 0, .int .i64 0, .int .i64 1, .int .i64 1, .int .i64 2, .int .i64 3] 3)).pick hr17 hg17)
          have hz17 := HM17.out.size
          have hK1 : Blk w17 (w16.heap.size) 3 (nums .i64 [a4 - 4, 0, a5, -a6]).toArray := by
            have h := ((Blk.new w16 3 (nums .i64 [a4 - 4, 0, a5, -a6]).toArray).alloc (.cells #[.int .i64 0, .int .i64 0, .int .i64 0, .int .i64 1, .int .i64 1, .int .i64 2, .int .i64 3] 3)).grown hg17 (by simp; omega)
            simpa using h
          have hK2 : Blk w17 (w16.heap.size + 1) 3 (nums .i64 [0, 0, 0, 1, 1, 2, 3]).toArray := by
            have h := (Blk.new (w16.alloc (.cells #[.int .i64 (a4 - 4), .int .i64 0, .int .i64 a5, .int .i64 (-a6)] 3)) 3 (nums .i64 [0, 0, 0, 1, 1, 2, 3]).toArray).grown hg17 (by simp; omega)
            simpa using h
          clear HM16 hr17 hg17
          obtain ⟨ix, hix, hc1⟩ := lit_at hK2 a7a (by simp; omega)
          have hixb : 0 ≤ ix ∧ ix ≤ 3 := by simp at hix; omega
          obtain ⟨hix0, hix1⟩ := hixb
          obtain ⟨ad, had, hc2⟩ := lit_at hK1 hix0 (by simp; omega)
          have hix4 : ix < 4 := by omega
          clear hix had hK1 hK2
          obtain ⟨f, hf⟩ : ∃ f : Fix, f = ⟨at_ + a1, 1 + a2, a3, ad⟩ := ⟨_, rfl⟩
          have HMf := Lib.hid (HM17.out.alloc (.cells #[.int .i64 (at_ + a1), .int .i64 (1 + a2), .int .i64 a3, .int .i64 ad] 107))
          have HBf : Hid (Blk (w17.alloc (.cells #[.int .i64 (at_ + a1), .int .i64 (1 + a2), .int .i64 a3, .int .i64 ad] 107)) w17.heap.size 107 f.cells.toArray) := by subst hf; exact Blk.new _ _ _
          have hfb : 0 ≤ f.pos ∧ f.pos ≤ 17 := by subst hf; simp only; omega
          have hbl := HGX.out.2.1
          have HAP : Hid (∀ a, x.fixupsA = some a → a.block ≠ w17.heap.size) := fun a ha => by have := (own_up HM17.out.own.2 a ha).2; omega
          have hgf7 : g7 < w17.heap.size := HM17.out.size.2.2.1
          clear HM17
          go_upto_region 10 with fail
          clear y1 y2 y3 y4 hc1 hc2 hf
          obtain ⟨gf, hgf⟩ : ∃ gf, gf = w17.heap.size := ⟨_, rfl⟩
          rw [← hgf] at HBf HAP hgf7 ⊢
          generalize w17.alloc _ = wA at HMf HBf ⊢
          clear hgf
          have hwd := wideOf_bd f.kind
          have yw : IntKind.i64.wrap (f.pos + wideOf f.kind) = f.pos + wideOf f.kind := IntWalk.i64_in _ (by omega)
          refine wp_region_facts (fun i v _ => match i with
              | 0 => v = .pointer (some ⟨gf, 0, none⟩)
              | 1 => v = .int .i64 f.pos
              | 2 => v = .pointer (some ⟨gf, 1, none⟩)
              | 3 => v = .int .i64 f.kind
              | 4 => v = .int .i64 (wideOf f.kind)
              | 5 => v = .int .i64 (f.pos + wideOf f.kind)
              | 6 => v = .pointer (some ⟨g7, 3, none⟩)
              | 7 => v = .slice x.bytesA x.bytes.length x.bytesc
              | 8 => v = .int .i64 (x.bytes.length : Int)
              | _ => v = .bool (decide ((x.bytes.length : Int) < f.pos + wideOf f.kind)))
            (fun _ _ wq => SecMem w r (q + 1 + 1 + 1 + 1 + 1 + 1 + 1) w.heap.size g7 x x wq ∧ Blk wq gf 107 f.cells.toArray) (fun _ _ => True) (by kernel_rfl) (by kernel_rfl) ?_ ?_ ?_ ?_
          · intro i v u u2 _ h
            exact h
          · intro fl _ _
            exact ⟨HMf.out.drewN 1, HBf.out.drewN 1⟩
          · refine ⟨?_, ?_, ?_, ?_, ?_, ?_, ?_, ?_, ?_, ?_, trivial⟩
            all_goals intro fl vs wr a1 hc hG hfi hcl hp K hK
            · have e1 : a1.eval (.tmp 10) = .pointer (some ⟨gf, 0, none⟩) := hc.ev0 10 rfl
              unfold Oper.wp execOp
              simp only [e1]
              go_simp
              exact hK _ _ trivial rfl hG
            · have e1 := hc.ev 74 0 rfl
              rw [show vs 0 = _ from (hp 0 (by kernel_rfl)).2] at e1
              have ec : wr.cell? ⟨gf, 0, none⟩ = some (.int .i64 f.pos) := hG.2.cell 0
              unfold Oper.wp execOp
              simp only [e1]
              go_simp
              exact hK _ _ trivial rfl hG
            · have e1 : a1.eval (.tmp 10) = .pointer (some ⟨gf, 0, none⟩) := hc.ev0 10 rfl
              unfold Oper.wp execOp
              simp only [e1]
              go_simp
              exact hK _ _ trivial rfl hG
            · have e1 := hc.ev 76 2 rfl
              rw [show vs 2 = _ from (hp 2 (by kernel_rfl)).2] at e1
              have ec : wr.cell? ⟨gf, 1, none⟩ = some (.int .i64 f.kind) := hG.2.cell 1
              unfold Oper.wp execOp
              simp only [e1]
              go_simp
              exact hK _ _ trivial rfl hG
            · have e1 := hc.ev 77 3 rfl
              rw [show vs 3 = _ from (hp 3 (by kernel_rfl)).2] at e1
              refine op_call rfl (vs := #[.int .i64 f.kind]) (by simp only [List.map_toArray, List.map_cons, List.map_nil, e1]) (by kernel_rfl) (specWide_any f.kind wr) ?_
              rintro e w' ⟨rfl, hb⟩
              exact ⟨_, rfl, hK _ _ trivial rfl ⟨hG.1.below hb, hG.2.below hb hG.2.lt⟩⟩
            · have e1 := hc.ev 75 1 rfl
              rw [show vs 1 = _ from (hp 1 (by kernel_rfl)).2] at e1
              have e2 := hc.ev 78 4 rfl
              rw [show vs 4 = _ from (hp 4 (by kernel_rfl)).2] at e2
              unfold Oper.wp execOp
              simp only [e1, e2]
              go_simp
              exact hK _ _ trivial rfl hG
            · have e1 : a1.eval (.tmp 7) = .pointer (some ⟨g7, 0, none⟩) := hc.ev0 7 rfl
              unfold Oper.wp execOp
              simp only [e1]
              go_simp
              exact hK _ _ trivial rfl hG
            · have e1 := hc.ev 80 6 rfl
              rw [show vs 6 = _ from (hp 6 (by kernel_rfl)).2] at e1
              have ec : wr.cell? ⟨g7, 3, none⟩ = some (.slice x.bytesA x.bytes.length x.bytesc) := hG.1.cells 3
              unfold Oper.wp execOp
              simp only [e1]
              go_simp
              exact hK _ _ trivial rfl hG
            · have e1 := hc.ev 81 7 rfl
              rw [show vs 7 = _ from (hp 7 (by kernel_rfl)).2] at e1
              unfold Oper.wp execOp
              simp only [resolve, invoke, builtin, Sem.run_bind, Sem.run_pure, Result.andThen_ok, List.map_toArray, List.map_cons, List.map_nil, e1]
              go_simp
              exact hK _ _ trivial rfl hG
            · have e1 := hc.ev 79 5 rfl
              rw [show vs 5 = _ from (hp 5 (by kernel_rfl)).2] at e1
              have e2 := hc.ev 82 8 rfl
              rw [show vs 8 = _ from (hp 8 (by kernel_rfl)).2] at e2
              unfold Oper.wp execOp
              simp only [e1, e2]
              go_simp
              exact hK _ _ trivial rfl hG
          · intro fl vs w9 hfl hG hF
            have h9 : vs 9 = _ := hF 9 (by simp)
            have HSB := Lib.hid hG.1
            have HBB := Lib.hid hG.2
            have hz9 := hG.1.size
            clear hG hF hfl HMf HBf
            by_cases hbr : (x.bytes.length : Int) < f.pos + wideOf f.kind
            · rw [decide_eq_true hbr] at h9
              simp only [fill]
              go_simp
              clear h9
              go_wp2
              go_meet
              case rel => exact ⟨x, _, HSB, by omega, HGX⟩
            · rw [decide_eq_false hbr] at h9
              have e5 : w9.cell? ⟨g7, 5, none⟩ = some (.slice x.fixupsA x.fixups.length x.fixupsc) := HSB.out.cells 5
              have d0 : w9.cell? ⟨gf, 0, none⟩ = some (.int .i64 f.pos) := HBB.out.cell 0
              have d1 : w9.cell? ⟨gf, 1, none⟩ = some (.int .i64 f.kind) := HBB.out.cell 1
              have d2 : w9.cell? ⟨gf, 2, none⟩ = some (.int .i64 f.to_) := HBB.out.cell 2
              have d3 : w9.cell? ⟨gf, 3, none⟩ = some (.int .i64 f.add_) := HBB.out.cell 3
              have hfl3 : x.fixups.length ≤ 3 := HGX.out.2.2.2.1
              have hwz9 := hz9.1
              simp only [fill]
              go_simp
              clear h9
              go_upto_region 12 with (at_builtin; refine wpList_push _ rfl (.tmp 85) (.tmp 87) _ rfl w.heap.size 107 i0 _ 4 32 Try.underlying78 hi0 hz0 hz1 hz2 rfl (by omega) (by omega) x.fixupsA x.fixups.length x.fixupsc 1 1 (x.fixups.flatMap Fix.cells) f.cells (by exact HSB.out.own.2.alloc _) rfl ⟨w9.heap.size, 0, none⟩ rfl rfl (World.news_of_block (cs := f.cells.toArray) (t := 107) (fr := (0, 0)) (by exact heap_alloc_new w9 _)) (by simp [Value.oneCell', Fix.cells]) (by omega) (by omega) (by simp; omega) ?_; intro A' c' w5 hown hgrow hat hkeep; have HP := Lib.hid ((HSB.out.alloc _).push hown hgrow); have HB5 := Lib.hid ((HBB.out.alloc _).grown hgrow (by cases hA : x.fixupsA with | none => simp | some a => have := HAP.out a hA; simp; omega)); have e55 : w5.cell? ⟨g7, 5, none⟩ = some (.slice x.fixupsA x.fixups.length x.fixupsc) := HP.out.cells 5; have f55 : w5.frozen? ⟨g7, 5, none⟩ = false := HP.out.free 5; clear hown hgrow hat hkeep)
              obtain ⟨x2, hx2⟩ : ∃ x2 : Sec, x2 = { x with fixups := x.fixups ++ [f], fixupsA := A', fixupsc := c' } := ⟨_, rfl⟩
              have HS2 : Hid (SecMem w r (q + 1 + 1 + 1 + 1 + 1 + 1 + 1) w.heap.size g7 x2 x2 (w5.setCell ⟨g7, 5, none⟩ (.slice A' (x.fixups.length + 1) c'))) := by
                rw [hx2]
                exact HP.out.put 5 (.slice A' (x.fixups.length + 1) c') _ _ (by simp [Sec.cells]) HP.out.own
              have HB2 : Hid (Blk (w5.setCell ⟨g7, 5, none⟩ (.slice A' (x.fixups.length + 1) c')) gf 107 f.cells.toArray) := HB5.out.far (by simp only [ne_eq]; omega) _
              have HGX2 : Hid (SecGood x2) := by
                obtain ⟨q1, q2, q3, q4, q5, q6⟩ := HGX.out
                have := HFX.out
                subst hx2
                exact ⟨q1, q2, q3, by simp; omega, q5, q6⟩
              have HFX2 : Hid (x2.fixups.length + (j - 1) ≤ 3) := by
                have := HFX.out
                subst hx2
                show (x.fixups ++ [f]).length + (j - 1) ≤ 3
                simp; omega
              clear HP HB5 e5 d0 d1 d2 d3 e55 f55 hx2 HSB HBB HGX HFX
              generalize w5.setCell _ _ = wB at HS2 HB2 ⊢
              refine wp_region_facts (fun i v _ => match i with
                  | 0 => v = .pointer (some ⟨gf, 0, none⟩)
                  | 1 => v = .int .i64 f.pos
                  | 2 => v = .pointer (some ⟨gf, 1, none⟩)
                  | 3 => v = .int .i64 f.kind
                  | 4 => v = .int .i64 (wideOf f.kind)
                  | 5 => v = .int .i64 (f.pos + wideOf f.kind)
                  | _ => v = .int .i64 (f.pos + wideOf f.kind))
                (fun _ _ wq => SecMem w r (q + 1 + 1 + 1 + 1 + 1 + 1 + 1) w.heap.size g7 x2 x2 wq ∧ Blk wq gf 107 f.cells.toArray) (fun _ _ => True) (by kernel_rfl) (by kernel_rfl) ?_ ?_ ?_ ?_
              · intro i v u u2 _ h
                exact h
              · intro fl _ _
                exact ⟨HS2.out.drewN 1, HB2.out.drewN 1⟩
              · refine ⟨?_, ?_, ?_, ?_, ?_, ?_, ?_, trivial⟩
                all_goals intro fl vs wr a1 hc hG hfi hcl hp K hK
                · have e1 : a1.eval (.tmp 10) = .pointer (some ⟨gf, 0, none⟩) := hc.ev0 10 rfl
                  unfold Oper.wp execOp
                  simp only [e1]
                  go_simp
                  exact hK _ _ trivial rfl hG
                · have e1 := hc.ev 90 0 rfl
                  rw [show vs 0 = _ from (hp 0 (by kernel_rfl)).2] at e1
                  have ec : wr.cell? ⟨gf, 0, none⟩ = some (.int .i64 f.pos) := hG.2.cell 0
                  unfold Oper.wp execOp
                  simp only [e1]
                  go_simp
                  exact hK _ _ trivial rfl hG
                · have e1 : a1.eval (.tmp 10) = .pointer (some ⟨gf, 0, none⟩) := hc.ev0 10 rfl
                  unfold Oper.wp execOp
                  simp only [e1]
                  go_simp
                  exact hK _ _ trivial rfl hG
                · have e1 := hc.ev 92 2 rfl
                  rw [show vs 2 = _ from (hp 2 (by kernel_rfl)).2] at e1
                  have ec : wr.cell? ⟨gf, 1, none⟩ = some (.int .i64 f.kind) := hG.2.cell 1
                  unfold Oper.wp execOp
                  simp only [e1]
                  go_simp
                  exact hK _ _ trivial rfl hG
                · have e1 := hc.ev 93 3 rfl
                  rw [show vs 3 = _ from (hp 3 (by kernel_rfl)).2] at e1
                  refine op_call rfl (vs := #[.int .i64 f.kind]) (by simp only [List.map_toArray, List.map_cons, List.map_nil, e1]) (by kernel_rfl) (specWide_any f.kind wr) ?_
                  rintro e w' ⟨rfl, hb⟩
                  exact ⟨_, rfl, hK _ _ trivial rfl ⟨hG.1.below hb, hG.2.below hb hG.2.lt⟩⟩
                · have e1 := hc.ev 91 1 rfl
                  rw [show vs 1 = _ from (hp 1 (by kernel_rfl)).2] at e1
                  have e2 := hc.ev 94 4 rfl
                  rw [show vs 4 = _ from (hp 4 (by kernel_rfl)).2] at e2
                  unfold Oper.wp execOp
                  simp only [e1, e2]
                  go_simp
                  exact hK _ _ trivial rfl hG
                · refine op_assign rfl ?_
                  rw [hc.ev 95 5 rfl]
                  exact hK _ _ trivial (hp 5 (by kernel_rfl)).2 hG
              · intro fl vs w9 hfl hG hF
                have h6 : vs 6 = _ := hF 6 (by simp)
                have HSE := Lib.hid hG.1
                clear hG hF hfl
                simp only [fill]
                go_simp
                clear h6
                go_wp2
                go_roundw
                case rel => exact ⟨f.pos + wideOf f.kind, j - 1, _, x2, rfl, by go_num, ⟨by omega, by omega⟩, by omega, by omega, HSE, HGX2, Lib.hid (by have := HFX2.out; omega)⟩
                case measure => simp [intOf]; omega
        · have hkey : (decide ((0 : Int) < (j : Int)) = false) ∨ (decide ((0 : Int) < (j : Int)) = true ∧ decide (0 < many) = false) := by
            by_cases h : 0 < j
            · exact .inr ⟨decide_eq_true (by omega), decide_eq_false (by omega)⟩
            · exact .inl (decide_eq_false (by omega))
          rcases hkey with h | ⟨h, h'⟩
          all_goals
            go_wp2
            all_goals
              go_meet
              case rel => exact ⟨x, q, HM10, by omega, HGX⟩
  case rest =>
    obtain ⟨x, q, HM, hq, HGX⟩ := hcut
    have HODD : Hid (Calls Try.prog 77 #[.pointer (some ⟨r, 0, none⟩), .int .i64 n] wc fun e w' => ∃ b : Bool, e = .returned (.bool b) ∧ (n = 0 → b = false) ∧ Rdr w' r (q + 1) ∧ wc.grownBy w' (some r)) := by
      rcases HNN.out with h | h
      · rw [h]
        refine (odd_zero r wc).mono ?_
        rintro e w' ⟨rfl, rfl⟩
        exact ⟨false, rfl, fun _ => rfl, HM.out.rd.more (by omega), grown_refl _ _⟩
      · rw [h]
        refine (odd_any r q 1 wc HM.out.rd (by omega) (by omega) (by omega)).mono ?_
        rintro e w' ⟨b, rfl, hr', hg'⟩
        exact ⟨b, rfl, fun h0 => by omega, hr', hg'⟩
    clear v2a v2b v3a v3b HX0
    go_wp2_with fail
    refine HODD.out.mono ?_
    rintro e w4 ⟨b, rfl, hb0, hr4, hg4⟩
    have HM4 := Lib.hid (HM.out.pick hr4 hg4)
    have HB0 := Lib.hid hb0
    clear HM hr4 hg4 hb0 HODD
    go_upto_if 98 with fail
    go_cut [] from 11 (fun wc => ∃ (x : Sec) (q : Nat), Hid (SecMem w r q w.heap.size g7 x x wc) ∧ q ≤ P + 90 ∧ Hid (SecEnd n x))
    case first =>
      cases b
      · go_wp2
        go_meet
        case rel => exact ⟨x, _, HM4, by omega, Lib.hid (HGX.out.end_ n)⟩
      · have hn0 : n ≠ 0 := fun h => by have := HB0.out h; cases this
        have HEX : Hid (SecEnd n x) := HGX.out.end_ n
        clear HB0 HNN
        go_wp2_with fail
        refine (pick_any r _ 6 _ HM4.out.rd (by omega) (by omega) (by omega)).mono ?_
        rintro e w5 ⟨v, rfl, ⟨va, vb⟩, hr5, hg5⟩
        have HM10' := Lib.hid (HM4.out.pick hr5 hg5)
        have hz5 := HM10'.out.size
        clear HM4 hr5 hg5
        have hvs : v = 0 ∨ v = 1 ∨ v = 2 ∨ v = 3 ∨ v = 4 ∨ v = 5 := by omega
        rcases hvs with rfl | rfl | rfl | rfl | rfl | rfl
        · go_wp2_with fail
          refine (l20Name_any r _ 1 _ HM10'.out.rd (by omega) (by omega) (by omega)).mono ?_
          rintro e w6 ⟨s, rfl, ⟨hs9, _⟩, hr6, hg6⟩
          have HM6 := Lib.hid (HM10'.out.pick hr6 hg6)
          clear HM10' hr6 hg6
          obtain ⟨ei, fi⟩ : w6.cell? ⟨g7, 0, none⟩ = some (Value.string x.name) ∧ w6.frozen? ⟨g7, 0, none⟩ = false := ⟨HM6.out.cells 0, HM6.out.free 0⟩
          have HF := Lib.hid (HM6.out.put 0 (.string s) { x with name := s } { x with name := s } rfl HM6.out.own)
          generalize Value.string x.name = old at ei
          clear HM6
          go_wp2
          go_meet
          case rel => exact ⟨_, _, HF, by omega, Lib.hid ⟨hs9, HEX.out.2.1, HEX.out.2.2.1, HEX.out.2.2.2.1, fun h => absurd h hn0⟩⟩
        · go_wp2_with fail
          refine (pick_any r _ 2 _ (HM10'.out.alloc _).rd (by omega) (by omega) (by omega)).mono ?_
          rintro e w6 ⟨u, rfl, ⟨ua, ub⟩, hr6, hg6⟩
          have HM6 := Lib.hid ((HM10'.out.alloc (.cells #[.int .i64 0, .int .i64 4] 3)).pick hr6 hg6)
          have hK : Blk w6 w5.heap.size 3 (nums .i64 [0, 4]).toArray := (Blk.new w5 3 (nums .i64 [0, 4]).toArray).grown hg6 (by simp; omega)
          obtain ⟨sz, hsz, hc⟩ := lit_at hK ua (by simp; omega)
          clear hK hsz HM10' hr6 hg6
          obtain ⟨ei, fi⟩ : w6.cell? ⟨g7, 1, none⟩ = some (Value.int .i64 x.kind) ∧ w6.frozen? ⟨g7, 1, none⟩ = false := ⟨HM6.out.cells 1, HM6.out.free 1⟩
          have HF := Lib.hid (HM6.out.put 1 (.int .i64 sz) { x with kind := sz } { x with kind := sz } rfl HM6.out.own)
          generalize Value.int .i64 x.kind = old at ei
          clear HM6
          go_wp2
          go_meet
          case rel => exact ⟨_, _, HF, by omega, Lib.hid ⟨HEX.out.1, HEX.out.2.1, HEX.out.2.2.1, HEX.out.2.2.2.1, fun h => absurd h hn0⟩⟩
        · go_wp2_with fail
          refine (pick_any r _ 3 _ (HM10'.out.alloc _).rd (by omega) (by omega) (by omega)).mono ?_
          rintro e w6 ⟨u, rfl, ⟨ua, ub⟩, hr6, hg6⟩
          have HM6 := Lib.hid ((HM10'.out.alloc (.cells #[.int .i64 0, .int .i64 3, .int .i64 16] 3)).pick hr6 hg6)
          have hK : Blk w6 w5.heap.size 3 (nums .i64 [0, 3, 16]).toArray := (Blk.new w5 3 (nums .i64 [0, 3, 16]).toArray).grown hg6 (by simp; omega)
          obtain ⟨sz, hsz, hc⟩ := lit_at hK ua (by simp; omega)
          clear hK hsz HM10' hr6 hg6
          obtain ⟨ei, fi⟩ : w6.cell? ⟨g7, 2, none⟩ = some (Value.int .i64 x.align) ∧ w6.frozen? ⟨g7, 2, none⟩ = false := ⟨HM6.out.cells 2, HM6.out.free 2⟩
          have HF := Lib.hid (HM6.out.put 2 (.int .i64 sz) { x with align := sz } { x with align := sz } rfl HM6.out.own)
          generalize Value.int .i64 x.align = old at ei
          clear HM6
          go_wp2
          go_meet
          case rel => exact ⟨_, _, HF, by omega, Lib.hid ⟨HEX.out.1, HEX.out.2.1, HEX.out.2.2.1, HEX.out.2.2.2.1, fun h => absurd h hn0⟩⟩
        · go_wp2_with fail
          refine (pick_any r _ 2 _ (HM10'.out.alloc _).rd (by omega) (by omega) (by omega)).mono ?_
          rintro e w6 ⟨u, rfl, ⟨ua, ub⟩, hr6, hg6⟩
          have HM6 := Lib.hid ((HM10'.out.alloc (.cells #[.int .i64 (-1), .int .i64 49] 3)).pick hr6 hg6)
          have hK : Blk w6 w5.heap.size 3 (nums .i64 [-1, 49]).toArray := (Blk.new w5 3 (nums .i64 [-1, 49]).toArray).grown hg6 (by simp; omega)
          obtain ⟨sz, hsz, hc⟩ := lit_at hK ua (by simp; omega)
          clear hK hsz HM10' hr6 hg6
          obtain ⟨ei, fi⟩ : w6.cell? ⟨g7, 4, none⟩ = some (Value.int .i64 x.size) ∧ w6.frozen? ⟨g7, 4, none⟩ = false := ⟨HM6.out.cells 4, HM6.out.free 4⟩
          have HF := Lib.hid (HM6.out.put 4 (.int .i64 sz) { x with size := sz } { x with size := sz } rfl HM6.out.own)
          generalize Value.int .i64 x.size = old at ei
          clear HM6
          go_wp2
          go_meet
          case rel => exact ⟨_, _, HF, by omega, Lib.hid ⟨HEX.out.1, HEX.out.2.1, HEX.out.2.2.1, HEX.out.2.2.2.1, fun h => absurd h hn0⟩⟩
        · have HFA : Hid (∀ a, x.fixupsA = some a → a.block < w5.heap.size) := fun a ha => (own_up HM10'.out.own.2 a ha).2
          go_wp2
          refine wp_region_facts (fun i v w => match i with
              | 0 => v = .pointer (some ⟨g7, 5, none⟩)
              | 1 => v = .slice x.fixupsA x.fixups.length x.fixupsc
              | 2 => IsInt 0 1000 v
              | 3 => LitI (fun b => b ≠ r ∧ b ≠ g7 ∧ some b ≠ x.fixupsA.map (·.block)) 3 (-1) (1000) v w
              | 4 => v = .pointer (some ⟨r, 0, none⟩)
              | 5 => IsInt 0 (3 - 1) v
              | 6 => AdI (fun b => b ≠ r ∧ b ≠ g7 ∧ some b ≠ x.fixupsA.map (·.block)) (-1) (1000) v w
              | 7 => IsInt (-1) (1000) v
              | 8 => LitI (fun b => b ≠ r ∧ b ≠ g7 ∧ some b ≠ x.fixupsA.map (·.block)) 2 (0) (1001) v w
              | 9 => v = .pointer (some ⟨r, 0, none⟩)
              | 10 => IsInt 0 (2 - 1) v
              | 11 => AdI (fun b => b ≠ r ∧ b ≠ g7 ∧ some b ≠ x.fixupsA.map (·.block)) (0) (1001) v w
              | 12 => IsInt (0) (1001) v
              | 13 => (∃ a b : Int, v = .agg #[.int .i64 0, .int .i64 1, .int .i64 a, .int .i64 b])
              | 14 => (∃ (gl : Nat) (f : Fix), v = .slice (some ⟨gl, 0, none⟩) 1 1 ∧ (fun b => b ≠ r ∧ b ≠ g7 ∧ some b ≠ x.fixupsA.map (·.block)) gl ∧ Blk w gl 107 f.cells.toArray)
              | 15 => True
              | 16 => v = .pointer (some ⟨g7, 5, none⟩)
              | _ => True)
            (fun fl vs wq => w5.heap.size ≤ wq.heap.size ∧ ∃ xs ys : Sec, SecMem w r ((q + 1 + 1) + (b1 (fl 5) 1 + b1 (fl 10) 1)) w.heap.size g7 xs ys wq ∧ (fl 15 = false → xs = x ∧ ys = x) ∧ (fl 15 = true → ∃ (A' : Option Addr) (c' : Nat) (f : Fix), vs 15 = .slice A' (x.fixups.length + 1) c' ∧ ys = { x with fixups := x.fixups ++ [f], fixupsA := A', fixupsc := c' } ∧ (fl 17 = false → xs = x) ∧ (fl 17 = true → xs = ys))) (Keeps (fun b => b ≠ r ∧ b ≠ g7 ∧ some b ≠ x.fixupsA.map (·.block))) (by kernel_rfl) (by kernel_rfl) ?_ ?_ ?_ ?_
          · intro i v u u2 hk h
            match i, h with
            | 0, h => exact h
            | 1, h => exact h
            | 2, h => exact h
            | 3, h => exact h.keeps hk
            | 4, h => exact h
            | 5, h => exact h
            | 6, h => exact h.keeps hk
            | 7, h => exact h
            | 8, h => exact h.keeps hk
            | 9, h => exact h
            | 10, h => exact h
            | 11, h => exact h.keeps hk
            | 12, h => exact h
            | 13, h => exact h
            | 14, h => exact let ⟨gl, f, h1, h2, h3⟩ := h; ⟨gl, f, h1, h2, h3.keeps hk h2⟩
            | 15, h => trivial
            | 16, h => exact h
            | _ + 17, h => trivial
          · intro fl vs hfl
            have hG0 : SecMem w r (q + 1 + 1) w.heap.size g7 x x w5.drew := HM10'.out.drewN 1
            have hf15 : fl 15 = false := hfl 15 (by simp)
            exact ⟨Nat.le_refl _, x, x, by simpa [hfl, b1_false] using hG0, fun _ => ⟨rfl, rfl⟩, fun h => by rw [hf15] at h; cases h⟩
          · refine ⟨?_, ?_, ?_, ?_, ?_, ?_, ?_, ?_, ?_, ?_, ?_, ?_, ?_, ?_, ?_, ?_, ?_, ?_, trivial⟩
            all_goals intro fl vs wr a1 hc hG hfi hcl hp K hK
            · obtain ⟨hZ, xs, ys, hS, hA, hB⟩ := hG
              have e1 : a1.eval (.tmp 7) = .pointer (some ⟨g7, 0, none⟩) := hc.ev0 7 rfl
              unfold Oper.wp execOp
              simp only [e1]
              go_simp
              exact hK _ _ (Keeps.refl _ _) rfl ⟨hZ, xs, ys, by simpa [upd] using hS, by simpa [upd] using hA, by simpa [upd] using hB⟩
            · obtain ⟨hZ, xs, ys, hS, hA, hB⟩ := hG
              have n15 : fl 15 = false := by cases h : fl 15 with
                | false => rfl
                | true => have := hcl 15 1 (by kernel_rfl) h; rw [show fl 1 = false from hfi] at this; cases this
              obtain ⟨hx1, hx2⟩ := hA n15
              have e1 := hc.ev 134 0 rfl
              rw [show vs 0 = _ from (hp 0 (by kernel_rfl)).2] at e1
              have ec : wr.cell? ⟨g7, 5, none⟩ = some (.slice x.fixupsA x.fixups.length x.fixupsc) := by have := hS.cells 5; rw [hx1] at this; exact this
              clear hx1 hx2
              unfold Oper.wp execOp
              simp only [e1]
              go_simp
              exact hK _ _ (Keeps.refl _ _) rfl ⟨hZ, xs, ys, by simpa [upd] using hS, by simpa [upd] using hA, by simpa [upd] using hB⟩
            · obtain ⟨hZ, xs, ys, hS, hA, hB⟩ := hG
              refine op_move rfl ?_
              rw [hc.ev0 _ rfl]
              exact hK _ _ (Keeps.refl _ _) ⟨many, rfl, hm0, hm⟩ ⟨hZ, xs, ys, by simpa [upd] using hS, by simpa [upd] using hA, by simpa [upd] using hB⟩
            · obtain ⟨hZ, xs, ys, hS, hA, hB⟩ := hG
              obtain ⟨x2, hx2, xa2, xb2⟩ := (hp 2 (by kernel_rfl)).2
              have e2 := hc.ev 136 2 rfl
              rw [hx2] at e2
              unfold Oper.wp execOp
              simp only [e2, List.map_toArray, List.map_cons, List.map_nil]
              go_simp
              exact hK _ _ (Keeps.alloc _ _ _) ⟨_, [0, -1, x2], rfl, ⟨by omega, by omega, fun e => by cases hA2 : x.fixupsA with | none => rw [hA2] at e; cases e | some a => rw [hA2] at e; have := HFA.out a hA2; simp at e; omega⟩, rfl, by intro y hy; simp at hy; omega, Blk.new _ _ _⟩ ⟨by simp; omega, xs, ys, by simpa [upd] using hS.alloc _, by simpa [upd] using hA, by simpa [upd] using hB⟩
            · obtain ⟨hZ, xs, ys, hS, hA, hB⟩ := hG
              refine op_move rfl ?_
              rw [hc.ev0 _ rfl]
              exact hK _ _ (Keeps.refl _ _) rfl ⟨hZ, xs, ys, by simpa [upd] using hS, by simpa [upd] using hA, by simpa [upd] using hB⟩
            · obtain ⟨hZ, xs, ys, hS, hA, hB⟩ := hG
              have hfi2 : fl 5 = false := hfi
              have hcnt0 := b1_le (fl 5) 1
              have hcnt1 := b1_le (fl 10) 1
              have e1 := hc.ev 138 4 rfl
              rw [show vs 4 = _ from (hp 4 (by kernel_rfl)).2] at e1
              refine op_pick rfl e1 rfl hS.rd (by omega) (by omega) (by omega) ?_
              intro v w9 va vb hr9 hg9
              exact hK _ _ (Keeps.grown hg9 (by simp)) ⟨v, rfl, va, vb⟩ ⟨Nat.le_trans hZ hg9.size, xs, ys, (hS.pick hr9 hg9).moreq (by simp [upd, b1_true, b1_false, hfi2] <;> omega), by simpa [upd] using hA, by simpa [upd] using hB⟩
            · obtain ⟨hZ, xs, ys, hS, hA, hB⟩ := hG
              obtain ⟨x, hx, xa, xb⟩ := (hp 5 (by kernel_rfl)).2
              have hx2 : x < 3 := by omega
              obtain ⟨g, hg, hget⟩ := LitI.get (hp 3 (by kernel_rfl)).2 xa (by omega)
              have e1 := hc.ev 137 3 rfl
              rw [hg] at e1
              have e2 := hc.ev 139 5 rfl
              rw [hx] at e2
              unfold Oper.wp execOp
              simp only [e1, e2]
              go_simp
              exact hK _ _ (Keeps.refl _ _) hget ⟨hZ, xs, ys, by simpa [upd] using hS, by simpa [upd] using hA, by simpa [upd] using hB⟩
            · obtain ⟨hZ, xs, ys, hS, hA, hB⟩ := hG
              obtain ⟨b, o, x, hv, hb, hcx, xa, xb⟩ := (hp 6 (by kernel_rfl)).2
              have e1 := hc.ev 140 6 rfl
              rw [hv] at e1
              unfold Oper.wp execOp
              simp only [e1]
              go_simp
              exact hK _ _ (Keeps.refl _ _) ⟨x, rfl, xa, xb⟩ ⟨hZ, xs, ys, by simpa [upd] using hS, by simpa [upd] using hA, by simpa [upd] using hB⟩
            · obtain ⟨hZ, xs, ys, hS, hA, hB⟩ := hG
              go_simp
              exact hK _ _ (Keeps.alloc _ _ _) ⟨_, [0, 1001], rfl, ⟨by omega, by omega, fun e => by cases hA2 : x.fixupsA with | none => rw [hA2] at e; cases e | some a => rw [hA2] at e; have := HFA.out a hA2; simp at e; omega⟩, rfl, by intro y hy; simp at hy; omega, Blk.new _ _ _⟩ ⟨by simp; omega, xs, ys, by simpa [upd] using hS.alloc _, by simpa [upd] using hA, by simpa [upd] using hB⟩
            · obtain ⟨hZ, xs, ys, hS, hA, hB⟩ := hG
              refine op_move rfl ?_
              rw [hc.ev0 _ rfl]
              exact hK _ _ (Keeps.refl _ _) rfl ⟨hZ, xs, ys, by simpa [upd] using hS, by simpa [upd] using hA, by simpa [upd] using hB⟩
            · obtain ⟨hZ, xs, ys, hS, hA, hB⟩ := hG
              have hfi2 : fl 10 = false := hfi
              have hcnt0 := b1_le (fl 5) 1
              have hcnt1 := b1_le (fl 10) 1
              have e1 := hc.ev 143 9 rfl
              rw [show vs 9 = _ from (hp 9 (by kernel_rfl)).2] at e1
              refine op_pick rfl e1 rfl hS.rd (by omega) (by omega) (by omega) ?_
              intro v w9 va vb hr9 hg9
              exact hK _ _ (Keeps.grown hg9 (by simp)) ⟨v, rfl, va, vb⟩ ⟨Nat.le_trans hZ hg9.size, xs, ys, (hS.pick hr9 hg9).moreq (by simp [upd, b1_true, b1_false, hfi2] <;> omega), by simpa [upd] using hA, by simpa [upd] using hB⟩
            · obtain ⟨hZ, xs, ys, hS, hA, hB⟩ := hG
              obtain ⟨x, hx, xa, xb⟩ := (hp 10 (by kernel_rfl)).2
              have hx2 : x < 2 := by omega
              obtain ⟨g, hg, hget⟩ := LitI.get (hp 8 (by kernel_rfl)).2 xa (by omega)
              have e1 := hc.ev 142 8 rfl
              rw [hg] at e1
              have e2 := hc.ev 144 10 rfl
              rw [hx] at e2
              unfold Oper.wp execOp
              simp only [e1, e2]
              go_simp
              exact hK _ _ (Keeps.refl _ _) hget ⟨hZ, xs, ys, by simpa [upd] using hS, by simpa [upd] using hA, by simpa [upd] using hB⟩
            · obtain ⟨hZ, xs, ys, hS, hA, hB⟩ := hG
              obtain ⟨b, o, x, hv, hb, hcx, xa, xb⟩ := (hp 11 (by kernel_rfl)).2
              have e1 := hc.ev 145 11 rfl
              rw [hv] at e1
              unfold Oper.wp execOp
              simp only [e1]
              go_simp
              exact hK _ _ (Keeps.refl _ _) ⟨x, rfl, xa, xb⟩ ⟨hZ, xs, ys, by simpa [upd] using hS, by simpa [upd] using hA, by simpa [upd] using hB⟩
            · obtain ⟨hZ, xs, ys, hS, hA, hB⟩ := hG
              obtain ⟨u, hu, _, _⟩ := (hp 7 (by kernel_rfl)).2
              obtain ⟨u2, hu2, _, _⟩ := (hp 12 (by kernel_rfl)).2
              have e1 := hc.ev 141 7 rfl
              have e2 := hc.ev 146 12 rfl
              rw [hu] at e1
              rw [hu2] at e2
              unfold Oper.wp execOp
              simp only [e1, e2, List.map_toArray, List.map_cons, List.map_nil]
              go_simp
              exact hK _ _ (Keeps.refl _ _) ⟨u, u2, rfl⟩ ⟨hZ, xs, ys, by simpa [upd] using hS, by simpa [upd] using hA, by simpa [upd] using hB⟩
            · obtain ⟨hZ, xs, ys, hS, hA, hB⟩ := hG
              obtain ⟨u, u2, hu⟩ := (hp 13 (by kernel_rfl)).2
              have e1 := hc.ev 147 13 rfl
              rw [hu] at e1
              unfold Oper.wp execOp
              simp only [e1, List.map_toArray, List.map_cons, List.map_nil]
              go_simp
              exact hK _ _ (Keeps.alloc _ _ _) ⟨_, ⟨0, 1, u, u2⟩, rfl, ⟨by omega, by omega, fun e => by cases hA2 : x.fixupsA with | none => rw [hA2] at e; cases e | some a => rw [hA2] at e; have := HFA.out a hA2; simp at e; omega⟩, Blk.new _ _ _⟩ ⟨by simp; omega, xs, ys, by simpa [upd] using hS.alloc _, by simpa [upd] using hA, by simpa [upd] using hB⟩
            · obtain ⟨hZ, xs, ys, hS, hA, hB⟩ := hG
              have hfi2 : fl 15 = false := hfi
              have n17 : fl 17 = false := by cases h : fl 17 with
                | false => rfl
                | true => have := hcl 17 15 (by kernel_rfl) h; rw [hfi2] at this; cases this
              have hfx5 : x.fixups.length ≤ 5 := HEX.out.2.2.2.1
              obtain ⟨hx1, hx2⟩ := hA hfi2
              subst hx1 hx2
              obtain ⟨gl, f, hu, hok, hbl⟩ := (hp 14 (by kernel_rfl)).2
              have e1 := hc.ev 135 1 rfl
              rw [show vs 1 = _ from (hp 1 (by kernel_rfl)).2] at e1
              have e2 := hc.ev 148 14 rfl
              rw [hu] at e2
              refine op_push (.tmp 135) (.tmp 148) _ rfl w.heap.size 107 i0 _ 4 32 Try.underlying78 hi0 hz0 hz1 hz2 rfl (by omega) (by omega) ys.fixupsA ys.fixups.length ys.fixupsc 1 1 (ys.fixups.flatMap Fix.cells) f.cells hS.own.2 e1 ⟨gl, 0, none⟩ e2 rfl (World.news_of_block (cs := f.cells.toArray) (t := 107) (fr := (0, 0)) hbl) (by simp [Value.oneCell', Fix.cells]) (by omega) (by omega) hS.size.1 ?_
              intro A' c' w6 ho hg hat hkeep
              refine hK _ _ (Keeps.grown hg (fun k hk2 hok2 => hok2.2.2 hk2.symm)) trivial ⟨Nat.le_trans hZ hg.size, ys, _, by simpa [upd] using hS.push ho hg, fun h => by simp [upd] at h, fun _ => ⟨A', c', f, by simp [upd], rfl, fun _ => rfl, fun h => by simp [upd, n17] at h⟩⟩
            · obtain ⟨hZ, xs, ys, hS, hA, hB⟩ := hG
              have e1 : a1.eval (.tmp 7) = .pointer (some ⟨g7, 0, none⟩) := hc.ev0 7 rfl
              unfold Oper.wp execOp
              simp only [e1]
              go_simp
              exact hK _ _ (Keeps.refl _ _) rfl ⟨hZ, xs, ys, by simpa [upd] using hS, by simpa [upd] using hA, by simpa [upd] using hB⟩
            · obtain ⟨hZ, xs, ys, hS, hA, hB⟩ := hG
              have hfi2 : fl 17 = false := hfi
              obtain ⟨A', c', f, hv, hy, hx1, _⟩ := hB (hp 15 (by kernel_rfl)).1
              have hx2 := hx1 hfi2
              subst hx2
              have e1 := hc.ev 150 16 rfl
              rw [show vs 16 = _ from (hp 16 (by kernel_rfl)).2] at e1
              have e2 := hc.ev 149 15 rfl
              rw [hv] at e2
              have ec : wr.cell? ⟨g7, 5, none⟩ = some (.slice xs.fixupsA xs.fixups.length xs.fixupsc) := hS.cells 5
              have ef : wr.frozen? ⟨g7, 5, none⟩ = false := hS.free 5
              have HP := Lib.hid (hS.put 5 (.slice A' (xs.fixups.length + 1) c') ys ys (by rw [hy]; simp [Sec.cells]) hS.own)
              unfold Oper.wp execOp
              simp only [e1, e2]
              go_simp
              exact hK undef _ (Keeps.set_ (fun h => h.2.1 rfl) _) trivial ⟨by simp; omega, ys, ys, by simpa [upd] using HP.out, fun h => by simp [upd, (hp 15 (by kernel_rfl)).1] at h, fun _ => ⟨A', c', f, by simpa [upd] using hv, hy, fun h => by simp [upd] at h, fun _ => rfl⟩⟩
          · intro fl vs w9 hfl hG hF
            obtain ⟨hZ, xs, ys, hS, hA, hB⟩ := hG
            obtain ⟨A', c', f, hv, hy, _, hx1⟩ := hB (hfl 15 (by simp))
            have hx2 := hx1 (hfl 17 (by simp))
            subst hx2
            have hq9 : q + 1 + 1 + (b1 (fl 5) 1 + b1 (fl 10) 1) ≤ P + 90 := by
              have hc0 := b1_le (fl 5) 1
              have hc1 := b1_le (fl 10) 1
              omega
            have HF : Hid (SecMem w r (P + 90) w.heap.size g7 xs xs w9) := hS.moreq hq9
            have HEE : Hid (SecEnd n xs) := by
              subst hy
              exact ⟨HEX.out.1, HEX.out.2.1, HEX.out.2.2.1, by have := HGX.out.2.2.2.1; simp; omega, fun h => absurd h hn0⟩
            clear hS hA hB hv hy hF hfl hZ hx1 hq9
            simp only [fill]
            go_simp
            go_wp2
            go_meet
            case rel => exact ⟨xs, P + 90, HF, Nat.le_refl _, HEE⟩
        · have hmk : ∀ w : World, (Instr.makeSlice 22 (.int .i64 49) (.int .i64 49)).run Try.prog w = .ok (.slice (some ⟨w.heap.size, 0, none⟩) 49 49) (w.alloc (.cells (nums .u8 (List.replicate 49 0)).toArray 5)) := fun _ => by kernel_rfl
          have HOB : Hid ((w5.alloc (.cells (nums .u8 (List.replicate 49 0)).toArray 5)).ownsRow w.heap.size 5 1 (.slice (some ⟨w5.heap.size, 0, none⟩) 49 49) 49 (nums .u8 (List.replicate 49 0))) := World.ownsRow_lit (base := w.heap.size) (e := 5) (size := 1) w5 (nums .u8 (List.replicate 49 0)).toArray 49 hz5.1 (by unfold maxLen; omega) (by simp [nums])
          have HM6 := Lib.hid (HM10'.out.alloc (.cells (nums .u8 (List.replicate 49 0)).toArray 5))
          obtain ⟨bz, hbz⟩ : ∃ bz : List Int, bz = List.replicate 49 0 := ⟨_, rfl⟩
          have HBZ : Hid (bz.length = 49 ∧ isB bz) := by
            rw [hbz]
            exact ⟨by simp, fun y hy => by have := List.eq_of_mem_replicate hy; omega⟩
          rw [← hbz] at hmk HOB HM6
          clear hbz HM10'
          obtain ⟨ei, fi⟩ : (w5.alloc (.cells (nums .u8 bz).toArray 5)).cell? ⟨g7, 3, none⟩ = some (.slice x.bytesA x.bytes.length x.bytesc) ∧ (w5.alloc (.cells (nums .u8 bz).toArray 5)).frozen? ⟨g7, 3, none⟩ = false := ⟨HM6.out.cells 3, HM6.out.free 3⟩
          have HF := Lib.hid (HM6.out.put 3 (.slice (some ⟨w5.heap.size, 0, none⟩) 49 49) { x with bytes := bz, bytesA := some ⟨w5.heap.size, 0, none⟩, bytesc := 49 } { x with bytes := bz, bytesA := some ⟨w5.heap.size, 0, none⟩, bytesc := 49 } (by simp [Sec.cells, HBZ.out.1]) ⟨by rw [HBZ.out.1]; exact HOB.out, HM6.out.own.2⟩)
          rw [World.setCell_alloc_past _ _ _ _ (by omega)] at HF
          clear HOB HM6
          go_wp2
          go_meet
          case rel => exact ⟨{ x with bytes := bz, bytesA := some ⟨w5.heap.size, 0, none⟩, bytesc := 49 }, q + 1 + 1, HF, by omega, Lib.hid ⟨HEX.out.1, by simp only; have := HBZ.out.1; omega, HBZ.out.2, HEX.out.2.2.2.1, fun h => absurd h hn0⟩⟩
    case rest =>
      clear HM4
      obtain ⟨x, q, HM, hq, HE⟩ := hcut
      have e0 : wc.cell? ⟨g7, 0, none⟩ = some (.string x.name) := HM.out.cells 0
      have e1 : wc.cell? ⟨g7, 1, none⟩ = some (.int .i64 x.kind) := HM.out.cells 1
      have e2 : wc.cell? ⟨g7, 2, none⟩ = some (.int .i64 x.align) := HM.out.cells 2
      have e3 : wc.cell? ⟨g7, 3, none⟩ = some (.slice x.bytesA x.bytes.length x.bytesc) := HM.out.cells 3
      have e4 : wc.cell? ⟨g7, 4, none⟩ = some (.int .i64 x.size) := HM.out.cells 4
      have e5 : wc.cell? ⟨g7, 5, none⟩ = some (.slice x.fixupsA x.fixups.length x.fixupsc) := HM.out.cells 5
      have z0 : wc.cell? ⟨w.heap.size, 0, none⟩ = some (.string ByteArray.empty) := HM.out.z6.cell 0
      have z1 : wc.cell? ⟨w.heap.size, 1, none⟩ = some (.int .i64 0) := HM.out.z6.cell 1
      have z2 : wc.cell? ⟨w.heap.size, 2, none⟩ = some (.int .i64 0) := HM.out.z6.cell 2
      have z3 : wc.cell? ⟨w.heap.size, 3, none⟩ = some (.slice none 0 0) := HM.out.z6.cell 3
      have z4 : wc.cell? ⟨w.heap.size, 4, none⟩ = some (.int .i64 0) := HM.out.z6.cell 4
      have z5 : wc.cell? ⟨w.heap.size, 5, none⟩ = some (.slice none 0 0) := HM.out.z6.cell 5
      have f0 : wc.frozen? ⟨w.heap.size, 0, none⟩ = false := HM.out.z6.frozen 0
      have f1 : wc.frozen? ⟨w.heap.size, 1, none⟩ = false := HM.out.z6.frozen 1
      have f2 : wc.frozen? ⟨w.heap.size, 2, none⟩ = false := HM.out.z6.frozen 2
      have f3 : wc.frozen? ⟨w.heap.size, 3, none⟩ = false := HM.out.z6.frozen 3
      have f4 : wc.frozen? ⟨w.heap.size, 4, none⟩ = false := HM.out.z6.frozen 4
      have f5 : wc.frozen? ⟨w.heap.size, 5, none⟩ = false := HM.out.z6.frozen 5
      have HRES : Hid (SecRes w r q x (((((((wc.setCell ⟨w.heap.size, 0, none⟩ (.string x.name)).setCell ⟨w.heap.size, 1, none⟩ (.int .i64 x.kind)).setCell ⟨w.heap.size, 2, none⟩ (.int .i64 x.align)).setCell ⟨w.heap.size, 3, none⟩ (.slice x.bytesA x.bytes.length x.bytesc)).setCell ⟨w.heap.size, 4, none⟩ (.int .i64 x.size)).setCell ⟨w.heap.size, 5, none⟩ (.slice x.fixupsA x.fixups.length x.fixupsc)))) := by
        have h0 : SecR w r q w.heap.size x zSec.cells wc := ⟨HM.out.z6, HM.out.own, HM.out.rd, HM.out.gr, HM.out.hr⟩
        have h6 := (((((h0.put 0 (.string x.name)).put 1 (.int .i64 x.kind)).put 2 (.int .i64 x.align)).put 3 (.slice x.bytesA x.bytes.length x.bytesc)).put 4 (.int .i64 x.size)).put 5 (.slice x.fixupsA x.fixups.length x.fixupsc)
        exact ⟨h6.own, h6.rd, h6.gr, h6.z6⟩
      have HE2 := Lib.hid HE.out
      clear HM HE
      go_wp2
      generalize World.setCell _ ⟨w.heap.size, 5, none⟩ _ = WF at HRES ⊢
      have y0 : WF.cell? ⟨w.heap.size, 0, none⟩ = some (.string x.name) := HRES.out.2.2.2.cell 0
      have y1 : WF.cell? ⟨w.heap.size, 1, none⟩ = some (.int .i64 x.kind) := HRES.out.2.2.2.cell 1
      have y2 : WF.cell? ⟨w.heap.size, 2, none⟩ = some (.int .i64 x.align) := HRES.out.2.2.2.cell 2
      have y3 : WF.cell? ⟨w.heap.size, 3, none⟩ = some (.slice x.bytesA x.bytes.length x.bytesc) := HRES.out.2.2.2.cell 3
      have y4 : WF.cell? ⟨w.heap.size, 4, none⟩ = some (.int .i64 x.size) := HRES.out.2.2.2.cell 4
      have y5 : WF.cell? ⟨w.heap.size, 5, none⟩ = some (.slice x.fixupsA x.fixups.length x.fixupsc) := HRES.out.2.2.2.cell 5
      refine bodyPost_ret (v := x.val) (by simp [results, Try.results75, go_sem, y0, y1, y2, y3, y4, y5, Sec.val]) rfl ?_
      exact ⟨x, rfl, HRES.out.1, ⟨HE2.out.1, HE2.out.2.1, HE2.out.2.2.1, HE2.out.2.2.2.1, HE2.out.2.2.2.2⟩, HRES.out.2.1.more (by omega), HRES.out.2.2.1⟩
end Go.Proofs.Ytdaamgonendkkaa
