/- The walk of FnChangesOf. No condition. -/
import Derived.Test.YtdaamgonendkkaaRows
import Derived.Test.YtdaamgonendkkaaBase
import Derived.Test.YtdaamgonendkkaaBase2
import Derived.Test.YtdaamgonendkkaaBase3
import Derived.Test.YtdaamgonendkkaaOnly
import Derived.Test.YtdaamgonendkkaaOpen
import Derived.Test.YtdaamgonendkkaaSmA
import Derived.Test.YtdaamgonendkkaaIn
import Derived.Test.YtdaamgonendkkaaName
import Derived.Test.YtdaamgonendkkaaSec
import Derived.Test.YtdaamgonendkkaaSym
import Derived.Test.YtdaamgonendkkaaObj
import Derived.Test.YtdaamgonendkkaaObjI
import Derived.Test.YtdaamgonendkkaaObjW
import Derived.Test.YtdaamgonendkkaaObjP
import Derived.Test.YtdaamgonendkkaaSymO
import Derived.Test.YtdaamgonendkkaaReg
import Derived.Test.YtdaamgonendkkaaRegS
import Derived.Test.YtdaamgonendkkaaChA
import Derived.Test.YtdaamgonendkkaaPick
import Derived.Test.YtdaamgonendkkaaPick2
import Derived.Test.YtdaamgonendkkaaKT
import Derived.Test.YtdaamgonendkkaaDobj
import Derived.Test.YtdaamgonendkkaaOwnA
import Derived.Test.YtdaamgonendkkaaChB
import Derived.Test.YtdaamgonendkkaaChgM
import Derived.Test.YtdaamgonendkkaaChgR
import Derived.Test.YtdaamgonendkkaaChC
import Derived.WalkKit
import Derived.WalkSpells
import Derived.WalkLawsBesides
import Derived.Handy
import Derived.BigQuiet
import Derived.Deep.RegionHeld3
import Derived.Deep.DrawnRows
import Derived.Deep.QuietTactic
namespace Go.Proofs.Ytdaamgonendkkaa
open Go Go.RowKit

theorem pOther_sym (xs ys : List Sym) (z : ByteArray) (h1 : 0 ≤ sPlace xs z) (h2 : 0 ≤ sPlace ys z) : pOther xs ys z = pOther ys xs z := by
  unfold pOther
  rw [decide_eq_true h1, decide_eq_true h2]
  congr 2
  exact decide_eq_decide.2 ⟨Eq.symm, Eq.symm⟩
theorem otherI_mem (x y : Obj) (z : ByteArray) : z ∈ otherI x y ↔ ∃ t ∈ x.syms, t.name = z ∧ pOther x.syms y.syms z = true := by
  refine ((sortL_set (kept (fun s => pOther x.syms y.syms s.name) x.syms)).2 z).trans ((kept_mem _ _ z).trans ⟨fun ⟨t, ht, e, hp⟩ => ⟨t, ht, e, by rw [← e]; exact hp⟩, fun ⟨t, ht, e, hp⟩ => ⟨t, ht, e, by rw [← e] at hp; exact hp⟩⟩)
theorem otherI_asc (x y : Obj) : Asc (otherI x y) := (sortL_set (kept (fun s => pOther x.syms y.syms s.name) x.syms)).1
theorem otherI_half {x y : Obj} {z : ByteArray} (h : z ∈ otherI x y) : z ∈ otherI y x := by
  obtain ⟨t, ht, e, hp⟩ := (otherI_mem x y z).1 h
  have h1 : 0 ≤ sPlace x.syms z := (sPlace_iff _ _).2 ⟨t, ht, e⟩
  have h2 : 0 ≤ sPlace y.syms z := by
    unfold pOther at hp
    rw [Bool.and_eq_true, decide_eq_true_iff] at hp
    exact hp.1
  obtain ⟨u, hu, eu⟩ := (sPlace_iff _ _).1 h2
  exact (otherI_mem y x z).2 ⟨u, hu, eu, by rw [← pOther_sym x.syms y.syms z h1 h2]; exact hp⟩
theorem chOther_sym (x y : Obj) : chOther y x = chOther x y := by
  have e : otherI y x = otherI x y := asc_one (otherI_asc y x) (otherI_asc x y) (fun z => ⟨otherI_half, otherI_half⟩)
  unfold chOther
  rw [e, show bothOk y x = bothOk x y from Bool.and_comm _ _]
theorem chOther_self (x : Obj) : chOther x x = [] := by
  unfold chOther
  split
  · refine List.eq_nil_iff_forall_not_mem.2 (fun z hz => ?_)
    obtain ⟨t, ht, e, hp⟩ := (otherI_mem x x z).1 hz
    unfold pOther at hp
    rw [decide_eq_true rfl] at hp
    simp at hp
  · rfl
theorem chMore_self (x : Obj) : chMore x x = [] := by
  unfold chMore
  split
  · rename_i h
    have hx : objOk x.secs x.syms = true := by
      unfold bothOk at h
      rw [Bool.and_eq_true] at h
      exact h.1
    refine List.eq_nil_iff_forall_not_mem.2 (fun z hz => ?_)
    obtain ⟨t, ht, e, hp⟩ := ((moreI_set x x).2.1 z).1 hz
    have h1 := of_decide_eq_true hp
    rw [symOf_yes hx] at h1
    have h2 := (sPlace_iff x.syms z).2 ⟨t, ht, e⟩
    omega
  · rfl
theorem C3.Own.base {m : C3} {a b c : List ByteArray} {lo lo' hi : Nat} {w : World} (h : m.Own a b c lo hi w) (hb : lo' ≤ lo) : m.Own a b c lo' hi w :=
  ⟨own_base h.o1 hb, own_base h.o2 hb, own_base h.o3 hb, h.p12, h.p13, h.p23, h.u1, h.u2, h.u3, h.uh, h.uz⟩
/-- The types that matter here. -/
def TC (t : TypeId) : Prop := TO t ∨ t = 9
set_option maxRecDepth 100000 in
set_option maxHeartbeats 4000000 in
theorem sameChanges_any {m n : C3} {a b c : List ByteArray} {lo hi lo' hi' : Nat} (w : World) (h : m.Own a b c lo hi w) (g : n.Own a b c lo' hi' w) : Calls Try.prog 33 #[.agg (m.cells a.length b.length c.length), .agg (n.cells a.length b.length c.length)] w (Gives w (.bool true)) := by
  have hz := h.uz
  have HM := Lib.hid h
  have HN := Lib.hid g
  clear h g
  simp only [C3.cells]
  obtain ⟨w0, hw0⟩ : ∃ w0, w0 = (w.alloc (.cells #[.slice m.A1 a.length m.c1, .slice m.A2 b.length m.c2, .slice m.A3 c.length m.c3] 25)).alloc (.cells #[.slice n.A1 a.length n.c1, .slice n.A2 b.length n.c2, .slice n.A3 c.length n.c3] 25) := ⟨_, rfl⟩
  have HG : Hid (Below w.heap.size w w0) := by rw [hw0]; exact ((Below.refl _ _).alloc (Nat.le_refl _) _).alloc (by simp) _
  have HA : Hid (Blk w0 w.heap.size 25 #[.slice m.A1 a.length m.c1, .slice m.A2 b.length m.c2, .slice m.A3 c.length m.c3]) := by rw [hw0]; exact (Blk.new _ _ _).alloc _
  have HB : Hid (Blk w0 (w.heap.size + 1) 25 #[.slice n.A1 a.length n.c1, .slice n.A2 b.length n.c2, .slice n.A3 c.length n.c3]) := by
    rw [hw0]
    have h := Blk.new (w.alloc (.cells #[.slice m.A1 a.length m.c1, .slice m.A2 b.length m.c2, .slice m.A3 c.length m.c3] 25)) 25 #[.slice n.A1 a.length n.c1, .slice n.A2 b.length n.c2, .slice n.A3 c.length n.c3]
    simpa [Hid] using h
  go_enter Try.func33, Try.ntmps33
  go_upto_region 1 with fail
  rw [← hw0]
  clear hw0
  have x0 : w0.cell? ⟨w.heap.size, 0, none⟩ = some (.slice m.A1 a.length m.c1) := HA.out.cell 0
  have y0 : w0.cell? ⟨w.heap.size + 1, 0, none⟩ = some (.slice n.A1 a.length n.c1) := HB.out.cell 0
  go_wp2_with fail
  refine (sameTexts_any _ _ _ _ _ _ a a w0 (Reads.of_own (HM.out.below HG.out).o1) (Reads.of_own (HN.out.below HG.out).o1) (by omega) (by omega)).mono ?_
  rintro e w1 ⟨rfl, s9⟩
  rw [decide_eq_true rfl]
  have HG' := Lib.hid (HG.out.trans (s9.mono HG.out.size))
  have HA' := Lib.hid (HA.out.below s9 HA.out.lt)
  have HB' := Lib.hid (HB.out.below s9 HB.out.lt)
  clear HG HA HB s9 x0 y0
  have HG := HG'
  have HA := HA'
  have HB := HB'
  clear HG' HA' HB'
  have x1 : w1.cell? ⟨w.heap.size, 1, none⟩ = some (.slice m.A2 b.length m.c2) := HA.out.cell 1
  have y1 : w1.cell? ⟨w.heap.size + 1, 1, none⟩ = some (.slice n.A2 b.length n.c2) := HB.out.cell 1
  go_wp2_with fail
  refine (sameTexts_any _ _ _ _ _ _ b b w1 (Reads.of_own (HM.out.below HG.out).o2) (Reads.of_own (HN.out.below HG.out).o2) (by omega) (by omega)).mono ?_
  rintro e w2 ⟨rfl, s9⟩
  rw [decide_eq_true rfl]
  have HG' := Lib.hid (HG.out.trans (s9.mono HG.out.size))
  have HA' := Lib.hid (HA.out.below s9 HA.out.lt)
  have HB' := Lib.hid (HB.out.below s9 HB.out.lt)
  clear HG HA HB s9 x1 y1
  have HG := HG'
  have HA := HA'
  have HB := HB'
  clear HG' HA' HB'
  have x2 : w2.cell? ⟨w.heap.size, 2, none⟩ = some (.slice m.A3 c.length m.c3) := HA.out.cell 2
  have y2 : w2.cell? ⟨w.heap.size + 1, 2, none⟩ = some (.slice n.A3 c.length n.c3) := HB.out.cell 2
  go_wp2_with fail
  refine (sameTexts_any _ _ _ _ _ _ c c w2 (Reads.of_own (HM.out.below HG.out).o3) (Reads.of_own (HN.out.below HG.out).o3) (by omega) (by omega)).mono ?_
  rintro e w3 ⟨rfl, s9⟩
  rw [decide_eq_true rfl]
  have HG' := Lib.hid (HG.out.trans (s9.mono HG.out.size))
  have HA' := Lib.hid (HA.out.below s9 HA.out.lt)
  have HB' := Lib.hid (HB.out.below s9 HB.out.lt)
  clear HG HA HB s9 x2 y2
  have HG := HG'
  have HA := HA'
  have HB := HB'
  clear HG' HA' HB'
  go_wp2
  go_ret
  exact ⟨rfl, HG.out⟩
set_option maxRecDepth 100000 in
set_option maxHeartbeats 8000000 in
theorem FnChangesOf_walk (W : World) (v0 : Value) (a0 : ArgCode W v0) : Calls Try.prog 8 #[v0] W (Gives W (.bool true)) := by
  obtain ⟨A, c, cs, rfl, hr, hc1, hc2, hcb⟩ := a0
  by_cases hl : cs.length ≤ 1048576
  · have HD := Lib.hid (DrawChangesOf_any cs W hr hcb hl hc1 hc2)
    clear hcb hr
    unfold maxLen at hc2
    go_enter Try.func8, Try.ntmps8
    go_wp2_with fail
    refine HD.out.mono ?_
    rintro e w1 ⟨x, y, rfl, hx, hy, hsx, hsy, b1⟩
    clear HD
    have HSX := Lib.hid hsx
    have HSY := Lib.hid hsy
    have HCX := Lib.hid (own_capO hx.oy)
    have HCY := Lib.hid (own_capO hy.oy)
    have HC : Hid (∃ a b c : List ByteArray, (a.length ≤ 4096 ∧ b.length ≤ 4096 ∧ c.length ≤ 4096) ∧ (∀ (w : World), x.At w w.heap.size → y.At w w.heap.size → Calls Try.prog 29 #[x.val, y.val] w fun e w' => ∃ m : C3, e = .returned (.agg (m.cells a.length b.length c.length)) ∧ m.Own a b c w.heap.size w'.heap.size w' ∧ Below w.heap.size w w') ∧ (∀ (w : World), x.At w w.heap.size → y.At w w.heap.size → Calls Try.prog 28 #[x.val, y.val] w fun e w' => ∃ m : C3, e = .returned (.agg (m.cells a.length b.length c.length)) ∧ m.Own a b c w.heap.size w'.heap.size w' ∧ Below w.heap.size w w') ∧ (∀ (w : World), x.At w w.heap.size → y.At w w.heap.size → Calls Try.prog 29 #[y.val, x.val] w fun e w' => ∃ m : C3, e = .returned (.agg (m.cells b.length a.length c.length)) ∧ m.Own b a c w.heap.size w'.heap.size w' ∧ Below w.heap.size w w') ∧ (∀ (w : World), x.At w w.heap.size → y.At w w.heap.size → Calls Try.prog 29 #[x.val, x.val] w fun e w' => ∃ m : C3, e = .returned (.agg (m.cells 0 0 0)) ∧ m.Own [] [] [] w.heap.size w'.heap.size w' ∧ Below w.heap.size w w')) := by
      refine ⟨chMore x y, chMore y x, chOther x y, ch_len x y, fun w ax ay => ?_, fun w ax ay => ?_, fun w ax ay => ?_, fun w ax ay => ?_⟩
      · exact (implChanges_any x y w ax ay HSX.out HSY.out HCX.out HCY.out).mono fun e w' hg => gave_c3 hg (ch_len x y)
      · exact (specChanges_any x y w ax ay HSX.out HSY.out).mono fun e w' hg => gave_c3 hg (ch_len x y)
      · have h := implChanges_any y x w ay ax HSY.out HSX.out HCY.out HCX.out
        rw [chOther_sym] at h
        exact h.mono fun e w' hg => gave_c3 hg ⟨(ch_len x y).2.1, (ch_len x y).1, (ch_len x y).2.2⟩
      · have h := implChanges_any x x w ax ax HSX.out HSX.out HCX.out HCX.out
        rw [chMore_self, chOther_self] at h
        exact h.mono fun e w' hg => gave_c3 hg (by simp)
    obtain ⟨a, b, c, hz, hc1', hc2', hc3', hc4'⟩ := HC.out
    have HI := Lib.hid hc1'
    have HS := Lib.hid hc2'
    have HI2 := Lib.hid hc3'
    have HI3 := Lib.hid hc4'
    have HX := Lib.hid hx
    have HY := Lib.hid hy
    have HG := Lib.hid b1
    clear hsx hsy HC hc1' hc2' hc3' hc4' hx hy b1 HSX HSY HCX HCY
    simp only [Obj.val] at HI HS HI2 HI3 ⊢
    go_upto_region 4 with fail
    obtain ⟨g3, hg3⟩ : ∃ g3, g3 = w1.heap.size := ⟨_, rfl⟩
    obtain ⟨g4, hg4⟩ : ∃ g4, g4 = w1.heap.size + 1 := ⟨_, rfl⟩
    obtain ⟨wA, hwA⟩ : ∃ wA, wA = ((w1.alloc (.cells #[.slice x.sA x.secs.length x.sc, .slice x.yA x.syms.length x.yc] 47)).alloc (.cells #[.slice y.sA y.secs.length y.sc, .slice y.yA y.syms.length y.yc] 47)) := ⟨_, rfl⟩
    have HB : Hid (Below w1.heap.size w1 wA) := by rw [hwA]; exact ((Below.refl _ _).alloc (Nat.le_refl _) _).alloc (by simp) _
    have HA3 : Hid (Blk wA g3 47 #[.slice x.sA x.secs.length x.sc, .slice x.yA x.syms.length x.yc]) := by rw [hwA, hg3]; exact (Blk.new _ _ _).alloc _
    have HA4 : Hid (Blk wA g4 47 #[.slice y.sA y.secs.length y.sc, .slice y.yA y.syms.length y.yc]) := by
      rw [hwA, hg4]
      have h := Blk.new (w1.alloc (.cells #[.slice x.sA x.secs.length x.sc, .slice x.yA x.syms.length x.yc] 47)) 47 #[.slice y.sA y.secs.length y.sc, .slice y.yA y.syms.length y.yc]
      simpa [Hid] using h
    rw [← hwA, ← hg4, ← hg3]
    clear hwA hg3 hg4
    have HX' : Hid (ObjRows W.heap.size x wA) := HX.out.below HB.out
    clear HX
    have HX := HX'
    clear HX'
    have HY' : Hid (ObjRows W.heap.size y wA) := HY.out.below HB.out
    clear HY
    have HY := HY'
    clear HY'
    have HG' : Hid (Below W.heap.size W wA) := HG.out.trans (HB.out.mono HG.out.size)
    clear HG
    have HG := HG'
    clear HG'
    clear HB
    have ea0 : wA.cell? ⟨g3, 0, none⟩ = some (.slice x.sA x.secs.length x.sc) := HA3.out.cell 0
    have ea1 : wA.cell? ⟨g3, 1, none⟩ = some (.slice x.yA x.syms.length x.yc) := HA3.out.cell 1
    have eaz : g3 < wA.heap.size := HA3.out.lt
    have eb0 : wA.cell? ⟨g4, 0, none⟩ = some (.slice y.sA y.secs.length y.sc) := HA4.out.cell 0
    have eb1 : wA.cell? ⟨g4, 1, none⟩ = some (.slice y.yA y.syms.length y.yc) := HA4.out.cell 1
    have ebz : g4 < wA.heap.size := HA4.out.lt
    go_wp2_with fail
    clear eaz ea0 ea1
    clear ebz eb0 eb1
    refine (HI.out wA HX.out.at_ HY.out.at_).mono ?_
    rintro e w2 ⟨m1, he, hm, s9⟩
    simp only [C3.cells] at he
    subst he
    have HX' : Hid (ObjRows W.heap.size x w2) := HX.out.below s9
    clear HX
    have HX := HX'
    clear HX'
    have HY' : Hid (ObjRows W.heap.size y w2) := HY.out.below s9
    clear HY
    have HY := HY'
    clear HY'
    have HG' : Hid (Below W.heap.size W w2) := HG.out.trans (s9.mono HG.out.size)
    clear HG
    have HG := HG'
    clear HG'
    have HA3' : Hid (Blk w2 g3 47 #[.slice x.sA x.secs.length x.sc, .slice x.yA x.syms.length x.yc]) := HA3.out.below s9 HA3.out.lt
    clear HA3
    have HA3 := HA3'
    clear HA3'
    have HA4' : Hid (Blk w2 g4 47 #[.slice y.sA y.secs.length y.sc, .slice y.yA y.syms.length y.yc]) := HA4.out.below s9 HA4.out.lt
    clear HA4
    have HA4 := HA4'
    clear HA4'
    have HMm1 := Lib.hid hm
    clear hm s9
    go_upto_region 5 with fail
    obtain ⟨g5, hg5⟩ : ∃ g5, g5 = w2.heap.size := ⟨_, rfl⟩
    obtain ⟨w3, hw3⟩ : ∃ w3, w3 = (w2.alloc (.cells #[.slice m1.A1 a.length m1.c1, .slice m1.A2 b.length m1.c2, .slice m1.A3 c.length m1.c3] 25)) := ⟨_, rfl⟩
    have s9 : Below w2.heap.size w2 w3 := by rw [hw3]; exact (Below.refl w2.heap.size w2).alloc (Nat.le_refl _) (.cells #[.slice m1.A1 a.length m1.c1, .slice m1.A2 b.length m1.c2, .slice m1.A3 c.length m1.c3] 25)
    have HA5 : Hid (Blk w3 g5 25 #[.slice m1.A1 a.length m1.c1, .slice m1.A2 b.length m1.c2, .slice m1.A3 c.length m1.c3]) := by
      have h := Blk.new w2 25 #[.slice m1.A1 a.length m1.c1, .slice m1.A2 b.length m1.c2, .slice m1.A3 c.length m1.c3]
      rw [hw3, hg5]
      simpa [Hid] using h
    rw [← hw3, ← hg5]
    clear hw3 hg5
    have HX' : Hid (ObjRows W.heap.size x w3) := HX.out.below s9
    clear HX
    have HX := HX'
    clear HX'
    have HY' : Hid (ObjRows W.heap.size y w3) := HY.out.below s9
    clear HY
    have HY := HY'
    clear HY'
    have HG' : Hid (Below W.heap.size W w3) := HG.out.trans (s9.mono HG.out.size)
    clear HG
    have HG := HG'
    clear HG'
    have HA3' : Hid (Blk w3 g3 47 #[.slice x.sA x.secs.length x.sc, .slice x.yA x.syms.length x.yc]) := HA3.out.below s9 HA3.out.lt
    clear HA3
    have HA3 := HA3'
    clear HA3'
    have HA4' : Hid (Blk w3 g4 47 #[.slice y.sA y.secs.length y.sc, .slice y.yA y.syms.length y.yc]) := HA4.out.below s9 HA4.out.lt
    clear HA4
    have HA4 := HA4'
    clear HA4'
    have HMm1' : Hid (m1.Own a b c wA.heap.size w2.heap.size w3) := HMm1.out.below s9
    clear HMm1
    have HMm1 := HMm1'
    clear HMm1'
    clear s9
    go_wp2
    refine wp_region_facts (fun i v wv => match i with
        | 0 => v = .agg (m1.cells a.length b.length c.length)
        | 1 => v = x.val
        | 2 => v = y.val
        | 3 => ∃ (m : C3) (hi : Nat), v = .agg (m.cells a.length b.length c.length) ∧ m.Own a b c w3.heap.size hi wv
        | 4 => v = .bool true
        | _ => v = .bool false)
      (fun fl vs wq => Below w3.heap.size w3 wq) (fun w w' => KeepT TC w w') (by kernel_rfl) (by kernel_rfl) ?_ ?_ ?_ ?_
    · intro i v u u2 hk h
      match i, h with
      | 0, h => exact h
      | 1, h => exact h
      | 2, h => exact h
      | 3, h => exact let ⟨m, hi, h1, h2⟩ := h; ⟨m, hi, h1, h2.keepT hk (.inr rfl)⟩
      | 4, h => exact h
      | _ + 5, h => exact h
    · intro fl vs hfl
      exact below_drewN (Below.refl _ _) 1
    · refine ⟨?_, ?_, ?_, ?_, ?_, ?_, trivial⟩
      all_goals intro fl vs wr9 a1 hc hG hfi hcl hp K hK
      · have e1 : a1.eval (.tmp 5) = .pointer (some ⟨g5, 0, none⟩) := hc.ev0 5 rfl
        have c0_ : wr9.cell? ⟨g5, 0, none⟩ = some (.slice m1.A1 a.length m1.c1) := (HA5.out.below hG HA5.out.lt).cell 0
        have c1_ : wr9.cell? ⟨g5, 1, none⟩ = some (.slice m1.A2 b.length m1.c2) := (HA5.out.below hG HA5.out.lt).cell 1
        have c2_ : wr9.cell? ⟨g5, 2, none⟩ = some (.slice m1.A3 c.length m1.c3) := (HA5.out.below hG HA5.out.lt).cell 2
        unfold Oper.wp execOp
        simp only [e1]
        go_simp
        exact hK _ _ ⟨Nat.le_refl _, fun _ _ _ _ _ => rfl⟩ rfl hG
      · have e1 : a1.eval (.tmp 3) = .pointer (some ⟨g3, 0, none⟩) := hc.ev0 3 rfl
        have c0_ : wr9.cell? ⟨g3, 0, none⟩ = some (.slice x.sA x.secs.length x.sc) := (HA3.out.below hG HA3.out.lt).cell 0
        have c1_ : wr9.cell? ⟨g3, 1, none⟩ = some (.slice x.yA x.syms.length x.yc) := (HA3.out.below hG HA3.out.lt).cell 1
        unfold Oper.wp execOp
        simp only [e1]
        go_simp
        exact hK _ _ ⟨Nat.le_refl _, fun _ _ _ _ _ => rfl⟩ rfl hG
      · have e1 : a1.eval (.tmp 4) = .pointer (some ⟨g4, 0, none⟩) := hc.ev0 4 rfl
        have c0_ : wr9.cell? ⟨g4, 0, none⟩ = some (.slice y.sA y.secs.length y.sc) := (HA4.out.below hG HA4.out.lt).cell 0
        have c1_ : wr9.cell? ⟨g4, 1, none⟩ = some (.slice y.yA y.syms.length y.yc) := (HA4.out.below hG HA4.out.lt).cell 1
        unfold Oper.wp execOp
        simp only [e1]
        go_simp
        exact hK _ _ ⟨Nat.le_refl _, fun _ _ _ _ _ => rfl⟩ rfl hG
      · have e1 := hc.ev 20 1 rfl
        rw [show vs 1 = _ from (hp 1 (by kernel_rfl)).2] at e1
        have e2 := hc.ev 21 2 rfl
        rw [show vs 2 = _ from (hp 2 (by kernel_rfl)).2] at e2
        refine op_call rfl (vs := #[x.val, y.val]) (by simp only [List.map_toArray, List.map_cons, List.map_nil, e1, e2]) (by kernel_rfl) (HS.out wr9 (HX.out.below hG).at_ (HY.out.below hG).at_) ?_
        rintro e w9 ⟨m, rfl, hm, s9⟩
        exact ⟨_, rfl, hK _ _ (KeepT.of_below s9) ⟨m, _, rfl, hm.base hG.size⟩ (hG.trans (s9.mono hG.size))⟩
      · obtain ⟨m, hi, hv, hm⟩ := (hp 3 (by kernel_rfl)).2
        have e1 := hc.ev 19 0 rfl
        rw [show vs 0 = _ from (hp 0 (by kernel_rfl)).2] at e1
        have e2 := hc.ev 22 3 rfl
        rw [hv] at e2
        refine op_call rfl (vs := #[.agg (m1.cells a.length b.length c.length), .agg (m.cells a.length b.length c.length)]) (by simp only [List.map_toArray, List.map_cons, List.map_nil, e1, e2]) (by kernel_rfl) (sameChanges_any wr9 (HMm1.out.below hG) hm) ?_
        rintro e w9 ⟨rfl, s9⟩
        exact ⟨_, rfl, hK _ _ (KeepT.of_below s9) rfl (hG.trans (s9.mono hG.size))⟩
      · have e1 := hc.ev 23 4 rfl
        rw [show vs 4 = _ from (hp 4 (by kernel_rfl)).2] at e1
        unfold Oper.wp execOp
        simp only [e1]
        go_simp
        exact hK _ _ ⟨Nat.le_refl _, fun _ _ _ _ _ => rfl⟩ rfl hG
    · intro fl vs w4 hfl hG hF
      have h4 := hF 5 (by simp)
      have s9 := hG
      clear hG hF hfl
      simp only [fill]
      go_simp
      try rw [show vs 5 = _ from h4]
      clear h4
      have HX' : Hid (ObjRows W.heap.size x w4) := HX.out.below s9
      clear HX
      have HX := HX'
      clear HX'
      have HY' : Hid (ObjRows W.heap.size y w4) := HY.out.below s9
      clear HY
      have HY := HY'
      clear HY'
      have HG' : Hid (Below W.heap.size W w4) := HG.out.trans (s9.mono HG.out.size)
      clear HG
      have HG := HG'
      clear HG'
      have HA3' : Hid (Blk w4 g3 47 #[.slice x.sA x.secs.length x.sc, .slice x.yA x.syms.length x.yc]) := HA3.out.below s9 HA3.out.lt
      clear HA3
      have HA3 := HA3'
      clear HA3'
      have HA4' : Hid (Blk w4 g4 47 #[.slice y.sA y.secs.length y.sc, .slice y.yA y.syms.length y.yc]) := HA4.out.below s9 HA4.out.lt
      clear HA4
      have HA4 := HA4'
      clear HA4'
      have HMm1' : Hid (m1.Own a b c wA.heap.size w2.heap.size w4) := HMm1.out.below s9
      clear HMm1
      have HMm1 := HMm1'
      clear HMm1'
      have HA5' : Hid (Blk w4 g5 25 #[.slice m1.A1 a.length m1.c1, .slice m1.A2 b.length m1.c2, .slice m1.A3 c.length m1.c3]) := HA5.out.below s9 HA5.out.lt
      clear HA5
      have HA5 := HA5'
      clear HA5'
      clear s9
      have ea0 : w4.cell? ⟨g3, 0, none⟩ = some (.slice x.sA x.secs.length x.sc) := HA3.out.cell 0
      have ea1 : w4.cell? ⟨g3, 1, none⟩ = some (.slice x.yA x.syms.length x.yc) := HA3.out.cell 1
      have eaz : g3 < w4.heap.size := HA3.out.lt
      have eb0 : w4.cell? ⟨g4, 0, none⟩ = some (.slice y.sA y.secs.length y.sc) := HA4.out.cell 0
      have eb1 : w4.cell? ⟨g4, 1, none⟩ = some (.slice y.yA y.syms.length y.yc) := HA4.out.cell 1
      have ebz : g4 < w4.heap.size := HA4.out.lt
      go_wp2_with fail
      clear eaz ea0 ea1
      clear ebz eb0 eb1
      refine (HI2.out w4 HX.out.at_ HY.out.at_).mono ?_
      rintro e w5 ⟨m2, he, hm, s9⟩
      simp only [C3.cells] at he
      subst he
      have HX' : Hid (ObjRows W.heap.size x w5) := HX.out.below s9
      clear HX
      have HX := HX'
      clear HX'
      have HY' : Hid (ObjRows W.heap.size y w5) := HY.out.below s9
      clear HY
      have HY := HY'
      clear HY'
      have HG' : Hid (Below W.heap.size W w5) := HG.out.trans (s9.mono HG.out.size)
      clear HG
      have HG := HG'
      clear HG'
      have HA3' : Hid (Blk w5 g3 47 #[.slice x.sA x.secs.length x.sc, .slice x.yA x.syms.length x.yc]) := HA3.out.below s9 HA3.out.lt
      clear HA3
      have HA3 := HA3'
      clear HA3'
      have HA4' : Hid (Blk w5 g4 47 #[.slice y.sA y.secs.length y.sc, .slice y.yA y.syms.length y.yc]) := HA4.out.below s9 HA4.out.lt
      clear HA4
      have HA4 := HA4'
      clear HA4'
      have HMm1' : Hid (m1.Own a b c wA.heap.size w2.heap.size w5) := HMm1.out.below s9
      clear HMm1
      have HMm1 := HMm1'
      clear HMm1'
      have HA5' : Hid (Blk w5 g5 25 #[.slice m1.A1 a.length m1.c1, .slice m1.A2 b.length m1.c2, .slice m1.A3 c.length m1.c3]) := HA5.out.below s9 HA5.out.lt
      clear HA5
      have HA5 := HA5'
      clear HA5'
      have HMm2 := Lib.hid hm
      clear hm s9
      go_upto_region 8 with fail
      obtain ⟨g6, hg6⟩ : ∃ g6, g6 = w5.heap.size := ⟨_, rfl⟩
      obtain ⟨w6, hw6⟩ : ∃ w6, w6 = (w5.alloc (.cells #[.slice m2.A1 b.length m2.c1, .slice m2.A2 a.length m2.c2, .slice m2.A3 c.length m2.c3] 25)) := ⟨_, rfl⟩
      have s9 : Below w5.heap.size w5 w6 := by rw [hw6]; exact (Below.refl w5.heap.size w5).alloc (Nat.le_refl _) (.cells #[.slice m2.A1 b.length m2.c1, .slice m2.A2 a.length m2.c2, .slice m2.A3 c.length m2.c3] 25)
      have HA6 : Hid (Blk w6 g6 25 #[.slice m2.A1 b.length m2.c1, .slice m2.A2 a.length m2.c2, .slice m2.A3 c.length m2.c3]) := by
        have h := Blk.new w5 25 #[.slice m2.A1 b.length m2.c1, .slice m2.A2 a.length m2.c2, .slice m2.A3 c.length m2.c3]
        rw [hw6, hg6]
        simpa [Hid] using h
      rw [← hw6, ← hg6]
      clear hw6 hg6
      have HX' : Hid (ObjRows W.heap.size x w6) := HX.out.below s9
      clear HX
      have HX := HX'
      clear HX'
      have HY' : Hid (ObjRows W.heap.size y w6) := HY.out.below s9
      clear HY
      have HY := HY'
      clear HY'
      have HG' : Hid (Below W.heap.size W w6) := HG.out.trans (s9.mono HG.out.size)
      clear HG
      have HG := HG'
      clear HG'
      have HA3' : Hid (Blk w6 g3 47 #[.slice x.sA x.secs.length x.sc, .slice x.yA x.syms.length x.yc]) := HA3.out.below s9 HA3.out.lt
      clear HA3
      have HA3 := HA3'
      clear HA3'
      have HA4' : Hid (Blk w6 g4 47 #[.slice y.sA y.secs.length y.sc, .slice y.yA y.syms.length y.yc]) := HA4.out.below s9 HA4.out.lt
      clear HA4
      have HA4 := HA4'
      clear HA4'
      have HMm1' : Hid (m1.Own a b c wA.heap.size w2.heap.size w6) := HMm1.out.below s9
      clear HMm1
      have HMm1 := HMm1'
      clear HMm1'
      have HA5' : Hid (Blk w6 g5 25 #[.slice m1.A1 a.length m1.c1, .slice m1.A2 b.length m1.c2, .slice m1.A3 c.length m1.c3]) := HA5.out.below s9 HA5.out.lt
      clear HA5
      have HA5 := HA5'
      clear HA5'
      have HMm2' : Hid (m2.Own b a c w4.heap.size w5.heap.size w6) := HMm2.out.below s9
      clear HMm2
      have HMm2 := HMm2'
      clear HMm2'
      clear s9
      have ea0 : w6.cell? ⟨g3, 0, none⟩ = some (.slice x.sA x.secs.length x.sc) := HA3.out.cell 0
      have ea1 : w6.cell? ⟨g3, 1, none⟩ = some (.slice x.yA x.syms.length x.yc) := HA3.out.cell 1
      have eaz : g3 < w6.heap.size := HA3.out.lt
      go_wp2_with fail
      clear eaz ea0 ea1
      refine (HI3.out w6 HX.out.at_ HY.out.at_).mono ?_
      rintro e w7 ⟨m3, he, hm, s9⟩
      simp only [C3.cells] at he
      subst he
      have HX' : Hid (ObjRows W.heap.size x w7) := HX.out.below s9
      clear HX
      have HX := HX'
      clear HX'
      have HY' : Hid (ObjRows W.heap.size y w7) := HY.out.below s9
      clear HY
      have HY := HY'
      clear HY'
      have HG' : Hid (Below W.heap.size W w7) := HG.out.trans (s9.mono HG.out.size)
      clear HG
      have HG := HG'
      clear HG'
      have HA3' : Hid (Blk w7 g3 47 #[.slice x.sA x.secs.length x.sc, .slice x.yA x.syms.length x.yc]) := HA3.out.below s9 HA3.out.lt
      clear HA3
      have HA3 := HA3'
      clear HA3'
      have HA4' : Hid (Blk w7 g4 47 #[.slice y.sA y.secs.length y.sc, .slice y.yA y.syms.length y.yc]) := HA4.out.below s9 HA4.out.lt
      clear HA4
      have HA4 := HA4'
      clear HA4'
      have HMm1' : Hid (m1.Own a b c wA.heap.size w2.heap.size w7) := HMm1.out.below s9
      clear HMm1
      have HMm1 := HMm1'
      clear HMm1'
      have HA5' : Hid (Blk w7 g5 25 #[.slice m1.A1 a.length m1.c1, .slice m1.A2 b.length m1.c2, .slice m1.A3 c.length m1.c3]) := HA5.out.below s9 HA5.out.lt
      clear HA5
      have HA5 := HA5'
      clear HA5'
      have HMm2' : Hid (m2.Own b a c w4.heap.size w5.heap.size w7) := HMm2.out.below s9
      clear HMm2
      have HMm2 := HMm2'
      clear HMm2'
      have HA6' : Hid (Blk w7 g6 25 #[.slice m2.A1 b.length m2.c1, .slice m2.A2 a.length m2.c2, .slice m2.A3 c.length m2.c3]) := HA6.out.below s9 HA6.out.lt
      clear HA6
      have HA6 := HA6'
      clear HA6'
      have HMm3 := Lib.hid hm
      clear hm s9
      go_upto_region 9 with fail
      obtain ⟨g7, hg7⟩ : ∃ g7, g7 = w7.heap.size := ⟨_, rfl⟩
      obtain ⟨w8, hw8⟩ : ∃ w8, w8 = (w7.alloc (.cells #[.slice m3.A1 0 m3.c1, .slice m3.A2 0 m3.c2, .slice m3.A3 0 m3.c3] 25)) := ⟨_, rfl⟩
      have s9 : Below w7.heap.size w7 w8 := by rw [hw8]; exact (Below.refl w7.heap.size w7).alloc (Nat.le_refl _) (.cells #[.slice m3.A1 0 m3.c1, .slice m3.A2 0 m3.c2, .slice m3.A3 0 m3.c3] 25)
      have HA7 : Hid (Blk w8 g7 25 #[.slice m3.A1 0 m3.c1, .slice m3.A2 0 m3.c2, .slice m3.A3 0 m3.c3]) := by
        have h := Blk.new w7 25 #[.slice m3.A1 0 m3.c1, .slice m3.A2 0 m3.c2, .slice m3.A3 0 m3.c3]
        rw [hw8, hg7]
        simpa [Hid] using h
      rw [← hw8, ← hg7]
      clear hw8 hg7
      have HX' : Hid (ObjRows W.heap.size x w8) := HX.out.below s9
      clear HX
      have HX := HX'
      clear HX'
      have HY' : Hid (ObjRows W.heap.size y w8) := HY.out.below s9
      clear HY
      have HY := HY'
      clear HY'
      have HG' : Hid (Below W.heap.size W w8) := HG.out.trans (s9.mono HG.out.size)
      clear HG
      have HG := HG'
      clear HG'
      have HA3' : Hid (Blk w8 g3 47 #[.slice x.sA x.secs.length x.sc, .slice x.yA x.syms.length x.yc]) := HA3.out.below s9 HA3.out.lt
      clear HA3
      have HA3 := HA3'
      clear HA3'
      have HA4' : Hid (Blk w8 g4 47 #[.slice y.sA y.secs.length y.sc, .slice y.yA y.syms.length y.yc]) := HA4.out.below s9 HA4.out.lt
      clear HA4
      have HA4 := HA4'
      clear HA4'
      have HMm1' : Hid (m1.Own a b c wA.heap.size w2.heap.size w8) := HMm1.out.below s9
      clear HMm1
      have HMm1 := HMm1'
      clear HMm1'
      have HA5' : Hid (Blk w8 g5 25 #[.slice m1.A1 a.length m1.c1, .slice m1.A2 b.length m1.c2, .slice m1.A3 c.length m1.c3]) := HA5.out.below s9 HA5.out.lt
      clear HA5
      have HA5 := HA5'
      clear HA5'
      have HMm2' : Hid (m2.Own b a c w4.heap.size w5.heap.size w8) := HMm2.out.below s9
      clear HMm2
      have HMm2 := HMm2'
      clear HMm2'
      have HA6' : Hid (Blk w8 g6 25 #[.slice m2.A1 b.length m2.c1, .slice m2.A2 a.length m2.c2, .slice m2.A3 c.length m2.c3]) := HA6.out.below s9 HA6.out.lt
      clear HA6
      have HA6 := HA6'
      clear HA6'
      have HMm3' : Hid (m3.Own [] [] [] w6.heap.size w7.heap.size w8) := HMm3.out.below s9
      clear HMm3
      have HMm3 := HMm3'
      clear HMm3'
      clear s9
      have x_ : w8.cell? ⟨g6, 0, none⟩ = some (.slice m2.A1 b.length m2.c1) := HA6.out.cell 0
      have y_ : w8.cell? ⟨g5, 1, none⟩ = some (.slice m1.A2 b.length m1.c2) := HA5.out.cell 1
      go_wp2_with fail
      clear x_ y_
      refine (sameTexts_any _ _ _ _ _ _ b b w8 (Reads.of_own HMm2.out.o1) (Reads.of_own HMm1.out.o2) (by omega) (by omega)).mono ?_
      rintro e w9 ⟨rfl, s9⟩
      rw [decide_eq_true rfl]
      have HX' : Hid (ObjRows W.heap.size x w9) := HX.out.below s9
      clear HX
      have HX := HX'
      clear HX'
      have HY' : Hid (ObjRows W.heap.size y w9) := HY.out.below s9
      clear HY
      have HY := HY'
      clear HY'
      have HG' : Hid (Below W.heap.size W w9) := HG.out.trans (s9.mono HG.out.size)
      clear HG
      have HG := HG'
      clear HG'
      have HA3' : Hid (Blk w9 g3 47 #[.slice x.sA x.secs.length x.sc, .slice x.yA x.syms.length x.yc]) := HA3.out.below s9 HA3.out.lt
      clear HA3
      have HA3 := HA3'
      clear HA3'
      have HA4' : Hid (Blk w9 g4 47 #[.slice y.sA y.secs.length y.sc, .slice y.yA y.syms.length y.yc]) := HA4.out.below s9 HA4.out.lt
      clear HA4
      have HA4 := HA4'
      clear HA4'
      have HMm1' : Hid (m1.Own a b c wA.heap.size w2.heap.size w9) := HMm1.out.below s9
      clear HMm1
      have HMm1 := HMm1'
      clear HMm1'
      have HA5' : Hid (Blk w9 g5 25 #[.slice m1.A1 a.length m1.c1, .slice m1.A2 b.length m1.c2, .slice m1.A3 c.length m1.c3]) := HA5.out.below s9 HA5.out.lt
      clear HA5
      have HA5 := HA5'
      clear HA5'
      have HMm2' : Hid (m2.Own b a c w4.heap.size w5.heap.size w9) := HMm2.out.below s9
      clear HMm2
      have HMm2 := HMm2'
      clear HMm2'
      have HA6' : Hid (Blk w9 g6 25 #[.slice m2.A1 b.length m2.c1, .slice m2.A2 a.length m2.c2, .slice m2.A3 c.length m2.c3]) := HA6.out.below s9 HA6.out.lt
      clear HA6
      have HA6 := HA6'
      clear HA6'
      have HMm3' : Hid (m3.Own [] [] [] w6.heap.size w7.heap.size w9) := HMm3.out.below s9
      clear HMm3
      have HMm3 := HMm3'
      clear HMm3'
      have HA7' : Hid (Blk w9 g7 25 #[.slice m3.A1 0 m3.c1, .slice m3.A2 0 m3.c2, .slice m3.A3 0 m3.c3]) := HA7.out.below s9 HA7.out.lt
      clear HA7
      have HA7 := HA7'
      clear HA7'
      clear s9
      have x_ : w9.cell? ⟨g6, 1, none⟩ = some (.slice m2.A2 a.length m2.c2) := HA6.out.cell 1
      have y_ : w9.cell? ⟨g5, 0, none⟩ = some (.slice m1.A1 a.length m1.c1) := HA5.out.cell 0
      go_wp2_with fail
      clear x_ y_
      refine (sameTexts_any _ _ _ _ _ _ a a w9 (Reads.of_own HMm2.out.o2) (Reads.of_own HMm1.out.o1) (by omega) (by omega)).mono ?_
      rintro e w10 ⟨rfl, s9⟩
      rw [decide_eq_true rfl]
      have HX' : Hid (ObjRows W.heap.size x w10) := HX.out.below s9
      clear HX
      have HX := HX'
      clear HX'
      have HY' : Hid (ObjRows W.heap.size y w10) := HY.out.below s9
      clear HY
      have HY := HY'
      clear HY'
      have HG' : Hid (Below W.heap.size W w10) := HG.out.trans (s9.mono HG.out.size)
      clear HG
      have HG := HG'
      clear HG'
      have HA3' : Hid (Blk w10 g3 47 #[.slice x.sA x.secs.length x.sc, .slice x.yA x.syms.length x.yc]) := HA3.out.below s9 HA3.out.lt
      clear HA3
      have HA3 := HA3'
      clear HA3'
      have HA4' : Hid (Blk w10 g4 47 #[.slice y.sA y.secs.length y.sc, .slice y.yA y.syms.length y.yc]) := HA4.out.below s9 HA4.out.lt
      clear HA4
      have HA4 := HA4'
      clear HA4'
      have HMm1' : Hid (m1.Own a b c wA.heap.size w2.heap.size w10) := HMm1.out.below s9
      clear HMm1
      have HMm1 := HMm1'
      clear HMm1'
      have HA5' : Hid (Blk w10 g5 25 #[.slice m1.A1 a.length m1.c1, .slice m1.A2 b.length m1.c2, .slice m1.A3 c.length m1.c3]) := HA5.out.below s9 HA5.out.lt
      clear HA5
      have HA5 := HA5'
      clear HA5'
      have HMm2' : Hid (m2.Own b a c w4.heap.size w5.heap.size w10) := HMm2.out.below s9
      clear HMm2
      have HMm2 := HMm2'
      clear HMm2'
      have HA6' : Hid (Blk w10 g6 25 #[.slice m2.A1 b.length m2.c1, .slice m2.A2 a.length m2.c2, .slice m2.A3 c.length m2.c3]) := HA6.out.below s9 HA6.out.lt
      clear HA6
      have HA6 := HA6'
      clear HA6'
      have HMm3' : Hid (m3.Own [] [] [] w6.heap.size w7.heap.size w10) := HMm3.out.below s9
      clear HMm3
      have HMm3 := HMm3'
      clear HMm3'
      have HA7' : Hid (Blk w10 g7 25 #[.slice m3.A1 0 m3.c1, .slice m3.A2 0 m3.c2, .slice m3.A3 0 m3.c3]) := HA7.out.below s9 HA7.out.lt
      clear HA7
      have HA7 := HA7'
      clear HA7'
      clear s9
      have x_ : w10.cell? ⟨g6, 2, none⟩ = some (.slice m2.A3 c.length m2.c3) := HA6.out.cell 2
      have y_ : w10.cell? ⟨g5, 2, none⟩ = some (.slice m1.A3 c.length m1.c3) := HA5.out.cell 2
      go_wp2_with fail
      clear x_ y_
      refine (sameTexts_any _ _ _ _ _ _ c c w10 (Reads.of_own HMm2.out.o3) (Reads.of_own HMm1.out.o3) (by omega) (by omega)).mono ?_
      rintro e w11 ⟨rfl, s9⟩
      rw [decide_eq_true rfl]
      have HX' : Hid (ObjRows W.heap.size x w11) := HX.out.below s9
      clear HX
      have HX := HX'
      clear HX'
      have HY' : Hid (ObjRows W.heap.size y w11) := HY.out.below s9
      clear HY
      have HY := HY'
      clear HY'
      have HG' : Hid (Below W.heap.size W w11) := HG.out.trans (s9.mono HG.out.size)
      clear HG
      have HG := HG'
      clear HG'
      have HA3' : Hid (Blk w11 g3 47 #[.slice x.sA x.secs.length x.sc, .slice x.yA x.syms.length x.yc]) := HA3.out.below s9 HA3.out.lt
      clear HA3
      have HA3 := HA3'
      clear HA3'
      have HA4' : Hid (Blk w11 g4 47 #[.slice y.sA y.secs.length y.sc, .slice y.yA y.syms.length y.yc]) := HA4.out.below s9 HA4.out.lt
      clear HA4
      have HA4 := HA4'
      clear HA4'
      have HMm1' : Hid (m1.Own a b c wA.heap.size w2.heap.size w11) := HMm1.out.below s9
      clear HMm1
      have HMm1 := HMm1'
      clear HMm1'
      have HA5' : Hid (Blk w11 g5 25 #[.slice m1.A1 a.length m1.c1, .slice m1.A2 b.length m1.c2, .slice m1.A3 c.length m1.c3]) := HA5.out.below s9 HA5.out.lt
      clear HA5
      have HA5 := HA5'
      clear HA5'
      have HMm2' : Hid (m2.Own b a c w4.heap.size w5.heap.size w11) := HMm2.out.below s9
      clear HMm2
      have HMm2 := HMm2'
      clear HMm2'
      have HA6' : Hid (Blk w11 g6 25 #[.slice m2.A1 b.length m2.c1, .slice m2.A2 a.length m2.c2, .slice m2.A3 c.length m2.c3]) := HA6.out.below s9 HA6.out.lt
      clear HA6
      have HA6 := HA6'
      clear HA6'
      have HMm3' : Hid (m3.Own [] [] [] w6.heap.size w7.heap.size w11) := HMm3.out.below s9
      clear HMm3
      have HMm3 := HMm3'
      clear HMm3'
      have HA7' : Hid (Blk w11 g7 25 #[.slice m3.A1 0 m3.c1, .slice m3.A2 0 m3.c2, .slice m3.A3 0 m3.c3]) := HA7.out.below s9 HA7.out.lt
      clear HA7
      have HA7 := HA7'
      clear HA7'
      clear s9
      have ez0 : w11.cell? ⟨g7, 0, none⟩ = some (.slice m3.A1 0 m3.c1) := HA7.out.cell 0
      have ez1 : w11.cell? ⟨g7, 1, none⟩ = some (.slice m3.A2 0 m3.c2) := HA7.out.cell 1
      have ez2 : w11.cell? ⟨g7, 2, none⟩ = some (.slice m3.A3 0 m3.c3) := HA7.out.cell 2
      have ezz : g7 < w11.heap.size := HA7.out.lt
      have HG9 := HG
      go_wp2_with fail
      refine (alive_any _).mono ?_
      rintro e w' ⟨rfl, rfl⟩
      go_wp2
      go_ret
      exact ⟨rfl, HG9.out⟩
  · go_enter Try.func8, Try.ntmps8
    go_wp2
    go_ret
    exact ⟨rfl, Below.refl _ _⟩
end Go.Proofs.Ytdaamgonendkkaa
