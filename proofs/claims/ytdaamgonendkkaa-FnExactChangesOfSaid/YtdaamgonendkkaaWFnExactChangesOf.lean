/- The walk of FnExactChangesOf. No condition. -/
import Derived.Test.YtdaamgonendkkaaRows
import Derived.Test.YtdaamgonendkkaaBase
import Derived.Test.YtdaamgonendkkaaBase2
import Derived.Test.YtdaamgonendkkaaBase3
import Derived.Test.YtdaamgonendkkaaOnly
import Derived.Test.YtdaamgonendkkaaOpen
import Derived.Test.YtdaamgonendkkaaOpen2
import Derived.Test.YtdaamgonendkkaaIn
import Derived.Test.YtdaamgonendkkaaName
import Derived.Test.YtdaamgonendkkaaByteS
import Derived.Test.YtdaamgonendkkaaBulk
import Derived.Test.YtdaamgonendkkaaFix
import Derived.Test.YtdaamgonendkkaaSzF
import Derived.Test.YtdaamgonendkkaaSec
import Derived.Test.YtdaamgonendkkaaSecM
import Derived.Test.YtdaamgonendkkaaSecO
import Derived.Test.YtdaamgonendkkaaObjS
import Derived.Test.YtdaamgonendkkaaSecV
import Derived.Test.YtdaamgonendkkaaSecW
import Derived.Test.YtdaamgonendkkaaSym
import Derived.Test.YtdaamgonendkkaaSymV
import Derived.Test.YtdaamgonendkkaaFindSym
import Derived.Test.YtdaamgonendkkaaObj
import Derived.Test.YtdaamgonendkkaaObjM
import Derived.Test.YtdaamgonendkkaaGlob
import Derived.Test.YtdaamgonendkkaaObjI
import Derived.Test.YtdaamgonendkkaaObjW
import Derived.Test.YtdaamgonendkkaaObjP
import Derived.Test.YtdaamgonendkkaaSymO
import Derived.Test.YtdaamgonendkkaaReg
import Derived.Test.YtdaamgonendkkaaRegS
import Derived.Test.YtdaamgonendkkaaChA
import Derived.Test.YtdaamgonendkkaaPick2
import Derived.Test.YtdaamgonendkkaaKT
import Derived.Test.YtdaamgonendkkaaDobj
import Derived.Test.YtdaamgonendkkaaKA
import Derived.Test.YtdaamgonendkkaaChB
import Derived.Test.YtdaamgonendkkaaChgM
import Derived.Test.YtdaamgonendkkaaChgR
import Derived.WalkKit
import Derived.WalkSpells
import Derived.WalkLawsBesides
import Derived.Handy
import Derived.BigQuiet
import Derived.Deep.RegionHeld3
import Derived.Deep.DrawnRows
import Derived.Deep.QuietTactic
namespace Go.Proofs.Ytdaamgonendkkaa
open Go Go.RowKit

theorem Obj.Own.cap {w : World} {lo hi : Nat} {x : Obj} (h : x.Own w lo hi) : x.syms.length ≤ x.yc := by
  obtain ⟨g, m, _, _, h, _⟩ := h
  rcases h.2 with ⟨hv, h0⟩ | ⟨g', cap, cur, hv, _, _, hnc, hcm, _⟩
  · omega
  · injection hv with h1 h2 h3
    omega
theorem toObj_sp {B : Nat} (x : Obj) (w : World) (h : x.At w B) (hB : B ≤ w.heap.size) (hs : x.small) :
    Calls Try.prog 23 #[x.val] w fun e w' => ∃ y : Obj, e = .returned (.agg #[.slice y.sA y.secs.length y.sc, .slice y.yA y.syms.length y.yc]) ∧ y.v = x.v ∧ y.Own w' w.heap.size w'.heap.size ∧ Below w.heap.size w w' := toObj_any x w h hB hs
theorem below_drew1 (B : Nat) (w : World) : Below B w w.drew := ⟨(Below.refl B w).os, (Below.refl B w).tape, (Below.refl B w).output, (Below.refl B w).size, (Below.refl B w).block⟩
theorem map_v_congr {β : Type} {f g : Sec → β} (hfg : ∀ a b : Sec, a.v = b.v → f a = g b) : ∀ {ls ms : List Sec}, ls.map Sec.v = ms.map Sec.v → ls.map f = ms.map g := by
  intro ls
  induction ls with
  | nil => intro ms h; cases ms with
    | nil => rfl
    | cons _ _ => simp at h
  | cons a ls ih =>
    intro ms h
    cases ms with
    | nil => simp at h
    | cons b ms =>
      simp only [List.map_cons, List.cons.injEq] at h
      simp only [List.map_cons]
      rw [hfg a b h.1, ih h.2]
theorem Sec.tots_v {xs ds : List Sec} (h : ds.map Sec.v = xs.map Sec.v) : Sec.tots ds = Sec.tots xs := by
  unfold Sec.tots
  rw [map_v_congr (fun a b hab => Sec.tot_v hab) h]
/-- The types that matter here. -/
def TC (t : TypeId) : Prop := TO t ∨ t = 9
theorem TC_c : ¬ TC 25 := by unfold TC TO; decide
theorem KeepT.toO {w w' : World} (k : KeepT TC w w') : KeepT TO w w' := ⟨k.size, fun b cs t hb ht => k.block b cs t hb (.inl ht)⟩
theorem tot_nn (x : Obj) : 0 ≤ x.tot := by
  have h1 := Sec.tots_nonneg x.secs
  have h2 := bulk_nonneg (x.syms.map Sym.name)
  unfold Obj.tot
  omega
theorem C3.Own.base {m : C3} {a b c : List ByteArray} {lo lo' hi : Nat} {w : World} (h : m.Own a b c lo hi w) (hb : lo' ≤ lo) : m.Own a b c lo' hi w :=
  ⟨own_base h.o1 hb, own_base h.o2 hb, own_base h.o3 hb, h.p12, h.p13, h.p23, h.u1, h.u2, h.u3, h.uh, h.uz⟩
set_option maxRecDepth 100000 in
set_option maxHeartbeats 8000000 in
theorem FnExactChangesOf_walk (W : World) (v0 v1 : Value) (a0 : ArgObj W v0) (a1 : ArgObj W v1) : Calls Try.prog 7 #[v0, v1] W (Gives W (.bool true)) := by
  obtain ⟨o1, rfl, r0, hb0⟩ := a0
  obtain ⟨o2, rfl, r1, hb1⟩ := a1
  have R0 := Lib.hid r0
  have R1 := Lib.hid r1
  clear r0 r1
  obtain ⟨wA, hwA⟩ : ∃ wA, wA = (W.alloc (.cells #[.slice o1.sA o1.secs.length o1.sc, .slice o1.yA o1.syms.length o1.yc] 41)).alloc (.cells #[.slice o2.sA o2.secs.length o2.sc, .slice o2.yA o2.syms.length o2.yc] 41) := ⟨_, rfl⟩
  have HG : Hid (Below W.heap.size W wA) := by rw [hwA]; exact ((Below.refl _ _).alloc (Nat.le_refl _) _).alloc (by simp) _
  have HA : Hid (Blk wA W.heap.size 41 #[.slice o1.sA o1.secs.length o1.sc, .slice o1.yA o1.syms.length o1.yc]) := by rw [hwA]; exact (Blk.new _ _ _).alloc _
  have HB : Hid (Blk wA (W.heap.size + 1) 41 #[.slice o2.sA o2.secs.length o2.sc, .slice o2.yA o2.syms.length o2.yc]) := by
    rw [hwA]
    have h := Blk.new (W.alloc (.cells #[.slice o1.sA o1.secs.length o1.sc, .slice o1.yA o1.syms.length o1.yc] 41)) 41 #[.slice o2.sA o2.secs.length o2.sc, .slice o2.yA o2.syms.length o2.yc]
    simpa [Hid] using h
  have zA := HB.out.lt
  show Calls Try.prog 7 #[.agg #[.slice o1.sA o1.secs.length o1.sc, .slice o1.yA o1.syms.length o1.yc], .agg #[.slice o2.sA o2.secs.length o2.sc, .slice o2.yA o2.syms.length o2.yc]] W (Gives W (.bool true))
  by_cases hz1 : o1.tot ≤ 1048576
  · have HR1 := Lib.hid (szRes_pos hz1)
    have S0 := Lib.hid (Obj.small_of hz1)
    have ht0 : 0 ≤ o1.tot := tot_nn o1
    by_cases hz2' : o2.tot ≤ 1048576 - o1.tot
    · have HR2 := Lib.hid (szRes_pos hz2')
      have hz2 : o2.tot ≤ 1048576 := by omega
      have S1 := Lib.hid (Obj.small_of hz2)
      have HSP : Hid (∃ a b c : List ByteArray, (a.length ≤ 4096 ∧ b.length ≤ 4096 ∧ c.length ≤ 4096) ∧ (∀ (w : World) (x y : Obj), x.v = o1.v → y.v = o2.v → x.At w w.heap.size → y.At w w.heap.size → x.syms.length ≤ x.yc → y.syms.length ≤ y.yc → Calls Try.prog 28 #[x.val, y.val] w fun e w' => ∃ m : C3, e = .returned (.agg (m.cells a.length b.length c.length)) ∧ m.Own a b c w.heap.size w'.heap.size w' ∧ Below w.heap.size w w') ∧ (∀ (w : World) (x y : Obj), x.v = o1.v → y.v = o2.v → x.At w w.heap.size → y.At w w.heap.size → x.syms.length ≤ x.yc → y.syms.length ≤ y.yc → Calls Try.prog 29 #[x.val, y.val] w fun e w' => ∃ m : C3, e = .returned (.agg (m.cells a.length b.length c.length)) ∧ m.Own a b c w.heap.size w'.heap.size w' ∧ Below w.heap.size w w')) := by
        refine ⟨chMore o1 o2, chMore o2 o1, chOther o1 o2, ch_len o1 o2, fun w x y hx hy ax ay _ _ => ?_, fun w x y hx hy ax ay kx ky => ?_⟩
        · have h := specChanges_any x y w ax ay (Obj.small_v hx S0.out) (Obj.small_v hy S1.out)
          rw [chMore_v hx hy, chMore_v hy hx, chOther_v hx hy] at h
          exact h.mono fun e w' hg => gave_c3 hg (ch_len o1 o2)
        · have h := implChanges_any x y w ax ay (Obj.small_v hx S0.out) (Obj.small_v hy S1.out) kx ky
          rw [chMore_v hx hy, chMore_v hy hx, chOther_v hx hy] at h
          exact h.mono fun e w' hg => gave_c3 hg (ch_len o1 o2)
      obtain ⟨a, b, c, hzl, hsp, him⟩ := HSP.out
      clear HSP
      have HSP := Lib.hid hsp
      have HIM := Lib.hid him
      have HZ := Lib.hid hzl
      clear hsp him
      go_enter Try.func7, Try.ntmps7
      go_upto_region 1 with fail
      rw [← hwA]
      clear hwA
      have ea0 : wA.cell? ⟨W.heap.size, 0, none⟩ = some (.slice o1.sA o1.secs.length o1.sc) := HA.out.cell 0
      have ea1 : wA.cell? ⟨W.heap.size, 1, none⟩ = some (.slice o1.yA o1.syms.length o1.yc) := HA.out.cell 1
      go_wp2_with fail
      clear ea0 ea1
      refine (szObj_any o1 1048576 wA (R0.out.below HG.out) HG.out.size hb0 (by omega) (by omega)).mono ?_
      rintro e w0 ⟨rfl, s9⟩
      rw [HR1.out]
      have HG' : Hid (Below W.heap.size W w0) := HG.out.trans (s9.mono HG.out.size)
      clear HG
      have HG := HG'
      clear HG'
      have HA' : Hid (Blk w0 W.heap.size 41 #[.slice o1.sA o1.secs.length o1.sc, .slice o1.yA o1.syms.length o1.yc]) := HA.out.below s9 HA.out.lt
      clear HA
      have HA := HA'
      clear HA'
      have HB' : Hid (Blk w0 (W.heap.size + 1) 41 #[.slice o2.sA o2.secs.length o2.sc, .slice o2.yA o2.syms.length o2.yc]) := HB.out.below s9 HB.out.lt
      clear HB
      have HB := HB'
      clear HB'
      clear s9 HR1
      have eb0 : w0.cell? ⟨W.heap.size + 1, 0, none⟩ = some (.slice o2.sA o2.secs.length o2.sc) := HB.out.cell 0
      have eb1 : w0.cell? ⟨W.heap.size + 1, 1, none⟩ = some (.slice o2.yA o2.syms.length o2.yc) := HB.out.cell 1
      go_wp2_with fail
      clear eb0 eb1
      refine (szObj_any o2 (1048576 - o1.tot) w0 (R1.out.below HG.out) HG.out.size hb1 (by omega) (by omega)).mono ?_
      rintro e w1 ⟨rfl, s9⟩
      rw [HR2.out]
      have HG' : Hid (Below W.heap.size W w1) := HG.out.trans (s9.mono HG.out.size)
      clear HG
      have HG := HG'
      clear HG'
      have HA' : Hid (Blk w1 W.heap.size 41 #[.slice o1.sA o1.secs.length o1.sc, .slice o1.yA o1.syms.length o1.yc]) := HA.out.below s9 HA.out.lt
      clear HA
      have HA := HA'
      clear HA'
      have HB' : Hid (Blk w1 (W.heap.size + 1) 41 #[.slice o2.sA o2.secs.length o2.sc, .slice o2.yA o2.syms.length o2.yc]) := HB.out.below s9 HB.out.lt
      clear HB
      have HB := HB'
      clear HB'
      have z_w1 := HB.out.lt
      clear s9 HR2
      go_wp2
      refine wp_region_facts (fun i v wv => match i with
          | 0 => v = o1.val
          | 1 => ∃ z : Obj, v = z.val ∧ z.v = o1.v ∧ ObjRows w1.heap.size z wv ∧ z.syms.length ≤ z.yc
          | 2 => v = o2.val
          | 3 => ∃ z : Obj, v = z.val ∧ z.v = o2.v ∧ ObjRows w1.heap.size z wv ∧ z.syms.length ≤ z.yc
          | 4 => ∃ (m : C3) (hi : Nat), v = .agg (m.cells a.length b.length c.length) ∧ m.Own a b c w1.heap.size hi wv
          | 5 => True
          | _ => True)
        (fun fl vs wq => Below w1.heap.size w1 wq ∧ (fl 5 = true → fl 6 = false → ∃ g, vs 5 = .pointer (some ⟨g, 0, none⟩) ∧ w1.heap.size ≤ g ∧ Blk wq g 25 #[.slice none 0 0, .slice none 0 0, .slice none 0 0]) ∧ (fl 6 = true → ∃ (g : Nat) (m : C3) (hi : Nat), vs 5 = .pointer (some ⟨g, 0, none⟩) ∧ w1.heap.size ≤ g ∧ Blk wq g 25 (m.cells a.length b.length c.length) ∧ m.Own a b c w1.heap.size hi wq)) (fun w w' => KeepT TC w w') (by kernel_rfl) (by kernel_rfl) ?_ ?_ ?_ ?_
      · intro i v u u2 hk h
        match i, h with
        | 0, h => exact h
        | 1, h => exact let ⟨z, h1, h2, h3, h4⟩ := h; ⟨z, h1, h2, h3.keep hk.toO, h4⟩
        | 2, h => exact h
        | 3, h => exact let ⟨z, h1, h2, h3, h4⟩ := h; ⟨z, h1, h2, h3.keep hk.toO, h4⟩
        | 4, h => exact let ⟨m, hi, h1, h2⟩ := h; ⟨m, hi, h1, h2.keepT hk (.inr rfl)⟩
        | 5, h => exact h
        | _ + 6, h => exact h
      · intro fl vs hfl
        have n5 := hfl 5 (by simp)
        have n6 := hfl 6 (by simp)
        exact ⟨below_drewN (Below.refl _ _) 1, fun h => by simp [n5] at h, fun h => by simp [n6] at h⟩
      · refine ⟨?_, ?_, ?_, ?_, ?_, ?_, ?_, trivial⟩
        all_goals intro fl vs wr9 a1 hc hG hfi hcl hp K hK
        · have e1 : a1.eval (.tmp 2) = .pointer (some ⟨W.heap.size, 0, none⟩) := hc.ev0 2 rfl
          have c0 : wr9.cell? ⟨W.heap.size, 0, none⟩ = some (.slice o1.sA o1.secs.length o1.sc) := (HA.out.below hG.1 HA.out.lt).cell 0
          have c1 : wr9.cell? ⟨W.heap.size, 1, none⟩ = some (.slice o1.yA o1.syms.length o1.yc) := (HA.out.below hG.1 HA.out.lt).cell 1
          unfold Oper.wp execOp
          simp only [e1]
          go_simp
          exact hK _ _ ⟨Nat.le_refl _, fun _ _ _ _ _ => rfl⟩ rfl (by simpa [upd] using hG)
        · have n6 : fl 6 = false := by cases h : fl 6 with
            | false => rfl
            | true => have h4 := hcl 6 4 (by kernel_rfl) h; have h1 := hcl 4 1 (by kernel_rfl) h4; rw [show fl 1 = false from hfi] at h1; cases h1
          have e1 := hc.ev 24 0 rfl
          rw [show vs 0 = _ from (hp 0 (by kernel_rfl)).2] at e1
          have hbw := HG.out.trans (hG.1.mono HG.out.size)
          refine op_call rfl (vs := #[o1.val]) (by simp only [List.map_toArray, List.map_cons, List.map_nil, e1]) (by kernel_rfl) (toObj_sp o1 wr9 (R0.out.below hbw) hbw.size S0.out) ?_
          rintro e w9 ⟨z, rfl, hzv, hzo, s9⟩
          exact ⟨_, rfl, hK _ _ (KeepT.of_below s9) ⟨z, rfl, hzv, hzo.rows.base hG.1.size, hzo.cap⟩ ⟨hG.1.trans (s9.mono hG.1.size), fun h h6 => (by obtain ⟨g, h1, h2, h3⟩ := hG.2.1 (by simpa [upd] using h) (by simpa [upd] using h6); exact ⟨g, by simpa [upd] using h1, h2, h3.below s9 h3.lt⟩), fun h => by simp [upd, n6] at h⟩⟩
        · have e1 : a1.eval (.tmp 3) = .pointer (some ⟨(W.heap.size + 1), 0, none⟩) := hc.ev0 3 rfl
          have c0 : wr9.cell? ⟨(W.heap.size + 1), 0, none⟩ = some (.slice o2.sA o2.secs.length o2.sc) := (HB.out.below hG.1 HB.out.lt).cell 0
          have c1 : wr9.cell? ⟨(W.heap.size + 1), 1, none⟩ = some (.slice o2.yA o2.syms.length o2.yc) := (HB.out.below hG.1 HB.out.lt).cell 1
          unfold Oper.wp execOp
          simp only [e1]
          go_simp
          exact hK _ _ ⟨Nat.le_refl _, fun _ _ _ _ _ => rfl⟩ rfl (by simpa [upd] using hG)
        · have n6 : fl 6 = false := by cases h : fl 6 with
            | false => rfl
            | true => have h4 := hcl 6 4 (by kernel_rfl) h; have h1 := hcl 4 3 (by kernel_rfl) h4; rw [show fl 3 = false from hfi] at h1; cases h1
          have e1 := hc.ev 26 2 rfl
          rw [show vs 2 = _ from (hp 2 (by kernel_rfl)).2] at e1
          have hbw := HG.out.trans (hG.1.mono HG.out.size)
          refine op_call rfl (vs := #[o2.val]) (by simp only [List.map_toArray, List.map_cons, List.map_nil, e1]) (by kernel_rfl) (toObj_sp o2 wr9 (R1.out.below hbw) hbw.size S1.out) ?_
          rintro e w9 ⟨z, rfl, hzv, hzo, s9⟩
          exact ⟨_, rfl, hK _ _ (KeepT.of_below s9) ⟨z, rfl, hzv, hzo.rows.base hG.1.size, hzo.cap⟩ ⟨hG.1.trans (s9.mono hG.1.size), fun h h6 => (by obtain ⟨g, h1, h2, h3⟩ := hG.2.1 (by simpa [upd] using h) (by simpa [upd] using h6); exact ⟨g, by simpa [upd] using h1, h2, h3.below s9 h3.lt⟩), fun h => by simp [upd, n6] at h⟩⟩
        · have n6 : fl 6 = false := by cases h : fl 6 with
            | false => rfl
            | true => have h4 := hcl 6 4 (by kernel_rfl) h; rw [show fl 4 = false from hfi] at h4; cases h4
          obtain ⟨z1, h1, v1, r1, k1⟩ := (hp 1 (by kernel_rfl)).2
          obtain ⟨z2, h2, v2, r2, k2⟩ := (hp 3 (by kernel_rfl)).2
          have e1 := hc.ev 25 1 rfl
          rw [h1] at e1
          have e2 := hc.ev 27 3 rfl
          rw [h2] at e2
          refine op_call rfl (vs := #[z1.val, z2.val]) (by simp only [List.map_toArray, List.map_cons, List.map_nil, e1, e2]) (by kernel_rfl) (HSP.out wr9 z1 z2 v1 v2 r1.at_ r2.at_ k1 k2) ?_
          rintro e w9 ⟨m, rfl, hm, s9⟩
          exact ⟨_, rfl, hK _ _ (KeepT.of_below s9) ⟨m, _, rfl, hm.base hG.1.size⟩ ⟨hG.1.trans (s9.mono hG.1.size), fun h h6 => (by obtain ⟨g, h1, h2, h3⟩ := hG.2.1 (by simpa [upd] using h) (by simpa [upd] using h6); exact ⟨g, by simpa [upd] using h1, h2, h3.below s9 h3.lt⟩), fun h => by simp [upd, n6] at h⟩⟩
        · have n6 : fl 6 = false := by cases h : fl 6 with
            | false => rfl
            | true => have h4 := hcl 6 5 (by kernel_rfl) h; rw [show fl 5 = false from hfi] at h4; cases h4
          have hfi5 : fl 5 = false := hfi
          unfold Oper.wp execOp
          go_simp
          exact hK _ _ (KeepT.of_alloc _ _ _) trivial ⟨hG.1.alloc hG.1.size _, fun _ _ => ⟨_, by rw [upd_at], hG.1.size, Blk.new _ _ _⟩, fun h => by simp [upd, n6] at h⟩
        · have n6 : fl 6 = false := hfi
          have f5 := (hp 5 (by kernel_rfl)).1
          obtain ⟨g, hg1, hg2, hg3⟩ := hG.2.1 f5 n6
          obtain ⟨m, hi, hm1, hm2⟩ := (hp 4 (by kernel_rfl)).2
          have e1 := hc.ev 6 5 rfl
          rw [hg1] at e1
          have e2 := hc.ev 28 4 rfl
          rw [hm1] at e2
          simp only [C3.cells] at e2
          have c0 : wr9.cell? ⟨g, 0, none⟩ = some (.slice none 0 0) := hg3.cell 0
          have c1 : wr9.cell? ⟨g, 1, none⟩ = some (.slice none 0 0) := hg3.cell 1
          have c2 : wr9.cell? ⟨g, 2, none⟩ = some (.slice none 0 0) := hg3.cell 2
          have f0 : wr9.frozen? ⟨g, 0, none⟩ = false := hg3.frozen 0
          have f1 : wr9.frozen? ⟨g, 1, none⟩ = false := hg3.frozen 1
          have f2 : wr9.frozen? ⟨g, 2, none⟩ = false := hg3.frozen 2
          have hk : KeepT TC wr9 (((wr9.setCell ⟨g, 0, none⟩ (.slice m.A1 a.length m.c1)).setCell ⟨g, 1, none⟩ (.slice m.A2 b.length m.c2)).setCell ⟨g, 2, none⟩ (.slice m.A3 c.length m.c3)) := ((KeepT.of_set hg3 TC_c 0 _).trans (KeepT.of_set (hg3.set_ 0 _) TC_c 1 _)).trans (KeepT.of_set ((hg3.set_ 0 _).set_ 1 _) TC_c 2 _)
          have HQ := Lib.hid (⟨((hG.1.setCell (p := ⟨g, 0, none⟩) hg2 (.slice m.A1 a.length m.c1)).setCell (p := ⟨g, 1, none⟩) hg2 (.slice m.A2 b.length m.c2)).setCell (p := ⟨g, 2, none⟩) hg2 (.slice m.A3 c.length m.c3), ((hg3.set_ 0 (.slice m.A1 a.length m.c1)).set_ 1 (.slice m.A2 b.length m.c2)).set_ 2 (.slice m.A3 c.length m.c3), hm2.keepT hk (.inr rfl), hk⟩ : _ ∧ _ ∧ _ ∧ _)
          have HGP := Lib.hid hg1
          clear hg1 hg3 hk hm1 hm2 hG
          unfold Oper.wp execOp
          simp only [e1, e2]
          go_simp
          exact hK undef _ HQ.out.2.2.2 trivial ⟨HQ.out.1, fun _ h => by simp [upd] at h, fun _ => ⟨g, m, hi, by simpa [upd] using HGP.out, hg2, HQ.out.2.1, HQ.out.2.2.1⟩⟩
      · intro fl vs w2 hfl hG hF
        obtain ⟨gw, m0, h0, hv5, hg2, hg3, hg4⟩ := hG.2.2 (hfl 6 (by simp))
        have s_w2 := hG.1
        have HW := Lib.hid hg3
        have HM0 := Lib.hid hg4
        have zl_gw := hg3.lt
        have zu_gw := hg4.uh
        clear hg3 hg4 hG hF hfl
        simp only [fill]
        go_simp
        try rw [hv5]
        clear hv5
        have HG' : Hid (Below W.heap.size W w2) := HG.out.trans (s_w2.mono HG.out.size)
        clear HG
        have HG := HG'
        clear HG'
        have HA' : Hid (Blk w2 W.heap.size 41 #[.slice o1.sA o1.secs.length o1.sc, .slice o1.yA o1.syms.length o1.yc]) := HA.out.below s_w2 HA.out.lt
        clear HA
        have HA := HA'
        clear HA'
        have HB' : Hid (Blk w2 (W.heap.size + 1) 41 #[.slice o2.sA o2.secs.length o2.sc, .slice o2.yA o2.syms.length o2.yc]) := HB.out.below s_w2 HB.out.lt
        clear HB
        have HB := HB'
        clear HB'
        have z_w2 : w1.heap.size ≤ w2.heap.size := s_w2.size
        clear s_w2
        have ea0 : w2.cell? ⟨W.heap.size, 0, none⟩ = some (.slice o1.sA o1.secs.length o1.sc) := HA.out.cell 0
        have ea1 : w2.cell? ⟨W.heap.size, 1, none⟩ = some (.slice o1.yA o1.syms.length o1.yc) := HA.out.cell 1
        have eaz : W.heap.size < w2.heap.size := HA.out.lt
        have hbw := HG.out
        go_wp2_with fail
        clear ea0 ea1 eaz
        refine (toObj_sp o1 w2 (R0.out.below hbw) hbw.size S0.out).mono ?_
        rintro e w3 ⟨x, rfl, hvx, hqx, s9⟩
        clear hbw
        have HG' : Hid (Below W.heap.size W w3) := HG.out.trans (s9.mono HG.out.size)
        clear HG
        have HG := HG'
        clear HG'
        have HA' : Hid (Blk w3 W.heap.size 41 #[.slice o1.sA o1.secs.length o1.sc, .slice o1.yA o1.syms.length o1.yc]) := HA.out.below s9 HA.out.lt
        clear HA
        have HA := HA'
        clear HA'
        have HB' : Hid (Blk w3 (W.heap.size + 1) 41 #[.slice o2.sA o2.secs.length o2.sc, .slice o2.yA o2.syms.length o2.yc]) := HB.out.below s9 HB.out.lt
        clear HB
        have HB := HB'
        clear HB'
        have HW' : Hid (Blk w3 gw 25 (m0.cells a.length b.length c.length)) := HW.out.below s9 HW.out.lt
        clear HW
        have HW := HW'
        clear HW'
        have HM0' : Hid (m0.Own a b c w1.heap.size h0 w3) := HM0.out.below s9
        clear HM0
        have HM0 := HM0'
        clear HM0'
        have z_w3 : w2.heap.size ≤ w3.heap.size := s9.size
        have Vx := Lib.hid hvx
        have Sx := Lib.hid (Obj.small_v hvx S0.out)
        have OX := Lib.hid hqx
        clear hvx hqx s9
        have eb0 : w3.cell? ⟨(W.heap.size + 1), 0, none⟩ = some (.slice o2.sA o2.secs.length o2.sc) := HB.out.cell 0
        have eb1 : w3.cell? ⟨(W.heap.size + 1), 1, none⟩ = some (.slice o2.yA o2.syms.length o2.yc) := HB.out.cell 1
        have ebz : (W.heap.size + 1) < w3.heap.size := HB.out.lt
        go_wp2_with fail
        clear eb0 eb1 ebz
        obtain ⟨w4, hw4⟩ : ∃ w4, w4 = (w3.alloc (.cells #[.slice x.sA x.secs.length x.sc, .slice x.yA x.syms.length x.yc] 47)) := ⟨_, rfl⟩
        have s9 : Below w3.heap.size w3 w4 := by rw [hw4]; exact (Below.refl w3.heap.size w3).alloc (Nat.le_refl _) (.cells #[.slice x.sA x.secs.length x.sc, .slice x.yA x.syms.length x.yc] 47)
        have HX : Hid (Blk w4 w3.heap.size 47 #[.slice x.sA x.secs.length x.sc, .slice x.yA x.syms.length x.yc]) := by
          have h := Blk.new w3 47 #[.slice x.sA x.secs.length x.sc, .slice x.yA x.syms.length x.yc]
          rw [hw4]
          simpa [Hid] using h
        have zn_w4 : w3.heap.size < w4.heap.size := by rw [hw4]; simp
        rw [← hw4]
        clear hw4
        have HG' : Hid (Below W.heap.size W w4) := HG.out.trans (s9.mono HG.out.size)
        clear HG
        have HG := HG'
        clear HG'
        have HA' : Hid (Blk w4 W.heap.size 41 #[.slice o1.sA o1.secs.length o1.sc, .slice o1.yA o1.syms.length o1.yc]) := HA.out.below s9 HA.out.lt
        clear HA
        have HA := HA'
        clear HA'
        have HB' : Hid (Blk w4 (W.heap.size + 1) 41 #[.slice o2.sA o2.secs.length o2.sc, .slice o2.yA o2.syms.length o2.yc]) := HB.out.below s9 HB.out.lt
        clear HB
        have HB := HB'
        clear HB'
        have HW' : Hid (Blk w4 gw 25 (m0.cells a.length b.length c.length)) := HW.out.below s9 HW.out.lt
        clear HW
        have HW := HW'
        clear HW'
        have HM0' : Hid (m0.Own a b c w1.heap.size h0 w4) := HM0.out.below s9
        clear HM0
        have HM0 := HM0'
        clear HM0'
        have OX' : Hid (x.Own w4 w2.heap.size w3.heap.size) := OX.out.below s9
        clear OX
        have OX := OX'
        clear OX'
        have z_w4 : w3.heap.size ≤ w4.heap.size := s9.size
        clear s9
        refine (toObj_sp o2 w4 (R1.out.below HG.out) HG.out.size S1.out).mono ?_
        rintro e w5 ⟨y, rfl, hvy, hqy, s9⟩
        have HG' : Hid (Below W.heap.size W w5) := HG.out.trans (s9.mono HG.out.size)
        clear HG
        have HG := HG'
        clear HG'
        have HA' : Hid (Blk w5 W.heap.size 41 #[.slice o1.sA o1.secs.length o1.sc, .slice o1.yA o1.syms.length o1.yc]) := HA.out.below s9 HA.out.lt
        clear HA
        have HA := HA'
        clear HA'
        have HB' : Hid (Blk w5 (W.heap.size + 1) 41 #[.slice o2.sA o2.secs.length o2.sc, .slice o2.yA o2.syms.length o2.yc]) := HB.out.below s9 HB.out.lt
        clear HB
        have HB := HB'
        clear HB'
        have HW' : Hid (Blk w5 gw 25 (m0.cells a.length b.length c.length)) := HW.out.below s9 HW.out.lt
        clear HW
        have HW := HW'
        clear HW'
        have HM0' : Hid (m0.Own a b c w1.heap.size h0 w5) := HM0.out.below s9
        clear HM0
        have HM0 := HM0'
        clear HM0'
        have OX' : Hid (x.Own w5 w2.heap.size w3.heap.size) := OX.out.below s9
        clear OX
        have OX := OX'
        clear OX'
        have HX' : Hid (Blk w5 w3.heap.size 47 #[.slice x.sA x.secs.length x.sc, .slice x.yA x.syms.length x.yc]) := HX.out.below s9 HX.out.lt
        clear HX
        have HX := HX'
        clear HX'
        have z_w5 : w4.heap.size ≤ w5.heap.size := s9.size
        have Vy := Lib.hid hvy
        have Sy := Lib.hid (Obj.small_v hvy S1.out)
        have OY := Lib.hid hqy
        clear hvy hqy s9
        have ea0 : w5.cell? ⟨w3.heap.size, 0, none⟩ = some (.slice x.sA x.secs.length x.sc) := HX.out.cell 0
        have ea1 : w5.cell? ⟨w3.heap.size, 1, none⟩ = some (.slice x.yA x.syms.length x.yc) := HX.out.cell 1
        have eaz : w3.heap.size < w5.heap.size := HX.out.lt
        go_wp2_with fail
        clear ea0 ea1 eaz
        obtain ⟨w6, hw6⟩ : ∃ w6, w6 = (w5.alloc (.cells #[.slice y.sA y.secs.length y.sc, .slice y.yA y.syms.length y.yc] 47)) := ⟨_, rfl⟩
        have s9 : Below w5.heap.size w5 w6 := by rw [hw6]; exact (Below.refl w5.heap.size w5).alloc (Nat.le_refl _) (.cells #[.slice y.sA y.secs.length y.sc, .slice y.yA y.syms.length y.yc] 47)
        have HY : Hid (Blk w6 w5.heap.size 47 #[.slice y.sA y.secs.length y.sc, .slice y.yA y.syms.length y.yc]) := by
          have h := Blk.new w5 47 #[.slice y.sA y.secs.length y.sc, .slice y.yA y.syms.length y.yc]
          rw [hw6]
          simpa [Hid] using h
        have zn_w6 : w5.heap.size < w6.heap.size := by rw [hw6]; simp
        rw [← hw6]
        clear hw6
        have HG' : Hid (Below W.heap.size W w6) := HG.out.trans (s9.mono HG.out.size)
        clear HG
        have HG := HG'
        clear HG'
        have HA' : Hid (Blk w6 W.heap.size 41 #[.slice o1.sA o1.secs.length o1.sc, .slice o1.yA o1.syms.length o1.yc]) := HA.out.below s9 HA.out.lt
        clear HA
        have HA := HA'
        clear HA'
        have HB' : Hid (Blk w6 (W.heap.size + 1) 41 #[.slice o2.sA o2.secs.length o2.sc, .slice o2.yA o2.syms.length o2.yc]) := HB.out.below s9 HB.out.lt
        clear HB
        have HB := HB'
        clear HB'
        have HW' : Hid (Blk w6 gw 25 (m0.cells a.length b.length c.length)) := HW.out.below s9 HW.out.lt
        clear HW
        have HW := HW'
        clear HW'
        have HM0' : Hid (m0.Own a b c w1.heap.size h0 w6) := HM0.out.below s9
        clear HM0
        have HM0 := HM0'
        clear HM0'
        have OX' : Hid (x.Own w6 w2.heap.size w3.heap.size) := OX.out.below s9
        clear OX
        have OX := OX'
        clear OX'
        have HX' : Hid (Blk w6 w3.heap.size 47 #[.slice x.sA x.secs.length x.sc, .slice x.yA x.syms.length x.yc]) := HX.out.below s9 HX.out.lt
        clear HX
        have HX := HX'
        clear HX'
        have OY' : Hid (y.Own w6 w4.heap.size w5.heap.size) := OY.out.below s9
        clear OY
        have OY := OY'
        clear OY'
        have z_w6 : w5.heap.size ≤ w6.heap.size := s9.size
        clear s9
        refine (HIM.out w6 x y Vx.out Vy.out OX.out.at_ OY.out.at_ OX.out.cap OY.out.cap).mono ?_
        rintro e w7 ⟨m1, he, hm1, s9⟩
        simp only [C3.cells] at he
        subst he
        have HG' : Hid (Below W.heap.size W w7) := HG.out.trans (s9.mono HG.out.size)
        clear HG
        have HG := HG'
        clear HG'
        have HA' : Hid (Blk w7 W.heap.size 41 #[.slice o1.sA o1.secs.length o1.sc, .slice o1.yA o1.syms.length o1.yc]) := HA.out.below s9 HA.out.lt
        clear HA
        have HA := HA'
        clear HA'
        have HB' : Hid (Blk w7 (W.heap.size + 1) 41 #[.slice o2.sA o2.secs.length o2.sc, .slice o2.yA o2.syms.length o2.yc]) := HB.out.below s9 HB.out.lt
        clear HB
        have HB := HB'
        clear HB'
        have HW' : Hid (Blk w7 gw 25 (m0.cells a.length b.length c.length)) := HW.out.below s9 HW.out.lt
        clear HW
        have HW := HW'
        clear HW'
        have HM0' : Hid (m0.Own a b c w1.heap.size h0 w7) := HM0.out.below s9
        clear HM0
        have HM0 := HM0'
        clear HM0'
        have OX' : Hid (x.Own w7 w2.heap.size w3.heap.size) := OX.out.below s9
        clear OX
        have OX := OX'
        clear OX'
        have HX' : Hid (Blk w7 w3.heap.size 47 #[.slice x.sA x.secs.length x.sc, .slice x.yA x.syms.length x.yc]) := HX.out.below s9 HX.out.lt
        clear HX
        have HX := HX'
        clear HX'
        have OY' : Hid (y.Own w7 w4.heap.size w5.heap.size) := OY.out.below s9
        clear OY
        have OY := OY'
        clear OY'
        have HY' : Hid (Blk w7 w5.heap.size 47 #[.slice y.sA y.secs.length y.sc, .slice y.yA y.syms.length y.yc]) := HY.out.below s9 HY.out.lt
        clear HY
        have HY := HY'
        clear HY'
        have z_w7 : w6.heap.size ≤ w7.heap.size := s9.size
        have HM1 := Lib.hid hm1
        clear hm1 s9
        have ew0 : w7.cell? ⟨gw, 0, none⟩ = some (.slice m0.A1 a.length m0.c1) := HW.out.cell 0
        have ew1 : w7.cell? ⟨gw, 1, none⟩ = some (.slice m0.A2 b.length m0.c2) := HW.out.cell 1
        have ew2 : w7.cell? ⟨gw, 2, none⟩ = some (.slice m0.A3 c.length m0.c3) := HW.out.cell 2
        have ewz : gw < w7.heap.size := HW.out.lt
        go_wp2_with fail
        clear ewz ew0 ew1 ew2
        obtain ⟨w8, hw8⟩ : ∃ w8, w8 = (w7.alloc (.cells #[.slice m1.A1 a.length m1.c1, .slice m1.A2 b.length m1.c2, .slice m1.A3 c.length m1.c3] 25)) := ⟨_, rfl⟩
        have s9 : Below w7.heap.size w7 w8 := by rw [hw8]; exact (Below.refl w7.heap.size w7).alloc (Nat.le_refl _) (.cells #[.slice m1.A1 a.length m1.c1, .slice m1.A2 b.length m1.c2, .slice m1.A3 c.length m1.c3] 25)
        have HGB : Hid (Blk w8 w7.heap.size 25 #[.slice m1.A1 a.length m1.c1, .slice m1.A2 b.length m1.c2, .slice m1.A3 c.length m1.c3]) := by
          have h := Blk.new w7 25 #[.slice m1.A1 a.length m1.c1, .slice m1.A2 b.length m1.c2, .slice m1.A3 c.length m1.c3]
          rw [hw8]
          simpa [Hid] using h
        have zn_w8 : w7.heap.size < w8.heap.size := by rw [hw8]; simp
        rw [← hw8]
        clear hw8
        have HG' : Hid (Below W.heap.size W w8) := HG.out.trans (s9.mono HG.out.size)
        clear HG
        have HG := HG'
        clear HG'
        have HA' : Hid (Blk w8 W.heap.size 41 #[.slice o1.sA o1.secs.length o1.sc, .slice o1.yA o1.syms.length o1.yc]) := HA.out.below s9 HA.out.lt
        clear HA
        have HA := HA'
        clear HA'
        have HB' : Hid (Blk w8 (W.heap.size + 1) 41 #[.slice o2.sA o2.secs.length o2.sc, .slice o2.yA o2.syms.length o2.yc]) := HB.out.below s9 HB.out.lt
        clear HB
        have HB := HB'
        clear HB'
        have HW' : Hid (Blk w8 gw 25 (m0.cells a.length b.length c.length)) := HW.out.below s9 HW.out.lt
        clear HW
        have HW := HW'
        clear HW'
        have HM0' : Hid (m0.Own a b c w1.heap.size h0 w8) := HM0.out.below s9
        clear HM0
        have HM0 := HM0'
        clear HM0'
        have OX' : Hid (x.Own w8 w2.heap.size w3.heap.size) := OX.out.below s9
        clear OX
        have OX := OX'
        clear OX'
        have HX' : Hid (Blk w8 w3.heap.size 47 #[.slice x.sA x.secs.length x.sc, .slice x.yA x.syms.length x.yc]) := HX.out.below s9 HX.out.lt
        clear HX
        have HX := HX'
        clear HX'
        have OY' : Hid (y.Own w8 w4.heap.size w5.heap.size) := OY.out.below s9
        clear OY
        have OY := OY'
        clear OY'
        have HY' : Hid (Blk w8 w5.heap.size 47 #[.slice y.sA y.secs.length y.sc, .slice y.yA y.syms.length y.yc]) := HY.out.below s9 HY.out.lt
        clear HY
        have HY := HY'
        clear HY'
        have HM1' : Hid (m1.Own a b c w6.heap.size w7.heap.size w8) := HM1.out.below s9
        clear HM1
        have HM1 := HM1'
        clear HM1'
        have z_w8 : w7.heap.size ≤ w8.heap.size := s9.size
        clear s9
        refine (HM1.out.eq_ HM0.out).mono ?_
        rintro e w9 ⟨rfl, s9⟩
        have HG' : Hid (Below W.heap.size W w9) := HG.out.trans (s9.mono HG.out.size)
        clear HG
        have HG := HG'
        clear HG'
        have HA' : Hid (Blk w9 W.heap.size 41 #[.slice o1.sA o1.secs.length o1.sc, .slice o1.yA o1.syms.length o1.yc]) := HA.out.below s9 HA.out.lt
        clear HA
        have HA := HA'
        clear HA'
        have HB' : Hid (Blk w9 (W.heap.size + 1) 41 #[.slice o2.sA o2.secs.length o2.sc, .slice o2.yA o2.syms.length o2.yc]) := HB.out.below s9 HB.out.lt
        clear HB
        have HB := HB'
        clear HB'
        have HW' : Hid (Blk w9 gw 25 (m0.cells a.length b.length c.length)) := HW.out.below s9 HW.out.lt
        clear HW
        have HW := HW'
        clear HW'
        have HM0' : Hid (m0.Own a b c w1.heap.size h0 w9) := HM0.out.below s9
        clear HM0
        have HM0 := HM0'
        clear HM0'
        have OX' : Hid (x.Own w9 w2.heap.size w3.heap.size) := OX.out.below s9
        clear OX
        have OX := OX'
        clear OX'
        have HX' : Hid (Blk w9 w3.heap.size 47 #[.slice x.sA x.secs.length x.sc, .slice x.yA x.syms.length x.yc]) := HX.out.below s9 HX.out.lt
        clear HX
        have HX := HX'
        clear HX'
        have OY' : Hid (y.Own w9 w4.heap.size w5.heap.size) := OY.out.below s9
        clear OY
        have OY := OY'
        clear OY'
        have HY' : Hid (Blk w9 w5.heap.size 47 #[.slice y.sA y.secs.length y.sc, .slice y.yA y.syms.length y.yc]) := HY.out.below s9 HY.out.lt
        clear HY
        have HY := HY'
        clear HY'
        have HM1' : Hid (m1.Own a b c w6.heap.size w7.heap.size w9) := HM1.out.below s9
        clear HM1
        have HM1 := HM1'
        clear HM1'
        have HGB' : Hid (Blk w9 w7.heap.size 25 #[.slice m1.A1 a.length m1.c1, .slice m1.A2 b.length m1.c2, .slice m1.A3 c.length m1.c3]) := HGB.out.below s9 HGB.out.lt
        clear HGB
        have HGB := HGB'
        clear HGB'
        have z_w9 : w8.heap.size ≤ w9.heap.size := s9.size
        clear s9
        go_wp2
        refine wp_region_facts (fun i v wv => match i with
            | 0 => v = x.val
            | 1 => v = o1.val
            | 2 => ∃ z : Obj, v = z.val ∧ z.v = o1.v ∧ ObjRows w9.heap.size z wv ∧ z.syms.length ≤ z.yc
            | 3 => v = .bool true
            | _ => v = .bool false)
          (fun fl vs wq => Below w9.heap.size w9 wq) (fun w w' => KeepT TC w w') (by kernel_rfl) (by kernel_rfl) ?_ ?_ ?_ ?_
        · intro i v u u2 hk h
          match i, h with
          | 0, h => exact h
          | 1, h => exact h
          | 2, h => exact let ⟨z, h1, h2, h3, h4⟩ := h; ⟨z, h1, h2, h3.keep hk.toO, h4⟩
          | 3, h => exact h
          | _ + 4, h => exact h
        · intro fl vs hfl
          exact below_drewN (Below.refl _ _) 1
        · refine ⟨?_, ?_, ?_, ?_, ?_, trivial⟩
          all_goals intro fl vs wr9 a1 hc hG hfi hcl hp K hK
          · have e1 : a1.eval (.tmp 7) = .pointer (some ⟨w3.heap.size, 0, none⟩) := hc.ev0 7 rfl
            have c0 : wr9.cell? ⟨w3.heap.size, 0, none⟩ = some (.slice x.sA x.secs.length x.sc) := (HX.out.below hG HX.out.lt).cell 0
            have c1 : wr9.cell? ⟨w3.heap.size, 1, none⟩ = some (.slice x.yA x.syms.length x.yc) := (HX.out.below hG HX.out.lt).cell 1
            unfold Oper.wp execOp
            simp only [e1]
            go_simp
            exact hK _ _ ⟨Nat.le_refl _, fun _ _ _ _ _ => rfl⟩ rfl hG
          · have e1 : a1.eval (.tmp 2) = .pointer (some ⟨W.heap.size, 0, none⟩) := hc.ev0 2 rfl
            have c0 : wr9.cell? ⟨W.heap.size, 0, none⟩ = some (.slice o1.sA o1.secs.length o1.sc) := (HA.out.below hG HA.out.lt).cell 0
            have c1 : wr9.cell? ⟨W.heap.size, 1, none⟩ = some (.slice o1.yA o1.syms.length o1.yc) := (HA.out.below hG HA.out.lt).cell 1
            unfold Oper.wp execOp
            simp only [e1]
            go_simp
            exact hK _ _ ⟨Nat.le_refl _, fun _ _ _ _ _ => rfl⟩ rfl hG
          · have e1 := hc.ev 41 1 rfl
            rw [show vs 1 = _ from (hp 1 (by kernel_rfl)).2] at e1
            have hbw := HG.out.trans (hG.mono HG.out.size)
            refine op_call rfl (vs := #[o1.val]) (by simp only [List.map_toArray, List.map_cons, List.map_nil, e1]) (by kernel_rfl) (toObj_sp o1 wr9 (R0.out.below hbw) hbw.size S0.out) ?_
            rintro e w9 ⟨z, rfl, hzv, hzo, s9⟩
            exact ⟨_, rfl, hK _ _ (KeepT.of_below s9) ⟨z, rfl, hzv, hzo.rows.base hG.size, hzo.cap⟩ (hG.trans (s9.mono hG.size))⟩
          · obtain ⟨z, h1, v1, r1, _⟩ := (hp 2 (by kernel_rfl)).2
            have e1 := hc.ev 40 0 rfl
            rw [show vs 0 = _ from (hp 0 (by kernel_rfl)).2] at e1
            have e2 := hc.ev 42 2 rfl
            rw [h1] at e2
            refine op_call rfl (vs := #[x.val, z.val]) (by simp only [List.map_toArray, List.map_cons, List.map_nil, e1, e2]) (by kernel_rfl) (eqObj_same x z wr9 (Vx.out.trans v1.symm) ((OX.out.below hG).at_) r1.at_ (Nat.le_refl _) (Nat.le_refl _) Sx.out) ?_
            rintro e w9 ⟨rfl, s9⟩
            exact ⟨_, rfl, hK _ _ (KeepT.of_below s9) rfl (hG.trans (s9.mono hG.size))⟩
          · have e1 := hc.ev 43 3 rfl
            rw [show vs 3 = _ from (hp 3 (by kernel_rfl)).2] at e1
            unfold Oper.wp execOp
            simp only [e1]
            go_simp
            exact hK _ _ ⟨Nat.le_refl _, fun _ _ _ _ _ => rfl⟩ rfl hG
        · intro fl vs w10 hfl hG hF
          have h4 := hF 4 (by simp)
          have s9 := hG
          clear hG hF hfl
          simp only [fill]
          go_simp
          try rw [show vs 4 = _ from h4]
          clear h4
          have HG' : Hid (Below W.heap.size W w10) := HG.out.trans (s9.mono HG.out.size)
          clear HG
          have HG := HG'
          clear HG'
          have HA' : Hid (Blk w10 W.heap.size 41 #[.slice o1.sA o1.secs.length o1.sc, .slice o1.yA o1.syms.length o1.yc]) := HA.out.below s9 HA.out.lt
          clear HA
          have HA := HA'
          clear HA'
          have HB' : Hid (Blk w10 (W.heap.size + 1) 41 #[.slice o2.sA o2.secs.length o2.sc, .slice o2.yA o2.syms.length o2.yc]) := HB.out.below s9 HB.out.lt
          clear HB
          have HB := HB'
          clear HB'
          have HW' : Hid (Blk w10 gw 25 (m0.cells a.length b.length c.length)) := HW.out.below s9 HW.out.lt
          clear HW
          have HW := HW'
          clear HW'
          have HM0' : Hid (m0.Own a b c w1.heap.size h0 w10) := HM0.out.below s9
          clear HM0
          have HM0 := HM0'
          clear HM0'
          have OX' : Hid (x.Own w10 w2.heap.size w3.heap.size) := OX.out.below s9
          clear OX
          have OX := OX'
          clear OX'
          have HX' : Hid (Blk w10 w3.heap.size 47 #[.slice x.sA x.secs.length x.sc, .slice x.yA x.syms.length x.yc]) := HX.out.below s9 HX.out.lt
          clear HX
          have HX := HX'
          clear HX'
          have OY' : Hid (y.Own w10 w4.heap.size w5.heap.size) := OY.out.below s9
          clear OY
          have OY := OY'
          clear OY'
          have HY' : Hid (Blk w10 w5.heap.size 47 #[.slice y.sA y.secs.length y.sc, .slice y.yA y.syms.length y.yc]) := HY.out.below s9 HY.out.lt
          clear HY
          have HY := HY'
          clear HY'
          have HM1' : Hid (m1.Own a b c w6.heap.size w7.heap.size w10) := HM1.out.below s9
          clear HM1
          have HM1 := HM1'
          clear HM1'
          have HGB' : Hid (Blk w10 w7.heap.size 25 #[.slice m1.A1 a.length m1.c1, .slice m1.A2 b.length m1.c2, .slice m1.A3 c.length m1.c3]) := HGB.out.below s9 HGB.out.lt
          clear HGB
          have HGB := HGB'
          clear HGB'
          have z_w10 : w9.heap.size ≤ w10.heap.size := s9.size
          clear s9
          go_wp2
          refine wp_region_facts (fun i v wv => match i with
              | 0 => v = y.val
              | 1 => v = o2.val
              | 2 => ∃ z : Obj, v = z.val ∧ z.v = o2.v ∧ ObjRows w10.heap.size z wv ∧ z.syms.length ≤ z.yc
              | 3 => v = .bool true
              | _ => v = .bool false)
            (fun fl vs wq => Below w10.heap.size w10 wq) (fun w w' => KeepT TC w w') (by kernel_rfl) (by kernel_rfl) ?_ ?_ ?_ ?_
          · intro i v u u2 hk h
            match i, h with
            | 0, h => exact h
            | 1, h => exact h
            | 2, h => exact let ⟨z, h1, h2, h3, h4⟩ := h; ⟨z, h1, h2, h3.keep hk.toO, h4⟩
            | 3, h => exact h
            | _ + 4, h => exact h
          · intro fl vs hfl
            exact below_drewN (Below.refl _ _) 1
          · refine ⟨?_, ?_, ?_, ?_, ?_, trivial⟩
            all_goals intro fl vs wr9 a1 hc hG hfi hcl hp K hK
            · have e1 : a1.eval (.tmp 8) = .pointer (some ⟨w5.heap.size, 0, none⟩) := hc.ev0 8 rfl
              have c0 : wr9.cell? ⟨w5.heap.size, 0, none⟩ = some (.slice y.sA y.secs.length y.sc) := (HY.out.below hG HY.out.lt).cell 0
              have c1 : wr9.cell? ⟨w5.heap.size, 1, none⟩ = some (.slice y.yA y.syms.length y.yc) := (HY.out.below hG HY.out.lt).cell 1
              unfold Oper.wp execOp
              simp only [e1]
              go_simp
              exact hK _ _ ⟨Nat.le_refl _, fun _ _ _ _ _ => rfl⟩ rfl hG
            · have e1 : a1.eval (.tmp 3) = .pointer (some ⟨(W.heap.size + 1), 0, none⟩) := hc.ev0 3 rfl
              have c0 : wr9.cell? ⟨(W.heap.size + 1), 0, none⟩ = some (.slice o2.sA o2.secs.length o2.sc) := (HB.out.below hG HB.out.lt).cell 0
              have c1 : wr9.cell? ⟨(W.heap.size + 1), 1, none⟩ = some (.slice o2.yA o2.syms.length o2.yc) := (HB.out.below hG HB.out.lt).cell 1
              unfold Oper.wp execOp
              simp only [e1]
              go_simp
              exact hK _ _ ⟨Nat.le_refl _, fun _ _ _ _ _ => rfl⟩ rfl hG
            · have e1 := hc.ev 46 1 rfl
              rw [show vs 1 = _ from (hp 1 (by kernel_rfl)).2] at e1
              have hbw := HG.out.trans (hG.mono HG.out.size)
              refine op_call rfl (vs := #[o2.val]) (by simp only [List.map_toArray, List.map_cons, List.map_nil, e1]) (by kernel_rfl) (toObj_sp o2 wr9 (R1.out.below hbw) hbw.size S1.out) ?_
              rintro e w9 ⟨z, rfl, hzv, hzo, s9⟩
              exact ⟨_, rfl, hK _ _ (KeepT.of_below s9) ⟨z, rfl, hzv, hzo.rows.base hG.size, hzo.cap⟩ (hG.trans (s9.mono hG.size))⟩
            · obtain ⟨z, h1, v1, r1, _⟩ := (hp 2 (by kernel_rfl)).2
              have e1 := hc.ev 45 0 rfl
              rw [show vs 0 = _ from (hp 0 (by kernel_rfl)).2] at e1
              have e2 := hc.ev 47 2 rfl
              rw [h1] at e2
              refine op_call rfl (vs := #[y.val, z.val]) (by simp only [List.map_toArray, List.map_cons, List.map_nil, e1, e2]) (by kernel_rfl) (eqObj_same y z wr9 (Vy.out.trans v1.symm) ((OY.out.below hG).at_) r1.at_ (Nat.le_refl _) (Nat.le_refl _) Sy.out) ?_
              rintro e w9 ⟨rfl, s9⟩
              exact ⟨_, rfl, hK _ _ (KeepT.of_below s9) rfl (hG.trans (s9.mono hG.size))⟩
            · have e1 := hc.ev 48 3 rfl
              rw [show vs 3 = _ from (hp 3 (by kernel_rfl)).2] at e1
              unfold Oper.wp execOp
              simp only [e1]
              go_simp
              exact hK _ _ ⟨Nat.le_refl _, fun _ _ _ _ _ => rfl⟩ rfl hG
          · intro fl vs w11 hfl hG hF
            have h4 := hF 4 (by simp)
            have s9 := hG
            clear hG hF hfl
            simp only [fill]
            go_simp
            try rw [show vs 4 = _ from h4]
            clear h4
            have HG' : Hid (Below W.heap.size W w11) := HG.out.trans (s9.mono HG.out.size)
            clear HG
            have HG := HG'
            clear HG'
            have HA' : Hid (Blk w11 W.heap.size 41 #[.slice o1.sA o1.secs.length o1.sc, .slice o1.yA o1.syms.length o1.yc]) := HA.out.below s9 HA.out.lt
            clear HA
            have HA := HA'
            clear HA'
            have HB' : Hid (Blk w11 (W.heap.size + 1) 41 #[.slice o2.sA o2.secs.length o2.sc, .slice o2.yA o2.syms.length o2.yc]) := HB.out.below s9 HB.out.lt
            clear HB
            have HB := HB'
            clear HB'
            have HW' : Hid (Blk w11 gw 25 (m0.cells a.length b.length c.length)) := HW.out.below s9 HW.out.lt
            clear HW
            have HW := HW'
            clear HW'
            have HM0' : Hid (m0.Own a b c w1.heap.size h0 w11) := HM0.out.below s9
            clear HM0
            have HM0 := HM0'
            clear HM0'
            have OX' : Hid (x.Own w11 w2.heap.size w3.heap.size) := OX.out.below s9
            clear OX
            have OX := OX'
            clear OX'
            have HX' : Hid (Blk w11 w3.heap.size 47 #[.slice x.sA x.secs.length x.sc, .slice x.yA x.syms.length x.yc]) := HX.out.below s9 HX.out.lt
            clear HX
            have HX := HX'
            clear HX'
            have OY' : Hid (y.Own w11 w4.heap.size w5.heap.size) := OY.out.below s9
            clear OY
            have OY := OY'
            clear OY'
            have HY' : Hid (Blk w11 w5.heap.size 47 #[.slice y.sA y.secs.length y.sc, .slice y.yA y.syms.length y.yc]) := HY.out.below s9 HY.out.lt
            clear HY
            have HY := HY'
            clear HY'
            have HM1' : Hid (m1.Own a b c w6.heap.size w7.heap.size w11) := HM1.out.below s9
            clear HM1
            have HM1 := HM1'
            clear HM1'
            have HGB' : Hid (Blk w11 w7.heap.size 25 #[.slice m1.A1 a.length m1.c1, .slice m1.A2 b.length m1.c2, .slice m1.A3 c.length m1.c3]) := HGB.out.below s9 HGB.out.lt
            clear HGB
            have HGB := HGB'
            clear HGB'
            have z_w11 : w10.heap.size ≤ w11.heap.size := s9.size
            clear s9
            have ea0 : w11.cell? ⟨w3.heap.size, 0, none⟩ = some (.slice x.sA x.secs.length x.sc) := HX.out.cell 0
            have ea1 : w11.cell? ⟨w3.heap.size, 1, none⟩ = some (.slice x.yA x.syms.length x.yc) := HX.out.cell 1
            have eaz : w3.heap.size < w11.heap.size := HX.out.lt
            go_wp2_with fail
            clear ea0 ea1 eaz
            have hcnb := Sec.cnts_bd x.secs
            have htn : (x.secs.length : Int) + Sec.tots x.secs ≤ 1048576 := by
              rw [Sec.tots_v (Obj.v_eq Vx.out).1, secs_len (Obj.v_eq Vx.out).1]
              have h1 := hz1
              unfold Obj.tot at h1
              have h2 := bulk_nonneg (o1.syms.map Sym.name)
              omega
            refine (markObj_any x 1 w11 OX.out (by omega) (by omega) (by omega) Sx.out).mono ?_
            rintro e w12 ⟨km, rfl, ⟨hkm0, hkm1⟩, on9, zz9⟩
            clear hcnb htn
            clear OX
            have HG' : Hid (Below W.heap.size W w12) := below_only HG.out on9 (by omega) HG.out.size
            clear HG
            have HG := HG'
            clear HG'
            have HA' : Hid (Blk w12 W.heap.size 41 #[.slice o1.sA o1.secs.length o1.sc, .slice o1.yA o1.syms.length o1.yc]) := blk_only HA.out on9 (by omega)
            clear HA
            have HA := HA'
            clear HA'
            have HB' : Hid (Blk w12 (W.heap.size + 1) 41 #[.slice o2.sA o2.secs.length o2.sc, .slice o2.yA o2.syms.length o2.yc]) := blk_only HB.out on9 (by omega)
            clear HB
            have HB := HB'
            clear HB'
            have HW' : Hid (Blk w12 gw 25 (m0.cells a.length b.length c.length)) := blk_only HW.out on9 (by omega)
            clear HW
            have HW := HW'
            clear HW'
            have HM0' : Hid (m0.Own a b c w1.heap.size h0 w12) := HM0.out.only on9 (by omega)
            clear HM0
            have HM0 := HM0'
            clear HM0'
            have HX' : Hid (Blk w12 w3.heap.size 47 #[.slice x.sA x.secs.length x.sc, .slice x.yA x.syms.length x.yc]) := blk_only HX.out on9 (by omega)
            clear HX
            have HX := HX'
            clear HX'
            have OY' : Hid (y.Own w12 w4.heap.size w5.heap.size) := OY.out.only on9 (by omega)
            clear OY
            have OY := OY'
            clear OY'
            have HY' : Hid (Blk w12 w5.heap.size 47 #[.slice y.sA y.secs.length y.sc, .slice y.yA y.syms.length y.yc]) := blk_only HY.out on9 (by omega)
            clear HY
            have HY := HY'
            clear HY'
            have HM1' : Hid (m1.Own a b c w6.heap.size w7.heap.size w12) := HM1.out.only on9 (by omega)
            clear HM1
            have HM1 := HM1'
            clear HM1'
            have HGB' : Hid (Blk w12 w7.heap.size 25 #[.slice m1.A1 a.length m1.c1, .slice m1.A2 b.length m1.c2, .slice m1.A3 c.length m1.c3]) := blk_only HGB.out on9 (by omega)
            clear HGB
            have HGB := HGB'
            clear HGB'
            have z_w12 : w11.heap.size ≤ w12.heap.size := on9.size
            clear on9 zz9
            have ea0 : w12.cell? ⟨w5.heap.size, 0, none⟩ = some (.slice y.sA y.secs.length y.sc) := HY.out.cell 0
            have ea1 : w12.cell? ⟨w5.heap.size, 1, none⟩ = some (.slice y.yA y.syms.length y.yc) := HY.out.cell 1
            have eaz : w5.heap.size < w12.heap.size := HY.out.lt
            go_wp2_with fail
            clear ea0 ea1 eaz
            have hkm2 : km ≤ 10485760 := by omega
            have hcnb := Sec.cnts_bd y.secs
            have htn : (y.secs.length : Int) + Sec.tots y.secs ≤ 1048576 := by
              rw [Sec.tots_v (Obj.v_eq Vy.out).1, secs_len (Obj.v_eq Vy.out).1]
              have h1 := hz2
              unfold Obj.tot at h1
              have h2 := bulk_nonneg (o2.syms.map Sym.name)
              omega
            refine (markObj_any y km w12 OY.out (by omega) (by omega) (by omega) Sy.out).mono ?_
            rintro e w13 ⟨km, rfl, ⟨hkm0, hkm1⟩, on9, zz9⟩
            clear hcnb htn
            clear OY
            have HG' : Hid (Below W.heap.size W w13) := below_only HG.out on9 (by omega) HG.out.size
            clear HG
            have HG := HG'
            clear HG'
            have HA' : Hid (Blk w13 W.heap.size 41 #[.slice o1.sA o1.secs.length o1.sc, .slice o1.yA o1.syms.length o1.yc]) := blk_only HA.out on9 (by omega)
            clear HA
            have HA := HA'
            clear HA'
            have HB' : Hid (Blk w13 (W.heap.size + 1) 41 #[.slice o2.sA o2.secs.length o2.sc, .slice o2.yA o2.syms.length o2.yc]) := blk_only HB.out on9 (by omega)
            clear HB
            have HB := HB'
            clear HB'
            have HW' : Hid (Blk w13 gw 25 (m0.cells a.length b.length c.length)) := blk_only HW.out on9 (by omega)
            clear HW
            have HW := HW'
            clear HW'
            have HM0' : Hid (m0.Own a b c w1.heap.size h0 w13) := HM0.out.only on9 (by omega)
            clear HM0
            have HM0 := HM0'
            clear HM0'
            have HX' : Hid (Blk w13 w3.heap.size 47 #[.slice x.sA x.secs.length x.sc, .slice x.yA x.syms.length x.yc]) := blk_only HX.out on9 (by omega)
            clear HX
            have HX := HX'
            clear HX'
            have HY' : Hid (Blk w13 w5.heap.size 47 #[.slice y.sA y.secs.length y.sc, .slice y.yA y.syms.length y.yc]) := blk_only HY.out on9 (by omega)
            clear HY
            have HY := HY'
            clear HY'
            have HM1' : Hid (m1.Own a b c w6.heap.size w7.heap.size w13) := HM1.out.only on9 (by omega)
            clear HM1
            have HM1 := HM1'
            clear HM1'
            have HGB' : Hid (Blk w13 w7.heap.size 25 #[.slice m1.A1 a.length m1.c1, .slice m1.A2 b.length m1.c2, .slice m1.A3 c.length m1.c3]) := blk_only HGB.out on9 (by omega)
            clear HGB
            have HGB := HGB'
            clear HGB'
            have z_w13 : w12.heap.size ≤ w13.heap.size := on9.size
            clear on9 zz9
            have ea0 : w13.cell? ⟨w7.heap.size, 0, none⟩ = some (.slice m1.A1 a.length m1.c1) := HGB.out.cell 0
            have ea1 : w13.cell? ⟨w7.heap.size, 1, none⟩ = some (.slice m1.A2 b.length m1.c2) := HGB.out.cell 1
            have ea2 : w13.cell? ⟨w7.heap.size, 2, none⟩ = some (.slice m1.A3 c.length m1.c3) := HGB.out.cell 2
            have eaz : w7.heap.size < w13.heap.size := HGB.out.lt
            have eb0 : w13.cell? ⟨gw, 0, none⟩ = some (.slice m0.A1 a.length m0.c1) := HW.out.cell 0
            have eb1 : w13.cell? ⟨gw, 1, none⟩ = some (.slice m0.A2 b.length m0.c2) := HW.out.cell 1
            have eb2 : w13.cell? ⟨gw, 2, none⟩ = some (.slice m0.A3 c.length m0.c3) := HW.out.cell 2
            have ebz : gw < w13.heap.size := HW.out.lt
            go_wp2_with fail
            clear eaz ea0 ea1 ea2
            clear ebz eb0 eb1 eb2
            refine (HM1.out.eq_ HM0.out).mono ?_
            rintro e w14 ⟨rfl, s9⟩
            have HG' : Hid (Below W.heap.size W w14) := HG.out.trans (s9.mono HG.out.size)
            clear HG
            have HG := HG'
            clear HG'
            have HA' : Hid (Blk w14 W.heap.size 41 #[.slice o1.sA o1.secs.length o1.sc, .slice o1.yA o1.syms.length o1.yc]) := HA.out.below s9 HA.out.lt
            clear HA
            have HA := HA'
            clear HA'
            have HB' : Hid (Blk w14 (W.heap.size + 1) 41 #[.slice o2.sA o2.secs.length o2.sc, .slice o2.yA o2.syms.length o2.yc]) := HB.out.below s9 HB.out.lt
            clear HB
            have HB := HB'
            clear HB'
            have HW' : Hid (Blk w14 gw 25 (m0.cells a.length b.length c.length)) := HW.out.below s9 HW.out.lt
            clear HW
            have HW := HW'
            clear HW'
            have HM0' : Hid (m0.Own a b c w1.heap.size h0 w14) := HM0.out.below s9
            clear HM0
            have HM0 := HM0'
            clear HM0'
            have HX' : Hid (Blk w14 w3.heap.size 47 #[.slice x.sA x.secs.length x.sc, .slice x.yA x.syms.length x.yc]) := HX.out.below s9 HX.out.lt
            clear HX
            have HX := HX'
            clear HX'
            have HY' : Hid (Blk w14 w5.heap.size 47 #[.slice y.sA y.secs.length y.sc, .slice y.yA y.syms.length y.yc]) := HY.out.below s9 HY.out.lt
            clear HY
            have HY := HY'
            clear HY'
            have HM1' : Hid (m1.Own a b c w6.heap.size w7.heap.size w14) := HM1.out.below s9
            clear HM1
            have HM1 := HM1'
            clear HM1'
            have HGB' : Hid (Blk w14 w7.heap.size 25 #[.slice m1.A1 a.length m1.c1, .slice m1.A2 b.length m1.c2, .slice m1.A3 c.length m1.c3]) := HGB.out.below s9 HGB.out.lt
            clear HGB
            have HGB := HGB'
            clear HGB'
            have z_w14 : w13.heap.size ≤ w14.heap.size := s9.size
            clear s9
            have ea0 : w14.cell? ⟨w7.heap.size, 0, none⟩ = some (.slice m1.A1 a.length m1.c1) := HGB.out.cell 0
            have ea1 : w14.cell? ⟨w7.heap.size, 1, none⟩ = some (.slice m1.A2 b.length m1.c2) := HGB.out.cell 1
            have ea2 : w14.cell? ⟨w7.heap.size, 2, none⟩ = some (.slice m1.A3 c.length m1.c3) := HGB.out.cell 2
            have eaz : w7.heap.size < w14.heap.size := HGB.out.lt
            go_wp2_with fail
            clear eaz ea0 ea1 ea2
            refine (HM1.out.mark_).mono ?_
            rintro e w15 ⟨rfl, on9, hm⟩
            clear HM1
            have HG' : Hid (Below W.heap.size W w15) := below_only HG.out on9 (by omega) HG.out.size
            clear HG
            have HG := HG'
            clear HG'
            have HA' : Hid (Blk w15 W.heap.size 41 #[.slice o1.sA o1.secs.length o1.sc, .slice o1.yA o1.syms.length o1.yc]) := blk_only HA.out on9 (by omega)
            clear HA
            have HA := HA'
            clear HA'
            have HB' : Hid (Blk w15 (W.heap.size + 1) 41 #[.slice o2.sA o2.secs.length o2.sc, .slice o2.yA o2.syms.length o2.yc]) := blk_only HB.out on9 (by omega)
            clear HB
            have HB := HB'
            clear HB'
            have HW' : Hid (Blk w15 gw 25 (m0.cells a.length b.length c.length)) := blk_only HW.out on9 (by omega)
            clear HW
            have HW := HW'
            clear HW'
            have HM0' : Hid (m0.Own a b c w1.heap.size h0 w15) := HM0.out.only on9 (by omega)
            clear HM0
            have HM0 := HM0'
            clear HM0'
            have HX' : Hid (Blk w15 w3.heap.size 47 #[.slice x.sA x.secs.length x.sc, .slice x.yA x.syms.length x.yc]) := blk_only HX.out on9 (by omega)
            clear HX
            have HX := HX'
            clear HX'
            have HY' : Hid (Blk w15 w5.heap.size 47 #[.slice y.sA y.secs.length y.sc, .slice y.yA y.syms.length y.yc]) := blk_only HY.out on9 (by omega)
            clear HY
            have HY := HY'
            clear HY'
            have HGB' : Hid (Blk w15 w7.heap.size 25 #[.slice m1.A1 a.length m1.c1, .slice m1.A2 b.length m1.c2, .slice m1.A3 c.length m1.c3]) := blk_only HGB.out on9 (by omega)
            clear HGB
            have HGB := HGB'
            clear HGB'
            have z_w15 : w14.heap.size ≤ w15.heap.size := on9.size
            have HM1 := Lib.hid hm
            clear hm on9
            have ea0 : w15.cell? ⟨w7.heap.size, 0, none⟩ = some (.slice m1.A1 a.length m1.c1) := HGB.out.cell 0
            have ea1 : w15.cell? ⟨w7.heap.size, 1, none⟩ = some (.slice m1.A2 b.length m1.c2) := HGB.out.cell 1
            have ea2 : w15.cell? ⟨w7.heap.size, 2, none⟩ = some (.slice m1.A3 c.length m1.c3) := HGB.out.cell 2
            have eaz : w7.heap.size < w15.heap.size := HGB.out.lt
            go_wp2_with fail
            clear eaz ea0 ea1 ea2
            refine (C3.Own.held_ HZ.out HM1.out).mono ?_
            rintro e w16 ⟨rfl, s9⟩
            have HG' : Hid (Below W.heap.size W w16) := HG.out.trans (s9.mono HG.out.size)
            clear HG
            have HG := HG'
            clear HG'
            have HA' : Hid (Blk w16 W.heap.size 41 #[.slice o1.sA o1.secs.length o1.sc, .slice o1.yA o1.syms.length o1.yc]) := HA.out.below s9 HA.out.lt
            clear HA
            have HA := HA'
            clear HA'
            have HB' : Hid (Blk w16 (W.heap.size + 1) 41 #[.slice o2.sA o2.secs.length o2.sc, .slice o2.yA o2.syms.length o2.yc]) := HB.out.below s9 HB.out.lt
            clear HB
            have HB := HB'
            clear HB'
            have HW' : Hid (Blk w16 gw 25 (m0.cells a.length b.length c.length)) := HW.out.below s9 HW.out.lt
            clear HW
            have HW := HW'
            clear HW'
            have HM0' : Hid (m0.Own a b c w1.heap.size h0 w16) := HM0.out.below s9
            clear HM0
            have HM0 := HM0'
            clear HM0'
            have HX' : Hid (Blk w16 w3.heap.size 47 #[.slice x.sA x.secs.length x.sc, .slice x.yA x.syms.length x.yc]) := HX.out.below s9 HX.out.lt
            clear HX
            have HX := HX'
            clear HX'
            have HY' : Hid (Blk w16 w5.heap.size 47 #[.slice y.sA y.secs.length y.sc, .slice y.yA y.syms.length y.yc]) := HY.out.below s9 HY.out.lt
            clear HY
            have HY := HY'
            clear HY'
            have HGB' : Hid (Blk w16 w7.heap.size 25 #[.slice m1.A1 a.length m1.c1, .slice m1.A2 b.length m1.c2, .slice m1.A3 c.length m1.c3]) := HGB.out.below s9 HGB.out.lt
            clear HGB
            have HGB := HGB'
            clear HGB'
            have HM1' : Hid (m1.Own (mkS 1 a.length) (mkS (1 + (a.length : Int)) b.length) (mkS (1 + (a.length : Int) + (b.length : Int)) c.length) w6.heap.size w7.heap.size w16) := HM1.out.below s9
            clear HM1
            have HM1 := HM1'
            clear HM1'
            have z_w16 : w15.heap.size ≤ w16.heap.size := s9.size
            clear s9
            go_wp2
            refine wp_region_facts (fun i v wv => match i with
                | 0 => v = o1.val
                | 1 => ∃ z : Obj, v = z.val ∧ z.v = o1.v ∧ ObjRows w16.heap.size z wv ∧ z.syms.length ≤ z.yc
                | 2 => v = o2.val
                | 3 => ∃ z : Obj, v = z.val ∧ z.v = o2.v ∧ ObjRows w16.heap.size z wv ∧ z.syms.length ≤ z.yc
                | 4 => ∃ (m : C3) (hi : Nat), v = .agg (m.cells a.length b.length c.length) ∧ m.Own a b c w16.heap.size hi wv
                | 5 => True
                | _ => True)
              (fun fl vs wq => Below w16.heap.size w16 wq ∧ (fl 5 = true → fl 6 = false → ∃ g, vs 5 = .pointer (some ⟨g, 0, none⟩) ∧ w16.heap.size ≤ g ∧ Blk wq g 25 #[.slice none 0 0, .slice none 0 0, .slice none 0 0]) ∧ (fl 6 = true → ∃ (g : Nat) (m : C3) (hi : Nat), vs 5 = .pointer (some ⟨g, 0, none⟩) ∧ w16.heap.size ≤ g ∧ Blk wq g 25 (m.cells a.length b.length c.length) ∧ m.Own a b c w16.heap.size hi wq)) (fun w w' => KeepT TC w w') (by kernel_rfl) (by kernel_rfl) ?_ ?_ ?_ ?_
            · intro i v u u2 hk h
              match i, h with
              | 0, h => exact h
              | 1, h => exact let ⟨z, h1, h2, h3, h4⟩ := h; ⟨z, h1, h2, h3.keep hk.toO, h4⟩
              | 2, h => exact h
              | 3, h => exact let ⟨z, h1, h2, h3, h4⟩ := h; ⟨z, h1, h2, h3.keep hk.toO, h4⟩
              | 4, h => exact let ⟨m, hi, h1, h2⟩ := h; ⟨m, hi, h1, h2.keepT hk (.inr rfl)⟩
              | 5, h => exact h
              | _ + 6, h => exact h
            · intro fl vs hfl
              have n5 := hfl 5 (by simp)
              have n6 := hfl 6 (by simp)
              exact ⟨below_drewN (Below.refl _ _) 1, fun h => by simp [n5] at h, fun h => by simp [n6] at h⟩
            · refine ⟨?_, ?_, ?_, ?_, ?_, ?_, ?_, trivial⟩
              all_goals intro fl vs wr9 a1 hc hG hfi hcl hp K hK
              · have e1 : a1.eval (.tmp 2) = .pointer (some ⟨W.heap.size, 0, none⟩) := hc.ev0 2 rfl
                have c0 : wr9.cell? ⟨W.heap.size, 0, none⟩ = some (.slice o1.sA o1.secs.length o1.sc) := (HA.out.below hG.1 HA.out.lt).cell 0
                have c1 : wr9.cell? ⟨W.heap.size, 1, none⟩ = some (.slice o1.yA o1.syms.length o1.yc) := (HA.out.below hG.1 HA.out.lt).cell 1
                unfold Oper.wp execOp
                simp only [e1]
                go_simp
                exact hK _ _ ⟨Nat.le_refl _, fun _ _ _ _ _ => rfl⟩ rfl (by simpa [upd] using hG)
              · have n6 : fl 6 = false := by cases h : fl 6 with
                  | false => rfl
                  | true => have h4 := hcl 6 4 (by kernel_rfl) h; have h1 := hcl 4 1 (by kernel_rfl) h4; rw [show fl 1 = false from hfi] at h1; cases h1
                have e1 := hc.ev 75 0 rfl
                rw [show vs 0 = _ from (hp 0 (by kernel_rfl)).2] at e1
                have hbw := HG.out.trans (hG.1.mono HG.out.size)
                refine op_call rfl (vs := #[o1.val]) (by simp only [List.map_toArray, List.map_cons, List.map_nil, e1]) (by kernel_rfl) (toObj_sp o1 wr9 (R0.out.below hbw) hbw.size S0.out) ?_
                rintro e w9 ⟨z, rfl, hzv, hzo, s9⟩
                exact ⟨_, rfl, hK _ _ (KeepT.of_below s9) ⟨z, rfl, hzv, hzo.rows.base hG.1.size, hzo.cap⟩ ⟨hG.1.trans (s9.mono hG.1.size), fun h h6 => (by obtain ⟨g, h1, h2, h3⟩ := hG.2.1 (by simpa [upd] using h) (by simpa [upd] using h6); exact ⟨g, by simpa [upd] using h1, h2, h3.below s9 h3.lt⟩), fun h => by simp [upd, n6] at h⟩⟩
              · have e1 : a1.eval (.tmp 3) = .pointer (some ⟨(W.heap.size + 1), 0, none⟩) := hc.ev0 3 rfl
                have c0 : wr9.cell? ⟨(W.heap.size + 1), 0, none⟩ = some (.slice o2.sA o2.secs.length o2.sc) := (HB.out.below hG.1 HB.out.lt).cell 0
                have c1 : wr9.cell? ⟨(W.heap.size + 1), 1, none⟩ = some (.slice o2.yA o2.syms.length o2.yc) := (HB.out.below hG.1 HB.out.lt).cell 1
                unfold Oper.wp execOp
                simp only [e1]
                go_simp
                exact hK _ _ ⟨Nat.le_refl _, fun _ _ _ _ _ => rfl⟩ rfl (by simpa [upd] using hG)
              · have n6 : fl 6 = false := by cases h : fl 6 with
                  | false => rfl
                  | true => have h4 := hcl 6 4 (by kernel_rfl) h; have h1 := hcl 4 3 (by kernel_rfl) h4; rw [show fl 3 = false from hfi] at h1; cases h1
                have e1 := hc.ev 77 2 rfl
                rw [show vs 2 = _ from (hp 2 (by kernel_rfl)).2] at e1
                have hbw := HG.out.trans (hG.1.mono HG.out.size)
                refine op_call rfl (vs := #[o2.val]) (by simp only [List.map_toArray, List.map_cons, List.map_nil, e1]) (by kernel_rfl) (toObj_sp o2 wr9 (R1.out.below hbw) hbw.size S1.out) ?_
                rintro e w9 ⟨z, rfl, hzv, hzo, s9⟩
                exact ⟨_, rfl, hK _ _ (KeepT.of_below s9) ⟨z, rfl, hzv, hzo.rows.base hG.1.size, hzo.cap⟩ ⟨hG.1.trans (s9.mono hG.1.size), fun h h6 => (by obtain ⟨g, h1, h2, h3⟩ := hG.2.1 (by simpa [upd] using h) (by simpa [upd] using h6); exact ⟨g, by simpa [upd] using h1, h2, h3.below s9 h3.lt⟩), fun h => by simp [upd, n6] at h⟩⟩
              · have n6 : fl 6 = false := by cases h : fl 6 with
                  | false => rfl
                  | true => have h4 := hcl 6 4 (by kernel_rfl) h; rw [show fl 4 = false from hfi] at h4; cases h4
                obtain ⟨z1, h1, v1, r1, k1⟩ := (hp 1 (by kernel_rfl)).2
                obtain ⟨z2, h2, v2, r2, k2⟩ := (hp 3 (by kernel_rfl)).2
                have e1 := hc.ev 76 1 rfl
                rw [h1] at e1
                have e2 := hc.ev 78 3 rfl
                rw [h2] at e2
                refine op_call rfl (vs := #[z1.val, z2.val]) (by simp only [List.map_toArray, List.map_cons, List.map_nil, e1, e2]) (by kernel_rfl) (HIM.out wr9 z1 z2 v1 v2 r1.at_ r2.at_ k1 k2) ?_
                rintro e w9 ⟨m, rfl, hm, s9⟩
                exact ⟨_, rfl, hK _ _ (KeepT.of_below s9) ⟨m, _, rfl, hm.base hG.1.size⟩ ⟨hG.1.trans (s9.mono hG.1.size), fun h h6 => (by obtain ⟨g, h1, h2, h3⟩ := hG.2.1 (by simpa [upd] using h) (by simpa [upd] using h6); exact ⟨g, by simpa [upd] using h1, h2, h3.below s9 h3.lt⟩), fun h => by simp [upd, n6] at h⟩⟩
              · have n6 : fl 6 = false := by cases h : fl 6 with
                  | false => rfl
                  | true => have h4 := hcl 6 5 (by kernel_rfl) h; rw [show fl 5 = false from hfi] at h4; cases h4
                have hfi5 : fl 5 = false := hfi
                unfold Oper.wp execOp
                go_simp
                exact hK _ _ (KeepT.of_alloc _ _ _) trivial ⟨hG.1.alloc hG.1.size _, fun _ _ => ⟨_, by rw [upd_at], hG.1.size, Blk.new _ _ _⟩, fun h => by simp [upd, n6] at h⟩
              · have n6 : fl 6 = false := hfi
                have f5 := (hp 5 (by kernel_rfl)).1
                obtain ⟨g, hg1, hg2, hg3⟩ := hG.2.1 f5 n6
                obtain ⟨m, hi, hm1, hm2⟩ := (hp 4 (by kernel_rfl)).2
                have e1 := hc.ev 13 5 rfl
                rw [hg1] at e1
                have e2 := hc.ev 79 4 rfl
                rw [hm1] at e2
                simp only [C3.cells] at e2
                have c0 : wr9.cell? ⟨g, 0, none⟩ = some (.slice none 0 0) := hg3.cell 0
                have c1 : wr9.cell? ⟨g, 1, none⟩ = some (.slice none 0 0) := hg3.cell 1
                have c2 : wr9.cell? ⟨g, 2, none⟩ = some (.slice none 0 0) := hg3.cell 2
                have f0 : wr9.frozen? ⟨g, 0, none⟩ = false := hg3.frozen 0
                have f1 : wr9.frozen? ⟨g, 1, none⟩ = false := hg3.frozen 1
                have f2 : wr9.frozen? ⟨g, 2, none⟩ = false := hg3.frozen 2
                have hk : KeepT TC wr9 (((wr9.setCell ⟨g, 0, none⟩ (.slice m.A1 a.length m.c1)).setCell ⟨g, 1, none⟩ (.slice m.A2 b.length m.c2)).setCell ⟨g, 2, none⟩ (.slice m.A3 c.length m.c3)) := ((KeepT.of_set hg3 TC_c 0 _).trans (KeepT.of_set (hg3.set_ 0 _) TC_c 1 _)).trans (KeepT.of_set ((hg3.set_ 0 _).set_ 1 _) TC_c 2 _)
                have HQ := Lib.hid (⟨((hG.1.setCell (p := ⟨g, 0, none⟩) hg2 (.slice m.A1 a.length m.c1)).setCell (p := ⟨g, 1, none⟩) hg2 (.slice m.A2 b.length m.c2)).setCell (p := ⟨g, 2, none⟩) hg2 (.slice m.A3 c.length m.c3), ((hg3.set_ 0 (.slice m.A1 a.length m.c1)).set_ 1 (.slice m.A2 b.length m.c2)).set_ 2 (.slice m.A3 c.length m.c3), hm2.keepT hk (.inr rfl), hk⟩ : _ ∧ _ ∧ _ ∧ _)
                have HGP := Lib.hid hg1
                clear hg1 hg3 hk hm1 hm2 hG
                unfold Oper.wp execOp
                simp only [e1, e2]
                go_simp
                exact hK undef _ HQ.out.2.2.2 trivial ⟨HQ.out.1, fun _ h => by simp [upd] at h, fun _ => ⟨g, m, hi, by simpa [upd] using HGP.out, hg2, HQ.out.2.1, HQ.out.2.2.1⟩⟩
            · intro fl vs w17 hfl hG hF
              obtain ⟨gh, m2, h2, hv5, hg2, hg3, hg4⟩ := hG.2.2 (hfl 6 (by simp))
              have s_w17 := hG.1
              have HH := Lib.hid hg3
              have HM2 := Lib.hid hg4
              have zl_gh := hg3.lt
              have zu_gh := hg4.uh
              clear hg3 hg4 hG hF hfl
              simp only [fill]
              go_simp
              try rw [hv5]
              clear hv5
              have HG' : Hid (Below W.heap.size W w17) := HG.out.trans (s_w17.mono HG.out.size)
              clear HG
              have HG := HG'
              clear HG'
              have HA' : Hid (Blk w17 W.heap.size 41 #[.slice o1.sA o1.secs.length o1.sc, .slice o1.yA o1.syms.length o1.yc]) := HA.out.below s_w17 HA.out.lt
              clear HA
              have HA := HA'
              clear HA'
              have HB' : Hid (Blk w17 (W.heap.size + 1) 41 #[.slice o2.sA o2.secs.length o2.sc, .slice o2.yA o2.syms.length o2.yc]) := HB.out.below s_w17 HB.out.lt
              clear HB
              have HB := HB'
              clear HB'
              have HW' : Hid (Blk w17 gw 25 (m0.cells a.length b.length c.length)) := HW.out.below s_w17 HW.out.lt
              clear HW
              have HW := HW'
              clear HW'
              have HM0' : Hid (m0.Own a b c w1.heap.size h0 w17) := HM0.out.below s_w17
              clear HM0
              have HM0 := HM0'
              clear HM0'
              have HX' : Hid (Blk w17 w3.heap.size 47 #[.slice x.sA x.secs.length x.sc, .slice x.yA x.syms.length x.yc]) := HX.out.below s_w17 HX.out.lt
              clear HX
              have HX := HX'
              clear HX'
              have HY' : Hid (Blk w17 w5.heap.size 47 #[.slice y.sA y.secs.length y.sc, .slice y.yA y.syms.length y.yc]) := HY.out.below s_w17 HY.out.lt
              clear HY
              have HY := HY'
              clear HY'
              have HGB' : Hid (Blk w17 w7.heap.size 25 #[.slice m1.A1 a.length m1.c1, .slice m1.A2 b.length m1.c2, .slice m1.A3 c.length m1.c3]) := HGB.out.below s_w17 HGB.out.lt
              clear HGB
              have HGB := HGB'
              clear HGB'
              have HM1' : Hid (m1.Own (mkS 1 a.length) (mkS (1 + (a.length : Int)) b.length) (mkS (1 + (a.length : Int) + (b.length : Int)) c.length) w6.heap.size w7.heap.size w17) := HM1.out.below s_w17
              clear HM1
              have HM1 := HM1'
              clear HM1'
              have z_w17 : w16.heap.size ≤ w17.heap.size := s_w17.size
              clear s_w17
              have ea0 : w17.cell? ⟨gh, 0, none⟩ = some (.slice m2.A1 a.length m2.c1) := HH.out.cell 0
              have ea1 : w17.cell? ⟨gh, 1, none⟩ = some (.slice m2.A2 b.length m2.c2) := HH.out.cell 1
              have ea2 : w17.cell? ⟨gh, 2, none⟩ = some (.slice m2.A3 c.length m2.c3) := HH.out.cell 2
              have eaz : gh < w17.heap.size := HH.out.lt
              have eb0 : w17.cell? ⟨gw, 0, none⟩ = some (.slice m0.A1 a.length m0.c1) := HW.out.cell 0
              have eb1 : w17.cell? ⟨gw, 1, none⟩ = some (.slice m0.A2 b.length m0.c2) := HW.out.cell 1
              have eb2 : w17.cell? ⟨gw, 2, none⟩ = some (.slice m0.A3 c.length m0.c3) := HW.out.cell 2
              have ebz : gw < w17.heap.size := HW.out.lt
              go_wp2_with fail
              clear eaz ea0 ea1 ea2
              clear ebz eb0 eb1 eb2
              refine (HM2.out.eq_ HM0.out).mono ?_
              rintro e w18 ⟨rfl, s9⟩
              have HG' : Hid (Below W.heap.size W w18) := HG.out.trans (s9.mono HG.out.size)
              clear HG
              have HG := HG'
              clear HG'
              have HA' : Hid (Blk w18 W.heap.size 41 #[.slice o1.sA o1.secs.length o1.sc, .slice o1.yA o1.syms.length o1.yc]) := HA.out.below s9 HA.out.lt
              clear HA
              have HA := HA'
              clear HA'
              have HB' : Hid (Blk w18 (W.heap.size + 1) 41 #[.slice o2.sA o2.secs.length o2.sc, .slice o2.yA o2.syms.length o2.yc]) := HB.out.below s9 HB.out.lt
              clear HB
              have HB := HB'
              clear HB'
              have HW' : Hid (Blk w18 gw 25 (m0.cells a.length b.length c.length)) := HW.out.below s9 HW.out.lt
              clear HW
              have HW := HW'
              clear HW'
              have HM0' : Hid (m0.Own a b c w1.heap.size h0 w18) := HM0.out.below s9
              clear HM0
              have HM0 := HM0'
              clear HM0'
              have HX' : Hid (Blk w18 w3.heap.size 47 #[.slice x.sA x.secs.length x.sc, .slice x.yA x.syms.length x.yc]) := HX.out.below s9 HX.out.lt
              clear HX
              have HX := HX'
              clear HX'
              have HY' : Hid (Blk w18 w5.heap.size 47 #[.slice y.sA y.secs.length y.sc, .slice y.yA y.syms.length y.yc]) := HY.out.below s9 HY.out.lt
              clear HY
              have HY := HY'
              clear HY'
              have HGB' : Hid (Blk w18 w7.heap.size 25 #[.slice m1.A1 a.length m1.c1, .slice m1.A2 b.length m1.c2, .slice m1.A3 c.length m1.c3]) := HGB.out.below s9 HGB.out.lt
              clear HGB
              have HGB := HGB'
              clear HGB'
              have HM1' : Hid (m1.Own (mkS 1 a.length) (mkS (1 + (a.length : Int)) b.length) (mkS (1 + (a.length : Int) + (b.length : Int)) c.length) w6.heap.size w7.heap.size w18) := HM1.out.below s9
              clear HM1
              have HM1 := HM1'
              clear HM1'
              have HH' : Hid (Blk w18 gh 25 (m2.cells a.length b.length c.length)) := HH.out.below s9 HH.out.lt
              clear HH
              have HH := HH'
              clear HH'
              have HM2' : Hid (m2.Own a b c w16.heap.size h2 w18) := HM2.out.below s9
              clear HM2
              have HM2 := HM2'
              clear HM2'
              have z_w18 : w17.heap.size ≤ w18.heap.size := s9.size
              clear s9
              have ea0 : w18.cell? ⟨w7.heap.size, 0, none⟩ = some (.slice m1.A1 a.length m1.c1) := HGB.out.cell 0
              have ea1 : w18.cell? ⟨w7.heap.size, 1, none⟩ = some (.slice m1.A2 b.length m1.c2) := HGB.out.cell 1
              have ea2 : w18.cell? ⟨w7.heap.size, 2, none⟩ = some (.slice m1.A3 c.length m1.c3) := HGB.out.cell 2
              have eaz : w7.heap.size < w18.heap.size := HGB.out.lt
              go_wp2_with fail
              clear eaz ea0 ea1 ea2
              refine (C3.Own.held_ HZ.out HM1.out).mono ?_
              rintro e w19 ⟨rfl, s9⟩
              have HG' : Hid (Below W.heap.size W w19) := HG.out.trans (s9.mono HG.out.size)
              clear HG
              have HG := HG'
              clear HG'
              have HA' : Hid (Blk w19 W.heap.size 41 #[.slice o1.sA o1.secs.length o1.sc, .slice o1.yA o1.syms.length o1.yc]) := HA.out.below s9 HA.out.lt
              clear HA
              have HA := HA'
              clear HA'
              have HB' : Hid (Blk w19 (W.heap.size + 1) 41 #[.slice o2.sA o2.secs.length o2.sc, .slice o2.yA o2.syms.length o2.yc]) := HB.out.below s9 HB.out.lt
              clear HB
              have HB := HB'
              clear HB'
              have HW' : Hid (Blk w19 gw 25 (m0.cells a.length b.length c.length)) := HW.out.below s9 HW.out.lt
              clear HW
              have HW := HW'
              clear HW'
              have HM0' : Hid (m0.Own a b c w1.heap.size h0 w19) := HM0.out.below s9
              clear HM0
              have HM0 := HM0'
              clear HM0'
              have HX' : Hid (Blk w19 w3.heap.size 47 #[.slice x.sA x.secs.length x.sc, .slice x.yA x.syms.length x.yc]) := HX.out.below s9 HX.out.lt
              clear HX
              have HX := HX'
              clear HX'
              have HY' : Hid (Blk w19 w5.heap.size 47 #[.slice y.sA y.secs.length y.sc, .slice y.yA y.syms.length y.yc]) := HY.out.below s9 HY.out.lt
              clear HY
              have HY := HY'
              clear HY'
              have HGB' : Hid (Blk w19 w7.heap.size 25 #[.slice m1.A1 a.length m1.c1, .slice m1.A2 b.length m1.c2, .slice m1.A3 c.length m1.c3]) := HGB.out.below s9 HGB.out.lt
              clear HGB
              have HGB := HGB'
              clear HGB'
              have HM1' : Hid (m1.Own (mkS 1 a.length) (mkS (1 + (a.length : Int)) b.length) (mkS (1 + (a.length : Int) + (b.length : Int)) c.length) w6.heap.size w7.heap.size w19) := HM1.out.below s9
              clear HM1
              have HM1 := HM1'
              clear HM1'
              have HH' : Hid (Blk w19 gh 25 (m2.cells a.length b.length c.length)) := HH.out.below s9 HH.out.lt
              clear HH
              have HH := HH'
              clear HH'
              have HM2' : Hid (m2.Own a b c w16.heap.size h2 w19) := HM2.out.below s9
              clear HM2
              have HM2 := HM2'
              clear HM2'
              have z_w19 : w18.heap.size ≤ w19.heap.size := s9.size
              clear s9
              go_wp2
              go_ret
              exact ⟨rfl, HG.out⟩
    · have HR2 := Lib.hid (szRes_neg (left := 1048576 - o1.tot) (total := o2.tot) (by omega))
      go_enter Try.func7, Try.ntmps7
      go_upto_region 1 with fail
      rw [← hwA]
      clear hwA
      have ea0 : wA.cell? ⟨W.heap.size, 0, none⟩ = some (.slice o1.sA o1.secs.length o1.sc) := HA.out.cell 0
      have ea1 : wA.cell? ⟨W.heap.size, 1, none⟩ = some (.slice o1.yA o1.syms.length o1.yc) := HA.out.cell 1
      go_wp2_with fail
      clear ea0 ea1
      refine (szObj_any o1 1048576 wA (R0.out.below HG.out) HG.out.size hb0 (by omega) (by omega)).mono ?_
      rintro e w0 ⟨rfl, s9⟩
      rw [HR1.out]
      have HG' : Hid (Below W.heap.size W w0) := HG.out.trans (s9.mono HG.out.size)
      clear HG
      have HG := HG'
      clear HG'
      have HA' : Hid (Blk w0 W.heap.size 41 #[.slice o1.sA o1.secs.length o1.sc, .slice o1.yA o1.syms.length o1.yc]) := HA.out.below s9 HA.out.lt
      clear HA
      have HA := HA'
      clear HA'
      have HB' : Hid (Blk w0 (W.heap.size + 1) 41 #[.slice o2.sA o2.secs.length o2.sc, .slice o2.yA o2.syms.length o2.yc]) := HB.out.below s9 HB.out.lt
      clear HB
      have HB := HB'
      clear HB'
      clear s9 HR1
      have eb0 : w0.cell? ⟨W.heap.size + 1, 0, none⟩ = some (.slice o2.sA o2.secs.length o2.sc) := HB.out.cell 0
      have eb1 : w0.cell? ⟨W.heap.size + 1, 1, none⟩ = some (.slice o2.yA o2.syms.length o2.yc) := HB.out.cell 1
      go_wp2_with fail
      clear eb0 eb1
      refine (szObj_any o2 (1048576 - o1.tot) w0 (R1.out.below HG.out) HG.out.size hb1 (by omega) (by omega)).mono ?_
      rintro e w1 ⟨rfl, s9⟩
      rw [HR2.out]
      have HG' : Hid (Below W.heap.size W w1) := HG.out.trans (s9.mono HG.out.size)
      clear HG
      have HG := HG'
      clear HG'
      have HA' : Hid (Blk w1 W.heap.size 41 #[.slice o1.sA o1.secs.length o1.sc, .slice o1.yA o1.syms.length o1.yc]) := HA.out.below s9 HA.out.lt
      clear HA
      have HA := HA'
      clear HA'
      have HB' : Hid (Blk w1 (W.heap.size + 1) 41 #[.slice o2.sA o2.secs.length o2.sc, .slice o2.yA o2.syms.length o2.yc]) := HB.out.below s9 HB.out.lt
      clear HB
      have HB := HB'
      clear HB'
      have z_w1 := HB.out.lt
      clear s9 HR2
      go_wp2
      go_ret
      exact ⟨rfl, HG.out⟩
  · have HR1 := Lib.hid (szRes_neg (left := 1048576) (total := o1.tot) (by omega))
    go_enter Try.func7, Try.ntmps7
    go_upto_region 1 with fail
    rw [← hwA]
    clear hwA
    have ea0 : wA.cell? ⟨W.heap.size, 0, none⟩ = some (.slice o1.sA o1.secs.length o1.sc) := HA.out.cell 0
    have ea1 : wA.cell? ⟨W.heap.size, 1, none⟩ = some (.slice o1.yA o1.syms.length o1.yc) := HA.out.cell 1
    go_wp2_with fail
    clear ea0 ea1
    refine (szObj_any o1 1048576 wA (R0.out.below HG.out) HG.out.size hb0 (by omega) (by omega)).mono ?_
    rintro e w0 ⟨rfl, s9⟩
    rw [HR1.out]
    have HG' := Lib.hid (HG.out.trans (s9.mono HG.out.size))
    clear s9
    go_wp2
    go_ret
    exact ⟨rfl, HG'.out⟩
end Go.Proofs.Ytdaamgonendkkaa
