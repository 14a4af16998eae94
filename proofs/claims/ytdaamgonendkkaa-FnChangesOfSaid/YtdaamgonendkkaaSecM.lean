/- Sections: contracts of the laws' counting and comparing functions on them. No condition but the sizes. -/
import Derived.Test.YtdaamgonendkkaaRows
import Derived.Test.YtdaamgonendkkaaBase
import Derived.Test.YtdaamgonendkkaaBase2
import Derived.Test.YtdaamgonendkkaaOnly
import Derived.Test.YtdaamgonendkkaaByteS
import Derived.Test.YtdaamgonendkkaaFix
import Derived.Test.YtdaamgonendkkaaSzF
import Derived.Test.YtdaamgonendkkaaSec
import Derived.WalkKit
import Derived.WalkSpells
import Derived.WalkLawsBesides
import Derived.Handy
import Derived.BigQuiet
import Derived.Deep.RegionHeld3
import Derived.Deep.DrawnRows
import Derived.Deep.QuietTactic
namespace Go.Proofs.Ytdaamgonendkkaa
open Go Go.RowKit

def Sec.big (x : Sec) : Prop := x.name.size ≤ maxLen ∧ x.bytes.length ≤ maxLen ∧ x.fixups.length ≤ maxLen
/-- How much it counts. -/
def Sec.tot (x : Sec) : Int := (x.name.size : Int) + (x.bytes.length : Int) + (x.fixups.length : Int)
theorem Sec.tot_nonneg (x : Sec) : 0 ≤ x.tot := by unfold Sec.tot; omega
def Sec.tots (xs : List Sec) : Int := (xs.map Sec.tot).sum
theorem Sec.tots_take (xs : List Sec) {k : Nat} (hk : k < xs.length) : Sec.tots (xs.take (k + 1)) = Sec.tots (xs.take k) + xs[k].tot := by
  unfold Sec.tots
  rw [List.take_succ_eq_append_getElem hk, List.map_append, List.sum_append]
  simp only [List.map_cons, List.map_nil, List.sum_cons, List.sum_nil, Int.add_zero]
theorem Sec.tots_nonneg (xs : List Sec) : 0 ≤ Sec.tots xs := by
  induction xs with
  | nil => exact Int.le_refl _
  | cons x xs ih => have := x.tot_nonneg; unfold Sec.tots at ih ⊢; simp only [List.map_cons, List.sum_cons]; omega
theorem Sec.tots_le (xs : List Sec) (k : Nat) : Sec.tots (xs.take k) ≤ Sec.tots xs := by
  have e : Sec.tots xs = Sec.tots (xs.take k) + Sec.tots (xs.drop k) := by
    unfold Sec.tots
    rw [← List.sum_append, ← List.map_append, List.take_append_drop]
  have := Sec.tots_nonneg (xs.drop k)
  omega
theorem Sec.tots_mem {xs : List Sec} {x : Sec} (h : x ∈ xs) : x.tot ≤ Sec.tots xs := by
  induction xs with
  | nil => cases h
  | cons y xs ih =>
    have h1 := y.tot_nonneg
    have h2 := Sec.tots_nonneg xs
    unfold Sec.tots at ih h2 ⊢
    simp only [List.map_cons, List.sum_cons]
    rcases List.mem_cons.1 h with rfl | h
    · omega
    · have := ih h; omega
theorem Sec.tot_v {x y : Sec} (h : x.v = y.v) : x.tot = y.tot := by
  obtain ⟨e0, e1, e2, e3, e4, e5⟩ := Sec.v_eq h
  unfold Sec.tot
  rw [e0, e3, e5]
theorem Sec.small_of {xs : List Sec} (h : Sec.tots xs ≤ 1048576) : ∀ x ∈ xs, x.small := fun x hx => by
  have h1 := Sec.tots_mem hx
  skip
  unfold Sec.tot at h1
  refine ⟨by omega, by omega, by omega⟩
set_option maxRecDepth 100000 in
set_option maxHeartbeats 4000000 in
theorem szSec_any {B : Nat} (x : Sec) (left : Int) (w : World) (h : x.In w B) (hB : B ≤ w.heap.size) (hb : x.big) (hl0 : 0 ≤ left) (hl : left ≤ 1048576) :
    Calls Try.prog 67 #[x.val, .int .i64 left] w (Gives w (.int .i64 (szRes left x.tot))) := by
  obtain ⟨name, kind, align, bytes, bytesA, bytesc, size, fixups, fixupsA, fixupsc⟩ := x
  obtain ⟨h3, h5⟩ := h
  obtain ⟨z0, z3, z5⟩ := hb
  simp only [Sec.val, Sec.tot] at *
  unfold maxLen at z0 z3 z5
  have H3 := Lib.hid (h3.more hB)
  have H5 := Lib.hid (h5.more hB)
  clear h3 h5
  have K1 := Lib.hid (Blk.new w 96 #[Value.string name, Value.int .i64 kind, Value.int .i64 align, Value.slice bytesA bytes.length bytesc, Value.int .i64 size, Value.slice fixupsA fixups.length fixupsc])
  have BB : Hid (Below w.heap.size w (w.alloc (.cells #[Value.string name, Value.int .i64 kind, Value.int .i64 align, Value.slice bytesA bytes.length bytesc, Value.int .i64 size, Value.slice fixupsA fixups.length fixupsc] 96))) := (Below.refl _ _).alloc (Nat.le_refl _) _
  go_enter Try.func67, Try.ntmps67
  by_cases t0 : left - (name.size : Int) < 0
  · have HR : Hid (szRes left ((name.size : Int) + (bytes.length : Int) + (fixups.length : Int)) = -1) := szRes_neg (by omega)
    go_wp2
    go_ret
    rw [HR.out]
    exact ⟨rfl, BB.out⟩
  · skip
    go_wp2_with fail
    refine (szByteS_any _ bytes.length _ (left - (name.size : Int)) _ (by unfold maxLen; omega) (by omega) (by omega)).mono ?_
    rintro e w1 ⟨rfl, s1⟩
    have K1' := Lib.hid (K1.out.below s1 K1.out.lt)
    have BB' := Lib.hid (BB.out.trans (s1.mono BB.out.size))
    clear K1 BB s1
    have K1 := K1'; have BB := BB'
    clear K1' BB'
    have e14 : w1.cell? ⟨w.heap.size, 4, none⟩ = some (Value.int .i64 size) := K1.out.cell 4
    have e15 : w1.cell? ⟨w.heap.size, 5, none⟩ = some (Value.slice fixupsA fixups.length fixupsc) := K1.out.cell 5
    by_cases t3 : left - (name.size : Int) < (bytes.length : Int)
    · rw [szRes_neg t3]
      have HR : Hid (szRes left ((name.size : Int) + (bytes.length : Int) + (fixups.length : Int)) = -1) := szRes_neg (by omega)
      go_wp2
      go_ret
      rw [HR.out]
      exact ⟨rfl, BB.out⟩
    · rw [szRes_pos (Int.not_lt.1 t3)]
      go_wp2_with fail
      refine (szFixupS_any _ fixups.length _ (left - (name.size : Int) - (bytes.length : Int)) _ (by unfold maxLen; omega) (by omega) (by omega)).mono ?_
      rintro e w2 ⟨rfl, s2⟩
      have K1' := Lib.hid (K1.out.below s2 K1.out.lt)
      have BB' := Lib.hid (BB.out.trans (s2.mono BB.out.size))
      clear K1 BB s2
      have K1 := K1'; have BB := BB'
      clear K1' BB'
      by_cases t5 : left - (name.size : Int) - (bytes.length : Int) < (fixups.length : Int)
      · rw [szRes_neg t5]
        have HR : Hid (szRes left ((name.size : Int) + (bytes.length : Int) + (fixups.length : Int)) = -1) := szRes_neg (by omega)
        go_wp2
        go_ret
        rw [HR.out]
        exact ⟨rfl, BB.out⟩
      · rw [szRes_pos (Int.not_lt.1 t5)]
        have HR : Hid (szRes left ((name.size : Int) + (bytes.length : Int) + (fixups.length : Int)) = left - (name.size : Int) - (bytes.length : Int) - (fixups.length : Int)) := by rw [szRes_pos (by omega)]; show _ = _; omega
        go_wp2
        go_ret
        rw [HR.out]
        exact ⟨rfl, BB.out⟩

set_option maxRecDepth 100000 in
set_option maxHeartbeats 4000000 in
theorem szSectionS_any {A : Option Addr} {c B : Nat} (xs : List Sec) (left : Int) (w : World) (h1 : SecAt w B A xs) (hB : B ≤ w.heap.size) (hm : xs.length ≤ maxLen) (hs : ∀ x ∈ xs, x.big) (h0 : 0 ≤ left) (hl : left ≤ 1048576) :
    Calls Try.prog 40 #[.slice A xs.length c, .int .i64 left] w (Gives w (.int .i64 (szRes left (xs.length + Sec.tots xs)))) := by
  have HS := Lib.hid hs
  have H1 := Lib.hid (h1.more hB)
  clear hs h1
  have hb0 := Sec.tots_nonneg xs
  unfold maxLen at hm
  by_cases hn : left - (xs.length : Int) < 0
  · have HR : Hid (szRes left (xs.length + Sec.tots xs) = -1) := szRes_neg (by omega)
    go_enter Try.func40, Try.ntmps40
    go_wp2
    go_ret
    rw [HR.out]
    exact ⟨rfl, Below.refl _ _⟩
  · go_enter Try.func40, Try.ntmps40
    go_wp2
    go_loopw [1, 5] (fun l i wr => ∃ (k : Nat) (z : Int), k ≤ xs.length ∧ i = .int .i64 k ∧ l = .int .i64 z ∧ Hid (z = left - xs.length - Sec.tots (xs.take k)) ∧ 0 ≤ z ∧ z ≤ left ∧ Below w.heap.size w wr) (fun _ i _ => xs.length - (intOf i).toNat)
    case atStart => exact ⟨0, _, Nat.zero_le _, rfl, rfl, by simp [Sec.tots, Hid], by omega, by omega, Below.refl _ _⟩
    case round =>
      obtain ⟨k, z, hk, rfl, rfl, HZ, hz0, hz1, hb⟩ := hrel
      by_cases hlt : k < xs.length
      · obtain ⟨b, off, rfl, hbl, e0, e1, e2, e3, e4, e5⟩ := Sec.at_ ((H1.out.below hb).1) hlt
        have HI := Lib.hid ((H1.out.2 _ (List.getElem_mem hlt)).below hb)
        have HBg := Lib.hid (HS.out _ (List.getElem_mem hlt))
        have HT := Lib.hid (Sec.tots_take xs hlt)
        have hbz := hb.size
        have hl1 : z ≤ 1048576 := by omega
        have HC := Lib.hid (szSec_any xs[k] z wr HI.out hbz HBg.out hz0 hl1)
        have htn := xs[k].tot_nonneg
        by_cases hneg : z < xs[k].tot
        · have HR : Hid (szRes left (xs.length + Sec.tots xs) = -1) := szRes_neg (by have h1 := HZ.out; have h2 := HT.out; have h3 := Sec.tots_le xs (k + 1); omega)
          rw [szRes_neg hneg] at HC
          go_wp2_with fail
          refine HC.out.mono ?_
          rintro e w2 ⟨rfl, hb2⟩
          go_wp2
          go_ret
          rw [HR.out]
          exact ⟨rfl, hb.trans (hb2.mono hb.size)⟩
        · rw [szRes_pos (Int.not_lt.1 hneg)] at HC
          have HT2 : Hid (z - xs[k].tot = left - xs.length - Sec.tots (xs.take (k + 1))) := by have h1 := HZ.out; have h2 := HT.out; unfold Hid; omega
          have hge : 0 ≤ z - xs[k].tot := by omega
          have hle : z - xs[k].tot ≤ left := by omega
          go_wp2_with fail
          refine HC.out.mono ?_
          rintro e w2 ⟨rfl, hb2⟩
          clear hneg htn HT HZ HC
          generalize z - xs[k].tot = z' at *
          go_wp2
          go_roundw
          case rel => exact ⟨k + 1, z', by omega, by go_num, rfl, HT2, hge, hle, hb.trans (hb2.mono hb.size)⟩
          case measure => simp [intOf]; omega
      · have HR : Hid (szRes left (xs.length + Sec.tots xs) = z) := by
          have h1 := HZ.out
          have h2 : xs.take k = xs := List.take_of_length_le (by omega)
          rw [h2] at h1
          rw [szRes_pos (by omega)]
          show _ = _
          omega
        go_wp2
        go_ret
        rw [HR.out]
        exact ⟨rfl, hb⟩

set_option maxRecDepth 100000 in
set_option maxHeartbeats 4000000 in
theorem eqSection_same {A3 E3 A5 E5 : Option Addr} {c3 d3 c5 d5 B D : Nat} (name : ByteArray) (kind : Int) (align : Int) (bytes : List Int) (size : Int) (fixups : List Fix) (w : World) (h3 : Reads w B 1 A3 bytes.length (nums .u8 bytes)) (g3 : Reads w D 1 E3 bytes.length (nums .u8 bytes)) (hm3 : bytes.length ≤ 1048576) (h5 : Reads w B 4 A5 fixups.length (List.flatMap Fix.cells fixups)) (g5 : Reads w D 4 E5 fixups.length (List.flatMap Fix.cells fixups)) (hm5 : fixups.length ≤ 1048576) (hB : B ≤ w.heap.size) (hD : D ≤ w.heap.size) :
    Calls Try.prog 73 #[.agg #[Value.string name, Value.int .i64 kind, Value.int .i64 align, Value.slice A3 bytes.length c3, Value.int .i64 size, Value.slice A5 fixups.length c5], .agg #[Value.string name, Value.int .i64 kind, Value.int .i64 align, Value.slice E3 bytes.length d3, Value.int .i64 size, Value.slice E5 fixups.length d5]] w (Gives w (.bool true)) := by
  have H3 := Lib.hid (h3.more hB)
  have H5 := Lib.hid (h5.more hB)
  have G3 := Lib.hid (g3.more hD)
  have G5 := Lib.hid (g5.more hD)
  clear h3 g3 h5 g5
  have K1 := Lib.hid ((Blk.new w 80 #[Value.string name, Value.int .i64 kind, Value.int .i64 align, Value.slice A3 bytes.length c3, Value.int .i64 size, Value.slice A5 fixups.length c5]).alloc (.cells #[Value.string name, Value.int .i64 kind, Value.int .i64 align, Value.slice E3 bytes.length d3, Value.int .i64 size, Value.slice E5 fixups.length d5] 80))
  have K2 : Hid (Blk ((w.alloc (.cells #[Value.string name, Value.int .i64 kind, Value.int .i64 align, Value.slice A3 bytes.length c3, Value.int .i64 size, Value.slice A5 fixups.length c5] 80)).alloc (.cells #[Value.string name, Value.int .i64 kind, Value.int .i64 align, Value.slice E3 bytes.length d3, Value.int .i64 size, Value.slice E5 fixups.length d5] 80)) (w.heap.size + 1) 80 #[Value.string name, Value.int .i64 kind, Value.int .i64 align, Value.slice E3 bytes.length d3, Value.int .i64 size, Value.slice E5 fixups.length d5]) := by
    have h := Blk.new (w.alloc (.cells #[Value.string name, Value.int .i64 kind, Value.int .i64 align, Value.slice A3 bytes.length c3, Value.int .i64 size, Value.slice A5 fixups.length c5] 80)) 80 #[Value.string name, Value.int .i64 kind, Value.int .i64 align, Value.slice E3 bytes.length d3, Value.int .i64 size, Value.slice E5 fixups.length d5]
    rwa [World.size_alloc] at h
  have BB : Hid (Below w.heap.size w ((w.alloc (.cells #[Value.string name, Value.int .i64 kind, Value.int .i64 align, Value.slice A3 bytes.length c3, Value.int .i64 size, Value.slice A5 fixups.length c5] 80)).alloc (.cells #[Value.string name, Value.int .i64 kind, Value.int .i64 align, Value.slice E3 bytes.length d3, Value.int .i64 size, Value.slice E5 fixups.length d5] 80))) := ((Below.refl _ _).alloc (Nat.le_refl _) _).alloc (by simp) _
  go_enter Try.func73, Try.ntmps73
  go_wp2_with fail
  refine (eqByteS_any _ _ _ _ _ _ bytes bytes _ (H3.out.below BB.out) (G3.out.below BB.out) (by omega) (by omega)).mono ?_
  rintro e w1 ⟨rfl, s1⟩
  rw [decide_eq_true rfl]
  have K1' := Lib.hid (K1.out.below s1 K1.out.lt)
  have K2' := Lib.hid (K2.out.below s1 K2.out.lt)
  have BB' := Lib.hid (BB.out.trans (s1.mono BB.out.size))
  clear K1 K2 BB s1
  have K1 := K1'; have K2 := K2'; have BB := BB'
  clear K1' K2' BB'
  have e14 : w1.cell? ⟨w.heap.size, 4, none⟩ = some (Value.int .i64 size) := K1.out.cell 4
  have f14 : w1.cell? ⟨w.heap.size + 1, 4, none⟩ = some (Value.int .i64 size) := K2.out.cell 4
  have e15 : w1.cell? ⟨w.heap.size, 5, none⟩ = some (Value.slice A5 fixups.length c5) := K1.out.cell 5
  have f15 : w1.cell? ⟨w.heap.size + 1, 5, none⟩ = some (Value.slice E5 fixups.length d5) := K2.out.cell 5
  go_wp2_with fail
  refine (eqFixupS_any _ _ _ _ _ _ fixups fixups _ (H5.out.below BB.out) (G5.out.below BB.out) (Nat.le_trans (Nat.le_refl _) BB.out.size) (Nat.le_trans (Nat.le_refl _) BB.out.size) (by omega) (by omega)).mono ?_
  rintro e w2 ⟨rfl, s2⟩
  rw [decide_eq_true rfl]
  have K1' := Lib.hid (K1.out.below s2 K1.out.lt)
  have K2' := Lib.hid (K2.out.below s2 K2.out.lt)
  have BB' := Lib.hid (BB.out.trans (s2.mono BB.out.size))
  clear K1 K2 BB s2
  have K1 := K1'; have K2 := K2'; have BB := BB'
  clear K1' K2' BB'
  go_wp2
  go_ret
  exact ⟨rfl, BB.out⟩
theorem eqSec_same {B D : Nat} (x y : Sec) (w : World) (hv : x.v = y.v) (h : x.In w B) (g : y.In w D) (hB : B ≤ w.heap.size) (hD : D ≤ w.heap.size) (hs : x.small) :
    Calls Try.prog 73 #[x.val, y.val] w (Gives w (.bool true)) := by
  obtain ⟨e0, e1, e2, e3, e4, e5⟩ := Sec.v_eq hv
  obtain ⟨aname, akind, aalign, abytes, abytesA, abytesc, asize, afixups, afixupsA, afixupsc⟩ := x
  obtain ⟨bname, bkind, balign, bbytes, bbytesA, bbytesc, bsize, bfixups, bfixupsA, bfixupsc⟩ := y
  simp only at e0 e1 e2 e3 e4 e5
  subst e0 e1 e2 e3 e4 e5
  obtain ⟨h3, h5⟩ := h
  obtain ⟨g3, g5⟩ := g
  obtain ⟨z0, z3, z5⟩ := hs
  exact eqSection_same _ _ _ _ _ _ w h3 g3 (by simpa using z3) h5 g5 (by simpa using z5) hB hD

set_option maxRecDepth 100000 in
set_option maxHeartbeats 4000000 in
theorem eqSectionS_same {A1 A2 : Option Addr} {c1 c2 B1 B2 : Nat} (xs ys : List Sec) (w : World) (hv : xs.map Sec.v = ys.map Sec.v) (h1 : SecAt w B1 A1 xs) (h2 : SecAt w B2 A2 ys) (hB1 : B1 ≤ w.heap.size) (hB2 : B2 ≤ w.heap.size) (hm : xs.length ≤ 1048576) (hs : ∀ x ∈ xs, x.small) :
    Calls Try.prog 47 #[.slice A1 xs.length c1, .slice A2 ys.length c2] w (Gives w (.bool true)) := by
  have hl : xs.length = ys.length := by have := congrArg List.length hv; simpa using this
  have HL := Lib.hid hl
  have hb : ((xs.length : Int) != ys.length) = false := by simp [hl]
  have HV : Hid (∀ k (h : k < xs.length) (h' : k < ys.length), xs[k].v = ys[k].v) := fun k h h' => by
    have e := congrArg (fun l => l[k]?) hv
    simpa [List.getElem?_map, List.getElem?_eq_getElem h, List.getElem?_eq_getElem h'] using e
  have H1 := Lib.hid (h1.more hB1)
  have H2 := Lib.hid (h2.more hB2)
  have HS := Lib.hid hs
  clear hl hv h1 h2 hs
  go_enter Try.func47, Try.ntmps47
  go_wp2
  go_loopw [5] (fun i wr => ∃ k : Nat, k ≤ xs.length ∧ i = .int .i64 k ∧ Below w.heap.size w wr) (fun i _ => xs.length - (intOf i).toNat)
  case atStart => exact ⟨0, Nat.zero_le _, rfl, Below.refl _ _⟩
  case round =>
    obtain ⟨k, hk, rfl, hbw⟩ := hrel
    by_cases hlt : k < xs.length
    · have hlt2 : k < ys.length := by rw [← HL.out]; exact hlt
      obtain ⟨b, off, rfl, hbl, e0, e1, e2, e3, e4, e5⟩ := Sec.at_ ((H1.out.below hbw).1) hlt
      obtain ⟨b', off', rfl, hbl', d0, d1, d2, d3, d4, d5⟩ := Sec.at_ ((H2.out.below hbw).1) hlt2
      have HE := Lib.hid (HV.out k hlt hlt2)
      have hbz := hbw.size
      have cC : ∀ d os, Calls Try.prog 73 #[xs[k].val, ys[k].val] (Go.Sort.grow (redrawn wr d) os) fun e w'' => e = .returned (.bool true) ∧ ∃ p : Regrown, w'' = Go.Sort.grow (redrawn wr p.d) p.os := fun d os => Calls.regrown_of (by
        have hbr := below_regrown wr d os
        have hbq := hbw.trans (hbr.mono hbz)
        exact eqSec_same xs[k] ys[k] (Go.Sort.grow (redrawn wr d) os) HE.out ((H1.out.2 _ (List.getElem_mem hlt)).below hbq) ((H2.out.2 _ (List.getElem_mem hlt2)).below hbq) hbq.size hbq.size (HS.out _ (List.getElem_mem hlt)))
      simp only [Sec.val] at cC
      go_wp2
      have k0 := cell_regrown e0
      have j0 := cell_regrown d0
      have k1 := cell_regrown e1
      have j1 := cell_regrown d1
      have k2 := cell_regrown e2
      have j2 := cell_regrown d2
      have k3 := cell_regrown e3
      have j3 := cell_regrown d3
      have k4 := cell_regrown e4
      have j4 := cell_regrown d4
      have k5 := cell_regrown e5
      have j5 := cell_regrown d5
      have HBW := Lib.hid hbw
      clear e0 d0 e1 d1 e2 d2 e3 d3 e4 d4 e5 d5 hbw
      have i1 : (0 : Int) ≤ (k : Int) := Int.natCast_nonneg _
      have i2 : (k : Int) < (xs.length : Int) := by omega
      have i3 : (k : Int) < (ys.length : Int) := by omega
      refine wp_region_quiet_below (by kernel_rfl) (by kernel_rfl) ?_
      repeat (go_big_quiet_step (exact cC _ _))
      refine wpQuiet_nil ?_
      intro _ hw'
      obtain ⟨⟨dq, osq⟩, hw''⟩ := hw'
      subst hw''
      have hbn := below_regrown wr dq osq
      go_wp2
      go_roundw
      case rel => exact ⟨k + 1, by omega, by go_num, HBW.out.trans (hbn.mono HBW.out.size)⟩
      case measure => simp [intOf]; omega
    · go_wp2
      go_ret
      exact ⟨rfl, hbw⟩
end Go.Proofs.Ytdaamgonendkkaa
