/- Libraries: contracts of the laws' counting and comparing functions on them. No condition but the sizes. -/
import Derived.Test.YtbhndkdijbappaaRows
import Derived.Test.YtbhndkdijbappaaBase
import Derived.Test.YtbhndkdijbappaaBase2
import Derived.Test.YtbhndkdijbappaaOnly
import Derived.Test.YtbhndkdijbappaaStrS
import Derived.Test.YtbhndkdijbappaaBulk
import Derived.Test.YtbhndkdijbappaaSzStr
import Derived.Test.YtbhndkdijbappaaLb
import Derived.WalkKit
import Derived.WalkSpells
import Derived.WalkLawsBesides
import Derived.Handy
import Derived.BigQuiet
import Derived.Deep.RegionHeld3
import Derived.Deep.DrawnRows
import Derived.Deep.QuietTactic
namespace Go.Proofs.Ytbhndkdijbappaa
open Go Go.RowKit

def Lb.big (x : Lb) : Prop := x.name.size ≤ maxLen ∧ x.needs.length ≤ maxLen ∧ (∀ s ∈ x.needs, s.size ≤ maxLen) ∧ x.gives.length ≤ maxLen ∧ (∀ s ∈ x.gives, s.size ≤ maxLen)
/-- How much it counts. -/
def Lb.tot (x : Lb) : Int := (x.name.size : Int) + ((x.needs.length : Int) + bulk x.needs) + ((x.gives.length : Int) + bulk x.gives)
theorem Lb.tot_nonneg (x : Lb) : 0 ≤ x.tot := by have v1 := bulk_nonneg x.needs; have v2 := bulk_nonneg x.gives; unfold Lb.tot; omega
def Lb.tots (xs : List Lb) : Int := (xs.map Lb.tot).sum
theorem Lb.tots_take (xs : List Lb) {k : Nat} (hk : k < xs.length) : Lb.tots (xs.take (k + 1)) = Lb.tots (xs.take k) + xs[k].tot := by
  unfold Lb.tots
  rw [List.take_succ_eq_append_getElem hk, List.map_append, List.sum_append]
  simp only [List.map_cons, List.map_nil, List.sum_cons, List.sum_nil, Int.add_zero]
theorem Lb.tots_nonneg (xs : List Lb) : 0 ≤ Lb.tots xs := by
  induction xs with
  | nil => exact Int.le_refl _
  | cons x xs ih => have := x.tot_nonneg; unfold Lb.tots at ih ⊢; simp only [List.map_cons, List.sum_cons]; omega
theorem Lb.tots_le (xs : List Lb) (k : Nat) : Lb.tots (xs.take k) ≤ Lb.tots xs := by
  have e : Lb.tots xs = Lb.tots (xs.take k) + Lb.tots (xs.drop k) := by
    unfold Lb.tots
    rw [← List.sum_append, ← List.map_append, List.take_append_drop]
  have := Lb.tots_nonneg (xs.drop k)
  omega
theorem Lb.tots_mem {xs : List Lb} {x : Lb} (h : x ∈ xs) : x.tot ≤ Lb.tots xs := by
  induction xs with
  | nil => cases h
  | cons y xs ih =>
    have h1 := y.tot_nonneg
    have h2 := Lb.tots_nonneg xs
    unfold Lb.tots at ih h2 ⊢
    simp only [List.map_cons, List.sum_cons]
    rcases List.mem_cons.1 h with rfl | h
    · omega
    · have := ih h; omega
theorem Lb.tot_v {x y : Lb} (h : x.v = y.v) : x.tot = y.tot := by
  obtain ⟨e0, e1, e2⟩ := Lb.v_eq h
  unfold Lb.tot
  rw [e0, e1, e2]
theorem bulk_mem_Lb {ss : List ByteArray} {s : ByteArray} (h : s ∈ ss) : (s.size : Int) ≤ bulk ss := by
  obtain ⟨k, hk, rfl⟩ := List.getElem_of_mem h
  have h1 := bulk_take ss hk
  have h2 := bulk_le ss (k + 1)
  have h3 := bulk_nonneg (ss.take k)
  omega
theorem Lb.small_of {xs : List Lb} (h : Lb.tots xs ≤ 1048576) : ∀ x ∈ xs, x.small := fun x hx => by
  have h1 := Lb.tots_mem hx
  have v1 := bulk_nonneg x.needs; have v2 := bulk_nonneg x.gives
  unfold Lb.tot at h1
  refine ⟨by omega, by omega, fun s hs => by have := bulk_mem_Lb hs; omega, by omega, fun s hs => by have := bulk_mem_Lb hs; omega⟩
set_option maxRecDepth 100000 in
set_option maxHeartbeats 4000000 in
theorem szLb_any {B : Nat} (x : Lb) (left : Int) (w : World) (h : x.In w B) (hB : B ≤ w.heap.size) (hb : x.big) (hl0 : 0 ≤ left) (hl : left ≤ 1048576) :
    Calls Try.prog 45 #[x.val, .int .i64 left] w (Gives w (.int .i64 (szRes left x.tot))) := by
  obtain ⟨name, needs, needsA, needsc, gives, givesA, givesc⟩ := x
  obtain ⟨h1, h2⟩ := h
  obtain ⟨z0, z1, y1, z2, y2⟩ := hb
  simp only [Lb.val, Lb.tot] at *
  have v1 := bulk_nonneg needs
  have v2 := bulk_nonneg gives
  have S1 := Lib.hid y1
  have S2 := Lib.hid y2
  clear y1 y2
  unfold maxLen at z0 z1 z2
  have H1 := Lib.hid (h1.more hB)
  have H2 := Lib.hid (h2.more hB)
  clear h1 h2
  have K1 := Lib.hid (Blk.new w 60 #[Value.string name, Value.slice needsA needs.length needsc, Value.slice givesA gives.length givesc])
  have BB : Hid (Below w.heap.size w (w.alloc (.cells #[Value.string name, Value.slice needsA needs.length needsc, Value.slice givesA gives.length givesc] 60))) := (Below.refl _ _).alloc (Nat.le_refl _) _
  go_enter Try.func45, Try.ntmps45
  by_cases t0 : left - (name.size : Int) < 0
  · have HR : Hid (szRes left ((name.size : Int) + ((needs.length : Int) + bulk needs) + ((gives.length : Int) + bulk gives)) = -1) := szRes_neg (by omega)
    go_wp2
    go_ret
    rw [HR.out]
    exact ⟨rfl, BB.out⟩
  · skip
    go_wp2_with fail
    refine (szStringS_any needs (left - (name.size : Int)) _ (H1.out.below BB.out) (by unfold maxLen; omega) S1.out (by omega) (by omega)).mono ?_
    rintro e w1 ⟨rfl, s1⟩
    have K1' := Lib.hid (K1.out.below s1 K1.out.lt)
    have BB' := Lib.hid (BB.out.trans (s1.mono BB.out.size))
    clear K1 BB s1
    have K1 := K1'; have BB := BB'
    clear K1' BB'
    have e12 : w1.cell? ⟨w.heap.size, 2, none⟩ = some (Value.slice givesA gives.length givesc) := K1.out.cell 2
    by_cases t1 : left - (name.size : Int) < ((needs.length : Int) + bulk needs)
    · rw [szRes_neg t1]
      have HR : Hid (szRes left ((name.size : Int) + ((needs.length : Int) + bulk needs) + ((gives.length : Int) + bulk gives)) = -1) := szRes_neg (by omega)
      go_wp2
      go_ret
      rw [HR.out]
      exact ⟨rfl, BB.out⟩
    · rw [szRes_pos (Int.not_lt.1 t1)]
      go_wp2_with fail
      refine (szStringS_any gives (left - (name.size : Int) - ((needs.length : Int) + bulk needs)) _ (H2.out.below BB.out) (by unfold maxLen; omega) S2.out (by omega) (by omega)).mono ?_
      rintro e w2 ⟨rfl, s2⟩
      have K1' := Lib.hid (K1.out.below s2 K1.out.lt)
      have BB' := Lib.hid (BB.out.trans (s2.mono BB.out.size))
      clear K1 BB s2
      have K1 := K1'; have BB := BB'
      clear K1' BB'
      by_cases t2 : left - (name.size : Int) - ((needs.length : Int) + bulk needs) < ((gives.length : Int) + bulk gives)
      · rw [szRes_neg t2]
        have HR : Hid (szRes left ((name.size : Int) + ((needs.length : Int) + bulk needs) + ((gives.length : Int) + bulk gives)) = -1) := szRes_neg (by omega)
        go_wp2
        go_ret
        rw [HR.out]
        exact ⟨rfl, BB.out⟩
      · rw [szRes_pos (Int.not_lt.1 t2)]
        have HR : Hid (szRes left ((name.size : Int) + ((needs.length : Int) + bulk needs) + ((gives.length : Int) + bulk gives)) = left - (name.size : Int) - ((needs.length : Int) + bulk needs) - ((gives.length : Int) + bulk gives)) := by rw [szRes_pos (by omega)]; show _ = _; omega
        go_wp2
        go_ret
        rw [HR.out]
        exact ⟨rfl, BB.out⟩

set_option maxRecDepth 100000 in
set_option maxHeartbeats 4000000 in
theorem szLibraryS_any {A : Option Addr} {c B : Nat} (xs : List Lb) (left : Int) (w : World) (h1 : LbAt w B A xs) (hB : B ≤ w.heap.size) (hm : xs.length ≤ maxLen) (hs : ∀ x ∈ xs, x.big) (h0 : 0 ≤ left) (hl : left ≤ 1048576) :
    Calls Try.prog 15 #[.slice A xs.length c, .int .i64 left] w (Gives w (.int .i64 (szRes left (xs.length + Lb.tots xs)))) := by
  have HS := Lib.hid hs
  have H1 := Lib.hid (h1.more hB)
  clear hs h1
  have hb0 := Lb.tots_nonneg xs
  unfold maxLen at hm
  by_cases hn : left - (xs.length : Int) < 0
  · have HR : Hid (szRes left (xs.length + Lb.tots xs) = -1) := szRes_neg (by omega)
    go_enter Try.func15, Try.ntmps15
    go_wp2
    go_ret
    rw [HR.out]
    exact ⟨rfl, Below.refl _ _⟩
  · go_enter Try.func15, Try.ntmps15
    go_wp2
    go_loopw [1, 5] (fun l i wr => ∃ (k : Nat) (z : Int), k ≤ xs.length ∧ i = .int .i64 k ∧ l = .int .i64 z ∧ Hid (z = left - xs.length - Lb.tots (xs.take k)) ∧ 0 ≤ z ∧ z ≤ left ∧ Below w.heap.size w wr) (fun _ i _ => xs.length - (intOf i).toNat)
    case atStart => exact ⟨0, _, Nat.zero_le _, rfl, rfl, by simp [Lb.tots, Hid], by omega, by omega, Below.refl _ _⟩
    case round =>
      obtain ⟨k, z, hk, rfl, rfl, HZ, hz0, hz1, hb⟩ := hrel
      by_cases hlt : k < xs.length
      · obtain ⟨b, off, rfl, hbl, e0, e1, e2⟩ := Lb.at_ ((H1.out.below hb).1) hlt
        have HI := Lib.hid ((H1.out.2 _ (List.getElem_mem hlt)).below hb)
        have HBg := Lib.hid (HS.out _ (List.getElem_mem hlt))
        have HT := Lib.hid (Lb.tots_take xs hlt)
        have hbz := hb.size
        have hl1 : z ≤ 1048576 := by omega
        have HC := Lib.hid (szLb_any xs[k] z wr HI.out hbz HBg.out hz0 hl1)
        have htn := xs[k].tot_nonneg
        by_cases hneg : z < xs[k].tot
        · have HR : Hid (szRes left (xs.length + Lb.tots xs) = -1) := szRes_neg (by have h1 := HZ.out; have h2 := HT.out; have h3 := Lb.tots_le xs (k + 1); omega)
          rw [szRes_neg hneg] at HC
          go_wp2_with fail
          refine HC.out.mono ?_
          rintro e w2 ⟨rfl, hb2⟩
          go_wp2
          go_ret
          rw [HR.out]
          exact ⟨rfl, hb.trans (hb2.mono hb.size)⟩
        · rw [szRes_pos (Int.not_lt.1 hneg)] at HC
          have HT2 : Hid (z - xs[k].tot = left - xs.length - Lb.tots (xs.take (k + 1))) := by have h1 := HZ.out; have h2 := HT.out; unfold Hid; omega
          have hge : 0 ≤ z - xs[k].tot := by omega
          have hle : z - xs[k].tot ≤ left := by omega
          go_wp2_with fail
          refine HC.out.mono ?_
          rintro e w2 ⟨rfl, hb2⟩
          clear hneg htn HT HZ HC
          generalize z - xs[k].tot = z' at *
          go_wp2
          go_roundw
          case rel => exact ⟨k + 1, z', by omega, by go_num, rfl, HT2, hge, hle, hb.trans (hb2.mono hb.size)⟩
          case measure => simp [intOf]; omega
      · have HR : Hid (szRes left (xs.length + Lb.tots xs) = z) := by
          have h1 := HZ.out
          have h2 : xs.take k = xs := List.take_of_length_le (by omega)
          rw [h2] at h1
          rw [szRes_pos (by omega)]
          show _ = _
          omega
        go_wp2
        go_ret
        rw [HR.out]
        exact ⟨rfl, hb⟩

set_option maxRecDepth 100000 in
set_option maxHeartbeats 4000000 in
theorem eqLibrary_same {A1 E1 A2 E2 : Option Addr} {c1 d1 c2 d2 B D : Nat} (name : ByteArray) (needs : List ByteArray) (gives : List ByteArray) (w : World) (h1 : Reads w B 1 A1 needs.length (texts needs)) (g1 : Reads w D 1 E1 needs.length (texts needs)) (hm1 : needs.length ≤ 1048576) (h2 : Reads w B 1 A2 gives.length (texts gives)) (g2 : Reads w D 1 E2 gives.length (texts gives)) (hm2 : gives.length ≤ 1048576) (hB : B ≤ w.heap.size) (hD : D ≤ w.heap.size) :
    Calls Try.prog 47 #[.agg #[Value.string name, Value.slice A1 needs.length c1, Value.slice A2 gives.length c2], .agg #[Value.string name, Value.slice E1 needs.length d1, Value.slice E2 gives.length d2]] w (Gives w (.bool true)) := by
  have H1 := Lib.hid (h1.more hB)
  have H2 := Lib.hid (h2.more hB)
  have G1 := Lib.hid (g1.more hD)
  have G2 := Lib.hid (g2.more hD)
  clear h1 g1 h2 g2
  have K1 := Lib.hid ((Blk.new w 29 #[Value.string name, Value.slice A1 needs.length c1, Value.slice A2 gives.length c2]).alloc (.cells #[Value.string name, Value.slice E1 needs.length d1, Value.slice E2 gives.length d2] 29))
  have K2 : Hid (Blk ((w.alloc (.cells #[Value.string name, Value.slice A1 needs.length c1, Value.slice A2 gives.length c2] 29)).alloc (.cells #[Value.string name, Value.slice E1 needs.length d1, Value.slice E2 gives.length d2] 29)) (w.heap.size + 1) 29 #[Value.string name, Value.slice E1 needs.length d1, Value.slice E2 gives.length d2]) := by
    have h := Blk.new (w.alloc (.cells #[Value.string name, Value.slice A1 needs.length c1, Value.slice A2 gives.length c2] 29)) 29 #[Value.string name, Value.slice E1 needs.length d1, Value.slice E2 gives.length d2]
    rwa [World.size_alloc] at h
  have BB : Hid (Below w.heap.size w ((w.alloc (.cells #[Value.string name, Value.slice A1 needs.length c1, Value.slice A2 gives.length c2] 29)).alloc (.cells #[Value.string name, Value.slice E1 needs.length d1, Value.slice E2 gives.length d2] 29))) := ((Below.refl _ _).alloc (Nat.le_refl _) _).alloc (by simp) _
  go_enter Try.func47, Try.ntmps47
  go_wp2_with fail
  refine (eqStringS_any _ _ _ _ _ _ needs needs _ (H1.out.below BB.out) (G1.out.below BB.out) hm1 hm1).mono ?_
  rintro e w1 ⟨rfl, s1⟩
  rw [decide_eq_true rfl]
  have K1' := Lib.hid (K1.out.below s1 K1.out.lt)
  have K2' := Lib.hid (K2.out.below s1 K2.out.lt)
  have BB' := Lib.hid (BB.out.trans (s1.mono BB.out.size))
  clear K1 K2 BB s1
  have K1 := K1'; have K2 := K2'; have BB := BB'
  clear K1' K2' BB'
  have e12 : w1.cell? ⟨w.heap.size, 2, none⟩ = some (Value.slice A2 gives.length c2) := K1.out.cell 2
  have f12 : w1.cell? ⟨w.heap.size + 1, 2, none⟩ = some (Value.slice E2 gives.length d2) := K2.out.cell 2
  go_wp2_with fail
  refine (eqStringS_any _ _ _ _ _ _ gives gives _ (H2.out.below BB.out) (G2.out.below BB.out) hm2 hm2).mono ?_
  rintro e w2 ⟨rfl, s2⟩
  rw [decide_eq_true rfl]
  have K1' := Lib.hid (K1.out.below s2 K1.out.lt)
  have K2' := Lib.hid (K2.out.below s2 K2.out.lt)
  have BB' := Lib.hid (BB.out.trans (s2.mono BB.out.size))
  clear K1 K2 BB s2
  have K1 := K1'; have K2 := K2'; have BB := BB'
  clear K1' K2' BB'
  go_wp2
  go_ret
  exact ⟨rfl, BB.out⟩
theorem eqLb_same {B D : Nat} (x y : Lb) (w : World) (hv : x.v = y.v) (h : x.In w B) (g : y.In w D) (hB : B ≤ w.heap.size) (hD : D ≤ w.heap.size) (hs : x.small) :
    Calls Try.prog 47 #[x.val, y.val] w (Gives w (.bool true)) := by
  obtain ⟨e0, e1, e2⟩ := Lb.v_eq hv
  obtain ⟨aname, aneeds, aneedsA, aneedsc, agives, agivesA, agivesc⟩ := x
  obtain ⟨bname, bneeds, bneedsA, bneedsc, bgives, bgivesA, bgivesc⟩ := y
  simp only at e0 e1 e2
  subst e0 e1 e2
  obtain ⟨h1, h2⟩ := h
  obtain ⟨g1, g2⟩ := g
  obtain ⟨z0, z1, y1, z2, y2⟩ := hs
  exact eqLibrary_same _ _ _ w h1 g1 (by simpa using z1) h2 g2 (by simpa using z2) hB hD

set_option maxRecDepth 100000 in
set_option maxHeartbeats 4000000 in
theorem eqLibraryS_same {A1 A2 : Option Addr} {c1 c2 B1 B2 : Nat} (xs ys : List Lb) (w : World) (hv : xs.map Lb.v = ys.map Lb.v) (h1 : LbAt w B1 A1 xs) (h2 : LbAt w B2 A2 ys) (hB1 : B1 ≤ w.heap.size) (hB2 : B2 ≤ w.heap.size) (hm : xs.length ≤ 1048576) (hs : ∀ x ∈ xs, x.small) :
    Calls Try.prog 17 #[.slice A1 xs.length c1, .slice A2 ys.length c2] w (Gives w (.bool true)) := by
  have hl : xs.length = ys.length := by have := congrArg List.length hv; simpa using this
  have HL := Lib.hid hl
  have hb : ((xs.length : Int) != ys.length) = false := by simp [hl]
  have HV : Hid (∀ k (h : k < xs.length) (h' : k < ys.length), xs[k].v = ys[k].v) := fun k h h' => by
    have e := congrArg (fun l => l[k]?) hv
    simpa [List.getElem?_map, List.getElem?_eq_getElem h, List.getElem?_eq_getElem h'] using e
  have H1 := Lib.hid (h1.more hB1)
  have H2 := Lib.hid (h2.more hB2)
  have HS := Lib.hid hs
  clear hl hv h1 h2 hs
  go_enter Try.func17, Try.ntmps17
  go_wp2
  go_loopw [5] (fun i wr => ∃ k : Nat, k ≤ xs.length ∧ i = .int .i64 k ∧ Below w.heap.size w wr) (fun i _ => xs.length - (intOf i).toNat)
  case atStart => exact ⟨0, Nat.zero_le _, rfl, Below.refl _ _⟩
  case round =>
    obtain ⟨k, hk, rfl, hbw⟩ := hrel
    by_cases hlt : k < xs.length
    · have hlt2 : k < ys.length := by rw [← HL.out]; exact hlt
      obtain ⟨b, off, rfl, hbl, e0, e1, e2⟩ := Lb.at_ ((H1.out.below hbw).1) hlt
      obtain ⟨b', off', rfl, hbl', d0, d1, d2⟩ := Lb.at_ ((H2.out.below hbw).1) hlt2
      have HE := Lib.hid (HV.out k hlt hlt2)
      have hbz := hbw.size
      have cC : ∀ d os, Calls Try.prog 47 #[xs[k].val, ys[k].val] (Go.Sort.grow (redrawn wr d) os) fun e w'' => e = .returned (.bool true) ∧ ∃ p : Regrown, w'' = Go.Sort.grow (redrawn wr p.d) p.os := fun d os => Calls.regrown_of (by
        have hbr := below_regrown wr d os
        have hbq := hbw.trans (hbr.mono hbz)
        exact eqLb_same xs[k] ys[k] (Go.Sort.grow (redrawn wr d) os) HE.out ((H1.out.2 _ (List.getElem_mem hlt)).below hbq) ((H2.out.2 _ (List.getElem_mem hlt2)).below hbq) hbq.size hbq.size (HS.out _ (List.getElem_mem hlt)))
      simp only [Lb.val] at cC
      go_wp2
      have k0 := cell_regrown e0
      have j0 := cell_regrown d0
      have k1 := cell_regrown e1
      have j1 := cell_regrown d1
      have k2 := cell_regrown e2
      have j2 := cell_regrown d2
      have HBW := Lib.hid hbw
      clear e0 d0 e1 d1 e2 d2 hbw
      have i1 : (0 : Int) ≤ (k : Int) := Int.natCast_nonneg _
      have i2 : (k : Int) < (xs.length : Int) := by omega
      have i3 : (k : Int) < (ys.length : Int) := by omega
      refine wp_region_quiet_below (by kernel_rfl) (by kernel_rfl) ?_
      repeat (go_big_quiet_step (exact cC _ _))
      refine wpQuiet_nil ?_
      intro _ hw'
      obtain ⟨⟨dq, osq⟩, hw''⟩ := hw'
      subst hw''
      have hbn := below_regrown wr dq osq
      go_wp2
      go_roundw
      case rel => exact ⟨k + 1, by omega, by go_num, HBW.out.trans (hbn.mono HBW.out.size)⟩
      case measure => simp [intOf]; omega
    · go_wp2
      go_ret
      exact ⟨rfl, hbw⟩
end Go.Proofs.Ytbhndkdijbappaa
