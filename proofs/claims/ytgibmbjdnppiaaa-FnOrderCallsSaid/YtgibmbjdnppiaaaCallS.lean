/- Contract of the reference CallsFar. Condition: not too long an order. -/
import Derived.Test.YtgibmbjdnppiaaaRows
import Derived.Test.YtgibmbjdnppiaaaBase
import Derived.Test.YtgibmbjdnppiaaaBase2
import Derived.Test.YtgibmbjdnppiaaaIn
import Derived.Test.YtgibmbjdnppiaaaIn2
import Derived.Test.YtgibmbjdnppiaaaEdge
import Derived.Test.YtgibmbjdnppiaaaFindEdg
import Derived.Test.YtgibmbjdnppiaaaEdgeV
import Derived.Test.YtgibmbjdnppiaaaEdgeW
import Derived.Test.YtgibmbjdnppiaaaIdxI
import Derived.Test.YtgibmbjdnppiaaaCallP
import Derived.WalkKit
import Derived.WalkSpells
import Derived.WalkLawsBesides
import Derived.Handy
import Derived.BigQuiet
import Derived.Deep.RegionHeld3
import Derived.Deep.DrawnRows
import Derived.Deep.QuietTactic
namespace Go.Proofs.Ytgibmbjdnppiaaa
open Go Go.RowKit

def bools (l : List Bool) : List Value := l.map Value.bool
theorem bools_len (l : List Bool) : (bools l).length = l.length := by simp [bools]
theorem bools_get (l : List Bool) (i : Nat) (h : i < l.length) : (bools l)[i]? = some (.bool (l[i])) := by simp [bools, h]
/-- Which sections came among the first k, and where they are. -/
def usT (l : List Int) (n k : Nat) : List Bool := (List.range n).map fun (j : Nat) => decide ((j : Int) ∈ l.take k)
def plT (l : List Int) (n k : Nat) : List Int := (List.range n).map fun (j : Nat) => if (j : Int) ∈ l.take k then plc l j else 0
theorem usT_len (l : List Int) (n k : Nat) : (usT l n k).length = n := by simp [usT]
theorem plT_len (l : List Int) (n k : Nat) : (plT l n k).length = n := by simp [plT]
theorem usT_get {l : List Int} {n k j : Nat} (h : j < n) : (usT l n k)[j]'(by rw [usT_len]; exact h) = decide ((j : Int) ∈ l.take k) := by simp [usT]
theorem plT_get {l : List Int} {n k j : Nat} (h : j < n) : (plT l n k)[j]'(by rw [plT_len]; exact h) = if (j : Int) ∈ l.take k then plc l j else 0 := by simp [plT]
theorem usT_zero (l : List Int) (n : Nat) : usT l n 0 = List.replicate n false := by simp [usT, List.map_const']
theorem plT_zero (l : List Int) (n : Nat) : plT l n 0 = List.replicate n 0 := by simp [plT, List.map_const']
theorem mem_succ {l : List Int} {k : Nat} (hk : k < l.length) {x : Int} : x ∈ l.take (k + 1) ↔ x ∈ l.take k ∨ x = l[k] := by
  rw [List.take_succ_eq_append_getElem hk, List.mem_append, List.mem_singleton]
theorem usT_set {l : List Int} {n k o : Nat} (hk : k < l.length) (ho : l[k] = (o : Int)) : (usT l n k).set o true = usT l n (k + 1) := by
  refine List.ext_getElem (by rw [List.length_set, usT_len, usT_len]) fun j h1 h2 => ?_
  rw [usT_len] at h2
  rw [List.getElem_set, usT_get h2, usT_get h2]
  by_cases hj : o = j
  · subst hj
    rw [if_pos rfl]
    exact (decide_eq_true ((mem_succ hk).2 (.inr ho.symm))).symm
  · rw [if_neg hj]
    have hne : ¬ (j : Int) = l[k] := by rw [ho]; omega
    have : ((j : Int) ∈ l.take (k + 1)) = ((j : Int) ∈ l.take k) := propext ⟨fun h => ((mem_succ hk).1 h).resolve_right hne, fun h => (mem_succ hk).2 (.inl h)⟩
    simp only [this]
theorem plT_set {l : List Int} {n k o : Nat} (hk : k < l.length) (ho : l[k] = (o : Int)) (hno : ¬ (o : Int) ∈ l.take k) : (plT l n k).set o (k : Int) = plT l n (k + 1) := by
  have hpl : plc l (o : Int) = k := by rw [← ho]; exact plc_at hk (by rw [ho]; exact hno)
  refine List.ext_getElem (by rw [List.length_set, plT_len, plT_len]) fun j h1 h2 => ?_
  rw [plT_len] at h2
  rw [List.getElem_set, plT_get h2, plT_get h2]
  by_cases hj : o = j
  · subst hj
    rw [if_pos rfl, if_pos ((mem_succ hk).2 (.inr ho.symm)), hpl]
  · rw [if_neg hj]
    have hne : ¬ (j : Int) = l[k] := by rw [ho]; omega
    by_cases hm : (j : Int) ∈ l.take k
    · rw [if_pos hm, if_pos ((mem_succ hk).2 (.inl hm))]
    · rw [if_neg hm, if_neg (fun h => hm (((mem_succ hk).1 h).resolve_right hne))]
theorem bools_set (l : List Bool) (i : Nat) (v : Bool) : (bools l).set i (.bool v) = bools (l.set i v) := by simp [bools, List.map_set]
theorem nums_setC (k : IntKind) (l : List Int) (i : Nat) (v : Int) : (nums k l).set i (.int k v) = nums k (l.set i v) := by simp [nums, List.map_set]
theorem sint_info : (Try.prog.info? 3).map (fun i => (i.zero, i.size, i.bytes)) = some (some (.int .i64 0), 1, 8) := by kernel_rfl
theorem sbool_info : (Try.prog.info? 4).map (fun i => (i.zero, i.size, i.bytes)) = some (some (.bool false), 1, 1) := by kernel_rfl

set_option maxRecDepth 100000 in
set_option maxHeartbeats 8000000 in
theorem specCallsFar_any {A1 A2 : Option Addr} {c1 c2 B1 B2 : Nat} (many : Int) (es : List Edg) (l : List Int) (w : World) (h1 : Reads w B1 3 A1 es.length (es.flatMap Edg.cells)) (hB1 : B1 ≤ w.heap.size) (h2 : Reads w B2 1 A2 l.length (nums .i64 l)) (hB2 : B2 ≤ w.heap.size) (hm1 : es.length ≤ 1048576) (hm2 : l.length ≤ 1048576) :
    Calls Try.prog 16 #[.int .i64 many, .slice A1 es.length c1, .slice A2 l.length c2] w (Gives w (.int .i64 (callsFar many es l))) := by
  have HV := Lib.hid (specEdgesValid_any (c := c1) many es w h1 hB1 (by unfold maxLen; omega))
  cases hj : edgesOk many es
  · have HJ := Lib.hid hj
    have HR : Hid (callsFar many es l = -1) := by unfold callsFar; rw [if_neg (fun h => by rw [hj] at h; cases h.1)]; exact rfl
    clear hj
    go_enter Try.func16, Try.ntmps16
    go_wp2_with fail
    refine HV.out.mono ?_
    rintro e w1 ⟨rfl, hb1⟩
    rw [HJ.out]
    go_wp2
    go_ret
    rw [HR.out]
    exact ⟨rfl, hb1⟩
  · have HJ := Lib.hid hj
    obtain ⟨⟨hmn1, hmn2⟩, hel, hep⟩ := edgesOk_parts hj
    have HEP := Lib.hid hep
    clear hj hep
    by_cases hlm : (l.length : Int) = many
    · subst hlm
      have HRX : Hid (callsFar (l.length : Int) es l = if hasAll l l.length = true then farS l es else -1) := by
        unfold callsFar
        by_cases h : hasAll l l.length = true
        · rw [if_pos ⟨HJ.out, rfl, h⟩, if_pos h]; exact rfl
        · rw [if_neg (fun hh => h hh.2.2), if_neg h]; exact rfl
      obtain ⟨i0, hi0, hz0, hz1, hz2⟩ := info_parts sint_info
      obtain ⟨j0, gi0, gz0, gz1, gz2⟩ := info_parts sbool_info
      have HNO : Hid (¬ okOrder l l.length → callsFar (l.length : Int) es l = -1) := fun h => by
        rw [HRX.out, if_neg (fun hh => h ((order_iff rfl).1 hh))]
      have HYES : Hid (okOrder l l.length → callsFar (l.length : Int) es l = farS l es) := fun h => by
        rw [HRX.out, if_pos ((order_iff rfl).2 h)]
      go_enter Try.func16, Try.ntmps16
      go_wp2_with fail
      refine HV.out.mono ?_
      rintro e w1 ⟨rfl, hb1⟩
      rw [HJ.out]
      obtain ⟨w2, hmk1, ho2, hg2⟩ := run_make_full (P := Try.prog) w1 w1.heap.size 36 3 i0 _ 1 Try.underlying36 hi0 hz0 hz1 .i64 .i64 l.length (by rw [hz2]; omega) (by unfold maxLen; omega) (Nat.le_refl _)
      obtain ⟨w3, hmk2, ho3, hg3⟩ := run_make_full (P := Try.prog) w2 w1.heap.size 56 4 j0 _ 1 Try.underlying56 gi0 gz0 gz1 .i64 .i64 l.length (by rw [gz2]; omega) (by unfold maxLen; omega) (by have := hg2.size; omega)
      have zz2 : w1.heap.size + 1 ≤ w2.heap.size := (ho2.lt _ rfl).2
      have s2 : Below w1.heap.size w1 w2 := (Below.refl _ _).grown hg2 (Nat.le_refl _) (by simp)
      have s3 : Below w2.heap.size w2 w3 := (Below.refl _ _).grown hg3 (Nat.le_refl _) (by simp)
      have HB3 := Lib.hid (hb1.trans ((s2.trans (s3.mono s2.size)).mono hb1.size))
      have e2 : (madeCells (Value.int .i64 0).cells (l.length * 1)).toList = nums .i64 (plT l l.length 0) := by
        have := toList_madeCells_one (.int .i64 0) (l.length * 1)
        rw [plT_zero]
        simpa [nums, Value.cells] using this
      have e3 : (madeCells (Value.bool false).cells (l.length * 1)).toList = bools (usT l l.length 0) := by
        have := toList_madeCells_one (.bool false) (l.length * 1)
        rw [usT_zero]
        simpa [bools, Value.cells] using this
      rw [e2] at ho2
      rw [e3] at ho3
      have HP0 := Lib.hid (own_below ho2 s3)
      have HU0 := Lib.hid ho3
      have hw2 : w1.heap.size < w2.heap.size := zz2
      have hbz := hb1.size
      clear ho2 ho3 e2 e3 s2 s3 hg2 hg3
      go_wp2
      clear hmk1 hmk2
      have HB2l : w.heap.size ≤ w1.heap.size := hbz
      go_loopw [9] (fun i wr => ∃ k : Nat, k ≤ l.length ∧ i = .int .i64 k ∧ Hid (okOrder (l.take k) l.length) ∧ Hid (Below w.heap.size w wr) ∧ Hid (wr.ownsRow w1.heap.size 3 1 (.slice (some ⟨w1.heap.size, 0, none⟩) l.length l.length) l.length (nums .i64 (plT l l.length k))) ∧ Hid (wr.ownsRow w1.heap.size 4 1 (.slice (some ⟨w2.heap.size, 0, none⟩) l.length l.length) l.length (bools (usT l l.length k)))) (fun i _ => l.length - (intOf i).toNat)
      case atStart => exact ⟨0, Nat.zero_le _, rfl, ⟨by simp, by simp⟩, HB3, HP0, HU0⟩
      case round =>
        obtain ⟨k, hk, rfl, HOK, HB, HP, HU⟩ := hrel
        clear HB3 HP0 HU0
        by_cases hlt : k < l.length
        · obtain ⟨b, off, rfl, hbl, hcs⟩ := ((h2.more hB2).below HB.out).row_ (by omega) (by omega)
          have hc := hcs k _ (nums_get _ _ hlt)
          have HNR := Lib.hid (fun h => not_ok_range (l := l) (n := l.length) hlt h)
          have HND := Lib.hid (fun h => not_ok_dup (l := l) (n := l.length) hlt h)
          have HTK := Lib.hid (fun h1 h2 => okOrder_take (l := l) (n := l.length) HOK.out hlt h1 h2)
          have HUS := Lib.hid (fun (o : Nat) (h : l[k] = (o : Int)) => usT_set (n := l.length) hlt h)
          have HPS := Lib.hid (fun (o : Nat) (h : l[k] = (o : Int)) (h2 : ¬ (o : Int) ∈ l.take k) => plT_set (n := l.length) hlt h h2)
          clear hcs
          generalize l[k] = o at *
          have k1 : (k : Int) < (l.length : Int) := by omega
          cases hp : inB o 0 ((l.length : Int) - 1)
          · have HP1 := Lib.hid hp
            have HR := Lib.hid (HNO.out (HNR.out (fun h => by
              rw [inB_true h.1 (by omega)] at hp
              cases hp)))
            clear hp
            go_wp2_with fail
            refine (l1In_any _ _ _ _).mono ?_
            rintro e w' ⟨rfl, rfl⟩
            rw [HP1.out]
            go_wp2
            go_ret
            rw [HR.out]
            exact ⟨rfl, HB.out⟩
          · have HP1 := Lib.hid hp
            obtain ⟨ho0, ho1⟩ := inB_iff.1 hp
            clear hp
            obtain ⟨oi, rfl⟩ := Int.eq_ofNat_of_zero_le ho0
            have hoi : oi < l.length := by omega
            have hcu : wr.cell? ⟨w2.heap.size, oi, none⟩ = some (.bool (decide ((oi : Int) ∈ l.take k))) := by
              rw [HU.out.cellAt oi (by omega), bools_get _ _ (by rw [usT_len]; exact hoi), usT_get hoi]
            have o1 : (oi : Int) < (l.length : Int) := by omega
            cases hd : decide ((oi : Int) ∈ l.take k)
            · have HNM := Lib.hid (of_decide_eq_false hd)
              rw [hd] at hcu
              clear hd
              have hfu : wr.frozen? ⟨w2.heap.size, oi, none⟩ = false := HU.out.frozenAt oi
              have hfp : wr.frozen? ⟨w1.heap.size, oi, none⟩ = false := HP.out.frozenAt oi
              obtain ⟨u, hcp⟩ : ∃ u, wr.cell? ⟨w1.heap.size, oi, none⟩ = some u := ⟨_, (HP.out.cellAt oi (by omega)).trans (List.getElem?_eq_getElem (by have := HP.out.1; omega))⟩
              have hst1 := HU.out.stored oi (.bool true)
              have hpo := own_other (A2 := some ⟨w2.heap.size, 0, none⟩) HP.out hst1.2 (fun a a2 h1 h2 => by
                injection h1 with h1
                injection h2 with h2
                subst h1 h2
                simp only [ne_eq]
                omega)
              have hst2 := hpo.stored oi (.int .i64 (k : Int))
              have huo := own_other (A2 := some ⟨w1.heap.size, 0, none⟩) hst1.1 hst2.2 (fun a a2 h1 h2 => by
                injection h1 with h1
                injection h2 with h2
                subst h1 h2
                simp only [ne_eq]
                omega)
              have HBB := Lib.hid ((HB.out.grown hst1.2 HB.out.size (by simp; omega)).grown hst2.2 (Nat.le_trans HB.out.size hst1.2.size) (by simp; omega))
              have hsu := HUS.out oi rfl
              have hsp := HPS.out oi rfl HNM.out
              have HU2 := Lib.hid huo
              have HP2 := Lib.hid hst2.1
              rw [bools_set, hsu] at HU2
              rw [nums_setC, hsp] at HP2
              have HOK2 := Lib.hid (HTK.out ⟨by omega, by omega⟩ HNM.out)
              have n1 : ¬ b = w1.heap.size := by omega
              have n2 : ¬ b = w2.heap.size := by omega
              have n3 : ¬ w1.heap.size = w2.heap.size := by omega
              have n4 : ¬ w2.heap.size = w1.heap.size := by omega
              have n5 : ¬ w1.heap.size = b := by omega
              have n6 : ¬ w2.heap.size = b := by omega
              clear hst1 hst2 hpo huo hsu hsp
              go_wp2_with fail
              refine (l1In_any _ _ _ _).mono ?_
              rintro e w' ⟨rfl, rfl⟩
              rw [HP1.out]
              go_wp2
              go_roundw
              case rel => exact ⟨k + 1, by omega, by go_num, HOK2, HBB, HP2, HU2⟩
              case measure => simp [intOf]; omega
            · have HM := of_decide_eq_true hd
              have HR := Lib.hid (HNO.out (HND.out HM))
              rw [hd] at hcu
              clear hd HM
              go_wp2_with fail
              refine (l1In_any _ _ _ _).mono ?_
              rintro e w' ⟨rfl, rfl⟩
              rw [HP1.out]
              go_wp2
              go_ret
              rw [HR.out]
              exact ⟨rfl, HB.out⟩
        · obtain rfl : k = l.length := by omega
          have HOKL : Hid (okOrder l l.length) := by have h := HOK.out; rwa [List.take_length] at h
          have HR := Lib.hid (HYES.out HOKL.out)
          have HIN := Lib.hid (fun (x : Int) (h0 : 0 ≤ x) (h1 : x ≤ (l.length : Int) - 1) => (show x ∈ l by
            have := hasAll_iff.1 ((order_iff rfl).2 HOKL.out) x.toNat (by omega)
            rwa [Int.toNat_of_nonneg h0] at this))
          have HCP : Hid (∀ (x : Int), 0 ≤ x → x ≤ (l.length : Int) - 1 → wr.cell? ⟨w1.heap.size, x.toNat, none⟩ = some (.int .i64 (plc l x))) := fun x h0 h1 => by
            have hx : x.toNat < l.length := by omega
            rw [HP.out.cellAt _ (by omega), nums_get _ _ (by rw [plT_len]; exact hx), plT_get hx, List.take_length, Int.toNat_of_nonneg h0, if_pos (HIN.out x h0 h1)]
          clear HP HU
          obtain ⟨wo, hwo⟩ : ∃ wo, wo = wr := ⟨_, rfl⟩
          rw [← hwo] at HCP HB ⊢
          clear hwo
          go_wp2
          go_loopw [10, 11] (fun sv i wr => ∃ k : Nat, k ≤ es.length ∧ i = .int .i64 k ∧ sv = .int .i64 (farS l (es.take k)) ∧ Hid (0 ≤ farS l (es.take k) ∧ farS l (es.take k) ≤ 480000 * (k : Int)) ∧ ∃ d, wr = wo.drewN d) (fun _ i _ => es.length - (intOf i).toNat)
          case atStart => exact ⟨0, Nat.zero_le _, rfl, rfl, ⟨by simp [farS], by simp [farS]⟩, 0, rfl⟩
          case round =>
            obtain ⟨k, hk, rfl, rfl, HS, dn, rfl⟩ := hrel
            by_cases hke : k < es.length
            · obtain ⟨b, off, rfl, hbl, e0, e1, e2⟩ := Edg.at_ ((h1.more hB1).below HB.out) hke
              obtain ⟨⟨f0, f1⟩, ⟨t0, t1⟩, _, ⟨q0, q1⟩⟩ := HEP.out k hke
              have hpf := plc_bd (HIN.out _ f0 f1)
              have hpt := plc_bd (HIN.out _ t0 t1)
              have hcf := HCP.out _ f0 f1
              have hct := HCP.out _ t0 t1
              have hs := HS.out
              have HT : Hid (farS l (es.take (k + 1)) = farS l (es.take k) + es[k].count * max (plc l es[k].from_ - plc l es[k].to_) (-(plc l es[k].from_ - plc l es[k].to_))) := by
                rw [List.take_succ_eq_append_getElem hke]
                exact farS_snoc l _ _
              generalize farS l (es.take k) = sm at *
              generalize es[k].from_ = ef at *
              generalize es[k].to_ = et at *
              generalize es[k].count = ec at *
              generalize plc l ef = pf at *
              generalize plc l et = pt at *
              obtain ⟨hs1, hs2⟩ := hs
              obtain ⟨pf0, pf1⟩ := hpf
              obtain ⟨pt0, pt1⟩ := hpt
              have HM := Lib.hid (mul_max_bd (c := ec) (d := pf - pt) (by omega) q1 (by omega) (by omega))
              have y1 : IntKind.i64.wrap (pf - pt) = pf - pt := IntWalk.i64_in _ (by omega)
              have k0 : (0 : Int) ≤ (k : Int) := Int.natCast_nonneg _
              have k1 : (k : Int) < (es.length : Int) := by omega
              have f2 : ef < (l.length : Int) := by omega
              have t2 : et < (l.length : Int) := by omega
              go_wp2
              go_quiet (fail)
              clear y1
              obtain ⟨d, hd⟩ : ∃ d, d = pf - pt := ⟨_, rfl⟩
              have hd1 : -8 ≤ d ∧ d ≤ 8 := by omega
              rw [← hd] at HT HM ⊢
              clear hd
              obtain ⟨hd1, hd2⟩ := hd1
              obtain ⟨mx, hmx⟩ : ∃ mx, mx = max d (-d) := ⟨_, rfl⟩
              have hmx1 : 0 ≤ mx ∧ mx ≤ 8 := by omega
              have hmul := HM.out
              rw [← hmx] at HT hmul
              obtain ⟨pr, hpr⟩ : ∃ pr, pr = ec * mx := ⟨_, rfl⟩
              rw [← hpr] at HT hmul
              obtain ⟨hmul1, hmul2⟩ := hmul
              have HVAL : Hid (wrap64 (sm + wrap64 (ec * if d < -d then -d else d)) = sm + pr) := by
                have e1 : (if d < -d then -d else d) = mx := by rw [hmx]; split <;> omega
                rw [e1, ← hpr, IntWalk.wrap64_in pr (by omega), IntWalk.wrap64_in (sm + pr) (by omega)]
                exact rfl
              have HSB : Hid (0 ≤ sm + pr ∧ sm + pr ≤ 480000 * ((k : Int) + 1)) := by
                exact ⟨by omega, by omega⟩
              clear hmx hpr
              go_wp2
              go_roundw
              case rel => exact ⟨k + 1, by omega, by go_num, by rw [HVAL.out, HT.out], by rw [HT.out]; exact HSB.out, _, rfl⟩
              case measure => simp [intOf]; omega
            · obtain rfl : k = es.length := by omega
              go_wp2
              go_ret
              rw [HR.out, List.take_length]
              exact ⟨rfl, below_drewN HB.out _⟩
    · have hne : ((l.length : Int) != many) = true := by simp [hlm]
      have HR : Hid (callsFar many es l = -1) := by unfold callsFar; rw [if_neg (fun h => hlm h.2.1)]; exact rfl
      clear hlm
      go_enter Try.func16, Try.ntmps16
      go_wp2_with fail
      refine HV.out.mono ?_
      rintro e w1 ⟨rfl, hb1⟩
      rw [HJ.out]
      go_wp2
      go_ret
      rw [HR.out]
      exact ⟨rfl, hb1⟩
end Go.Proofs.Ytgibmbjdnppiaaa
