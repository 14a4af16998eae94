/- Contract of the reference's ObjectValid. No condition but the sizes. -/
import Derived.Test.YtdaamgonendkkaaRows
import Derived.Test.YtdaamgonendkkaaBase
import Derived.Test.YtdaamgonendkkaaBase2
import Derived.Test.YtdaamgonendkkaaIn
import Derived.Test.YtdaamgonendkkaaName
import Derived.Test.YtdaamgonendkkaaByteS
import Derived.Test.YtdaamgonendkkaaFix
import Derived.Test.YtdaamgonendkkaaSec
import Derived.Test.YtdaamgonendkkaaObjS
import Derived.Test.YtdaamgonendkkaaSecV
import Derived.Test.YtdaamgonendkkaaSecW
import Derived.Test.YtdaamgonendkkaaSym
import Derived.Test.YtdaamgonendkkaaSymV
import Derived.Test.YtdaamgonendkkaaFindSym
import Derived.Test.YtdaamgonendkkaaObj
import Derived.Test.YtdaamgonendkkaaGlob
import Derived.WalkKit
import Derived.WalkSpells
import Derived.WalkLawsBesides
import Derived.Handy
import Derived.BigQuiet
import Derived.Deep.RegionHeld3
import Derived.Deep.DrawnRows
import Derived.Deep.QuietTactic
namespace Go.Proofs.Ytdaamgonendkkaa
open Go Go.RowKit

def clash (a b : Sym) : Bool := decide (a.name = b.name) && (decide (a.bind ≠ 0) && decide (b.bind ≠ 0))
theorem good_of {secs : List Sec} {ys : List Sym} {k : Nat} (hk : k < ys.length) (h : symOk ys[k] secs = true) (hc : ∀ j, (h : j < ys.length) → j < k → clash ys[j] ys[k] = false) : symGood secs ys k ys[k] := by
  refine ⟨h, ?_⟩
  by_cases hb : ys[k].bind = 0
  · exact Or.inl hb
  · refine Or.inr (gPlace_neg.2 fun j hj => ?_)
    rw [List.length_take] at hj
    have hcj := hc j (by omega) (by omega)
    rw [List.getElem_take]
    unfold clash at hcj
    unfold glob
    rw [decide_eq_true hb, Bool.and_true, Bool.and_comm] at hcj
    exact hcj
theorem not_good {secs : List Sec} {ys : List Sym} {k j : Nat} (hk : k < ys.length) (hj : j < k) (hc : clash (ys[j]'(by omega)) ys[k] = true) : ¬ symGood secs ys k ys[k] := by
  intro h
  unfold clash at hc
  simp only [Bool.and_eq_true, decide_eq_true_eq] at hc
  obtain ⟨c1, c2, c3⟩ := hc
  refine h.2.elim c3 fun hn => ?_
  have hg := gPlace_neg.1 hn j (by rw [List.length_take]; omega)
  rw [List.getElem_take] at hg
  unfold glob at hg
  rw [decide_eq_true c2, decide_eq_true c1] at hg
  cases hg
set_option maxRecDepth 100000 in
set_option maxHeartbeats 8000000 in
theorem specObj_any {B : Nat} (x : Obj) (w : World) (h : x.At w B) (hB : B ≤ w.heap.size) (hs : x.small) :
    Calls Try.prog 42 #[x.val] w (Gives w (.bool (objOk x.secs x.syms))) := by
  obtain ⟨secs, sA, sc, syms, yA, yc⟩ := x
  obtain ⟨h0, h1⟩ := h
  obtain ⟨b0, b1, b2, b3⟩ := hs
  simp only [Obj.val] at *
  have H0 := Lib.hid (h0.more hB)
  have H1 := Lib.hid (h1.more hB)
  have B1 := Lib.hid b1
  have B3 := Lib.hid b3
  clear h0 h1 b1 b3
  have K := Lib.hid (Blk.new w 47 #[Value.slice sA secs.length sc, Value.slice yA syms.length yc])
  have BB : Hid (Below w.heap.size w (w.alloc (.cells #[Value.slice sA secs.length sc, Value.slice yA syms.length yc] 47))) := (Below.refl _ _).alloc (Nat.le_refl _) _
  go_enter Try.func42, Try.ntmps42
  go_wp2
  go_loopw [3] (fun i wr => ∃ k : Nat, k ≤ secs.length ∧ i = .int .i64 k ∧ Hid (∀ j, (h : j < secs.length) → j < k → secOk secs[j].name secs[j].kind secs[j].align secs[j].bytes.length secs[j].size secs[j].fixups syms.length = true) ∧ Hid (Below w.heap.size w wr) ∧ Hid (Blk wr w.heap.size 47 #[Value.slice sA secs.length sc, Value.slice yA syms.length yc]) ∧ w.heap.size < wr.heap.size) (fun i _ => secs.length - (intOf i).toNat)
  case atStart => exact ⟨0, Nat.zero_le _, rfl, Lib.hid (fun j _ hj => by omega), BB, K, K.out.lt⟩
  case round =>
    clear BB K
    obtain ⟨k, hk, rfl, HA, HB, HX, hlt0⟩ := hrel
    have z0 := HX.out.cell 0
    by_cases hlt : k < secs.length
    · obtain ⟨b, off, hfa, hbl, c0, c1, c2, c3, c4, c5⟩ := Sec.at_ (H0.out.below HB.out).1 hlt
      subst hfa
      have HS : Hid (∀ w', Below w.heap.size w w' → Calls Try.prog 69 #[.agg #[Value.string secs[k].name, Value.int .i64 secs[k].kind, Value.int .i64 secs[k].align, Value.slice secs[k].bytesA secs[k].bytes.length secs[k].bytesc, Value.int .i64 secs[k].size, Value.slice secs[k].fixupsA secs[k].fixups.length secs[k].fixupsc], .int .i64 syms.length] w' (Gives w' (.bool (secOk secs[k].name secs[k].kind secs[k].align secs[k].bytes.length secs[k].size secs[k].fixups syms.length)))) := fun w' hb => specSec_any secs[k] syms.length w' ((H0.out.2 _ (List.getElem_mem hlt)).below hb) hb.size (B1.out _ (List.getElem_mem hlt))
      generalize hok : secOk secs[k].name secs[k].kind secs[k].align secs[k].bytes.length secs[k].size secs[k].fixups syms.length = ok at *
      have Y0 := cell_regrown c0
      have Y1 := cell_regrown c1
      have Y2 := cell_regrown c2
      have Y3 := cell_regrown c3
      have Y4 := cell_regrown c4
      have Y5 := cell_regrown c5
      have Z0 := cell_regrown z0
      have Z1 := cell_regrown (HX.out.cell 1)
      have bq := Lib.hid (fun d os => HB.out.trans ((below_regrown wr d os).mono HB.out.size))
      have cS := fun d os => Calls.regrown_of (w := wr) (d := d) (os := os) (HS.out _ (bq.out d os))
      clear c0 c1 c2 c3 c4 c5 bq HS
      have k0 : (0 : Int) ≤ (k : Int) := Int.natCast_nonneg _
      have k2 : (k : Int) < (secs.length : Int) := by omega
      cases ok
      · have HR : Hid (objOk secs syms = false) := obj_no (fun h => by have := h.2.2.1 k hlt; rw [hok] at this; cases this)
        clear hok
        go_wp2
        clear z0
        refine wp_region_quiet_below (by kernel_rfl) (by kernel_rfl) ?_
        repeat (go_big_quiet_step (with_reducible exact cS _ _))
        refine wpQuiet_nil ?_
        intro _ hw'
        obtain ⟨⟨dq, osq⟩, hw''⟩ := hw'
        subst hw''
        have hbn := below_regrown wr dq osq
        have HBN := Lib.hid (HB.out.trans (hbn.mono HB.out.size))
        have HXN := Lib.hid (HX.out.below hbn HX.out.lt)
        clear hbn cS Y0 Y1 Y2 Y3 Y4 Y5 Z0 Z1
        clear HB HX hlt0
        generalize Go.Sort.grow (redrawn wr dq) osq = w3 at *
        have hlt3 : w.heap.size < w3.heap.size := HXN.out.lt
        go_wp2
        go_ret
        rw [HR.out]
        exact ⟨rfl, HBN.out⟩
      · have HK := Lib.hid hok
        clear hok
        go_wp2
        clear z0
        refine wp_region_quiet_below (by kernel_rfl) (by kernel_rfl) ?_
        repeat (go_big_quiet_step (with_reducible exact cS _ _))
        refine wpQuiet_nil ?_
        intro _ hw'
        obtain ⟨⟨dq, osq⟩, hw''⟩ := hw'
        subst hw''
        have hbn := below_regrown wr dq osq
        have HBN := Lib.hid (HB.out.trans (hbn.mono HB.out.size))
        have HXN := Lib.hid (HX.out.below hbn HX.out.lt)
        clear hbn cS Y0 Y1 Y2 Y3 Y4 Y5 Z0 Z1
        clear HB HX hlt0
        generalize Go.Sort.grow (redrawn wr dq) osq = w3 at *
        have hlt3 : w.heap.size < w3.heap.size := HXN.out.lt
        go_wp2
        go_roundw
        case rel => exact ⟨k + 1, by omega, by go_num, Lib.hid (fun j h hj => by
          by_cases hjk : j < k
          · exact HA.out j h hjk
          · obtain rfl : j = k := by omega
            exact HK.out), HBN, HXN, hlt3⟩
        case measure => simp [intOf]; omega
    · have HSA : Hid (∀ j, (h : j < secs.length) → secOk secs[j].name secs[j].kind secs[j].align secs[j].bytes.length secs[j].size secs[j].fixups syms.length = true) := fun j h => HA.out j h (by omega)
      clear HA
      go_wp2
      clear hlt hk z0
      go_loopw [4] (fun i wr => ∃ k : Nat, k ≤ syms.length ∧ i = .int .i64 k ∧ Hid (∀ j, (h : j < syms.length) → j < k → symGood secs syms j syms[j]) ∧ Hid (Below w.heap.size w wr) ∧ Hid (Blk wr w.heap.size 47 #[Value.slice sA secs.length sc, Value.slice yA syms.length yc]) ∧ w.heap.size < wr.heap.size) (fun i _ => syms.length - (intOf i).toNat)
      case atStart => exact ⟨0, Nat.zero_le _, rfl, Lib.hid (fun j _ hj => by omega), HB, HX, hlt0⟩
      case round =>
        clear HB HX hlt0
        obtain ⟨k, hk, rfl, HA, HB, HX, hlt0⟩ := hrel
        have z1 := HX.out.cell 1
        by_cases hlt : k < syms.length
        · obtain ⟨b, off, hfa, hbl, c0, c1, c2, c3⟩ := Sym.at_ (H1.out.below HB.out) hlt
          subst hfa
          have h3 : syms[k].name.size ≤ 1048576 := B3.out _ (List.getElem_mem hlt)
          have HY : Hid (∀ w', Below w.heap.size w w' → Calls Try.prog 70 #[.agg #[Value.string syms[k].name, Value.int .i64 syms[k].bind, Value.int .i64 syms[k].where_, Value.int .i64 syms[k].value], .slice sA secs.length sc] w' (Gives w' (.bool (symOk syms[k] secs)))) := fun w' hb => specSym_any syms[k] secs w' (H0.out.1.below hb) hb.size b0 h3
          clear h3
          generalize hok : symOk syms[k] secs = ok at *
          have Y0 := cell_regrown c0
          have Y1 := cell_regrown c1
          have Y2 := cell_regrown c2
          have Y3 := cell_regrown c3
          have Z0 := cell_regrown (HX.out.cell 0)
          have Z1 := cell_regrown z1
          have bq := Lib.hid (fun d os => HB.out.trans ((below_regrown wr d os).mono HB.out.size))
          have cS := fun d os => Calls.regrown_of (w := wr) (d := d) (os := os) (HY.out _ (bq.out d os))
          clear c0 c1 c2 c3 bq HY
          have k0 : (0 : Int) ≤ (k : Int) := Int.natCast_nonneg _
          have k2 : (k : Int) < (syms.length : Int) := by omega
          cases ok
          · have HR : Hid (objOk secs syms = false) := obj_no (fun h => by have := (h.2.2.2 k hlt).1; rw [hok] at this; cases this)
            clear hok
            go_wp2
            clear z1
            refine wp_region_quiet_below (by kernel_rfl) (by kernel_rfl) ?_
            repeat (go_big_quiet_step (with_reducible exact cS _ _))
            refine wpQuiet_nil ?_
            intro _ hw'
            obtain ⟨⟨dq, osq⟩, hw''⟩ := hw'
            subst hw''
            have hbn := below_regrown wr dq osq
            have HBN := Lib.hid (HB.out.trans (hbn.mono HB.out.size))
            have HXN := Lib.hid (HX.out.below hbn HX.out.lt)
            clear hbn cS Y0 Y1 Y2 Y3 Z0 Z1
            clear HB HX hlt0
            generalize Go.Sort.grow (redrawn wr dq) osq = w3 at *
            have hlt3 : w.heap.size < w3.heap.size := HXN.out.lt
            go_wp2
            go_ret
            rw [HR.out]
            exact ⟨rfl, HBN.out⟩
          · have HOK := Lib.hid hok
            clear hok
            go_wp2
            clear z1
            refine wp_region_quiet_below (by kernel_rfl) (by kernel_rfl) ?_
            repeat (go_big_quiet_step (with_reducible exact cS _ _))
            refine wpQuiet_nil ?_
            intro _ hw'
            obtain ⟨⟨dq, osq⟩, hw''⟩ := hw'
            subst hw''
            have hbn := below_regrown wr dq osq
            have HBN := Lib.hid (HB.out.trans (hbn.mono HB.out.size))
            have HXN := Lib.hid (HX.out.below hbn HX.out.lt)
            clear hbn cS Y0 Y1 Y2 Y3 Z0 Z1
            clear HB HX hlt0
            generalize Go.Sort.grow (redrawn wr dq) osq = w3 at *
            have hlt3 : w.heap.size < w3.heap.size := HXN.out.lt
            go_wp2
            go_loopw [5] (fun i wr => ∃ m : Nat, m ≤ k ∧ i = .int .i64 m ∧ Hid (∀ j, (h : j < syms.length) → j < m → clash syms[j] syms[k] = false) ∧ Hid (Below w.heap.size w wr) ∧ Hid (Blk wr w.heap.size 47 #[Value.slice sA secs.length sc, Value.slice (some ⟨b, off, none⟩) syms.length yc]) ∧ w.heap.size < wr.heap.size) (fun i _ => k - (intOf i).toNat)
            case atStart => exact ⟨0, Nat.zero_le _, rfl, Lib.hid (fun j _ hj => by omega), HBN, HXN, hlt3⟩
            case round =>
              clear HBN HXN hlt3
              obtain ⟨m, hm, rfl, HC, HB, HX, hlt0⟩ := hrel
              by_cases hlm : m < k
              · have hmn : m < syms.length := by omega
                obtain ⟨b2, off2, hfa, hbl2, c0, c1, c2, c3⟩ := Sym.at_ (H1.out.below HB.out) hmn
                obtain ⟨b3, off3, hfa3, hbl3, g0, g1, g2, g3⟩ := Sym.at_ (H1.out.below HB.out) hlt
                simp only [Option.some.injEq, Addr.mk.injEq] at hfa hfa3
                obtain ⟨rfl, rfl, _⟩ := hfa
                obtain ⟨rfl, rfl, _⟩ := hfa3
                have z1 := HX.out.cell 1
                have m0 : (0 : Int) ≤ (m : Int) := Int.natCast_nonneg _
                have m2 : (m : Int) < (syms.length : Int) := by omega
                have HCL : Hid (clash syms[m] syms[k] = (decide (syms[m].name = syms[k].name) && (decide (syms[m].bind ≠ 0) && decide (syms[k].bind ≠ 0)))) := rfl
                clear c2 c3 g2 g3
                have FIN : Hid (clash syms[m] syms[k] = true → objOk secs syms = false) := fun hc => obj_no (fun h => not_good hlt hlm hc (h.2.2.2 k hlt))
                generalize hcl : clash syms[m] syms[k] = cl at *
                generalize syms[m].name = nm1 at *
                generalize syms[k].name = nm2 at *
                generalize syms[m].bind = bd1 at *
                generalize syms[k].bind = bd2 at *
                have HCQ := Lib.hid hcl
                clear hcl
                by_cases t0 : nm1 = nm2
                · have u0 : (nm1.toList == nm2.toList) = true := by simp [t0]
                  by_cases t1 : bd1 = 0
                  · have u1 : (bd1 != 0) = false := by simpa using t1
                    have HK : Hid (clash syms[m] syms[k] = false) := by rw [Hid, HCQ.out, HCL.out]; simp [t1]
                    clear HCL FIN HCQ
                    clear t0 t1
                    go_wp2
                    go_quiet (fail)
                    go_wp2
                    go_roundw
                    case rel =>
                      have s := below_drewN (Below.refl wr.heap.size wr) nq
                      exact ⟨m + 1, by omega, by go_num, Lib.hid (fun j h hj => by
                        by_cases hjk : j < m
                        · exact HC.out j h hjk
                        · obtain rfl : j = m := by omega
                          exact HK.out), Lib.hid (below_drewN HB.out _), Lib.hid (HX.out.below s HX.out.lt), (HX.out.below s HX.out.lt).lt⟩
                    case measure => simp [intOf]; omega
                  · have u1 : (bd1 != 0) = true := by simpa using t1
                    by_cases t2 : bd2 = 0
                    · have u2 : (bd2 != 0) = false := by simpa using t2
                      have HK : Hid (clash syms[m] syms[k] = false) := by rw [Hid, HCQ.out, HCL.out]; simp [t2]
                      clear HCL FIN HCQ
                      clear t0 t1 t2
                      go_wp2
                      go_quiet (fail)
                      go_wp2
                      go_roundw
                      case rel =>
                        have s := below_drewN (Below.refl wr.heap.size wr) nq
                        exact ⟨m + 1, by omega, by go_num, Lib.hid (fun j h hj => by
                          by_cases hjk : j < m
                          · exact HC.out j h hjk
                          · obtain rfl : j = m := by omega
                            exact HK.out), Lib.hid (below_drewN HB.out _), Lib.hid (HX.out.below s HX.out.lt), (HX.out.below s HX.out.lt).lt⟩
                      case measure => simp [intOf]; omega
                    · have u2 : (bd2 != 0) = true := by simpa using t2
                      have HR : Hid (objOk secs syms = false) := FIN.out (by rw [HCL.out]; simp [t0, t1, t2])
                      clear HCL FIN HCQ
                      clear t0 t1 t2
                      go_wp2
                      go_quiet (fail)
                      go_wp2
                      go_ret
                      rw [HR.out]
                      exact ⟨rfl, below_drewN HB.out _⟩
                · have u0 : (nm1.toList == nm2.toList) = false := by simpa using fun h => t0 (toList_inj h)
                  have HK : Hid (clash syms[m] syms[k] = false) := by rw [Hid, HCQ.out, HCL.out]; simp [t0]
                  clear HCL FIN HCQ
                  clear t0
                  go_wp2
                  go_quiet (fail)
                  go_wp2
                  go_roundw
                  case rel =>
                    have s := below_drewN (Below.refl wr.heap.size wr) nq
                    exact ⟨m + 1, by omega, by go_num, Lib.hid (fun j h hj => by
                      by_cases hjk : j < m
                      · exact HC.out j h hjk
                      · obtain rfl : j = m := by omega
                        exact HK.out), Lib.hid (below_drewN HB.out _), Lib.hid (HX.out.below s HX.out.lt), (HX.out.below s HX.out.lt).lt⟩
                  case measure => simp [intOf]; omega
              · have HG := Lib.hid (good_of hlt HOK.out (fun j h hj => HC.out j h (by omega)))
                go_wp2
                go_roundw
                case rel => exact ⟨k + 1, by omega, by go_num, Lib.hid (fun j h hj => by
                  by_cases hjk : j < k
                  · exact HA.out j h hjk
                  · obtain rfl : j = k := by omega
                    exact HG.out), HB, HX, hlt0⟩
                case measure => simp [intOf]; omega
        · have HYA : Hid (∀ j, (h : j < syms.length) → symGood secs syms j syms[j]) := fun j h => HA.out j h (by omega)
          have z0 := HX.out.cell 0
          by_cases q1 : secs.length ≤ 8
          · have d1 : decide ((secs.length : Int) ≤ 8) = true := decide_eq_true (by omega)
            by_cases q2 : syms.length ≤ 12
            · have d2 : decide ((syms.length : Int) ≤ 12) = true := decide_eq_true (by omega)
              have HR : Hid (objOk secs syms = true) := obj_yes ⟨q1, q2, HSA.out, HYA.out⟩
              go_wp2
              go_ret
              rw [HR.out]
              exact ⟨rfl, HB.out⟩
            · have d2 : decide ((syms.length : Int) ≤ 12) = false := decide_eq_false (by omega)
              have HR : Hid (objOk secs syms = false) := obj_no (fun h => q2 h.2.1)
              go_wp2
              go_ret
              rw [HR.out]
              exact ⟨rfl, HB.out⟩
          · have d1 : decide ((secs.length : Int) ≤ 8) = false := decide_eq_false (by omega)
            have HR : Hid (objOk secs syms = false) := obj_no (fun h => q1 h.1)
            go_wp2
            go_ret
            rw [HR.out]
            exact ⟨rfl, HB.out⟩
end Go.Proofs.Ytdaamgonendkkaa
