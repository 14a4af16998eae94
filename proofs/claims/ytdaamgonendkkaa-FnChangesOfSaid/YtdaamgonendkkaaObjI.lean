/- Contract of ObjectValid. No condition but the sizes. -/
import Derived.Test.YtdaamgonendkkaaRows
import Derived.Test.YtdaamgonendkkaaBase
import Derived.Test.YtdaamgonendkkaaBase2
import Derived.Test.YtdaamgonendkkaaIn
import Derived.Test.YtdaamgonendkkaaName
import Derived.Test.YtdaamgonendkkaaByteS
import Derived.Test.YtdaamgonendkkaaFix
import Derived.Test.YtdaamgonendkkaaSec
import Derived.Test.YtdaamgonendkkaaObjS
import Derived.Test.YtdaamgonendkkaaSecV
import Derived.Test.YtdaamgonendkkaaSym
import Derived.Test.YtdaamgonendkkaaSymV
import Derived.Test.YtdaamgonendkkaaFindSym
import Derived.Test.YtdaamgonendkkaaObj
import Derived.Test.YtdaamgonendkkaaGlob
import Derived.WalkKit
import Derived.WalkSpells
import Derived.WalkLawsBesides
import Derived.Handy
import Derived.BigQuiet
import Derived.Deep.RegionHeld3
import Derived.Deep.DrawnRows
import Derived.Deep.QuietTactic
namespace Go.Proofs.Ytdaamgonendkkaa
open Go Go.RowKit

set_option maxRecDepth 100000 in
set_option maxHeartbeats 8000000 in
theorem implObj_any {B : Nat} (x : Obj) (w : World) (h : x.At w B) (hB : B ≤ w.heap.size) (hs : x.small) (hc : x.syms.length ≤ x.yc) :
    Calls Try.prog 27 #[x.val] w (Gives w (.bool (objOk x.secs x.syms))) := by
  obtain ⟨secs, sA, sc, syms, yA, yc⟩ := x
  obtain ⟨h0, h1⟩ := h
  obtain ⟨b0, b1, b2, b3⟩ := hs
  simp only [Obj.val] at *
  have H0 := Lib.hid (h0.more hB)
  have H1 := Lib.hid (h1.more hB)
  have B1 := Lib.hid b1
  have B3 := Lib.hid b3
  clear h0 h1 b1 b3
  have K := Lib.hid (Blk.new w 47 #[Value.slice sA secs.length sc, Value.slice yA syms.length yc])
  have BB : Hid (Below w.heap.size w (w.alloc (.cells #[Value.slice sA secs.length sc, Value.slice yA syms.length yc] 47))) := (Below.refl _ _).alloc (Nat.le_refl _) _
  by_cases q1 : secs.length ≤ 8
  · by_cases q2 : syms.length ≤ 12
    · have d1 : decide ((secs.length : Int) > 8) = false := decide_eq_false (by omega)
      have d2 : decide ((syms.length : Int) > 12) = false := decide_eq_false (by omega)
      go_enter Try.func27, Try.ntmps27
      go_wp2
      clear d1 d2
      go_loopw [20] (fun i wr => ∃ k : Nat, k ≤ secs.length ∧ i = .int .i64 k ∧ Hid (∀ j, (h : j < secs.length) → j < k → secOk secs[j].name secs[j].kind secs[j].align secs[j].bytes.length secs[j].size secs[j].fixups syms.length = true) ∧ Hid (Below w.heap.size w wr) ∧ Hid (Blk wr w.heap.size 47 #[Value.slice sA secs.length sc, Value.slice yA syms.length yc]) ∧ w.heap.size < wr.heap.size) (fun i _ => secs.length - (intOf i).toNat)
      case atStart => exact ⟨0, Nat.zero_le _, rfl, Lib.hid (fun j _ hj => by omega), BB, K, K.out.lt⟩
      case round =>
        clear BB K
        obtain ⟨k, hk, rfl, HA, HB, HX, hlt0⟩ := hrel
        by_cases hlt : k < secs.length
        · obtain ⟨b, off, hfa, hbl, c0, c1, c2, c3, c4, c5⟩ := Sec.at_ (H0.out.below HB.out).1 hlt
          subst hfa
          have HIN := Lib.hid (H0.out.2 _ (List.getElem_mem hlt))
          have HSM := Lib.hid (B1.out _ (List.getElem_mem hlt))
          have hb2 : Below w.heap.size w (wr.alloc (.cells #[Value.string secs[k].name, Value.int .i64 secs[k].kind, Value.int .i64 secs[k].align, Value.slice secs[k].bytesA secs[k].bytes.length secs[k].bytesc, Value.int .i64 secs[k].size, Value.slice secs[k].fixupsA secs[k].fixups.length secs[k].fixupsc] 80)) := HB.out.alloc HB.out.size _
          have hx2 := HX.out.alloc (.cells #[Value.string secs[k].name, Value.int .i64 secs[k].kind, Value.int .i64 secs[k].align, Value.slice secs[k].bytesA secs[k].bytes.length secs[k].bytesc, Value.int .i64 secs[k].size, Value.slice secs[k].fixupsA secs[k].fixups.length secs[k].fixupsc] 80)
          have HB2 := Lib.hid hb2
          have HX2 := Lib.hid hx2
          have z1 := HX2.out.cell 1
          clear hb2 hx2
          go_wp2_with fail
          refine (implSec_any secs[k] syms.length _ (HIN.out.below HB2.out) HB2.out.size HSM.out).mono ?_
          rintro e w2 ⟨rfl, s2⟩
          have HB3 := Lib.hid (HB2.out.trans (s2.mono HB2.out.size))
          have HX3 := Lib.hid (HX2.out.below s2 HX2.out.lt)
          have hlt3 : w.heap.size < w2.heap.size := HX3.out.lt
          clear c0 c1 c2 c3 c4 c5 s2 z1 HB2 HX2
          generalize hok : secOk secs[k].name secs[k].kind secs[k].align secs[k].bytes.length secs[k].size secs[k].fixups syms.length = ok at *
          cases ok
          · have HR : Hid (objOk secs syms = false) := obj_no (fun h => by have := h.2.2.1 k hlt; rw [hok] at this; cases this)
            clear hok
            go_wp2
            go_ret
            rw [HR.out]
            exact ⟨rfl, HB3.out⟩
          · have HK := Lib.hid hok
            clear hok
            go_wp2
            go_roundw
            case rel => exact ⟨k + 1, by omega, by go_num, Lib.hid (fun j h hj => by
              by_cases hjk : j < k
              · exact HA.out j h hjk
              · obtain rfl : j = k := by omega
                exact HK.out), HB3, HX3, hlt3⟩
            case measure => simp [intOf]; omega
        · have HSA : Hid (∀ j, (h : j < secs.length) → secOk secs[j].name secs[j].kind secs[j].align secs[j].bytes.length secs[j].size secs[j].fixups syms.length = true) := fun j h => HA.out j h (by omega)
          clear HA
          have z1 := HX.out.cell 1
          go_wp2
          clear z1 hlt hk
          go_loopw [34, 5] (fun i _ wr => ∃ k : Nat, k ≤ syms.length ∧ i = .int .i64 k ∧ Hid (∀ j, (h : j < syms.length) → j < k → symGood secs syms j syms[j]) ∧ Hid (Below w.heap.size w wr) ∧ Hid (Blk wr w.heap.size 47 #[Value.slice sA secs.length sc, Value.slice yA syms.length yc]) ∧ w.heap.size < wr.heap.size) (fun i _ _ => syms.length - (intOf i).toNat)
          case atStart => exact ⟨0, Nat.zero_le _, rfl, Lib.hid (fun j _ hj => by omega), HB, HX, hlt0⟩
          case round =>
            clear HB HX hlt0
            obtain ⟨k, hk, rfl, HA, HB, HX, hlt0⟩ := hrel
            by_cases hlt : k < syms.length
            · obtain ⟨b, off, hfa, hbl, c0, c1, c2, c3⟩ := Sym.at_ (H1.out.below HB.out) hlt
              subst hfa
              have h3 : syms[k].name.size ≤ 1048576 := B3.out _ (List.getElem_mem hlt)
              have HNB : Hid (symOk syms[k] secs = false → objOk secs syms = false) := fun hq => obj_no (fun h => by have := (h.2.2.2 k hlt).1; rw [hq] at this; cases this)
              have HNG : Hid (syms[k].bind ≠ 0 → 0 ≤ gPlace (syms.take k) syms[k].name → objOk secs syms = false) := fun hq hz => obj_no (fun h => (h.2.2.2 k hlt).2.elim hq (by omega))
              have HGD : Hid (symOk syms[k] secs = true → (syms[k].bind = 0 ∨ gPlace (syms.take k) syms[k].name < 0) → symGood secs syms k syms[k]) := fun p q => ⟨p, q⟩
              have HY : Hid (∀ w', Below w.heap.size w w' → Calls Try.prog 53 #[.agg #[Value.string syms[k].name, Value.int .i64 syms[k].bind, Value.int .i64 syms[k].where_, Value.int .i64 syms[k].value], .slice sA secs.length sc] w' (Gives w' (.bool (symOk syms[k] secs)))) := fun w' hb => implSym_any syms[k] secs w' (H0.out.1.below hb) hb.size b0 h3
              have HG := Lib.hid (fun w' (hb : Below w.heap.size w w') => glob_any (c := yc) (syms.take k) syms[k].name w' (readsY_take (H1.out.below hb) hk) hb.size (by rw [List.length_take]; unfold maxLen; omega))
              have hlk : (syms.take k).length = k := by rw [List.length_take]; omega
              rw [hlk] at HG
              clear hlk h3
              generalize gPlace (syms.take k) syms[k].name = z at *
              generalize symOk syms[k] secs = ok at *
              have C0 := Lib.hid c0
              have C1 := Lib.hid c1
              have C2 := Lib.hid c2
              have C3 := Lib.hid c3
              have HX2 := Lib.hid (HX.out.alloc (.cells #[Value.string syms[k].name, Value.int .i64 syms[k].bind, Value.int .i64 syms[k].where_, Value.int .i64 syms[k].value] 55))
              have HB2 := Lib.hid (HB.out.alloc HB.out.size (.cells #[Value.string syms[k].name, Value.int .i64 syms[k].bind, Value.int .i64 syms[k].where_, Value.int .i64 syms[k].value] 55))
              have KS := Lib.hid (Blk.new wr 55 #[Value.string syms[k].name, Value.int .i64 syms[k].bind, Value.int .i64 syms[k].where_, Value.int .i64 syms[k].value])
              clear C0 C1 C2 C3
              have k0 : (0 : Int) ≤ (k : Int) := Int.natCast_nonneg _
              have k1 : (k : Int) ≤ (yc : Int) := by omega
              go_wp2
              generalize wr.alloc (.cells #[Value.string syms[k].name, Value.int .i64 syms[k].bind, Value.int .i64 syms[k].where_, Value.int .i64 syms[k].value] 55) = w1 at *
              clear c0 c1 c2 c3
              have X0 := cell_regrown (KS.out.cell 0)
              have X1 := cell_regrown (KS.out.cell 1)
              have X2 := cell_regrown (KS.out.cell 2)
              have X3 := cell_regrown (KS.out.cell 3)
              have Z0 := cell_regrown (HX2.out.cell 0)
              have Z1 := cell_regrown (HX2.out.cell 1)
              have bq := Lib.hid (fun d os => HB2.out.trans ((below_regrown w1 d os).mono HB2.out.size))
              have cY := fun d os => Calls.regrown_of (w := w1) (d := d) (os := os) (HY.out _ (bq.out d os))
              have cG := fun d os => Calls.regrown_of (w := w1) (d := d) (os := os) (HG.out _ (bq.out d os))
              clear HY HG KS bq HB HX
              cases ok
              · skip
                have HR : Hid (objOk secs syms = false) := HNB.out rfl
                refine wp_region_quiet_below (by kernel_rfl) (by kernel_rfl) ?_
                repeat (go_big_quiet_step (first | (with_reducible exact cY _ _) | (with_reducible exact cG _ _)))
                refine wpQuiet_nil ?_
                intro _ hw'
                obtain ⟨⟨dq, osq⟩, hw''⟩ := hw'
                subst hw''
                have hbn := below_regrown w1 dq osq
                have HBN := Lib.hid (HB2.out.trans (hbn.mono HB2.out.size))
                have HXN := Lib.hid (HX2.out.below hbn HX2.out.lt)
                clear hbn cY cG X0 X1 X2 X3 Z0 Z1
                generalize Go.Sort.grow (redrawn w1 dq) osq = w3 at *
                have hlt3 : w.heap.size < w3.heap.size := HXN.out.lt
                go_wp2
                go_ret
                rw [HR.out]
                exact ⟨rfl, HBN.out⟩
              · by_cases hb : syms[k].bind = 0
                · have u : (syms[k].bind != 0) = false := by simpa using hb
                  have HK : Hid (symGood secs syms k syms[k]) := HGD.out rfl (Or.inl hb)
                  clear hb
                  refine wp_region_quiet_below (by kernel_rfl) (by kernel_rfl) ?_
                  repeat (go_big_quiet_step (first | (with_reducible exact cY _ _) | (with_reducible exact cG _ _)))
                  refine wpQuiet_nil ?_
                  intro _ hw'
                  obtain ⟨⟨dq, osq⟩, hw''⟩ := hw'
                  subst hw''
                  have hbn := below_regrown w1 dq osq
                  have HBN := Lib.hid (HB2.out.trans (hbn.mono HB2.out.size))
                  have HXN := Lib.hid (HX2.out.below hbn HX2.out.lt)
                  clear hbn cY cG X0 X1 X2 X3 Z0 Z1
                  generalize Go.Sort.grow (redrawn w1 dq) osq = w3 at *
                  have hlt3 : w.heap.size < w3.heap.size := HXN.out.lt
                  go_wp2
                  go_roundw
                  case rel => exact ⟨k + 1, by omega, by go_num, Lib.hid (fun j h hj => by
                    by_cases hjk : j < k
                    · exact HA.out j h hjk
                    · obtain rfl : j = k := by omega
                      exact HK.out), HBN, HXN, hlt3⟩
                  case measure => simp [intOf]; omega
                · have u : (syms[k].bind != 0) = true := by simpa using hb
                  by_cases hz : z < 0
                  · have hzq : decide (0 ≤ z) = false := decide_eq_false (by omega)
                    have HK : Hid (symGood secs syms k syms[k]) := HGD.out rfl (Or.inr hz)
                    clear hb
                    refine wp_region_quiet_below (by kernel_rfl) (by kernel_rfl) ?_
                    repeat (go_big_quiet_step (first | (with_reducible exact cY _ _) | (with_reducible exact cG _ _)))
                    refine wpQuiet_nil ?_
                    intro _ hw'
                    obtain ⟨⟨dq, osq⟩, hw''⟩ := hw'
                    subst hw''
                    have hbn := below_regrown w1 dq osq
                    have HBN := Lib.hid (HB2.out.trans (hbn.mono HB2.out.size))
                    have HXN := Lib.hid (HX2.out.below hbn HX2.out.lt)
                    clear hbn cY cG X0 X1 X2 X3 Z0 Z1
                    generalize Go.Sort.grow (redrawn w1 dq) osq = w3 at *
                    have hlt3 : w.heap.size < w3.heap.size := HXN.out.lt
                    go_wp2
                    go_roundw
                    case rel => exact ⟨k + 1, by omega, by go_num, Lib.hid (fun j h hj => by
                      by_cases hjk : j < k
                      · exact HA.out j h hjk
                      · obtain rfl : j = k := by omega
                        exact HK.out), HBN, HXN, hlt3⟩
                    case measure => simp [intOf]; omega
                  · have hzq : decide (0 ≤ z) = true := decide_eq_true (by omega)
                    have HR : Hid (objOk secs syms = false) := HNG.out hb (by omega)
                    clear hb
                    refine wp_region_quiet_below (by kernel_rfl) (by kernel_rfl) ?_
                    repeat (go_big_quiet_step (first | (with_reducible exact cY _ _) | (with_reducible exact cG _ _)))
                    refine wpQuiet_nil ?_
                    intro _ hw'
                    obtain ⟨⟨dq, osq⟩, hw''⟩ := hw'
                    subst hw''
                    have hbn := below_regrown w1 dq osq
                    have HBN := Lib.hid (HB2.out.trans (hbn.mono HB2.out.size))
                    have HXN := Lib.hid (HX2.out.below hbn HX2.out.lt)
                    clear hbn cY cG X0 X1 X2 X3 Z0 Z1
                    generalize Go.Sort.grow (redrawn w1 dq) osq = w3 at *
                    have hlt3 : w.heap.size < w3.heap.size := HXN.out.lt
                    go_wp2
                    go_ret
                    rw [HR.out]
                    exact ⟨rfl, HBN.out⟩
            · have HR : Hid (objOk secs syms = true) := obj_yes ⟨q1, q2, HSA.out, fun j h => HA.out j h (by omega)⟩
              go_wp2
              go_ret
              rw [HR.out]
              exact ⟨rfl, HB.out⟩
    · have HR : Hid (objOk secs syms = false) := obj_no (fun h => q2 h.2.1)
      have d1 : decide ((secs.length : Int) > 8) = false := decide_eq_false (by omega)
      have d2 : decide ((syms.length : Int) > 12) = true := decide_eq_true (by omega)
      go_enter Try.func27, Try.ntmps27
      go_wp2
      go_ret
      rw [HR.out]
      exact ⟨rfl, BB.out⟩
  · have HR : Hid (objOk secs syms = false) := obj_no (fun h => q1 h.1)
    have d1 : decide ((secs.length : Int) > 8) = true := decide_eq_true (by omega)
    go_enter Try.func27, Try.ntmps27
    go_wp2
    go_ret
    rw [HR.out]
    exact ⟨rfl, BB.out⟩
end Go.Proofs.Ytdaamgonendkkaa
