/- Contracts of the two TwinBytes. Condition: the bytes are bytes. -/
import Derived.Test.YtmmenedjmdcbcaaRows
import Derived.Test.YtmmenedjmdcbcaaBase
import Derived.Test.YtmmenedjmdcbcaaBase2
import Derived.Test.YtmmenedjmdcbcaaOnly
import Derived.Test.YtmmenedjmdcbcaaIn
import Derived.Test.YtmmenedjmdcbcaaName
import Derived.Test.YtmmenedjmdcbcaaByteS
import Derived.Test.YtmmenedjmdcbcaaFix
import Derived.Test.YtmmenedjmdcbcaaSec
import Derived.Test.YtmmenedjmdcbcaaObjS
import Derived.Test.YtmmenedjmdcbcaaSecV
import Derived.Test.YtmmenedjmdcbcaaSecW
import Derived.Test.YtmmenedjmdcbcaaSym
import Derived.Test.YtmmenedjmdcbcaaSymV
import Derived.Test.YtmmenedjmdcbcaaFindSym
import Derived.Test.YtmmenedjmdcbcaaObj
import Derived.Test.YtmmenedjmdcbcaaGlob
import Derived.Test.YtmmenedjmdcbcaaObjI
import Derived.Test.YtmmenedjmdcbcaaObjW
import Derived.Test.YtmmenedjmdcbcaaEqB
import Derived.Test.YtmmenedjmdcbcaaEqF
import Derived.Test.YtmmenedjmdcbcaaAliI
import Derived.Test.YtmmenedjmdcbcaaAliS
import Derived.Test.YtmmenedjmdcbcaaTwP
import Derived.Test.YtmmenedjmdcbcaaFindSec
import Derived.Test.YtmmenedjmdcbcaaTwI
import Derived.Test.YtmmenedjmdcbcaaTwS
import Derived.WalkKit
import Derived.WalkSpells
import Derived.WalkLawsBesides
import Derived.Handy
import Derived.BigQuiet
import Derived.Deep.RegionHeld3
import Derived.Deep.DrawnRows
import Derived.Deep.QuietTactic
namespace Go.Proofs.Ytmmenedjmdcbcaa
open Go Go.RowKit

theorem secSize_ok {secs : List Sec} {ys : List Sym} (h : objOk secs ys = true) {k : Nat} (hk : k < secs.length) : 0 ≤ secSize secs[k] ∧ secSize secs[k] ≤ 48 := by
  have hg : ObjGood secs ys := @of_decide_eq_true _ (Classical.propDecidable _) h
  have h1 := hg.2.2.1 k hk
  unfold secSize
  by_cases h3 : secs[k].kind = 3
  · rw [if_pos h3]
    cases hh : (nameOk secs[k].name && inB secs[k].kind 1 3 && alignOk secs[k].align) with
    | false => rw [sec_no hh] at h1; cases h1
    | true =>
      rw [sec_blank hh h3] at h1
      simp only [Bool.and_eq_true] at h1
      exact inB_iff.1 h1.1
  · rw [if_neg h3]
    cases hh : (nameOk secs[k].name && inB secs[k].kind 1 3 && alignOk secs[k].align) with
    | false => rw [sec_no hh] at h1; cases h1
    | true =>
      rw [sec_full hh h3] at h1
      simp only [Bool.and_eq_true, decide_eq_true_eq] at h1
      omega
set_option maxRecDepth 100000 in
set_option maxHeartbeats 8000000 in
theorem implTwinB_any {B : Nat} (x : Obj) (w : World) (h : x.At w B) (hB : B ≤ w.heap.size) (hs : x.small) (hc : x.syms.length ≤ x.yc) (hi : ∀ s ∈ x.secs, isB s.bytes) :
    Calls Try.prog 26 #[x.val] w (Gives w (.int .i64 (twinBO x.secs x.syms))) := by
  have HO : Hid (∀ w', Below w.heap.size w w' → Calls Try.prog 12 #[.agg #[.slice x.sA x.secs.length x.sc, .slice x.yA x.syms.length x.yc]] w' (Gives w' (.bool (objOk x.secs x.syms)))) := fun w' hb => implObj_any x w' ((h.more hB).below hb) hb.size hs hc
  have HT : Hid (∀ w', Below w.heap.size w w' → Calls Try.prog 18 #[.agg #[.slice x.sA x.secs.length x.sc, .slice x.yA x.syms.length x.yc]] w' (Fresh 3 1 w' (twinsO x.secs x.syms).length (nums .i64 (twinsO x.secs x.syms)))) := fun w' hb => implTwins_any x w' ((h.more hB).below hb) hb.size hs hc hi
  have H0 := Lib.hid (h.1.more hB)
  have hm := hs.1
  clear h hs hc hi
  obtain ⟨secs, sA, sc, syms, yA, yc⟩ := x
  simp only [Obj.val] at *
  have BB : Hid (Below w.heap.size w (w.alloc (.cells #[Value.slice sA secs.length sc, Value.slice yA syms.length yc] 26))) := (Below.refl _ _).alloc (Nat.le_refl _) _
  have K0 := Lib.hid (Blk.new w 26 #[Value.slice sA secs.length sc, Value.slice yA syms.length yc])
  have HR1 : Hid (objOk secs syms = false → twinBO secs syms = -1) := fun h => twinBO_no h
  have HR2 : Hid (objOk secs syms = true → twinBO secs syms = twinB secs secs.length) := fun h => twinBO_yes h
  have HSZ : Hid (objOk secs syms = true → ∀ k, (h : k < secs.length) → 0 ≤ secSize secs[k] ∧ secSize secs[k] ≤ 48) := fun h k hk => secSize_ok h hk
  have HT2 : Hid (objOk secs syms = true → twinsO secs syms = twinsV secs) := fun h => twinsO_yes h
  generalize twinBO secs syms = res at *
  have x0 := K0.out.cell 0
  have x1 := K0.out.cell 1
  cases hok : objOk secs syms
  · have HR := Lib.hid (HR1.out hok)
    rw [hok] at HO
    clear hok HT HR1 HR2 HSZ HT2
    go_enter Try.func26, Try.ntmps26
    go_wp2_with fail
    refine (HO.out _ BB.out).mono ?_
    rintro e w1 ⟨rfl, s1⟩
    go_wp2
    go_ret
    rw [HR.out]
    exact ⟨rfl, BB.out.trans (s1.mono BB.out.size)⟩
  · have HR := Lib.hid (HR2.out hok)
    have HS := Lib.hid (HSZ.out hok)
    rw [HT2.out hok, twinsV_len] at HT
    rw [hok] at HO
    clear hok HR1 HR2 HSZ HT2
    go_enter Try.func26, Try.ntmps26
    go_wp2_with fail
    refine (HO.out _ BB.out).mono ?_
    rintro e w1 ⟨rfl, s1⟩
    have HB1 := Lib.hid (BB.out.trans (s1.mono BB.out.size))
    have HX1 := Lib.hid (K0.out.below s1 K0.out.lt)
    clear s1 BB K0 HO x0 x1
    have x0 := HX1.out.cell 0
    have x1 := HX1.out.cell 1
    go_wp2_with fail
    refine (HT.out _ HB1.out).mono ?_
    rintro e w2 ⟨A, c, rfl, o2, s2⟩
    have HB2 := Lib.hid (HB1.out.trans (s2.mono HB1.out.size))
    have HX2 := Lib.hid (HX1.out.below s2 HX1.out.lt)
    have HV2 := Lib.hid (own_base o2 HB1.out.size)
    clear s2 HT HB1 HX1 x0 x1 o2
    go_wp2
    go_loopw [3, 4, 5, 12] (fun v _ _ iv wr => ∃ (k : Nat), k ≤ secs.length ∧ iv = .int .i64 k ∧ v = .int .i64 (twinB secs k) ∧ Hid (0 ≤ twinB secs k ∧ twinB secs k ≤ 48 * k) ∧ Hid (Below w.heap.size w wr) ∧ Hid (wr.ownsRow w.heap.size 3 1 (.slice A secs.length c) secs.length (nums .i64 (twinsV secs))) ∧ Hid (Blk wr w.heap.size 26 #[Value.slice sA secs.length sc, Value.slice yA syms.length yc])) (fun _ _ _ iv _ => secs.length - (intOf iv).toNat)
    case atStart => exact ⟨0, Nat.zero_le _, rfl, rfl, Lib.hid ⟨Int.le_refl _, Int.le_refl _⟩, HB2, HV2, HX2⟩
    case round =>
      clear HB2 HV2 HX2
      obtain ⟨k, hk, rfl, rfl, HZ, HB, HV, HX⟩ := hrel
      by_cases hlt : k < secs.length
      · obtain ⟨ad, u1, rfl, hbl, hx1, hc1⟩ := (Reads.of_own HV.out).at_ hlt
        rw [nums_get _ _ (by rw [twinsV_len]; exact hlt)] at hx1
        injection hx1 with hx1
        subst hx1
        have HTB := Lib.hid (twinB_step hlt)
        have HTL := Lib.hid (twins_lt hlt)
        have HSK := Lib.hid (HS.out k hlt)
        generalize (twinsV secs)[k]'(by rw [twinsV_len]; exact hlt) = z at *
        obtain ⟨zl1, zl2⟩ := HTL.out
        obtain ⟨zz1, zz2⟩ := HZ.out
        clear HTL HZ
        by_cases hz : z < (k : Int)
        · rw [if_pos hz] at HTB
          have hcmp : decide (z < (k : Int)) = true := decide_eq_true hz
          obtain ⟨p, off, hfa, hbl2, d0, d1, d2, d3, d4, d5⟩ := Sec.at_ (H0.out.below HB.out).1 hlt
          subst hfa
          have x0 := HX.out.cell 0
          have x1 := HX.out.cell 1
          have HSC : Hid (∀ w', Calls Try.prog 28 #[.agg #[Value.string secs[k].name, Value.int .i64 secs[k].kind, Value.int .i64 secs[k].align, Value.slice secs[k].bytesA secs[k].bytes.length secs[k].bytesc, Value.int .i64 secs[k].size, Value.slice secs[k].fixupsA secs[k].fixups.length secs[k].fixupsc]] w' (Gives w' (.int .i64 (secSize secs[k])))) := fun w' => implSize_any secs[k] w'
          generalize secSize secs[k] = q at *
          obtain ⟨q1, q2⟩ := HSK.out
          clear HSK
          generalize hb0 : twinB secs k = b0 at *
          have hb0' := Lib.hid hb0
          clear hb0
          go_wp2_with fail
          clear d0 d1 d2 d3 d4 d5 x0 x1
          refine (HSC.out _).mono ?_
          rintro e w3 ⟨rfl, s3⟩
          have HB3 := Lib.hid (HB.out.trans (s3.mono HB.out.size))
          have HV3 := Lib.hid (own_below HV.out s3)
          have HX3 := Lib.hid (HX.out.below s3 HX.out.lt)
          clear HB HV HX s3
          go_wp2
          go_roundw
          case rel => exact ⟨k + 1, by omega, by go_num, by rw [HTB.out], Lib.hid (by rw [HTB.out]; omega), HB3, HV3, HX3⟩
          case measure => simp [intOf]; omega
        · rw [if_neg hz] at HTB
          have hcmp : decide (z < (k : Int)) = false := decide_eq_false hz
          go_wp2
          go_roundw
          case rel => exact ⟨k + 1, by omega, by go_num, by rw [HTB.out, Int.add_zero], Lib.hid (by rw [HTB.out]; omega), HB, HV, HX⟩
          case measure => simp [intOf]; omega
      · have HK : Hid (k = secs.length) := by rw [Hid]; omega
        go_wp2
        go_ret
        rw [HR.out, ← HK.out]
        exact ⟨rfl, HB.out⟩
set_option maxRecDepth 100000 in
set_option maxHeartbeats 8000000 in
theorem specTwinB_any {B : Nat} (x : Obj) (w : World) (h : x.At w B) (hB : B ≤ w.heap.size) (hs : x.small) :
    Calls Try.prog 27 #[x.val] w (Gives w (.int .i64 (twinBO x.secs x.syms))) := by
  have HO : Hid (∀ w', Below w.heap.size w w' → Calls Try.prog 34 #[.agg #[.slice x.sA x.secs.length x.sc, .slice x.yA x.syms.length x.yc]] w' (Gives w' (.bool (objOk x.secs x.syms)))) := fun w' hb => specObj_any x w' ((h.more hB).below hb) hb.size hs
  have HT : Hid (∀ w', Below w.heap.size w w' → Calls Try.prog 20 #[.agg #[.slice x.sA x.secs.length x.sc, .slice x.yA x.syms.length x.yc]] w' (Fresh 3 1 w' (twinsO x.secs x.syms).length (nums .i64 (twinsO x.secs x.syms)))) := fun w' hb => specTwins_any x w' ((h.more hB).below hb) hb.size hs
  have H0 := Lib.hid (h.1.more hB)
  have hm := hs.1
  clear h hs
  obtain ⟨secs, sA, sc, syms, yA, yc⟩ := x
  simp only [Obj.val] at *
  have BB : Hid (Below w.heap.size w (w.alloc (.cells #[Value.slice sA secs.length sc, Value.slice yA syms.length yc] 26))) := (Below.refl _ _).alloc (Nat.le_refl _) _
  have K0 := Lib.hid (Blk.new w 26 #[Value.slice sA secs.length sc, Value.slice yA syms.length yc])
  have HR1 : Hid (objOk secs syms = false → twinBO secs syms = -1) := fun h => twinBO_no h
  have HR2 : Hid (objOk secs syms = true → twinBO secs syms = twinB secs secs.length) := fun h => twinBO_yes h
  have HSZ : Hid (objOk secs syms = true → ∀ k, (h : k < secs.length) → 0 ≤ secSize secs[k] ∧ secSize secs[k] ≤ 48) := fun h k hk => secSize_ok h hk
  have HT2 : Hid (objOk secs syms = true → twinsO secs syms = twinsV secs) := fun h => twinsO_yes h
  generalize twinBO secs syms = res at *
  have x0 := K0.out.cell 0
  have x1 := K0.out.cell 1
  cases hok : objOk secs syms
  · have HR := Lib.hid (HR1.out hok)
    rw [hok] at HO
    clear hok HT HR1 HR2 HSZ HT2
    go_enter Try.func27, Try.ntmps27
    go_wp2_with fail
    refine (HO.out _ BB.out).mono ?_
    rintro e w1 ⟨rfl, s1⟩
    go_wp2
    go_ret
    rw [HR.out]
    exact ⟨rfl, BB.out.trans (s1.mono BB.out.size)⟩
  · have HR := Lib.hid (HR2.out hok)
    have HS := Lib.hid (HSZ.out hok)
    rw [HT2.out hok, twinsV_len] at HT
    rw [hok] at HO
    clear hok HR1 HR2 HSZ HT2
    go_enter Try.func27, Try.ntmps27
    go_wp2_with fail
    refine (HO.out _ BB.out).mono ?_
    rintro e w1 ⟨rfl, s1⟩
    have HB1 := Lib.hid (BB.out.trans (s1.mono BB.out.size))
    have HX1 := Lib.hid (K0.out.below s1 K0.out.lt)
    clear s1 BB K0 HO x0 x1
    have x0 := HX1.out.cell 0
    have x1 := HX1.out.cell 1
    go_wp2_with fail
    refine (HT.out _ HB1.out).mono ?_
    rintro e w2 ⟨A, c, rfl, o2, s2⟩
    have HB2 := Lib.hid (HB1.out.trans (s2.mono HB1.out.size))
    have HX2 := Lib.hid (HX1.out.below s2 HX1.out.lt)
    have HV2 := Lib.hid (own_base o2 HB1.out.size)
    clear s2 HT HB1 HX1 x0 x1 o2
    go_wp2
    go_loopw [3, 5] (fun v iv wr => ∃ (k : Nat), k ≤ secs.length ∧ iv = .int .i64 k ∧ v = .int .i64 (twinB secs k) ∧ Hid (0 ≤ twinB secs k ∧ twinB secs k ≤ 48 * k) ∧ Hid (Below w.heap.size w wr) ∧ Hid (wr.ownsRow w.heap.size 3 1 (.slice A secs.length c) secs.length (nums .i64 (twinsV secs))) ∧ Hid (Blk wr w.heap.size 26 #[Value.slice sA secs.length sc, Value.slice yA syms.length yc])) (fun _ iv _ => secs.length - (intOf iv).toNat)
    case atStart => exact ⟨0, Nat.zero_le _, rfl, rfl, Lib.hid ⟨Int.le_refl _, Int.le_refl _⟩, HB2, HV2, HX2⟩
    case round =>
      clear HB2 HV2 HX2
      obtain ⟨k, hk, rfl, rfl, HZ, HB, HV, HX⟩ := hrel
      by_cases hlt : k < secs.length
      · obtain ⟨ad, u1, rfl, hbl, hx1, hc1⟩ := (Reads.of_own HV.out).at_ hlt
        rw [nums_get _ _ (by rw [twinsV_len]; exact hlt)] at hx1
        injection hx1 with hx1
        subst hx1
        have HTB := Lib.hid (twinB_step hlt)
        have HTL := Lib.hid (twins_lt hlt)
        have HSK := Lib.hid (HS.out k hlt)
        generalize (twinsV secs)[k]'(by rw [twinsV_len]; exact hlt) = z at *
        obtain ⟨zl1, zl2⟩ := HTL.out
        obtain ⟨zz1, zz2⟩ := HZ.out
        clear HTL HZ
        by_cases hz : z < (k : Int)
        · rw [if_pos hz] at HTB
          have hcmp : (z != (k : Int)) = true := by simp [bne_iff_ne]; omega
          obtain ⟨p, off, hfa, hbl2, d0, d1, d2, d3, d4, d5⟩ := Sec.at_ (H0.out.below HB.out).1 hlt
          subst hfa
          have x0 := HX.out.cell 0
          have x1 := HX.out.cell 1
          have HSC : Hid (∀ w', Calls Try.prog 51 #[.agg #[Value.string secs[k].name, Value.int .i64 secs[k].kind, Value.int .i64 secs[k].align, Value.slice secs[k].bytesA secs[k].bytes.length secs[k].bytesc, Value.int .i64 secs[k].size, Value.slice secs[k].fixupsA secs[k].fixups.length secs[k].fixupsc]] w' (Gives w' (.int .i64 (secSize secs[k])))) := fun w' => specSize_any secs[k] w'
          generalize secSize secs[k] = q at *
          obtain ⟨q1, q2⟩ := HSK.out
          clear HSK
          generalize hb0 : twinB secs k = b0 at *
          have hb0' := Lib.hid hb0
          clear hb0
          go_wp2_with fail
          clear d0 d1 d2 d3 d4 d5 x0 x1
          refine (HSC.out _).mono ?_
          rintro e w3 ⟨rfl, s3⟩
          have HB3 := Lib.hid (HB.out.trans (s3.mono HB.out.size))
          have HV3 := Lib.hid (own_below HV.out s3)
          have HX3 := Lib.hid (HX.out.below s3 HX.out.lt)
          clear HB HV HX s3
          go_wp2
          go_roundw
          case rel => exact ⟨k + 1, by omega, by go_num, by rw [HTB.out], Lib.hid (by rw [HTB.out]; omega), HB3, HV3, HX3⟩
          case measure => simp [intOf]; omega
        · rw [if_neg hz] at HTB
          have hcmp : (z != (k : Int)) = false := by simp; omega
          go_wp2
          go_roundw
          case rel => exact ⟨k + 1, by omega, by go_num, by rw [HTB.out, Int.add_zero], Lib.hid (by rw [HTB.out]; omega), HB, HV, HX⟩
          case measure => simp [intOf]; omega
      · have HK : Hid (k = secs.length) := by rw [Hid]; omega
        go_wp2
        go_ret
        rw [HR.out, ← HK.out]
        exact ⟨rfl, HB.out⟩
end Go.Proofs.Ytmmenedjmdcbcaa
