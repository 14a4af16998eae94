/- Contracts of the two SectionsAlike. Condition: the bytes are bytes. -/
import Derived.Test.YtmmenedjmdcbcaaRows
import Derived.Test.YtmmenedjmdcbcaaBase
import Derived.Test.YtmmenedjmdcbcaaBase2
import Derived.Test.YtmmenedjmdcbcaaIn
import Derived.Test.YtmmenedjmdcbcaaName
import Derived.Test.YtmmenedjmdcbcaaByteS
import Derived.Test.YtmmenedjmdcbcaaFix
import Derived.Test.YtmmenedjmdcbcaaSec
import Derived.Test.YtmmenedjmdcbcaaObjS
import Derived.Test.YtmmenedjmdcbcaaSecV
import Derived.Test.YtmmenedjmdcbcaaSecW
import Derived.Test.YtmmenedjmdcbcaaSym
import Derived.Test.YtmmenedjmdcbcaaSymV
import Derived.Test.YtmmenedjmdcbcaaFindSym
import Derived.Test.YtmmenedjmdcbcaaObj
import Derived.Test.YtmmenedjmdcbcaaGlob
import Derived.Test.YtmmenedjmdcbcaaObjI
import Derived.Test.YtmmenedjmdcbcaaObjW
import Derived.Test.YtmmenedjmdcbcaaEqB
import Derived.Test.YtmmenedjmdcbcaaEqF
import Derived.Test.YtmmenedjmdcbcaaAliI
import Derived.Test.YtmmenedjmdcbcaaAliS
import Derived.WalkKit
import Derived.WalkSpells
import Derived.WalkLawsBesides
import Derived.Handy
import Derived.BigQuiet
import Derived.Deep.RegionHeld3
import Derived.Deep.DrawnRows
import Derived.Deep.QuietTactic
namespace Go.Proofs.Ytmmenedjmdcbcaa
open Go Go.RowKit

def alikeAt (secs : List Sec) (a b : Int) : Bool := if h : a.toNat < secs.length ∧ b.toNat < secs.length then alikeV secs[a.toNat] secs[b.toNat] else false
noncomputable def sAlike (secs : List Sec) (ys : List Sym) (a b : Int) : Bool := objOk secs ys && (inB a 0 ((secs.length : Int) - 1) && (inB b 0 ((secs.length : Int) - 1) && alikeAt secs a b))
theorem alikeAt_at {secs : List Sec} {i j : Nat} (hi : i < secs.length) (hj : j < secs.length) : alikeAt secs i j = alikeV secs[i] secs[j] := by
  unfold alikeAt
  simp [hi, hj]
set_option maxRecDepth 100000 in
set_option maxHeartbeats 4000000 in
theorem implSAlike_any {B : Nat} (x : Obj) (a b : Int) (w : World) (h : x.At w B) (hB : B ≤ w.heap.size) (hs : x.small) (hc : x.syms.length ≤ x.yc) (hi : ∀ s ∈ x.secs, isB s.bytes) :
    Calls Try.prog 10 #[x.val, .int .i64 a, .int .i64 b] w (Gives w (.bool (sAlike x.secs x.syms a b))) := by
  have HO : Hid (∀ w', Below w.heap.size w w' → Calls Try.prog 12 #[.agg #[.slice x.sA x.secs.length x.sc, .slice x.yA x.syms.length x.yc]] w' (Gives w' (.bool (objOk x.secs x.syms)))) := fun w' hb => implObj_any x w' ((h.more hB).below hb) hb.size hs hc
  have HV : Hid (sAlike x.secs x.syms a b = (objOk x.secs x.syms && (inB a 0 ((x.secs.length : Int) - 1) && (inB b 0 ((x.secs.length : Int) - 1) && alikeAt x.secs a b)))) := rfl
  have H0 := Lib.hid (h.1.more hB)
  have hm := hs.1
  have HSM := Lib.hid hs.2.1
  have HI := Lib.hid hi
  clear h hs hc hi
  obtain ⟨secs, sA, sc, syms, yA, yc⟩ := x
  simp only [Obj.val] at *
  have BB : Hid (Below w.heap.size w (w.alloc (.cells #[Value.slice sA secs.length sc, Value.slice yA syms.length yc] 26))) := (Below.refl _ _).alloc (Nat.le_refl _) _
  have K := Lib.hid (Blk.new w 26 #[Value.slice sA secs.length sc, Value.slice yA syms.length yc])
  have HWA := Lib.hid (fun w => within_any a 0 ((secs.length : Int) - 1) w)
  have HWB := Lib.hid (fun w => within_any b 0 ((secs.length : Int) - 1) w)
  generalize sAlike secs syms a b = res at *
  generalize objOk secs syms = ok at *
  have yw : IntKind.i64.wrap ((secs.length : Int) - 1) = (secs.length : Int) - 1 := IntWalk.i64_in _ (by omega)
  generalize hwa : inB a 0 ((secs.length : Int) - 1) = ia at *
  generalize hwb : inB b 0 ((secs.length : Int) - 1) = ib at *
  cases ok
  · clear hwa hwb
    have HR : Hid (res = false) := by rw [Hid, HV.out]; simp
    clear HV
    go_enter Try.func10, Try.ntmps10
    go_wp2
    generalize w.alloc (.cells #[Value.slice sA secs.length sc, Value.slice yA syms.length yc] 26) = w1 at *
    have Z0 := cell_regrown (K.out.cell 0)
    have Z1 := cell_regrown (K.out.cell 1)
    have bq := Lib.hid (fun d os => BB.out.trans ((below_regrown w1 d os).mono BB.out.size))
    have cO := fun d os => Calls.regrown_of (w := w1) (d := d) (os := os) (HO.out _ (bq.out d os))
    have cA := fun d os => Calls.regrown_of (w := w1) (d := d) (os := os) (gives_same (HWA.out _))
    have cB := fun d os => Calls.regrown_of (w := w1) (d := d) (os := os) (gives_same (HWB.out _))
    clear HO HWA HWB K
    refine wp_region_quiet_below (by kernel_rfl) (by kernel_rfl) ?_
    repeat (go_big_quiet_step (first | (with_reducible exact cO _ _) | (with_reducible exact cA _ _) | (with_reducible exact cB _ _)))
    refine wpQuiet_nil ?_
    intro _ hw'
    obtain ⟨⟨dq, osq⟩, hw''⟩ := hw'
    subst hw''
    have hbn := below_regrown w1 dq osq
    have HBN := Lib.hid (BB.out.trans (hbn.mono BB.out.size))
    go_wp2
    go_ret
    rw [HR.out]
    exact ⟨rfl, HBN.out⟩
  cases ia
  · clear hwa hwb
    have HR : Hid (res = false) := by rw [Hid, HV.out]; simp
    clear HV
    go_enter Try.func10, Try.ntmps10
    go_wp2
    generalize w.alloc (.cells #[Value.slice sA secs.length sc, Value.slice yA syms.length yc] 26) = w1 at *
    have Z0 := cell_regrown (K.out.cell 0)
    have Z1 := cell_regrown (K.out.cell 1)
    have bq := Lib.hid (fun d os => BB.out.trans ((below_regrown w1 d os).mono BB.out.size))
    have cO := fun d os => Calls.regrown_of (w := w1) (d := d) (os := os) (HO.out _ (bq.out d os))
    have cA := fun d os => Calls.regrown_of (w := w1) (d := d) (os := os) (gives_same (HWA.out _))
    have cB := fun d os => Calls.regrown_of (w := w1) (d := d) (os := os) (gives_same (HWB.out _))
    clear HO HWA HWB K
    refine wp_region_quiet_below (by kernel_rfl) (by kernel_rfl) ?_
    repeat (go_big_quiet_step (first | (with_reducible exact cO _ _) | (with_reducible exact cA _ _) | (with_reducible exact cB _ _)))
    refine wpQuiet_nil ?_
    intro _ hw'
    obtain ⟨⟨dq, osq⟩, hw''⟩ := hw'
    subst hw''
    have hbn := below_regrown w1 dq osq
    have HBN := Lib.hid (BB.out.trans (hbn.mono BB.out.size))
    go_wp2
    go_ret
    rw [HR.out]
    exact ⟨rfl, HBN.out⟩
  cases ib
  · clear hwa hwb
    have HR : Hid (res = false) := by rw [Hid, HV.out]; simp
    clear HV
    go_enter Try.func10, Try.ntmps10
    go_wp2
    generalize w.alloc (.cells #[Value.slice sA secs.length sc, Value.slice yA syms.length yc] 26) = w1 at *
    have Z0 := cell_regrown (K.out.cell 0)
    have Z1 := cell_regrown (K.out.cell 1)
    have bq := Lib.hid (fun d os => BB.out.trans ((below_regrown w1 d os).mono BB.out.size))
    have cO := fun d os => Calls.regrown_of (w := w1) (d := d) (os := os) (HO.out _ (bq.out d os))
    have cA := fun d os => Calls.regrown_of (w := w1) (d := d) (os := os) (gives_same (HWA.out _))
    have cB := fun d os => Calls.regrown_of (w := w1) (d := d) (os := os) (gives_same (HWB.out _))
    clear HO HWA HWB K
    refine wp_region_quiet_below (by kernel_rfl) (by kernel_rfl) ?_
    repeat (go_big_quiet_step (first | (with_reducible exact cO _ _) | (with_reducible exact cA _ _) | (with_reducible exact cB _ _)))
    refine wpQuiet_nil ?_
    intro _ hw'
    obtain ⟨⟨dq, osq⟩, hw''⟩ := hw'
    subst hw''
    have hbn := below_regrown w1 dq osq
    have HBN := Lib.hid (BB.out.trans (hbn.mono BB.out.size))
    go_wp2
    go_ret
    rw [HR.out]
    exact ⟨rfl, HBN.out⟩
  obtain ⟨a1, a2⟩ := inB_iff.1 hwa
  obtain ⟨b1, b2⟩ := inB_iff.1 hwb
  clear hwa hwb
  obtain ⟨i, rfl⟩ : ∃ i : Nat, a = i := ⟨a.toNat, by omega⟩
  obtain ⟨j, rfl⟩ : ∃ j : Nat, b = j := ⟨b.toNat, by omega⟩
  have hi : i < secs.length := by omega
  have hj : j < secs.length := by omega
  have HR : Hid (res = alikeV secs[i] secs[j]) := by rw [Hid, HV.out, alikeAt_at hi hj]; rfl
  clear HV a1 a2 b1 b2
  have HAL : Hid (∀ w', Below w.heap.size w w' → Calls Try.prog 33 #[.agg #[Value.string secs[i].name, Value.int .i64 secs[i].kind, Value.int .i64 secs[i].align, Value.slice secs[i].bytesA secs[i].bytes.length secs[i].bytesc, Value.int .i64 secs[i].size, Value.slice secs[i].fixupsA secs[i].fixups.length secs[i].fixupsc], .agg #[Value.string secs[j].name, Value.int .i64 secs[j].kind, Value.int .i64 secs[j].align, Value.slice secs[j].bytesA secs[j].bytes.length secs[j].bytesc, Value.int .i64 secs[j].size, Value.slice secs[j].fixupsA secs[j].fixups.length secs[j].fixupsc]] w' (Gives w' (.bool (alikeV secs[i] secs[j])))) := fun w' hb => implAlike_any secs[i] secs[j] w' ((H0.out.2 _ (List.getElem_mem hi)).below hb) ((H0.out.2 _ (List.getElem_mem hj)).below hb) hb.size hb.size (HSM.out _ (List.getElem_mem hi)) (HSM.out _ (List.getElem_mem hj)) (HI.out _ (List.getElem_mem hi)) (HI.out _ (List.getElem_mem hj))
  obtain ⟨p, off, hfa, hbl, c0, c1, c2, c3, c4, c5⟩ := Sec.at_ (H0.out.below BB.out).1 hi
  obtain ⟨p2, off2, hfb, hbl2, d0, d1, d2, d3, d4, d5⟩ := Sec.at_ (H0.out.below BB.out).1 hj
  subst hfa
  simp only [Option.some.injEq, Addr.mk.injEq] at hfb
  obtain ⟨rfl, rfl, _⟩ := hfb
  have C0 := Lib.hid c0
  have D0 := Lib.hid d0
  have C1 := Lib.hid c1
  have D1 := Lib.hid d1
  have C2 := Lib.hid c2
  have D2 := Lib.hid d2
  have C3 := Lib.hid c3
  have D3 := Lib.hid d3
  have C4 := Lib.hid c4
  have D4 := Lib.hid d4
  have C5 := Lib.hid c5
  have D5 := Lib.hid d5
  clear c0 c1 c2 c3 c4 c5 d0 d1 d2 d3 d4 d5
  generalize alikeV secs[i] secs[j] = v at *
  have i0 : (0 : Int) ≤ (i : Int) := Int.natCast_nonneg _
  have i2 : (i : Int) < (secs.length : Int) := by omega
  have j0 : (0 : Int) ≤ (j : Int) := Int.natCast_nonneg _
  have j2 : (j : Int) < (secs.length : Int) := by omega
  go_enter Try.func10, Try.ntmps10
  go_wp2
  generalize w.alloc (.cells #[Value.slice (some ⟨p, off, none⟩) secs.length sc, Value.slice yA syms.length yc] 26) = w1 at *
  have Z0 := cell_regrown (K.out.cell 0)
  have Z1 := cell_regrown (K.out.cell 1)
  have bq := Lib.hid (fun d os => BB.out.trans ((below_regrown w1 d os).mono BB.out.size))
  have cO := fun d os => Calls.regrown_of (w := w1) (d := d) (os := os) (HO.out _ (bq.out d os))
  have cA := fun d os => Calls.regrown_of (w := w1) (d := d) (os := os) (gives_same (HWA.out _))
  have cB := fun d os => Calls.regrown_of (w := w1) (d := d) (os := os) (gives_same (HWB.out _))
  have cE := fun d os => Calls.regrown_of (w := w1) (d := d) (os := os) (HAL.out _ (bq.out d os))
  have P0 := cell_regrown C0.out
  have Q0 := cell_regrown D0.out
  have P1 := cell_regrown C1.out
  have Q1 := cell_regrown D1.out
  have P2 := cell_regrown C2.out
  have Q2 := cell_regrown D2.out
  have P3 := cell_regrown C3.out
  have Q3 := cell_regrown D3.out
  have P4 := cell_regrown C4.out
  have Q4 := cell_regrown D4.out
  have P5 := cell_regrown C5.out
  have Q5 := cell_regrown D5.out
  clear HO HWA HWB K
  refine wp_region_quiet_below (by kernel_rfl) (by kernel_rfl) ?_
  repeat (go_big_quiet_step (first | (with_reducible exact cO _ _) | (with_reducible exact cA _ _) | (with_reducible exact cB _ _) | (with_reducible exact cE _ _)))
  refine wpQuiet_nil ?_
  intro _ hw'
  obtain ⟨⟨dq, osq⟩, hw''⟩ := hw'
  subst hw''
  have hbn := below_regrown w1 dq osq
  have HBN := Lib.hid (BB.out.trans (hbn.mono BB.out.size))
  go_wp2
  go_ret
  rw [HR.out]
  exact ⟨rfl, HBN.out⟩
set_option maxRecDepth 100000 in
set_option maxHeartbeats 4000000 in
theorem specSAlike_any {B : Nat} (x : Obj) (a b : Int) (w : World) (h : x.At w B) (hB : B ≤ w.heap.size) (hs : x.small) :
    Calls Try.prog 11 #[x.val, .int .i64 a, .int .i64 b] w (Gives w (.bool (sAlike x.secs x.syms a b))) := by
  have HO : Hid (∀ w', Below w.heap.size w w' → Calls Try.prog 34 #[.agg #[.slice x.sA x.secs.length x.sc, .slice x.yA x.syms.length x.yc]] w' (Gives w' (.bool (objOk x.secs x.syms)))) := fun w' hb => specObj_any x w' ((h.more hB).below hb) hb.size hs
  have HV : Hid (sAlike x.secs x.syms a b = (objOk x.secs x.syms && (inB a 0 ((x.secs.length : Int) - 1) && (inB b 0 ((x.secs.length : Int) - 1) && alikeAt x.secs a b)))) := rfl
  have H0 := Lib.hid (h.1.more hB)
  have hm := hs.1
  have HSM := Lib.hid hs.2.1
  clear h hs
  obtain ⟨secs, sA, sc, syms, yA, yc⟩ := x
  simp only [Obj.val] at *
  have BB : Hid (Below w.heap.size w (w.alloc (.cells #[Value.slice sA secs.length sc, Value.slice yA syms.length yc] 26))) := (Below.refl _ _).alloc (Nat.le_refl _) _
  have K := Lib.hid (Blk.new w 26 #[Value.slice sA secs.length sc, Value.slice yA syms.length yc])
  have HWA := Lib.hid (fun w => l1In_any a 0 ((secs.length : Int) - 1) w)
  have HWB := Lib.hid (fun w => l1In_any b 0 ((secs.length : Int) - 1) w)
  generalize sAlike secs syms a b = res at *
  generalize objOk secs syms = ok at *
  have yw : IntKind.i64.wrap ((secs.length : Int) - 1) = (secs.length : Int) - 1 := IntWalk.i64_in _ (by omega)
  generalize hwa : inB a 0 ((secs.length : Int) - 1) = ia at *
  generalize hwb : inB b 0 ((secs.length : Int) - 1) = ib at *
  cases ok
  · clear hwa hwb
    have HR : Hid (res = false) := by rw [Hid, HV.out]; simp
    clear HV
    go_enter Try.func11, Try.ntmps11
    go_wp2
    generalize w.alloc (.cells #[Value.slice sA secs.length sc, Value.slice yA syms.length yc] 26) = w1 at *
    have Z0 := cell_regrown (K.out.cell 0)
    have Z1 := cell_regrown (K.out.cell 1)
    have bq := Lib.hid (fun d os => BB.out.trans ((below_regrown w1 d os).mono BB.out.size))
    have cO := fun d os => Calls.regrown_of (w := w1) (d := d) (os := os) (HO.out _ (bq.out d os))
    have cA := fun d os => Calls.regrown_of (w := w1) (d := d) (os := os) (gives_same (HWA.out _))
    have cB := fun d os => Calls.regrown_of (w := w1) (d := d) (os := os) (gives_same (HWB.out _))
    clear HO HWA HWB K
    refine wp_region_quiet_below (by kernel_rfl) (by kernel_rfl) ?_
    repeat (go_big_quiet_step (first | (with_reducible exact cO _ _) | (with_reducible exact cA _ _) | (with_reducible exact cB _ _)))
    refine wpQuiet_nil ?_
    intro _ hw'
    obtain ⟨⟨dq, osq⟩, hw''⟩ := hw'
    subst hw''
    have hbn := below_regrown w1 dq osq
    have HBN := Lib.hid (BB.out.trans (hbn.mono BB.out.size))
    go_wp2
    go_ret
    rw [HR.out]
    exact ⟨rfl, HBN.out⟩
  cases ia
  · clear hwa hwb
    have HR : Hid (res = false) := by rw [Hid, HV.out]; simp
    clear HV
    go_enter Try.func11, Try.ntmps11
    go_wp2
    generalize w.alloc (.cells #[Value.slice sA secs.length sc, Value.slice yA syms.length yc] 26) = w1 at *
    have Z0 := cell_regrown (K.out.cell 0)
    have Z1 := cell_regrown (K.out.cell 1)
    have bq := Lib.hid (fun d os => BB.out.trans ((below_regrown w1 d os).mono BB.out.size))
    have cO := fun d os => Calls.regrown_of (w := w1) (d := d) (os := os) (HO.out _ (bq.out d os))
    have cA := fun d os => Calls.regrown_of (w := w1) (d := d) (os := os) (gives_same (HWA.out _))
    have cB := fun d os => Calls.regrown_of (w := w1) (d := d) (os := os) (gives_same (HWB.out _))
    clear HO HWA HWB K
    refine wp_region_quiet_below (by kernel_rfl) (by kernel_rfl) ?_
    repeat (go_big_quiet_step (first | (with_reducible exact cO _ _) | (with_reducible exact cA _ _) | (with_reducible exact cB _ _)))
    refine wpQuiet_nil ?_
    intro _ hw'
    obtain ⟨⟨dq, osq⟩, hw''⟩ := hw'
    subst hw''
    have hbn := below_regrown w1 dq osq
    have HBN := Lib.hid (BB.out.trans (hbn.mono BB.out.size))
    go_wp2
    go_ret
    rw [HR.out]
    exact ⟨rfl, HBN.out⟩
  cases ib
  · clear hwa hwb
    have HR : Hid (res = false) := by rw [Hid, HV.out]; simp
    clear HV
    go_enter Try.func11, Try.ntmps11
    go_wp2
    generalize w.alloc (.cells #[Value.slice sA secs.length sc, Value.slice yA syms.length yc] 26) = w1 at *
    have Z0 := cell_regrown (K.out.cell 0)
    have Z1 := cell_regrown (K.out.cell 1)
    have bq := Lib.hid (fun d os => BB.out.trans ((below_regrown w1 d os).mono BB.out.size))
    have cO := fun d os => Calls.regrown_of (w := w1) (d := d) (os := os) (HO.out _ (bq.out d os))
    have cA := fun d os => Calls.regrown_of (w := w1) (d := d) (os := os) (gives_same (HWA.out _))
    have cB := fun d os => Calls.regrown_of (w := w1) (d := d) (os := os) (gives_same (HWB.out _))
    clear HO HWA HWB K
    refine wp_region_quiet_below (by kernel_rfl) (by kernel_rfl) ?_
    repeat (go_big_quiet_step (first | (with_reducible exact cO _ _) | (with_reducible exact cA _ _) | (with_reducible exact cB _ _)))
    refine wpQuiet_nil ?_
    intro _ hw'
    obtain ⟨⟨dq, osq⟩, hw''⟩ := hw'
    subst hw''
    have hbn := below_regrown w1 dq osq
    have HBN := Lib.hid (BB.out.trans (hbn.mono BB.out.size))
    go_wp2
    go_ret
    rw [HR.out]
    exact ⟨rfl, HBN.out⟩
  obtain ⟨a1, a2⟩ := inB_iff.1 hwa
  obtain ⟨b1, b2⟩ := inB_iff.1 hwb
  clear hwa hwb
  obtain ⟨i, rfl⟩ : ∃ i : Nat, a = i := ⟨a.toNat, by omega⟩
  obtain ⟨j, rfl⟩ : ∃ j : Nat, b = j := ⟨b.toNat, by omega⟩
  have hi : i < secs.length := by omega
  have hj : j < secs.length := by omega
  have HR : Hid (res = alikeV secs[i] secs[j]) := by rw [Hid, HV.out, alikeAt_at hi hj]; rfl
  clear HV a1 a2 b1 b2
  have HAL : Hid (∀ w', Below w.heap.size w w' → Calls Try.prog 36 #[.agg #[Value.string secs[i].name, Value.int .i64 secs[i].kind, Value.int .i64 secs[i].align, Value.slice secs[i].bytesA secs[i].bytes.length secs[i].bytesc, Value.int .i64 secs[i].size, Value.slice secs[i].fixupsA secs[i].fixups.length secs[i].fixupsc], .agg #[Value.string secs[j].name, Value.int .i64 secs[j].kind, Value.int .i64 secs[j].align, Value.slice secs[j].bytesA secs[j].bytes.length secs[j].bytesc, Value.int .i64 secs[j].size, Value.slice secs[j].fixupsA secs[j].fixups.length secs[j].fixupsc]] w' (Gives w' (.bool (alikeV secs[i] secs[j])))) := fun w' hb => specAlike_any secs[i] secs[j] w' ((H0.out.2 _ (List.getElem_mem hi)).below hb) ((H0.out.2 _ (List.getElem_mem hj)).below hb) hb.size hb.size (HSM.out _ (List.getElem_mem hi)) (HSM.out _ (List.getElem_mem hj))
  obtain ⟨p, off, hfa, hbl, c0, c1, c2, c3, c4, c5⟩ := Sec.at_ (H0.out.below BB.out).1 hi
  obtain ⟨p2, off2, hfb, hbl2, d0, d1, d2, d3, d4, d5⟩ := Sec.at_ (H0.out.below BB.out).1 hj
  subst hfa
  simp only [Option.some.injEq, Addr.mk.injEq] at hfb
  obtain ⟨rfl, rfl, _⟩ := hfb
  have C0 := Lib.hid c0
  have D0 := Lib.hid d0
  have C1 := Lib.hid c1
  have D1 := Lib.hid d1
  have C2 := Lib.hid c2
  have D2 := Lib.hid d2
  have C3 := Lib.hid c3
  have D3 := Lib.hid d3
  have C4 := Lib.hid c4
  have D4 := Lib.hid d4
  have C5 := Lib.hid c5
  have D5 := Lib.hid d5
  clear c0 c1 c2 c3 c4 c5 d0 d1 d2 d3 d4 d5
  generalize alikeV secs[i] secs[j] = v at *
  have i0 : (0 : Int) ≤ (i : Int) := Int.natCast_nonneg _
  have i2 : (i : Int) < (secs.length : Int) := by omega
  have j0 : (0 : Int) ≤ (j : Int) := Int.natCast_nonneg _
  have j2 : (j : Int) < (secs.length : Int) := by omega
  go_enter Try.func11, Try.ntmps11
  go_wp2
  generalize w.alloc (.cells #[Value.slice (some ⟨p, off, none⟩) secs.length sc, Value.slice yA syms.length yc] 26) = w1 at *
  have Z0 := cell_regrown (K.out.cell 0)
  have Z1 := cell_regrown (K.out.cell 1)
  have bq := Lib.hid (fun d os => BB.out.trans ((below_regrown w1 d os).mono BB.out.size))
  have cO := fun d os => Calls.regrown_of (w := w1) (d := d) (os := os) (HO.out _ (bq.out d os))
  have cA := fun d os => Calls.regrown_of (w := w1) (d := d) (os := os) (gives_same (HWA.out _))
  have cB := fun d os => Calls.regrown_of (w := w1) (d := d) (os := os) (gives_same (HWB.out _))
  have cE := fun d os => Calls.regrown_of (w := w1) (d := d) (os := os) (HAL.out _ (bq.out d os))
  have P0 := cell_regrown C0.out
  have Q0 := cell_regrown D0.out
  have P1 := cell_regrown C1.out
  have Q1 := cell_regrown D1.out
  have P2 := cell_regrown C2.out
  have Q2 := cell_regrown D2.out
  have P3 := cell_regrown C3.out
  have Q3 := cell_regrown D3.out
  have P4 := cell_regrown C4.out
  have Q4 := cell_regrown D4.out
  have P5 := cell_regrown C5.out
  have Q5 := cell_regrown D5.out
  clear HO HWA HWB K
  refine wp_region_quiet_below (by kernel_rfl) (by kernel_rfl) ?_
  repeat (go_big_quiet_step (first | (with_reducible exact cO _ _) | (with_reducible exact cA _ _) | (with_reducible exact cB _ _) | (with_reducible exact cE _ _)))
  refine wpQuiet_nil ?_
  intro _ hw'
  obtain ⟨⟨dq, osq⟩, hw''⟩ := hw'
  subst hw''
  have hbn := below_regrown w1 dq osq
  have HBN := Lib.hid (BB.out.trans (hbn.mono BB.out.size))
  go_wp2
  go_ret
  rw [HR.out]
  exact ⟨rfl, HBN.out⟩
end Go.Proofs.Ytmmenedjmdcbcaa
