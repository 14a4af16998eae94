/- The walk of FnTwinBytes. No condition. -/
import Derived.Test.YtmmenedjmdcbcaaRows
import Derived.Test.YtmmenedjmdcbcaaBase
import Derived.Test.YtmmenedjmdcbcaaBase2
import Derived.Test.YtmmenedjmdcbcaaBase3
import Derived.Test.YtmmenedjmdcbcaaOnly
import Derived.Test.YtmmenedjmdcbcaaIn
import Derived.Test.YtmmenedjmdcbcaaName
import Derived.Test.YtmmenedjmdcbcaaEqB
import Derived.Test.YtmmenedjmdcbcaaFix
import Derived.Test.YtmmenedjmdcbcaaSec
import Derived.Test.YtmmenedjmdcbcaaSecM
import Derived.Test.YtmmenedjmdcbcaaObjS
import Derived.Test.YtmmenedjmdcbcaaSym
import Derived.Test.YtmmenedjmdcbcaaObj
import Derived.Test.YtmmenedjmdcbcaaFindSym
import Derived.Test.YtmmenedjmdcbcaaObjI
import Derived.Test.YtmmenedjmdcbcaaObjW
import Derived.Test.YtmmenedjmdcbcaaTwP
import Derived.Test.YtmmenedjmdcbcaaFindSec
import Derived.Test.YtmmenedjmdcbcaaTwI
import Derived.Test.YtmmenedjmdcbcaaTwS
import Derived.Test.YtmmenedjmdcbcaaTwB
import Derived.Test.YtmmenedjmdcbcaaAlive
import Derived.Test.YtmmenedjmdcbcaaOpenC
import Derived.Test.YtmmenedjmdcbcaaDobj
import Derived.Test.YtmmenedjmdcbcaaDme
import Derived.Test.YtmmenedjmdcbcaaDtw
import Derived.Test.YtmmenedjmdcbcaaDtl
import Derived.WalkKit
import Derived.WalkSpells
import Derived.WalkLawsBesides
import Derived.Handy
import Derived.BigQuiet
import Derived.Deep.RegionHeld3
import Derived.Deep.DrawnRows
import Derived.Deep.QuietTactic
namespace Go.Proofs.Ytmmenedjmdcbcaa
open Go Go.RowKit

theorem ObjFitT.small {x : Obj} (h : ObjFitT x) : x.small := by
  refine ⟨by have := h.ls; omega, fun s hs => ?_, by have := h.ly; omega, fun y hy => by have := h.fy y hy; omega⟩
  obtain ⟨h1, h2, h3, h4⟩ := h.fs s hs
  unfold Sec.small
  omega
/-- The bytes of the first sections together. -/
def sizeSum (secs : List Sec) : Nat → Int
  | 0 => 0
  | k + 1 => sizeSum secs k + (if h : k < secs.length then secSize secs[k] else 0)
theorem sizeSum_step {secs : List Sec} {k : Nat} (h : k < secs.length) : sizeSum secs (k + 1) = sizeSum secs k + secSize secs[k] := by rw [sizeSum, dif_pos h]
theorem sizeSum_bd {secs : List Sec} {ys : List Sym} (h : objOk secs ys = true) : ∀ k, k ≤ secs.length → 0 ≤ sizeSum secs k ∧ sizeSum secs k ≤ 48 * k ∧ 0 ≤ twinB secs k ∧ twinB secs k ≤ sizeSum secs k
  | 0, _ => by simp [sizeSum, twinB]
  | k + 1, hk => by
    have h1 := sizeSum_bd h k (by omega)
    have h2 := secSize_ok h (show k < secs.length by omega)
    rw [sizeSum_step (show k < secs.length by omega), twinB_step (show k < secs.length by omega)]
    split <;> omega
theorem twinB_none : twinBO [] [] = 0 := by
  have h : objOk [] [] = true := obj_yes ⟨by simp, by simp, fun j h => by simp at h, fun j h => by simp at h⟩
  rw [twinBO_yes h]
  rfl
set_option maxRecDepth 100000 in
set_option maxHeartbeats 8000000 in
theorem FnTwinBytes_walk (W : World) (v0 : Value) (a0 : ArgCode W v0) : Calls Try.prog 7 #[v0] W (Gives W (.bool true)) := by
  obtain ⟨A, c, cs, rfl, hr, hc1, hc2, hcb⟩ := a0
  by_cases hl : cs.length ≤ 1048576
  · have HD := Lib.hid (DrawTwinBytes_any cs W hr hcb hl hc1 hc2)
    clear hcb hr
    unfold maxLen at hc2
    go_enter Try.func7, Try.ntmps7
    go_wp2_with fail
    refine HD.out.mono ?_
    rintro e w1 ⟨x, rfl, hx, hft, hyc, b1⟩
    clear HD
    have HX : Hid (x.At (w1.alloc (.cells #[.slice x.sA x.secs.length x.sc, .slice x.yA x.syms.length x.yc] 26)) (w1.alloc (.cells #[.slice x.sA x.secs.length x.sc, .slice x.yA x.syms.length x.yc] 26)).heap.size) := (hx.below ((Below.refl _ _).alloc (Nat.le_refl _) _)).more (by simp)
    have HB3 : Hid (Blk (w1.alloc (.cells #[.slice x.sA x.secs.length x.sc, .slice x.yA x.syms.length x.yc] 26)) w1.heap.size 26 x.oc.toArray) := Blk.new _ _ _
    have HG : Hid (Below W.heap.size W (w1.alloc (.cells #[.slice x.sA x.secs.length x.sc, .slice x.yA x.syms.length x.yc] 26))) := b1.alloc b1.size _
    have HFT := Lib.hid hft
    have hsm := hft.small
    have HSM := Lib.hid hsm
    have HIB : Hid (∀ s ∈ x.secs, isB s.bytes) := fun s hs => (hft.fs s hs).2.2.1
    have hl5 := hft.ls
    clear hx b1 hft hsm
    simp only [Obj.val]
    have HI := Lib.hid (fun w' h => implTwinB_any (B := w'.heap.size) x w' h (Nat.le_refl _) HSM.out hyc HIB.out)
    have HS := Lib.hid (fun w' h => specTwinB_any (B := w'.heap.size) x w' h (Nat.le_refl _) HSM.out)
    have HV := Lib.hid (fun w' h => implObj_any (B := w'.heap.size) x w' h (Nat.le_refl _) HSM.out hyc)
    simp only [Obj.val] at HI HS HV
    have HN0 : Hid (∀ w', Calls Try.prog 26 #[.agg #[.slice none 0 0, .slice none 0 0]] w' (Gives w' (.int .i64 0))) := fun w' => by
      have h := implTwinB_any (B := w'.heap.size) zObj w' ⟨⟨Reads.none_, fun s hs => by simp [zObj] at hs⟩, Reads.none_⟩ (Nat.le_refl _) ⟨by simp [zObj], fun s hs => by simp [zObj] at hs, by simp [zObj], fun s hs => by simp [zObj] at hs⟩ (by simp [zObj]) (fun s hs => by simp [zObj] at hs)
      rw [show twinBO zObj.secs zObj.syms = 0 from twinB_none] at h
      exact h
    go_wp2_with fail
    obtain ⟨g3, hg3⟩ : ∃ g3, g3 = w1.heap.size := ⟨_, rfl⟩
    rw [← hg3] at HB3 ⊢
    generalize w1.alloc _ = wA at HX HB3 HG ⊢
    clear hg3
    refine (HI.out wA HX.out).mono ?_
    rintro e w2 ⟨rfl, s2⟩
    have HT2 := Lib.hid s2
    clear s2 HI
    have e0 : w2.cell? ⟨g3, 0, none⟩ = some (.slice x.sA x.secs.length x.sc) := (HT2.out.cell HB3.out.lt).trans (HB3.out.cell 0)
    have e1 : w2.cell? ⟨g3, 1, none⟩ = some (.slice x.yA x.syms.length x.yc) := (HT2.out.cell HB3.out.lt).trans (HB3.out.cell 1)
    go_wp2_with fail
    refine (HS.out w2 ((HX.out.below HT2.out).more HT2.out.size)).mono ?_
    rintro e w3 ⟨rfl, s3⟩
    have HT3 := Lib.hid (HT2.out.trans (s3.mono HT2.out.size))
    clear s3 HS HT2 e0 e1
    have e0 : w3.cell? ⟨g3, 0, none⟩ = some (.slice x.sA x.secs.length x.sc) := (HT3.out.cell HB3.out.lt).trans (HB3.out.cell 0)
    have e1 : w3.cell? ⟨g3, 1, none⟩ = some (.slice x.yA x.syms.length x.yc) := (HT3.out.cell HB3.out.lt).trans (HB3.out.cell 1)
    by_cases hok : objOk x.secs x.syms = true
    · have HOK := Lib.hid hok
      have HBD : Hid (∀ k, k ≤ x.secs.length → 0 ≤ sizeSum x.secs k ∧ sizeSum x.secs k ≤ 48 * k ∧ 0 ≤ twinB x.secs k ∧ twinB x.secs k ≤ sizeSum x.secs k) := fun k hk => sizeSum_bd hok k hk
      have HZ : Hid (twinBO x.secs x.syms = twinB x.secs x.secs.length) := twinBO_yes hok
      rw [HZ.out]
      have hz0 := (HBD.out _ (Nat.le_refl _)).2.2.1
      have HZL := Lib.hid (HBD.out _ (Nat.le_refl _)).2.2.2
      clear hok HZ HV
      generalize twinB x.secs x.secs.length = z at hz0 HZL ⊢
      have hzd : decide (z < 0) = false := decide_eq_false (by omega)
      have hzn : ¬ z < 0 := by omega
      have HSS := Lib.hid (fun (k : Nat) (h : k < x.secs.length) (w' : World) => implSize_any x.secs[k] w')
      simp only [Sec.val] at HSS
      go_wp2
      go_loopw [5, 6] (fun sv iv wr => ∃ k : Nat, k ≤ x.secs.length ∧ iv = .int .i64 k ∧ sv = .int .i64 (sizeSum x.secs k) ∧ Hid (Below wA.heap.size wA wr)) (fun _ iv _ => x.secs.length - (intOf iv).toNat)
      case atStart => exact ⟨0, Nat.zero_le _, rfl, rfl, HT3⟩
      case round =>
        clear HT3 e0 e1
        obtain ⟨k, hk, rfl, rfl, HT⟩ := hrel
        have e0 : wr.cell? ⟨g3, 0, none⟩ = some (.slice x.sA x.secs.length x.sc) := (HT.out.cell HB3.out.lt).trans (HB3.out.cell 0)
        have e1 : wr.cell? ⟨g3, 1, none⟩ = some (.slice x.yA x.syms.length x.yc) := (HT.out.cell HB3.out.lt).trans (HB3.out.cell 1)
        have HXr : Hid (x.At wr wr.heap.size) := ((HX.out.below HT.out).more HT.out.size)
        by_cases hlt : k < x.secs.length
        · have i1 : (k : Int) < (x.secs.length : Int) := by omega
          have i0 : (0 : Int) ≤ (k : Int) := Int.natCast_nonneg _
          have HST := Lib.hid (sizeSum_step hlt)
          have hb1 := HBD.out k (by omega)
          have hb2 := HBD.out (k + 1) (by omega)
          rw [HST.out] at hb2
          obtain ⟨b, off, hA, hbl, c0, c1, c2, c3, c4, c5⟩ := Sec.at_ HXr.out.1.1 hlt
          rw [hA] at e0
          have HC := Lib.hid (HSS.out k hlt)
          clear hA
          generalize x.secs[k] = sk at *
          have y1 : IntKind.i64.wrap (sizeSum x.secs k + secSize sk) = sizeSum x.secs k + secSize sk := IntWalk.i64_in _ (by omega)
          generalize sizeSum x.secs k = sm at *
          go_wp2_with fail
          refine (HC.out wr).mono ?_
          rintro e w5 ⟨rfl, s5⟩
          have HT5 := Lib.hid (HT.out.trans (s5.mono HT.out.size))
          clear s5 HT HXr c0 c1 c2 c3 c4 c5 e0 e1
          go_wp2
          go_roundw
          case rel => exact ⟨k + 1, by omega, by go_num, by rw [HST.out], HT5⟩
          case measure => simp [intOf]; omega
        · obtain rfl : k = x.secs.length := by omega
          have hle : z ≤ sizeSum x.secs x.secs.length := HZL.out
          have hb1 := HBD.out x.secs.length (Nat.le_refl _)
          generalize sizeSum x.secs x.secs.length = sm at *
          clear HSS HXr
          go_wp2_with fail
          refine (HN0.out wr).mono ?_
          rintro e w5 ⟨rfl, s5⟩
          have HB9 := Lib.hid (HG.out.trans ((HT.out.trans (s5.mono HT.out.size)).mono HG.out.size))
          clear s5
          go_wp2
          go_ret
          exact ⟨rfl, HB9.out⟩
    · have hok' : objOk x.secs x.syms = false := by simpa using hok
      have HZ : Hid (twinBO x.secs x.syms = -1) := twinBO_no hok'
      rw [HZ.out]
      rw [hok'] at HV
      clear hok hok' HZ
      go_wp2_with fail
      refine (HV.out w3 ((HX.out.below HT3.out).more HT3.out.size)).mono ?_
      rintro e w5 ⟨rfl, s5⟩
      have HB9 := Lib.hid (HG.out.trans ((HT3.out.trans (s5.mono HT3.out.size)).mono HG.out.size))
      clear s5 HV e0 e1
      go_wp2_with fail
      refine (alive_any _).mono ?_
      rintro e w' ⟨rfl, rfl⟩
      go_wp2
      go_ret
      exact ⟨rfl, HB9.out⟩
  · go_enter Try.func7, Try.ntmps7
    go_wp2
    go_ret
    exact ⟨rfl, Below.refl _ _⟩
end Go.Proofs.Ytmmenedjmdcbcaa
