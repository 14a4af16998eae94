/- The walk of FnTwinsOf. No condition. -/
import Derived.Test.YtmmenedjmdcbcaaRows
import Derived.Test.YtmmenedjmdcbcaaBase
import Derived.Test.YtmmenedjmdcbcaaBase2
import Derived.Test.YtmmenedjmdcbcaaBase3
import Derived.Test.YtmmenedjmdcbcaaOnly
import Derived.Test.YtmmenedjmdcbcaaIn
import Derived.Test.YtmmenedjmdcbcaaName
import Derived.Test.YtmmenedjmdcbcaaEqB
import Derived.Test.YtmmenedjmdcbcaaFix
import Derived.Test.YtmmenedjmdcbcaaSec
import Derived.Test.YtmmenedjmdcbcaaSecM
import Derived.Test.YtmmenedjmdcbcaaObjS
import Derived.Test.YtmmenedjmdcbcaaSym
import Derived.Test.YtmmenedjmdcbcaaObj
import Derived.Test.YtmmenedjmdcbcaaFindSym
import Derived.Test.YtmmenedjmdcbcaaObjI
import Derived.Test.YtmmenedjmdcbcaaObjW
import Derived.Test.YtmmenedjmdcbcaaTwP
import Derived.Test.YtmmenedjmdcbcaaFindSec
import Derived.Test.YtmmenedjmdcbcaaTwI
import Derived.Test.YtmmenedjmdcbcaaTwS
import Derived.Test.YtmmenedjmdcbcaaAlive
import Derived.Test.YtmmenedjmdcbcaaOpenC
import Derived.Test.YtmmenedjmdcbcaaDobj
import Derived.Test.YtmmenedjmdcbcaaDme
import Derived.Test.YtmmenedjmdcbcaaDtw
import Derived.Test.YtmmenedjmdcbcaaDtl
import Derived.Test.YtmmenedjmdcbcaaSameI
import Derived.Test.YtmmenedjmdcbcaaSAl
import Derived.WalkKit
import Derived.WalkSpells
import Derived.WalkLawsBesides
import Derived.Handy
import Derived.BigQuiet
import Derived.Deep.RegionHeld3
import Derived.Deep.DrawnRows
import Derived.Deep.QuietTactic
import Derived.Lib.QuietBelow
namespace Go.Proofs.Ytmmenedjmdcbcaa
open Go Go.RowKit

theorem ObjFitT.small {x : Obj} (h : ObjFitT x) : x.small := by
  refine ⟨by have := h.ls; omega, fun s hs => ?_, by have := h.ly; omega, fun y hy => by have := h.fy y hy; omega⟩
  obtain ⟨h1, h2, h3, h4⟩ := h.fs s hs
  unfold Sec.small
  omega
/-- The twin of section k. -/
def twL (secs : List Sec) (k : Nat) : Int := (twinsV secs).getD k 0
theorem twL_at {secs : List Sec} {k : Nat} (h : k < secs.length) : twL secs k = (twinsV secs)[k]'(by rw [twinsV_len]; exact h) := by
  unfold twL
  rw [List.getD_eq_getElem?_getD, List.getElem?_eq_getElem (by rw [twinsV_len]; exact h)]
  rfl
theorem twL_first {secs : List Sec} {k : Nat} (hk : k < secs.length) : ∃ q : Nat, q ≤ k ∧ twL secs k = (q : Int) ∧ twL secs q = (q : Int) := by
  obtain ⟨q, h1, h2, h3, _, h4⟩ := twins_first hk
  exact ⟨q, h1, by rw [twL_at hk]; exact h2, by rw [twL_at h3]; exact h4⟩
theorem twL_same {secs : List Sec} {i j : Nat} (hi : i < secs.length) (hj : j < secs.length) : alikeV secs[i] secs[j] = decide (twL secs i = twL secs j) := by
  rw [twins_same hi hj, twL_at hi, twL_at hj]
theorem twL_cell {secs : List Sec} {k : Nat} (hk : k < secs.length) : (nums .i64 (twinsV secs))[k]? = some (.int .i64 (twL secs k)) := by
  rw [nums_get _ _ (by rw [twinsV_len]; exact hk), twL_at hk]
theorem sAlike_in {secs : List Sec} {ys : List Sym} (h : objOk secs ys = true) {i j : Nat} (hi : i < secs.length) (hj : j < secs.length) : sAlike secs ys (i : Int) (j : Int) = alikeV secs[i] secs[j] := by
  unfold sAlike
  rw [h, inB_true (by omega) (by omega), inB_true (by omega) (by omega), alikeAt_at hi hj]
  rfl
set_option maxRecDepth 100000 in
set_option maxHeartbeats 8000000 in
theorem FnTwinsOf_walk (W : World) (v0 : Value) (a0 : ArgCode W v0) : Calls Try.prog 5 #[v0] W (Gives W (.bool true)) := by
  obtain ⟨A, c, cs, rfl, hr, hc1, hc2, hcb⟩ := a0
  by_cases hl : cs.length ≤ 1048576
  · have HD := Lib.hid (DrawTwinsOf_any cs W hr hcb hl hc1 hc2)
    clear hcb hr
    unfold maxLen at hc2
    go_enter Try.func5, Try.ntmps5
    go_wp2_with fail
    refine HD.out.mono ?_
    rintro e w1 ⟨x, rfl, hx, hft, hyc, b1⟩
    clear HD
    have HX : Hid (x.At (w1.alloc (.cells #[.slice x.sA x.secs.length x.sc, .slice x.yA x.syms.length x.yc] 26)) (w1.alloc (.cells #[.slice x.sA x.secs.length x.sc, .slice x.yA x.syms.length x.yc] 26)).heap.size) := (hx.below ((Below.refl _ _).alloc (Nat.le_refl _) _)).more (by simp)
    have HB3 : Hid (Blk (w1.alloc (.cells #[.slice x.sA x.secs.length x.sc, .slice x.yA x.syms.length x.yc] 26)) w1.heap.size 26 x.oc.toArray) := Blk.new _ _ _
    have HG : Hid (Below W.heap.size W (w1.alloc (.cells #[.slice x.sA x.secs.length x.sc, .slice x.yA x.syms.length x.yc] 26))) := b1.alloc b1.size _
    have HFT := Lib.hid hft
    have hsm := hft.small
    have HSM := Lib.hid hsm
    have HIB : Hid (∀ s ∈ x.secs, isB s.bytes) := fun s hs => (hft.fs s hs).2.2.1
    have hl5 := hft.ls
    clear hx b1 hft hsm
    simp only [Obj.val]
    have HI := Lib.hid (fun w' h => implTwins_any (B := w'.heap.size) x w' h (Nat.le_refl _) HSM.out hyc HIB.out)
    have HS := Lib.hid (fun w' h => specTwins_any (B := w'.heap.size) x w' h (Nat.le_refl _) HSM.out)
    have HV := Lib.hid (fun w' h => implObj_any (B := w'.heap.size) x w' h (Nat.le_refl _) HSM.out hyc)
    have HAK := Lib.hid (fun (a b : Int) w' h => implSAlike_any (B := w'.heap.size) x a b w' h (Nat.le_refl _) HSM.out hyc HIB.out)
    simp only [Obj.val] at HI HS HV HAK
    go_wp2_with fail
    obtain ⟨g3, hg3⟩ : ∃ g3, g3 = w1.heap.size := ⟨_, rfl⟩
    rw [← hg3] at HB3 ⊢
    generalize w1.alloc _ = wA at HX HB3 HG ⊢
    clear hg3
    refine (HI.out wA HX.out).mono ?_
    rintro e w2 ⟨A2, c2, rfl, o2, s2⟩
    have HT2 := Lib.hid s2
    clear s2 HI
    have e0 : w2.cell? ⟨g3, 0, none⟩ = some (.slice x.sA x.secs.length x.sc) := (HT2.out.cell HB3.out.lt).trans (HB3.out.cell 0)
    have e1 : w2.cell? ⟨g3, 1, none⟩ = some (.slice x.yA x.syms.length x.yc) := (HT2.out.cell HB3.out.lt).trans (HB3.out.cell 1)
    go_wp2_with fail
    refine (HS.out w2 ((HX.out.below HT2.out).more HT2.out.size)).mono ?_
    rintro e w3 ⟨A3, c3, rfl, o3, s3⟩
    have HT3 := Lib.hid (HT2.out.trans (s3.mono HT2.out.size))
    have HO3 := Lib.hid (own_below o2 s3)
    clear e0 e1
    have htl : (twinsO x.secs x.syms).length ≤ x.secs.length := by
      by_cases hok : objOk x.secs x.syms = true
      · rw [twinsO_yes hok, twinsV_len]; exact Nat.le_refl _
      · rw [twinsO_no (by simpa using hok)]; simp
    go_wp2_with fail
    refine (sameInts_any _ _ _ _ _ _ (twinsO x.secs x.syms) (twinsO x.secs x.syms) w3 (Reads.of_own HO3.out) (Reads.of_own o3) (by omega) (by omega)).mono ?_
    rintro e w4 ⟨rfl, s4⟩
    rw [decide_eq_true rfl]
    have HT4 := Lib.hid (HT3.out.trans (s4.mono HT3.out.size))
    have HO4 := Lib.hid (own_below HO3.out s4)
    clear s3 s4 o2 o3 HS HT2 HT3 HO3
    have e0 : w4.cell? ⟨g3, 0, none⟩ = some (.slice x.sA x.secs.length x.sc) := (HT4.out.cell HB3.out.lt).trans (HB3.out.cell 0)
    have e1 : w4.cell? ⟨g3, 1, none⟩ = some (.slice x.yA x.syms.length x.yc) := (HT4.out.cell HB3.out.lt).trans (HB3.out.cell 1)
    go_wp2_with fail
    refine (HV.out w4 ((HX.out.below HT4.out).more HT4.out.size)).mono ?_
    rintro e w5 ⟨rfl, s5⟩
    have HT5 := Lib.hid (HT4.out.trans (s5.mono HT4.out.size))
    have HO5 := Lib.hid (own_below HO4.out s5)
    have HB5 := Lib.hid (HG.out.trans (HT5.out.mono HG.out.size))
    clear s5 HV HT4 HO4 e0 e1
    by_cases hok : objOk x.secs x.syms = true
    · rw [hok]
      have HSA : Hid (∀ i j : Nat, i < x.secs.length → j < x.secs.length → ∀ w', x.At w' w'.heap.size → Calls Try.prog 10 #[.agg #[.slice x.sA x.secs.length x.sc, .slice x.yA x.syms.length x.yc], .int .i64 (i : Int), .int .i64 (j : Int)] w' (Gives w' (.bool (decide (twL x.secs i = twL x.secs j))))) := fun i j hi hj w' h => by
        have h1 := HAK.out (i : Int) (j : Int) w' h
        rw [sAlike_in hok hi hj, twL_same hi hj] at h1
        exact h1
      have HTW := Lib.hid (twinsO_yes hok)
      clear HAK hok
      rw [HTW.out] at HO5 htl ⊢
      have htv := twinsV_len x.secs
      rw [htv] at HO5 htl ⊢
      clear HTW htv
      have HF1 : Hid (∀ k, k < x.secs.length → ∃ q : Nat, q ≤ k ∧ twL x.secs k = (q : Int) ∧ twL x.secs q = (q : Int)) := fun k hk => twL_first hk
      have HCL : Hid (∀ k, k < x.secs.length → (nums .i64 (twinsV x.secs))[k]? = some (.int .i64 (twL x.secs k))) := fun k hk => twL_cell hk
      generalize twinsV x.secs = tv at *
      generalize twL x.secs = tl at *
      go_wp2
      go_loopw [5] (fun iv wr => ∃ k : Nat, k ≤ x.secs.length ∧ iv = .int .i64 k ∧ Hid (Below w5.heap.size w5 wr)) (fun iv _ => x.secs.length - (intOf iv).toNat)
      case atStart => exact ⟨0, Nat.zero_le _, rfl, Lib.hid (Below.refl _ _)⟩
      case round =>
        obtain ⟨k, hk, rfl, HT⟩ := hrel
        have HT0 := Lib.hid (HT5.out.trans (HT.out.mono HT5.out.size))
        have HOr := Lib.hid (own_below HO5.out HT.out)
        have e0 : wr.cell? ⟨g3, 0, none⟩ = some (.slice x.sA x.secs.length x.sc) := (HT0.out.cell HB3.out.lt).trans (HB3.out.cell 0)
        have e1 : wr.cell? ⟨g3, 1, none⟩ = some (.slice x.yA x.syms.length x.yc) := (HT0.out.cell HB3.out.lt).trans (HB3.out.cell 1)
        have k0 := cell_regrown e0
        have k1 := cell_regrown e1
        by_cases hlt : k < x.secs.length
        · have i1 : (k : Int) < (x.secs.length : Int) := by omega
          have i0 : (0 : Int) ≤ (k : Int) := Int.natCast_nonneg _
          obtain ⟨g, hgA, _, _⟩ := own_addr HOr.out (by omega)
          obtain ⟨q, hqk, hq1, hq2⟩ := HF1.out k hlt
          have c0 : wr.cell? ⟨g, k, none⟩ = some (.int .i64 (q : Int)) := by
            have h1 := HOr.out
            rw [hgA] at h1
            exact (h1.cellAt k (by omega)).trans ((HCL.out k hlt).trans (by rw [hq1]))
          have c1 : wr.cell? ⟨g, q, none⟩ = some (.int .i64 (q : Int)) := by
            have h1 := HOr.out
            rw [hgA] at h1
            exact (h1.cellAt q (by omega)).trans ((HCL.out q (by omega)).trans (by rw [hq2]))
          have kc0 := cell_regrown c0
          have kc1 := cell_regrown c1
          have HQ := Lib.hid hq1
          have HQ2 := Lib.hid hq2
          have jd0 : decide ((q : Int) < 0) = false := decide_eq_false (by omega)
          have jd1 : decide ((k : Int) < (q : Int)) = false := decide_eq_false (by omega)
          have jd2 : decide (k < q) = false := decide_eq_false (by omega)
          have hqe : decide (tl q = tl k) = true := by rw [hq1, hq2]; exact decide_eq_true rfl
          have j2 : (q : Int) < (x.secs.length : Int) := by omega
          have j3 : (0 : Int) ≤ (q : Int) := Int.natCast_nonneg _
          have cC : ∀ (d : Nat) (os : Array Go.Obj), Calls Try.prog 10 #[.agg #[.slice x.sA x.secs.length x.sc, .slice x.yA x.syms.length x.yc], .int .i64 (q : Int), .int .i64 (k : Int)] (Go.Sort.grow (redrawn wr d) os) fun e w'' => e = .returned (.bool true) ∧ ∃ p : Regrown, w'' = Go.Sort.grow (redrawn wr p.d) p.os := fun d os => Calls.regrown_of (by
            have hbr := below_regrown wr d os
            have hq : Below w5.heap.size w5 (Go.Sort.grow (redrawn wr d) os) := HT.out.trans (hbr.mono HT.out.size)
            have hh := HSA.out q k (by omega) hlt _ ((HX.out.below (HT5.out.trans (hq.mono HT5.out.size))).more (HT5.out.trans (hq.mono HT5.out.size)).size)
            rw [hqe] at hh; exact hh)
          have cC' : ∀ (d : Nat) (os : Array Go.Obj), Calls Try.prog 10 #[.agg #[.slice x.sA x.secs.length x.sc, .slice x.yA x.syms.length x.yc], .int .i64 (q : Int), .int .i64 (k : Int)] (Go.Sort.grow (redrawn wr d) os) fun e w'' => e = .returned (.bool true) ∧ ∃ p : Regrown, w'' = Go.Sort.grow (redrawn wr p.d) p.os := cC
          clear cC
          have cC := cC'
          clear cC' hq1 hq2 hqe
          subst hgA
          go_wp2
          clear e0 e1 c0 c1
          refine wp_region_quiet_below (by kernel_rfl) (by kernel_rfl) ?_
          repeat (go_big_quiet_step (exact cC _ _))
          refine wpQuiet_nil ?_
          intro _ hw'
          obtain ⟨⟨dq, osq⟩, hw''⟩ := hw'
          subst hw''
          have hbn := below_regrown wr dq osq
          have HT9 : Hid (Below w5.heap.size w5 (Go.Sort.grow (redrawn wr dq) osq)) := HT.out.trans (hbn.mono HT.out.size)
          clear hbn
          go_wp2
          clear cC kc0 kc1 k0 k1
          generalize Go.Sort.grow (redrawn wr dq) osq = wz at HT9 ⊢
          clear HT HT0 HOr
          go_loopw [6] (fun jv wr => ∃ j : Nat, j ≤ k ∧ jv = .int .i64 j ∧ Hid (Below w5.heap.size w5 wr)) (fun jv _ => k - (intOf jv).toNat)
          case atStart => exact ⟨0, Nat.zero_le _, rfl, HT9⟩
          case round =>
            clear HT9
            obtain ⟨j, hjk, rfl, HT⟩ := hrel
            by_cases hjl : j < k
            · have HT0 := Lib.hid (HT5.out.trans (HT.out.mono HT5.out.size))
              have HOr := Lib.hid (own_below HO5.out HT.out)
              have e0 : wr.cell? ⟨g3, 0, none⟩ = some (.slice x.sA x.secs.length x.sc) := (HT0.out.cell HB3.out.lt).trans (HB3.out.cell 0)
              have e1 : wr.cell? ⟨g3, 1, none⟩ = some (.slice x.yA x.syms.length x.yc) := (HT0.out.cell HB3.out.lt).trans (HB3.out.cell 1)
              have k0 := cell_regrown e0
              have k1 := cell_regrown e1
              have c0 : wr.cell? ⟨g, k, none⟩ = some (.int .i64 (tl k)) := (HOr.out.cellAt k (by omega)).trans (HCL.out k hlt)
              have c1 : wr.cell? ⟨g, j, none⟩ = some (.int .i64 (tl j)) := (HOr.out.cellAt j (by omega)).trans (HCL.out j (by omega))
              have cC : ∀ (d : Nat) (os : Array Go.Obj), Calls Try.prog 10 #[.agg #[.slice x.sA x.secs.length x.sc, .slice x.yA x.syms.length x.yc], .int .i64 (j : Int), .int .i64 (k : Int)] (Go.Sort.grow (redrawn wr d) os) fun e w'' => e = .returned (.bool (decide (tl j = tl k))) ∧ ∃ p : Regrown, w'' = Go.Sort.grow (redrawn wr p.d) p.os := fun d os => Calls.regrown_of (by
                have hbr := below_regrown wr d os
                have hq : Below w5.heap.size w5 (Go.Sort.grow (redrawn wr d) os) := HT.out.trans (hbr.mono HT.out.size)
                have hh := HSA.out j k (by omega) hlt _ ((HX.out.below (HT5.out.trans (hq.mono HT5.out.size))).more (HT5.out.trans (hq.mono HT5.out.size)).size)
                exact hh)
              have kc0 := cell_regrown c0
              have kc1 := cell_regrown c1
              have m0 : (0 : Int) ≤ (j : Int) := Int.natCast_nonneg _
              have m1 : (j : Int) < (k : Int) := by omega
              have m2 : (j : Int) < (x.secs.length : Int) := by omega
              have hbe : (tl j == tl k) = decide (tl j = tl k) := rfl
              generalize tl j = tj at *
              generalize tl k = tk at *
              go_wp2
              clear e0 e1 c0 c1
              refine wp_region_quiet_below (by kernel_rfl) (by kernel_rfl) ?_
              repeat (go_big_quiet_step (exact cC _ _))
              refine wpQuiet_nil ?_
              intro _ hw'
              obtain ⟨⟨dq, osq⟩, hw''⟩ := hw'
              subst hw''
              have hbn := below_regrown wr dq osq
              have HT9 : Hid (Below w5.heap.size w5 (Go.Sort.grow (redrawn wr dq) osq)) := HT.out.trans (hbn.mono HT.out.size)
              clear hbn
              go_wp2
              go_roundw
              case rel => exact ⟨j + 1, by omega, by go_num, HT9⟩
              case measure => simp [intOf]; omega
            · obtain rfl : j = k := by omega
              go_wp2
              go_roundw
              case rel => exact ⟨j + 1, by omega, by go_num, HT⟩
              case measure => simp [intOf]; omega
        · obtain rfl : k = x.secs.length := by omega
          have HB9 := Lib.hid (HB5.out.trans (HT.out.mono HB5.out.size))
          go_wp2
          go_ret
          exact ⟨rfl, HB9.out⟩
    · have hok' : objOk x.secs x.syms = false := by simpa using hok
      rw [hok']
      have HZ : Hid (twinsO x.secs x.syms = []) := twinsO_no hok'
      rw [HZ.out]
      clear hok hok' HZ
      go_wp2_with fail
      refine (alive_any _).mono ?_
      rintro e w' ⟨rfl, rfl⟩
      go_wp2
      go_ret
      exact ⟨rfl, HB5.out⟩
  · go_enter Try.func5, Try.ntmps5
    go_wp2
    go_ret
    exact ⟨rfl, Below.refl _ _⟩
end Go.Proofs.Ytmmenedjmdcbcaa
