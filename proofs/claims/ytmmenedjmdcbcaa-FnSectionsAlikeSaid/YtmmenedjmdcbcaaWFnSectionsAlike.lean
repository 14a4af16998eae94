/- The walk of FnSectionsAlike. No condition. -/
import Derived.Test.YtmmenedjmdcbcaaRows
import Derived.Test.YtmmenedjmdcbcaaBase
import Derived.Test.YtmmenedjmdcbcaaBase2
import Derived.Test.YtmmenedjmdcbcaaBase3
import Derived.Test.YtmmenedjmdcbcaaOnly
import Derived.Test.YtmmenedjmdcbcaaIn
import Derived.Test.YtmmenedjmdcbcaaName
import Derived.Test.YtmmenedjmdcbcaaEqB
import Derived.Test.YtmmenedjmdcbcaaFix
import Derived.Test.YtmmenedjmdcbcaaSec
import Derived.Test.YtmmenedjmdcbcaaSecM
import Derived.Test.YtmmenedjmdcbcaaObjS
import Derived.Test.YtmmenedjmdcbcaaSym
import Derived.Test.YtmmenedjmdcbcaaObj
import Derived.Test.YtmmenedjmdcbcaaFindSym
import Derived.Test.YtmmenedjmdcbcaaObjI
import Derived.Test.YtmmenedjmdcbcaaObjW
import Derived.Test.YtmmenedjmdcbcaaTwP
import Derived.Test.YtmmenedjmdcbcaaFindSec
import Derived.Test.YtmmenedjmdcbcaaAlive
import Derived.Test.YtmmenedjmdcbcaaOpenC
import Derived.Test.YtmmenedjmdcbcaaDobj
import Derived.Test.YtmmenedjmdcbcaaDme
import Derived.Test.YtmmenedjmdcbcaaDtw
import Derived.Test.YtmmenedjmdcbcaaSAl
import Derived.Test.YtmmenedjmdcbcaaDsa
import Derived.WalkKit
import Derived.WalkSpells
import Derived.WalkLawsBesides
import Derived.Handy
import Derived.BigQuiet
import Derived.Deep.RegionHeld3
import Derived.Deep.DrawnRows
import Derived.Deep.QuietTactic
import Derived.Lib.QuietBelow
namespace Go.Proofs.Ytmmenedjmdcbcaa
open Go Go.RowKit

theorem ObjFitT.small {x : Obj} (h : ObjFitT x) : x.small := by
  refine ⟨by have := h.ls; omega, fun s hs => ?_, by have := h.ly; omega, fun y hy => by have := h.fy y hy; omega⟩
  obtain ⟨h1, h2, h3, h4⟩ := h.fs s hs
  unfold Sec.small
  omega
theorem sAlike_comm (secs : List Sec) (ys : List Sym) (a b : Int) : sAlike secs ys b a = sAlike secs ys a b := by
  have h : alikeAt secs b a = alikeAt secs a b := by
    unfold alikeAt
    by_cases h1 : a.toNat < secs.length
    · by_cases h2 : b.toNat < secs.length
      · rw [dif_pos ⟨h2, h1⟩, dif_pos ⟨h1, h2⟩]
        exact alikeV_comm _ _
      · rw [dif_neg (fun h => h2 h.1), dif_neg (fun h => h2 h.2)]
    · rw [dif_neg (fun h => h1 h.2), dif_neg (fun h => h1 h.1)]
  unfold sAlike
  rw [h]
  cases objOk secs ys <;> cases inB a 0 ((secs.length : Int) - 1) <;> cases inB b 0 ((secs.length : Int) - 1) <;> rfl
theorem sAlike_self (secs : List Sec) (ys : List Sym) (a : Int) : sAlike secs ys a a = (objOk secs ys && inB a 0 ((secs.length : Int) - 1)) := by
  unfold sAlike
  cases h : inB a 0 ((secs.length : Int) - 1)
  · simp
  · have hb := inB_iff.1 h
    have h1 : a.toNat < secs.length := by omega
    have e : alikeAt secs a a = true := by
      unfold alikeAt
      rw [dif_pos ⟨h1, h1⟩]
      exact alikeV_refl _
    rw [e]
    simp
set_option maxRecDepth 100000 in
set_option maxHeartbeats 8000000 in
theorem FnSectionsAlike_walk (W : World) (v0 : Value) (a0 : ArgCode W v0) : Calls Try.prog 3 #[v0] W (Gives W (.bool true)) := by
  obtain ⟨A, c, cs, rfl, hr, hc1, hc2, hcb⟩ := a0
  by_cases hl : cs.length ≤ 1048576
  · have HD := Lib.hid (DrawSectionsAlike_any cs W hr hcb hl hc1 hc2)
    clear hcb hr
    unfold maxLen at hc2
    go_enter Try.func3, Try.ntmps3
    go_wp2_with fail
    refine HD.out.mono ?_
    rintro e w1 ⟨x, a, b, rfl, hx, hft, hyc, ⟨ha0, ha1⟩, ⟨hb0, hb1⟩, b1⟩
    clear HD
    have HX : Hid (x.At (w1.alloc (.cells #[.slice x.sA x.secs.length x.sc, .slice x.yA x.syms.length x.yc] 26)) (w1.alloc (.cells #[.slice x.sA x.secs.length x.sc, .slice x.yA x.syms.length x.yc] 26)).heap.size) := (hx.below ((Below.refl _ _).alloc (Nat.le_refl _) _)).more (by simp)
    have HB3 : Hid (Blk (w1.alloc (.cells #[.slice x.sA x.secs.length x.sc, .slice x.yA x.syms.length x.yc] 26)) w1.heap.size 26 x.oc.toArray) := Blk.new _ _ _
    have HG : Hid (Below W.heap.size W (w1.alloc (.cells #[.slice x.sA x.secs.length x.sc, .slice x.yA x.syms.length x.yc] 26))) := b1.alloc b1.size _
    have HFT := Lib.hid hft
    have hsm := hft.small
    have HSM := Lib.hid hsm
    have HIB : Hid (∀ s ∈ x.secs, isB s.bytes) := fun s hs => (hft.fs s hs).2.2.1
    have hl5 := hft.ls
    clear hx b1 hft hsm
    simp only [Obj.val]
    have HI := Lib.hid (fun (a b : Int) w' h => implSAlike_any (B := w'.heap.size) x a b w' h (Nat.le_refl _) HSM.out hyc HIB.out)
    have HS := Lib.hid (fun (a b : Int) w' h => specSAlike_any (B := w'.heap.size) x a b w' h (Nat.le_refl _) HSM.out)
    have HV := Lib.hid (fun w' h => implObj_any (B := w'.heap.size) x w' h (Nat.le_refl _) HSM.out hyc)
    simp only [Obj.val] at HI HS HV
    go_wp2_with fail
    obtain ⟨g3, hg3⟩ : ∃ g3, g3 = w1.heap.size := ⟨_, rfl⟩
    rw [← hg3] at HB3 ⊢
    generalize w1.alloc _ = wA at HX HB3 HG ⊢
    clear hg3
    refine (HI.out a b wA HX.out).mono ?_
    rintro e w2 ⟨rfl, s2⟩
    have HT2 := Lib.hid s2
    clear s2
    have e0 : w2.cell? ⟨g3, 0, none⟩ = some (.slice x.sA x.secs.length x.sc) := (HT2.out.cell HB3.out.lt).trans (HB3.out.cell 0)
    have e1 : w2.cell? ⟨g3, 1, none⟩ = some (.slice x.yA x.syms.length x.yc) := (HT2.out.cell HB3.out.lt).trans (HB3.out.cell 1)
    go_wp2_with fail
    refine (HS.out a b w2 ((HX.out.below HT2.out).more HT2.out.size)).mono ?_
    rintro e w3 ⟨rfl, s3⟩
    have HT3 := Lib.hid (HT2.out.trans (s3.mono HT2.out.size))
    clear s3 HS HT2 e0 e1
    have HBA := Lib.hid (HI.out b a w3 ((HX.out.below HT3.out).more HT3.out.size))
    rw [sAlike_comm x.secs x.syms a b] at HBA
    have HAA : Hid (∀ w', x.At w' w'.heap.size → Calls Try.prog 10 #[.agg #[.slice x.sA x.secs.length x.sc, .slice x.yA x.syms.length x.yc], .int .i64 a, .int .i64 a] w' (Gives w' (.bool (objOk x.secs x.syms && inB a 0 ((x.secs.length : Int) - 1))))) := fun w' h => by
      have h1 := HI.out a a w' h
      rw [sAlike_self] at h1
      exact h1
    clear HI
    generalize sAlike x.secs x.syms a b = sv at *
    have e0 : w3.cell? ⟨g3, 0, none⟩ = some (.slice x.sA x.secs.length x.sc) := (HT3.out.cell HB3.out.lt).trans (HB3.out.cell 0)
    have e1 : w3.cell? ⟨g3, 1, none⟩ = some (.slice x.yA x.syms.length x.yc) := (HT3.out.cell HB3.out.lt).trans (HB3.out.cell 1)
    have key : objOk x.secs x.syms = false ∨ (objOk x.secs x.syms = true ∧ a < 0) ∨ (objOk x.secs x.syms = true ∧ 0 ≤ a ∧ (x.secs.length : Int) ≤ a) ∨ (objOk x.secs x.syms = true ∧ 0 ≤ a ∧ a < (x.secs.length : Int)) := by
      cases objOk x.secs x.syms
      · exact .inl rfl
      · by_cases h0 : a < 0
        · exact .inr (.inl ⟨rfl, h0⟩)
        · by_cases h1 : a < (x.secs.length : Int)
          · exact .inr (.inr (.inr ⟨rfl, by omega, h1⟩))
          · exact .inr (.inr (.inl ⟨rfl, by omega, by omega⟩))
    cases sv
    all_goals
      go_wp2_with fail
      refine HBA.out.mono ?_
      rintro e w5 ⟨rfl, s5⟩
      have HT5 := Lib.hid (HT3.out.trans (s5.mono HT3.out.size))
      clear s5 HT3 HBA e0 e1
      have e0 : w5.cell? ⟨g3, 0, none⟩ = some (.slice x.sA x.secs.length x.sc) := (HT5.out.cell HB3.out.lt).trans (HB3.out.cell 0)
      have e1 : w5.cell? ⟨g3, 1, none⟩ = some (.slice x.yA x.syms.length x.yc) := (HT5.out.cell HB3.out.lt).trans (HB3.out.cell 1)
      have k0 := cell_regrown e0
      have k1 := cell_regrown e1
      have HA5 : Hid (∀ (d : Nat) (os : Array Go.Obj), x.At (Go.Sort.grow (redrawn w5 d) os) (Go.Sort.grow (redrawn w5 d) os).heap.size) := fun d os => by
        have hq := HT5.out.trans ((below_regrown w5 d os).mono HT5.out.size)
        exact (HX.out.below hq).more hq.size
      have cL : ∀ (d : Nat) (os : Array Go.Obj), Calls Try.prog 13 #[] (Go.Sort.grow (redrawn w5 d) os) fun e w'' => e = .returned (.bool true) ∧ ∃ p : Regrown, w'' = Go.Sort.grow (redrawn w5 p.d) p.os := fun d os => Calls.regrown_of ((alive_any _).mono (fun e w' h => ⟨h.1, by rw [← h.2]; exact Below.refl _ _⟩))
      have HB5 := Lib.hid (HG.out.trans (HT5.out.mono HG.out.size))
      rcases key with h1 | ⟨h1, h2⟩ | ⟨h1, h2, h3⟩ | ⟨h1, h2, h3⟩
      · have hva : (objOk x.secs x.syms && inB a 0 ((x.secs.length : Int) - 1)) = false := by rw [h1]; rfl
        have cA : ∀ (d : Nat) (os : Array Go.Obj), Calls Try.prog 10 #[.agg #[.slice x.sA x.secs.length x.sc, .slice x.yA x.syms.length x.yc], .int .i64 a, .int .i64 a] (Go.Sort.grow (redrawn w5 d) os) fun e w'' => e = .returned (.bool false) ∧ ∃ p : Regrown, w'' = Go.Sort.grow (redrawn w5 p.d) p.os := fun d os => Calls.regrown_of (by
          have hh := HAA.out _ (HA5.out d os)
          rw [hva] at hh
          exact hh)
        have cV : ∀ (d : Nat) (os : Array Go.Obj), Calls Try.prog 12 #[.agg #[.slice x.sA x.secs.length x.sc, .slice x.yA x.syms.length x.yc]] (Go.Sort.grow (redrawn w5 d) os) fun e w'' => e = .returned (.bool false) ∧ ∃ p : Regrown, w'' = Go.Sort.grow (redrawn w5 p.d) p.os := fun d os => Calls.regrown_of (by
          have hh := HV.out _ (HA5.out d os)
          rw [h1] at hh
          exact hh)
        clear hva h1 HAA HV HA5
        go_wp2
        clear e0 e1
        refine wp_region_quiet_below (by kernel_rfl) (by kernel_rfl) ?_
        repeat (go_big_quiet_step (first | exact cA _ _ | exact cV _ _ | exact cL _ _))
        refine wpQuiet_nil ?_
        intro _ hw'
        obtain ⟨⟨dq, osq⟩, hw''⟩ := hw'
        subst hw''
        have hbn := below_regrown w5 dq osq
        have HB9 := Lib.hid (HB5.out.trans (hbn.mono HB5.out.size))
        clear hbn
        go_wp2
        go_ret
        exact ⟨rfl, HB9.out⟩
      · have hva : (objOk x.secs x.syms && inB a 0 ((x.secs.length : Int) - 1)) = false := by rw [h1, inB_false (.inl h2)]; rfl
        have cA : ∀ (d : Nat) (os : Array Go.Obj), Calls Try.prog 10 #[.agg #[.slice x.sA x.secs.length x.sc, .slice x.yA x.syms.length x.yc], .int .i64 a, .int .i64 a] (Go.Sort.grow (redrawn w5 d) os) fun e w'' => e = .returned (.bool false) ∧ ∃ p : Regrown, w'' = Go.Sort.grow (redrawn w5 p.d) p.os := fun d os => Calls.regrown_of (by
          have hh := HAA.out _ (HA5.out d os)
          rw [hva] at hh
          exact hh)
        have cV : ∀ (d : Nat) (os : Array Go.Obj), Calls Try.prog 12 #[.agg #[.slice x.sA x.secs.length x.sc, .slice x.yA x.syms.length x.yc]] (Go.Sort.grow (redrawn w5 d) os) fun e w'' => e = .returned (.bool true) ∧ ∃ p : Regrown, w'' = Go.Sort.grow (redrawn w5 p.d) p.os := fun d os => Calls.regrown_of (by
          have hh := HV.out _ (HA5.out d os)
          rw [h1] at hh
          exact hh)
        have jd0 : decide (0 ≤ a) = false := decide_eq_false (by omega)
        clear hva h1 HAA HV HA5
        go_wp2
        clear e0 e1
        refine wp_region_quiet_below (by kernel_rfl) (by kernel_rfl) ?_
        repeat (go_big_quiet_step (first | exact cA _ _ | exact cV _ _ | exact cL _ _))
        refine wpQuiet_nil ?_
        intro _ hw'
        obtain ⟨⟨dq, osq⟩, hw''⟩ := hw'
        subst hw''
        have hbn := below_regrown w5 dq osq
        have HB9 := Lib.hid (HB5.out.trans (hbn.mono HB5.out.size))
        clear hbn
        go_wp2
        go_ret
        exact ⟨rfl, HB9.out⟩
      · have hva : (objOk x.secs x.syms && inB a 0 ((x.secs.length : Int) - 1)) = false := by rw [h1, inB_false (.inr (by omega))]; rfl
        have cA : ∀ (d : Nat) (os : Array Go.Obj), Calls Try.prog 10 #[.agg #[.slice x.sA x.secs.length x.sc, .slice x.yA x.syms.length x.yc], .int .i64 a, .int .i64 a] (Go.Sort.grow (redrawn w5 d) os) fun e w'' => e = .returned (.bool false) ∧ ∃ p : Regrown, w'' = Go.Sort.grow (redrawn w5 p.d) p.os := fun d os => Calls.regrown_of (by
          have hh := HAA.out _ (HA5.out d os)
          rw [hva] at hh
          exact hh)
        have cV : ∀ (d : Nat) (os : Array Go.Obj), Calls Try.prog 12 #[.agg #[.slice x.sA x.secs.length x.sc, .slice x.yA x.syms.length x.yc]] (Go.Sort.grow (redrawn w5 d) os) fun e w'' => e = .returned (.bool true) ∧ ∃ p : Regrown, w'' = Go.Sort.grow (redrawn w5 p.d) p.os := fun d os => Calls.regrown_of (by
          have hh := HV.out _ (HA5.out d os)
          rw [h1] at hh
          exact hh)
        have jd0 : decide (0 ≤ a) = true := decide_eq_true h2
        have jd1 : decide (a < (x.secs.length : Int)) = false := decide_eq_false (by omega)
        clear hva h1 HAA HV HA5
        go_wp2
        clear e0 e1
        refine wp_region_quiet_below (by kernel_rfl) (by kernel_rfl) ?_
        repeat (go_big_quiet_step (first | exact cA _ _ | exact cV _ _ | exact cL _ _))
        refine wpQuiet_nil ?_
        intro _ hw'
        obtain ⟨⟨dq, osq⟩, hw''⟩ := hw'
        subst hw''
        have hbn := below_regrown w5 dq osq
        have HB9 := Lib.hid (HB5.out.trans (hbn.mono HB5.out.size))
        clear hbn
        go_wp2
        go_ret
        exact ⟨rfl, HB9.out⟩
      · have hva : (objOk x.secs x.syms && inB a 0 ((x.secs.length : Int) - 1)) = true := by rw [h1, inB_true h2 (by omega)]; rfl
        have cA : ∀ (d : Nat) (os : Array Go.Obj), Calls Try.prog 10 #[.agg #[.slice x.sA x.secs.length x.sc, .slice x.yA x.syms.length x.yc], .int .i64 a, .int .i64 a] (Go.Sort.grow (redrawn w5 d) os) fun e w'' => e = .returned (.bool true) ∧ ∃ p : Regrown, w'' = Go.Sort.grow (redrawn w5 p.d) p.os := fun d os => Calls.regrown_of (by
          have hh := HAA.out _ (HA5.out d os)
          rw [hva] at hh
          exact hh)
        have cV : ∀ (d : Nat) (os : Array Go.Obj), Calls Try.prog 12 #[.agg #[.slice x.sA x.secs.length x.sc, .slice x.yA x.syms.length x.yc]] (Go.Sort.grow (redrawn w5 d) os) fun e w'' => e = .returned (.bool true) ∧ ∃ p : Regrown, w'' = Go.Sort.grow (redrawn w5 p.d) p.os := fun d os => Calls.regrown_of (by
          have hh := HV.out _ (HA5.out d os)
          rw [h1] at hh
          exact hh)
        have jd0 : decide (0 ≤ a) = true := decide_eq_true h2
        have jd1 : decide (a < (x.secs.length : Int)) = true := decide_eq_true h3
        clear hva h1 HAA HV HA5
        go_wp2
        clear e0 e1
        refine wp_region_quiet_below (by kernel_rfl) (by kernel_rfl) ?_
        repeat (go_big_quiet_step (first | exact cA _ _ | exact cV _ _ | exact cL _ _))
        refine wpQuiet_nil ?_
        intro _ hw'
        obtain ⟨⟨dq, osq⟩, hw''⟩ := hw'
        subst hw''
        have hbn := below_regrown w5 dq osq
        have HB9 := Lib.hid (HB5.out.trans (hbn.mono HB5.out.size))
        clear hbn
        go_wp2
        go_ret
        exact ⟨rfl, HB9.out⟩
  · go_enter Try.func3, Try.ntmps3
    go_wp2
    go_ret
    exact ⟨rfl, Below.refl _ _⟩
end Go.Proofs.Ytmmenedjmdcbcaa
