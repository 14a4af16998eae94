/- Contract of the reference VersionsFit. No condition but the sizes. -/
import Derived.Test.YtogdeekjfgbneaaRows
import Derived.Test.YtogdeekjfgbneaaBase
import Derived.Test.YtogdeekjfgbneaaBase2
import Derived.Test.YtogdeekjfgbneaaIn
import Derived.Test.YtogdeekjfgbneaaName
import Derived.Test.YtogdeekjfgbneaaVer
import Derived.Test.YtogdeekjfgbneaaFindVer
import Derived.Test.YtogdeekjfgbneaaVerF
import Derived.Test.YtogdeekjfgbneaaVerG
import Derived.Test.YtogdeekjfgbneaaVerH
import Derived.WalkKit
import Derived.WalkSpells
import Derived.WalkLawsBesides
import Derived.Handy
import Derived.BigQuiet
import Derived.Deep.RegionHeld3
import Derived.Deep.DrawnRows
import Derived.Deep.QuietTactic
namespace Go.Proofs.Ytogdeekjfgbneaa
open Go Go.RowKit

set_option maxRecDepth 100000 in
set_option maxHeartbeats 4000000 in
theorem specFit_any {A1 A2 : Option Addr} {c1 c2 B1 B2 : Nat} (ws gs : List Ver) (w : World) (h1 : Reads w B1 2 A1 ws.length (ws.flatMap Ver.cells)) (hB1 : B1 ≤ w.heap.size) (h2 : Reads w B2 2 A2 gs.length (gs.flatMap Ver.cells)) (hB2 : B2 ≤ w.heap.size)
    (hm1 : ws.length ≤ maxLen) (hm2 : gs.length ≤ maxLen) (hs1 : ∀ v ∈ ws, VerSmall v) (hs2 : ∀ v ∈ gs, VerSmall v) :
    Calls Try.prog 21 #[.slice A1 ws.length c1, .slice A2 gs.length c2] w (Gives w (.bool (fitOk ws gs))) := by
  have HS1 := Lib.hid hs1
  have HS2 := Lib.hid hs2
  have HR1 := Lib.hid (fun w' (hb : Below w.heap.size w w') => (h1.more hB1).below hb)
  have HR2 := Lib.hid (fun w' (hb : Below w.heap.size w w') => (h2.more hB2).below hb)
  have HNw := Lib.hid (fun nm w' (hb : Below w.heap.size w w') => specNewest_any (A := A2) (c := c2) gs nm w' ((h2.more hB2).below hb) hb.size hm2 hs2)
  have HF : Hid (fitOk ws gs = (versOk ws && versOk gs && ws.all fun v => !decide (newestOf gs v.name < v.number))) := rfl
  clear hs1 hs2
  unfold maxLen at hm1 hm2
  go_enter Try.func21, Try.ntmps21
  go_wp2
  go_loopw [5] (fun i wr => ∃ k : Nat, k ≤ gs.length ∧ i = .int .i64 k ∧ Below w.heap.size w wr ∧ Hid (∀ j, (h : j < gs.length) → j < k → verOk gs[j] = true)) (fun i _ => gs.length - (intOf i).toNat)
  case atStart => exact ⟨0, Nat.zero_le _, rfl, Below.refl _ _, Lib.hid (fun j _ hj => by omega)⟩
  case round =>
    obtain ⟨k, hk, rfl, hb, HA⟩ := hrel
    by_cases hlt : k < gs.length
    · have HC := Lib.hid (fun w => specVerValid_any gs[k] w (HS2.out _ (List.getElem_mem hlt)))
      obtain ⟨b, off, rfl, hbl, e0, e1⟩ := Ver.at_ (HR2.out _ hb) hlt
      cases hv : verOk gs[k]
      · have HR : Hid (fitOk ws gs = false) := by
          unfold fitOk
          have : versOk gs = false := by unfold versOk; rw [all_not hlt hv, Bool.and_false]
          rw [this]
          simp [Hid]
        have HV := Lib.hid hv
        clear hv
        go_wp2_with fail
        refine (HC.out _).mono ?_
        rintro e w2 ⟨rfl, hb2⟩
        rw [HV.out]
        go_wp2
        go_ret
        rw [HR.out]
        exact ⟨rfl, hb.trans (hb2.mono hb.size)⟩
      · have HV := Lib.hid hv
        clear hv
        go_wp2_with fail
        refine (HC.out _).mono ?_
        rintro e w2 ⟨rfl, hb2⟩
        rw [HV.out]
        go_wp2
        go_roundw
        case rel => exact ⟨k + 1, by omega, by go_num, hb.trans (hb2.mono hb.size), Lib.hid (fun j h hj => by
          by_cases hjk : j < k
          · exact HA.out j h hjk
          · obtain rfl : j = k := by omega
            exact HV.out)⟩
        case measure => simp [intOf]; omega
    · have HG : Hid (gs.all verOk = true) := all_at (fun j h => HA.out j h (by omega))
      clear HA
      go_wp2
      obtain ⟨wo, rfl⟩ : ∃ wo : World, wo = wr := ⟨_, rfl⟩
      go_loopw [6] (fun i wr => ∃ k : Nat, k ≤ ws.length ∧ i = .int .i64 k ∧ Below w.heap.size w wr ∧ Hid (∀ j, (h : j < ws.length) → j < k → verOk ws[j] = true ∧ ws[j].number ≤ newestV gs ws[j].name)) (fun i _ => ws.length - (intOf i).toNat)
      case atStart => exact ⟨0, Nat.zero_le _, rfl, hb, Lib.hid (fun j _ hj => by omega)⟩
      case round =>
        clear hb
        obtain ⟨m, hm, rfl, hb, HA⟩ := hrel
        by_cases hlt' : m < ws.length
        · have HC := Lib.hid (fun w => specVerValid_any ws[m] w (HS1.out _ (List.getElem_mem hlt')))
          have HD := Lib.hid (HNw.out ws[m].name)
          obtain ⟨b, off, rfl, hbl, e0, e1⟩ := Ver.at_ (HR1.out _ hb) hlt'
          have k0 := cell_regrown e0
          have k1 := cell_regrown e1
          have i0 : (0 : Int) ≤ (m : Int) := Int.natCast_nonneg _
          have i1 : (m : Int) < (ws.length : Int) := by omega
          cases hv : verOk ws[m]
          · have HR : Hid (fitOk ws gs = false) := by
              unfold fitOk
              have : versOk ws = false := by unfold versOk; rw [all_not hlt' hv, Bool.and_false]
              rw [this]
              simp [Hid]
            have cC : ∀ d os, Calls Try.prog 10 #[ws[m].val] (Go.Sort.grow (redrawn wr d) os) fun e w'' => e = .returned (.bool false) ∧ ∃ p : Regrown, w'' = Go.Sort.grow (redrawn wr p.d) p.os := fun d os => Calls.regrown_of (by have h := HC.out (Go.Sort.grow (redrawn wr d) os); rw [hv] at h; exact h)
            clear hv
            simp only [Ver.val] at cC
            go_wp2
            refine wp_region_quiet_below (by kernel_rfl) (by kernel_rfl) ?_
            repeat (go_big_quiet_step (exact cC _ _))
            refine wpQuiet_nil ?_
            intro _ hw'
            obtain ⟨⟨dq, osq⟩, hw''⟩ := hw'
            subst hw''
            have hbn := below_regrown wr dq osq
            have HB := Lib.hid (hb.trans (hbn.mono hb.size))
            clear hbn cC k0 k1
            generalize Go.Sort.grow (redrawn wr dq) osq = w3 at *
            go_wp2
            go_ret
            rw [HR.out]
            exact ⟨rfl, HB.out⟩
          · have cC : ∀ d os, Calls Try.prog 10 #[ws[m].val] (Go.Sort.grow (redrawn wr d) os) fun e w'' => e = .returned (.bool true) ∧ ∃ p : Regrown, w'' = Go.Sort.grow (redrawn wr p.d) p.os := fun d os => Calls.regrown_of (by have h := HC.out (Go.Sort.grow (redrawn wr d) os); rw [hv] at h; exact h)
            have HV := Lib.hid hv
            have cD : ∀ d os, Calls Try.prog 16 #[.slice A2 gs.length c2, .string ws[m].name] (Go.Sort.grow (redrawn wr d) os) fun e w'' => e = .returned (.int .i64 (newestV gs ws[m].name)) ∧ ∃ p : Regrown, w'' = Go.Sort.grow (redrawn wr p.d) p.os := fun d os => Calls.regrown_of (HD.out _ (hb.trans ((below_regrown wr d os).mono hb.size)))
            clear hv
            simp only [Ver.val] at cC
            by_cases hn : newestV gs ws[m].name < ws[m].number
            · have HR : Hid (fitOk ws gs = false) := by
                unfold fitOk
                cases hg : versOk gs
                · simp [Hid]
                · have : newestV gs ws[m].name = newestOf gs ws[m].name := by unfold newestV; rw [hg, if_pos rfl]
                  rw [all_not (p := fun v : Ver => !decide (newestOf gs v.name < v.number)) hlt' (by rw [← this]; simp [hn])]
                  simp [Hid]
              have hd : decide (newestV gs ws[m].name < ws[m].number) = true := decide_eq_true hn
              clear hn
              go_wp2
              refine wp_region_quiet_below (by kernel_rfl) (by kernel_rfl) ?_
              repeat (go_big_quiet_step (first | exact cC _ _ | exact cD _ _))
              refine wpQuiet_nil ?_
              intro _ hw'
              obtain ⟨⟨dq, osq⟩, hw''⟩ := hw'
              subst hw''
              have hbn := below_regrown wr dq osq
              have HB := Lib.hid (hb.trans (hbn.mono hb.size))
              clear hbn cC cD k0 k1
              generalize Go.Sort.grow (redrawn wr dq) osq = w3 at *
              go_wp2
              go_ret
              rw [HR.out]
              exact ⟨rfl, HB.out⟩
            · have HN := Lib.hid (Int.not_lt.1 hn)
              have hd : decide (newestV gs ws[m].name < ws[m].number) = false := decide_eq_false hn
              clear hn
              go_wp2
              refine wp_region_quiet_below (by kernel_rfl) (by kernel_rfl) ?_
              repeat (go_big_quiet_step (first | exact cC _ _ | exact cD _ _))
              refine wpQuiet_nil ?_
              intro _ hw'
              obtain ⟨⟨dq, osq⟩, hw''⟩ := hw'
              subst hw''
              have hbn := below_regrown wr dq osq
              have HB := Lib.hid (hb.trans (hbn.mono hb.size))
              clear hbn cC cD k0 k1
              generalize Go.Sort.grow (redrawn wr dq) osq = w3 at *
              go_wp2
              go_roundw
              case rel => exact ⟨m + 1, by omega, by go_num, HB.out, Lib.hid (fun j h hj => by
                by_cases hjk : j < m
                · exact HA.out j h hjk
                · obtain rfl : j = m := by omega
                  exact ⟨HV.out, HN.out⟩)⟩
              case measure => simp [intOf]; omega
        · by_cases l1 : ws.length ≤ 40
          · by_cases l2 : gs.length ≤ 40
            · have HR : Hid (fitOk ws gs = true) := by
                have hg : versOk gs = true := by unfold versOk; rw [HG.out, decide_eq_true l2, Bool.and_true]
                have hw : versOk ws = true := by unfold versOk; rw [all_at (fun j h => (HA.out j h (by omega)).1), decide_eq_true l1, Bool.and_true]
                unfold fitOk
                rw [hg, hw, all_at (p := fun v : Ver => !decide (newestOf gs v.name < v.number)) (fun j h => by
                  have h2 := (HA.out j h (by omega)).2
                  have : newestV gs ws[j].name = newestOf gs ws[j].name := by unfold newestV; rw [hg, if_pos rfl]
                  rw [this] at h2
                  simpa using h2)]
                rfl
              go_wp2
              go_ret
              rw [HR.out]
              exact ⟨by simp; omega, hb⟩
            · have HR : Hid (fitOk ws gs = false) := by unfold fitOk versOk; rw [decide_eq_false l2]; simp [Hid]
              go_wp2
              go_ret
              rw [HR.out]
              exact ⟨by simp; omega, hb⟩
          · have HR : Hid (fitOk ws gs = false) := by unfold fitOk versOk; rw [decide_eq_false l1]; simp [Hid]
            go_wp2
            go_ret
            rw [HR.out]
            exact ⟨rfl, hb⟩
end Go.Proofs.Ytogdeekjfgbneaa
