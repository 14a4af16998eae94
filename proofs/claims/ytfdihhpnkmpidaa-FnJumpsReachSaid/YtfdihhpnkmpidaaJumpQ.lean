/- Contracts of l31Near and of the two JumpsReach. No condition but the sizes. -/
import Derived.Test.YtfdihhpnkmpidaaRows
import Derived.Test.YtfdihhpnkmpidaaBase
import Derived.Test.YtfdihhpnkmpidaaBase2
import Derived.Test.YtfdihhpnkmpidaaIn
import Derived.Test.YtfdihhpnkmpidaaIn2
import Derived.Test.YtfdihhpnkmpidaaFindI
import Derived.Test.YtfdihhpnkmpidaaJumpV
import Derived.Test.YtfdihhpnkmpidaaJumpS
import Derived.Test.YtfdihhpnkmpidaaJumpT
import Derived.Test.YtfdihhpnkmpidaaJumpP
import Derived.Test.YtfdihhpnkmpidaaJumpR
import Derived.WalkKit
import Derived.WalkSpells
import Derived.WalkLawsBesides
import Derived.Handy
import Derived.BigQuiet
import Derived.Deep.RegionHeld3
import Derived.Deep.DrawnRows
import Derived.Deep.QuietTactic
namespace Go.Proofs.Ytfdihhpnkmpidaa
open Go Go.RowKit

theorem l31Near_any {As : Option Addr} {cs B : Nat} (xs ys : List Int) (k : Nat) (t : Int) (w : World) (h : Reads w B 1 As (starts xs ys).length (nums .i64 (starts xs ys))) (hk : k < xs.length) (ht0 : 0 ≤ t) (ht1 : t ≤ xs.length) (hm : xs.length ≤ 8)
    (hx : valsOk xs = true) (hy : valsOk ys = true) (hl : ys.length = xs.length) :
    Calls Try.prog 39 #[.slice As (xs.length + 1) cs, .int .i64 k, .int .i64 t] w fun e w' => e = .returned (.bool (nearB xs ys k t)) ∧ ∃ n, w' = w.drewN n := by
  obtain ⟨bs, offs, rfl, hbs, hc1⟩ := reads_starts h (k := t.toNat) (by omega)
  obtain ⟨bs', offs', he, _, hc2⟩ := reads_starts h (k := k + 1) (by omega)
  injection he with he
  injection he with he1 he2
  subst he1 he2
  have hd1 := stAt_bd hx hy hl t.toNat (by omega)
  have hd2 := stAt_bd hx hy hl (k + 1) (by omega)
  have HNB : Hid (nearB xs ys k t = inB (stAt xs ys t.toNat - stAt xs ys (k + 1)) (-128) 127) := rfl
  clear hx hy hl h
  generalize stAt xs ys t.toNat = s1 at *
  generalize stAt xs ys (k + 1) = s2 at *
  have k0 : (0 : Int) ≤ (k : Int) := Int.natCast_nonneg _
  have k4 : t < ((xs.length + 1 : Nat) : Int) := by omega
  have k5 : (k : Int) + 1 < ((xs.length + 1 : Nat) : Int) := by omega
  have k6 : (0 : Int) ≤ (k : Int) + 1 := by omega
  have hd3 : s1 - s2 ≤ 2000000 ∧ -2000000 ≤ s1 - s2 := by omega
  have y1 : IntKind.i64.wrap ((k : Int) + 1) = (k : Int) + 1 := IntWalk.i64_in _ (by omega)
  have y2 : IntKind.i64.wrap (s1 - s2) = s1 - s2 := IntWalk.i64_in _ (by omega)
  have y3 : ((k : Int) + 1).toNat = k + 1 := by omega
  go_enter Try.func39, Try.ntmps39
  go_wp2
  go_quiet (fail)
  clear y1 y2 y3
  go_wp2_with fail
  refine (l1In_any _ _ _ _).mono ?_
  rintro e w' ⟨rfl, rfl⟩
  rw [← HNB.out]
  go_wp2
  go_ret
  exact ⟨rfl, _, rfl⟩

set_option maxHeartbeats 1000000 in
theorem jumpsReachC_any (n : Int) (w : World) : Calls Try.prog 40 #[.int .i64 n] w (Gives w (.bool (!decide (n = 2 ∨ n = 4)))) := by
  by_cases h2 : n = 2
  · subst h2
    go_enter Try.func40, Try.ntmps40
    go_wp2
    go_ret
    exact ⟨rfl, Below.refl _ _⟩
  · by_cases h4 : n = 4
    · subst h4
      go_enter Try.func40, Try.ntmps40
      go_wp2
      go_ret
      exact ⟨rfl, Below.refl _ _⟩
    · have h2' : (n != 2) = true := by simp [h2]
      have h4' : (n != 4) = true := by simp [h4]
      have HD : Hid (decide (n = 2 ∨ n = 4) = false) := decide_eq_false (by omega)
      clear h2 h4
      go_enter Try.func40, Try.ntmps40
      go_wp2
      go_ret
      rw [HD.out]
      exact ⟨rfl, Below.refl _ _⟩

set_option maxHeartbeats 4000000 in
theorem implJumpsReach_any {A1 A2 A3 : Option Addr} {c1 c2 c3 B1 B2 B3 : Nat} (xs ts ys : List Int) (w : World) (h1 : Reads w B1 1 A1 xs.length (nums .i64 xs)) (hB1 : B1 ≤ w.heap.size) (h2 : Reads w B2 1 A2 ts.length (nums .i64 ts)) (hB2 : B2 ≤ w.heap.size)
    (h3 : Reads w B3 1 A3 ys.length (nums .i64 ys)) (hB3 : B3 ≤ w.heap.size) (hm1 : xs.length ≤ maxLen) (hm2 : ts.length ≤ maxLen) (hm3 : ys.length ≤ maxLen) :
    Calls Try.prog 24 #[.slice A1 xs.length c1, .slice A2 ts.length c2, .slice A3 ys.length c3] w (Gives w (.bool (reachB xs ts ys))) := by
  have HV := Lib.hid (implJumpsValid_any (c1 := c1) (c2 := c2) xs ts w h1 hB1 h2 hB2 hm1 hm2)
  have HC := Lib.hid (fun w1 (hb : Below w.heap.size w w1) => containsFuncInt_any A3 c3 w.heap.size 40 #[] (fun n => !decide (n = 2 ∨ n = 4)) ys w1 ((h3.more hB3).below hb) hb.size hm3 (fun args w => by kernel_rfl) (fun x _ w' _ => by simpa using jumpsReachC_any x w'))
  have HA : Hid ((ys.any fun n => !decide (n = 2 ∨ n = 4)) = !wid24 ys) := by
    have := any_not (fun n : Int => decide (n = 2 ∨ n = 4)) ys
    unfold wid24
    rw [← this, Bool.not_not]
    exact rfl
  unfold maxLen at hm1 hm2 hm3
  cases hj : jumpsOk xs ts
  · have HJ := Lib.hid hj
    have HR : Hid (reachB xs ts ys = false) := by unfold reachB; rw [hj]; exact rfl
    clear hj
    go_enter Try.func24, Try.ntmps24
    go_wp2_with fail
    refine HV.out.mono ?_
    rintro e w1 ⟨rfl, hb1⟩
    rw [HJ.out]
    go_wp2
    go_ret
    rw [HR.out]
    exact ⟨rfl, hb1⟩
  · have HJ := Lib.hid hj
    obtain ⟨hm8, hlt, hvx, htr⟩ := jumpsOk_parts hj
    by_cases hl : ys.length = xs.length
    · have hl' : ((ys.length : Int) != xs.length) = false := by simp [hl]
      cases h24 : wid24 ys
      · have H24 := Lib.hid h24
        have HR : Hid (reachB xs ts ys = false) := by unfold reachB; rw [hj, h24]; simp [Hid]
        clear hj h24 hl hlt hvx htr
        go_enter Try.func24, Try.ntmps24
        go_wp2_with fail
        refine HV.out.mono ?_
        rintro e w1 ⟨rfl, hb1⟩
        rw [HJ.out]
        go_wp2_with fail
        refine (HC.out _ hb1).mono ?_
        rintro e w2 ⟨rfl, hb2⟩
        rw [HA.out, H24.out]
        go_wp2
        go_ret
        rw [HR.out]
        exact ⟨rfl, hb1.trans (hb2.mono hb1.size)⟩
      · have H24 := Lib.hid h24
        have HTF := Lib.hid (fun w1 (hb : Below w.heap.size w w1) => tooFar_any (c1 := c1) (c2 := c2) (c3 := c3) xs ts ys w1 ((h1.more hB1).below hb) hb.size ((h2.more hB2).below hb) hb.size ((h3.more hB3).below hb) hb.size hvx (wid24_vals h24) hl hlt hm8 htr)
        have HR : Hid (reachB xs ts ys = decide (farL xs ts ys ts.length = [])) := by
          unfold reachB
          rw [hj, h24, decide_eq_true hl, hlt]
          exact rfl
        clear hj h24 hl hlt hvx htr
        by_cases hf : farL xs ts ys ts.length = []
        · have HF := Lib.hid hf
          clear hf
          go_enter Try.func24, Try.ntmps24
          go_wp2_with fail
          refine HV.out.mono ?_
          rintro e w1 ⟨rfl, hb1⟩
          rw [HJ.out]
          go_wp2_with fail
          refine (HC.out _ hb1).mono ?_
          rintro e w2 ⟨rfl, hb2⟩
          rw [HA.out, H24.out]
          have hb3 := hb1.trans (hb2.mono hb1.size)
          go_wp2_with fail
          refine (HTF.out _ hb3).mono ?_
          rw [HF.out]
          rintro e w3 ⟨A, c, rfl, _, hb4⟩
          go_wp2
          go_ret
          rw [HR.out, HF.out]
          exact ⟨rfl, hb3.trans (hb4.mono hb3.size)⟩
        · have hf1 : 1 ≤ (farL xs ts ys ts.length).length := by
            rcases Nat.eq_zero_or_pos (farL xs ts ys ts.length).length with h0 | h0
            · exact absurd (List.eq_nil_of_length_eq_zero h0) hf
            · exact h0
          have hf2 : (((farL xs ts ys ts.length).length : Int) == 0) = false := by simp; omega
          have HF : Hid (decide (farL xs ts ys ts.length = []) = false) := decide_eq_false hf
          clear hf
          go_enter Try.func24, Try.ntmps24
          go_wp2_with fail
          refine HV.out.mono ?_
          rintro e w1 ⟨rfl, hb1⟩
          rw [HJ.out]
          go_wp2_with fail
          refine (HC.out _ hb1).mono ?_
          rintro e w2 ⟨rfl, hb2⟩
          rw [HA.out, H24.out]
          have hb3 := hb1.trans (hb2.mono hb1.size)
          go_wp2_with fail
          refine (HTF.out _ hb3).mono ?_
          rintro e w3 ⟨A, c, rfl, _, hb4⟩
          go_wp2
          go_ret
          rw [HR.out, HF.out]
          exact ⟨rfl, hb3.trans (hb4.mono hb3.size)⟩
    · have hl' : ((ys.length : Int) != xs.length) = true := by simp [bne_iff_ne]; omega
      have HR : Hid (reachB xs ts ys = false) := by unfold reachB; rw [decide_eq_false hl]; simp [Hid]
      clear hj hl hlt hvx htr
      go_enter Try.func24, Try.ntmps24
      go_wp2_with fail
      refine HV.out.mono ?_
      rintro e w1 ⟨rfl, hb1⟩
      rw [HJ.out]
      go_wp2
      go_ret
      rw [HR.out]
      exact ⟨rfl, hb1⟩

set_option maxHeartbeats 4000000 in
theorem specJumpsReach_any {A1 A2 A3 : Option Addr} {c1 c2 c3 B1 B2 B3 : Nat} (xs ts ys : List Int) (w : World) (h1 : Reads w B1 1 A1 xs.length (nums .i64 xs)) (hB1 : B1 ≤ w.heap.size) (h2 : Reads w B2 1 A2 ts.length (nums .i64 ts)) (hB2 : B2 ≤ w.heap.size)
    (h3 : Reads w B3 1 A3 ys.length (nums .i64 ys)) (hB3 : B3 ≤ w.heap.size) (hm1 : xs.length ≤ maxLen) (hm2 : ts.length ≤ maxLen) (hm3 : ys.length ≤ maxLen) :
    Calls Try.prog 23 #[.slice A1 xs.length c1, .slice A2 ts.length c2, .slice A3 ys.length c3] w (Gives w (.bool (reachB xs ts ys))) := by
  have HV := Lib.hid (specJumpsValid_any (c1 := c1) (c2 := c2) xs ts w h1 h2 hm1 hm2)
  have HC := Lib.hid (fun w1 (hb : Below w.heap.size w w1) => specJumpStarts_any (c1 := c1) (c2 := c3) xs ys w1 ((h1.more hB1).below hb) hb.size ((h3.more hB3).below hb) hb.size hm1 hm3)
  unfold maxLen at hm1 hm2 hm3
  cases hj : jumpsOk xs ts
  · have HJ := Lib.hid hj
    have HR : Hid (reachB xs ts ys = false) := by unfold reachB; rw [hj]; exact rfl
    clear hj
    go_enter Try.func23, Try.ntmps23
    go_wp2_with fail
    refine HV.out.mono ?_
    rintro e w1 ⟨rfl, hb1⟩
    rw [HJ.out]
    go_wp2
    go_ret
    rw [HR.out]
    exact ⟨rfl, hb1⟩
  · have HJ := Lib.hid hj
    obtain ⟨hm8, hlt, hvx, htr⟩ := jumpsOk_parts hj
    by_cases hl : ys.length = xs.length
    · have hl' : ((ys.length : Int) != xs.length) = false := by simp [hl]
      cases hvy : valsOk ys
      · have HJS : Hid (jst xs ys = []) := jst_no (by rw [hvy]; simp)
        have HR : Hid (reachB xs ts ys = false) := by
          unfold reachB
          cases h24 : wid24 ys
          · simp [Hid]
          · rw [wid24_vals h24] at hvy; cases hvy
        clear hj hvy hl hlt hvx htr
        go_enter Try.func23, Try.ntmps23
        go_wp2_with fail
        refine HV.out.mono ?_
        rintro e w1 ⟨rfl, hb1⟩
        rw [HJ.out]
        go_wp2_with fail
        refine (HC.out _ hb1).mono ?_
        rw [HJS.out]
        rintro e w2 ⟨A, c, rfl, _, hb2⟩
        go_wp2
        go_ret
        rw [HR.out]
        exact ⟨rfl, hb1.trans (hb2.mono hb1.size)⟩
      · have HJS : Hid (jst xs ys = starts xs ys) := jst_yes hl hm8 hvx hvy
        have HSL := Lib.hid (starts_len xs ys)
        have HVX := Lib.hid hvx
        have HVY := Lib.hid hvy
        have HL := Lib.hid hl
        have HLT := Lib.hid hlt
        have HT := Lib.hid htr
        have HR : Hid (reachB xs ts ys = (wid24 ys && decide (farL xs ts ys xs.length = []))) := by
          unfold reachB
          rw [hj, decide_eq_true hl]
          exact rfl
        clear hj hvy hl hlt hvx htr
        go_enter Try.func23, Try.ntmps23
        go_wp2_with fail
        refine HV.out.mono ?_
        rintro e w1 ⟨rfl, hb1⟩
        rw [HJ.out]
        go_wp2_with fail
        refine (HC.out _ hb1).mono ?_
        rw [HJS.out, HSL.out]
        rintro e w2 ⟨As, cs, rfl, os, hb2⟩
        have hb3 := hb1.trans (hb2.mono hb1.size)
        have hz : ((xs.length : Int) + 1 == 0) = false := by simp; omega
        have HRS : Hid (Reads w2 w2.heap.size 1 As (starts xs ys).length (nums .i64 (starts xs ys))) := by rw [HSL.out]; exact Reads.of_own os
        clear os hb1 hb2
        go_wp2
        clear hz
        go_loopw [8] (fun i wr => ∃ k : Nat, k ≤ ys.length ∧ i = .int .i64 k ∧ Hid (∀ j, (h : j < ys.length) → j < k → decide (ys[j] = 2 ∨ ys[j] = 4) = true ∧ farAt xs ts ys j = false) ∧ ∃ d, wr = w2.drewN d) (fun i _ => ys.length - (intOf i).toNat)
        case atStart => exact ⟨0, Nat.zero_le _, rfl, Lib.hid (fun j _ hj => by omega), 0, rfl⟩
        case round =>
          obtain ⟨k, hk, rfl, HA, d, rfl⟩ := hrel
          by_cases hlt : k < ys.length
          · have hltx : k < xs.length := by rw [← HL.out]; exact hlt
            have hltt : k < ts.length := by rw [HLT.out]; exact hltx
            have htk := HT.out k hltt
            have e1 := getD_eq hltt
            have e2 := getD_eq hlt
            obtain ⟨a2, u2, rfl, hbl2, hx2, hc2⟩ := ((h2.more hB2).below hb3).at_ hltt
            obtain ⟨a3, u3, rfl, hbl3, hx3, hc3⟩ := ((h3.more hB3).below hb3).at_ hlt
            rw [nums_get _ _ hltt] at hx2
            rw [nums_get _ _ hlt] at hx3
            injection hx2 with hx2
            injection hx3 with hx3
            subst hx2 hx3
            have HF : Hid (farAt xs ts ys k = (decide (ys[k] = 2) && !nearB xs ys k ts[k])) := by
              unfold farAt
              rw [e1, e2]
              exact rfl
            have HNR := Lib.hid (fun w' h => l31Near_any (As := As) (cs := cs) (B := w2.heap.size) xs ys k ts[k] w' h hltx htk.1 htk.2 hm8 HVX.out HVY.out HL.out)
            have HNO : Hid (decide (ys[k] = 2 ∨ ys[k] = 4) = false → reachB xs ts ys = false) := fun h => by
              rw [HR.out]
              unfold wid24
              rw [all_not (p := fun n : Int => decide (n = 2 ∨ n = 4)) hlt h]
              rfl
            have HNO2 : Hid (farAt xs ts ys k = true → reachB xs ts ys = false) := fun h => by
              rw [HR.out]
              have : decide (farL xs ts ys xs.length = []) = false := decide_eq_false (fun h0 => by
                have := farL_nil.1 h0 k hltx
                rw [h] at this
                cases this)
              rw [this, Bool.and_false]
            clear e1 e2 htk
            have HEY : Hid (∀ j, (h : j < ys.length) → j < k + 1 → (decide (ys[k] = 2 ∨ ys[k] = 4) = true ∧ farAt xs ts ys k = false) → decide (ys[j] = 2 ∨ ys[j] = 4) = true ∧ farAt xs ts ys j = false) := fun j h hj hh => by
              by_cases hjk : j < k
              · exact HA.out j h hjk
              · obtain rfl : j = k := by omega
                exact hh
            generalize ys[k] = y at *
            generalize ts[k] = t at *
            by_cases hy2 : y = 2
            · subst hy2
              cases hn : nearB xs ys k t
              · have HN := Lib.hid hn
                clear hn
                go_wp2_with fail
                refine (HNR.out _ (HRS.out.drewN _)).mono ?_
                rintro e w' ⟨rfl, d2, rfl⟩
                rw [HN.out]
                go_wp2
                go_ret
                rw [HNO2.out (by rw [HF.out, HN.out]; rfl)]
                exact ⟨rfl, by repeat (first | exact hb3 | apply below_drewN)⟩
              · have HN := Lib.hid hn
                clear hn
                go_wp2_with fail
                refine (HNR.out _ (HRS.out.drewN _)).mono ?_
                rintro e w' ⟨rfl, d2, rfl⟩
                rw [HN.out]
                go_wp2
                go_roundw
                case rel => exact ⟨k + 1, by omega, by go_num, Lib.hid (fun j h hj => HEY.out j h hj ⟨rfl, by rw [HF.out, HN.out]; rfl⟩), _, rfl⟩
                case measure => simp [intOf]; omega
            · by_cases hy4 : y = 4
              · subst hy4
                clear hy2
                go_wp2
                go_roundw
                case rel => exact ⟨k + 1, by omega, by go_num, Lib.hid (fun j h hj => HEY.out j h hj ⟨rfl, by rw [HF.out]; rfl⟩), _, rfl⟩
                case measure => simp [intOf]; omega
              · have hy2' : (y != 2) = true := by simp [hy2]
                have hy4' : (y != 4) = true := by simp [hy4]
                have HO : Hid (reachB xs ts ys = false) := HNO.out (decide_eq_false (by omega))
                clear hy2 hy4
                go_wp2
                go_ret
                rw [HO.out]
                exact ⟨rfl, by repeat (first | exact hb3 | apply below_drewN)⟩
          · obtain rfl : k = ys.length := by omega
            have HO : Hid (reachB xs ts ys = true) := by
              rw [HR.out]
              have h1 : wid24 ys = true := all_at (p := fun n : Int => decide (n = 2 ∨ n = 4)) (fun j h => (HA.out j h h).1)
              have h2 : farL xs ts ys xs.length = [] := farL_nil.2 (fun j hj => (HA.out j (by rw [HL.out]; exact hj) (by rw [HL.out]; exact hj)).2)
              rw [h1, h2]
              exact rfl
            go_wp2
            go_ret
            rw [HO.out]
            exact ⟨rfl, by repeat (first | exact hb3 | apply below_drewN)⟩
    · have hl' : ((ys.length : Int) != xs.length) = true := by simp [bne_iff_ne]; omega
      have HR : Hid (reachB xs ts ys = false) := by unfold reachB; rw [decide_eq_false hl]; simp [Hid]
      clear hj hl hlt hvx htr
      go_enter Try.func23, Try.ntmps23
      go_wp2_with fail
      refine HV.out.mono ?_
      rintro e w1 ⟨rfl, hb1⟩
      rw [HJ.out]
      go_wp2
      go_ret
      rw [HR.out]
      exact ⟨rfl, hb1⟩
end Go.Proofs.Ytfdihhpnkmpidaa
