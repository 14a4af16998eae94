/- The walk of FnJumpsReach. No condition. -/
import Derived.Test.YtfdihhpnkmpidaaRows
import Derived.Test.YtfdihhpnkmpidaaBase
import Derived.Test.YtfdihhpnkmpidaaBase2
import Derived.Test.YtfdihhpnkmpidaaBase3
import Derived.Test.YtfdihhpnkmpidaaIn
import Derived.Test.YtfdihhpnkmpidaaIn2
import Derived.Test.YtfdihhpnkmpidaaFindI
import Derived.Test.YtfdihhpnkmpidaaJumpV
import Derived.Test.YtfdihhpnkmpidaaJumpS
import Derived.Test.YtfdihhpnkmpidaaJumpT
import Derived.Test.YtfdihhpnkmpidaaJumpP
import Derived.Test.YtfdihhpnkmpidaaJumpM
import Derived.Test.YtfdihhpnkmpidaaJumpR
import Derived.Test.YtfdihhpnkmpidaaJumpQ
import Derived.Test.YtfdihhpnkmpidaaRepI
import Derived.Test.YtfdihhpnkmpidaaJumpW
import Derived.Test.YtfdihhpnkmpidaaSameI
import Derived.Test.YtfdihhpnkmpidaaAlive
import Derived.Test.YtfdihhpnkmpidaaPick
import Derived.Test.YtfdihhpnkmpidaaPick2
import Derived.Test.YtfdihhpnkmpidaaOpenC
import Derived.Test.YtfdihhpnkmpidaaDrawJ
import Derived.Test.YtfdihhpnkmpidaaDrawJ4
import Derived.WalkKit
import Derived.WalkSpells
import Derived.WalkLawsBesides
import Derived.Handy
import Derived.BigQuiet
import Derived.Deep.RegionHeld3
import Derived.Deep.DrawnRows
import Derived.Deep.QuietTactic
namespace Go.Proofs.Ytfdihhpnkmpidaa
open Go Go.RowKit


set_option maxRecDepth 100000 in
set_option maxHeartbeats 8000000 in
theorem FnJumpsReach_walk (W : World) (v0 : Value) (a0 : ArgCode W v0) : Calls Try.prog 8 #[v0] W (Gives W (.bool true)) := by
  obtain ⟨A, c, cs, rfl, hr, hc1, hc2, hcb⟩ := a0
  by_cases hl : cs.length ≤ 1048576
  · have HD := Lib.hid (DrawJumpsReach_any cs W hr hcb hl hc1 hc2)
    clear hcb hr
    unfold maxLen at hc2
    go_enter Try.func8, Try.ntmps8
    go_wp2_with fail
    refine HD.out.mono ?_
    rintro e w1 ⟨A1, c1, xs, A2, c2, ts, A3, c3, ys, rfl, oa, ob, oc, ⟨hl1, hl2⟩, hl3, b1⟩
    have HA := Lib.hid oa
    have HB := Lib.hid ob
    have HC := Lib.hid oc
    have HG1 := Lib.hid b1
    have zz1 := b1.size
    clear oa ob oc b1 HD
    go_wp2_with fail
    refine (implJumpsReach_any xs ts ys _ (Reads.of_own HA.out) (Nat.le_refl _) (Reads.of_own HB.out) (Nat.le_refl _) (Reads.of_own HC.out) (Nat.le_refl _) (by unfold maxLen; omega) (by unfold maxLen; omega) (by unfold maxLen; omega)).mono ?_
    rintro e w2 ⟨rfl, s2⟩
    replace HA := Lib.hid (own_below HA.out s2)
    replace HB := Lib.hid (own_below HB.out s2)
    replace HC := Lib.hid (own_below HC.out s2)
    have HG2 := Lib.hid (HG1.out.trans (s2.mono HG1.out.size))
    have zz2 := HG2.out.size
    clear HG1
    clear s2
    go_wp2_with fail
    refine (specJumpsReach_any xs ts ys _ (Reads.of_own HA.out) (Nat.le_refl _) (Reads.of_own HB.out) (Nat.le_refl _) (Reads.of_own HC.out) (Nat.le_refl _) (by unfold maxLen; omega) (by unfold maxLen; omega) (by unfold maxLen; omega)).mono ?_
    rintro e w3 ⟨rfl, s3⟩
    replace HA := Lib.hid (own_below HA.out s3)
    replace HB := Lib.hid (own_below HB.out s3)
    replace HC := Lib.hid (own_below HC.out s3)
    have HG3 := Lib.hid (HG2.out.trans (s3.mono HG2.out.size))
    have zz3 := HG3.out.size
    clear HG2
    clear s3
    cases hj : reachB xs ts ys
    · skip
      clear hj
      go_wp2_with fail
      refine (alive_any _).mono ?_
      rintro e w' ⟨rfl, rfl⟩
      go_wp2
      go_ret
      exact ⟨rfl, HG3.out⟩
    · skip
      obtain ⟨hjv, hyl, _, _⟩ := reach_parts hj
      have HLE := Lib.hid (least_le hj)
      have HW : Hid (jwd xs ts = fixW xs ts) := by unfold jwd; rw [hjv]; exact rfl
      have HLN := Lib.hid (fixW_len xs ts)
      have HYL := Lib.hid hyl
      clear hj hjv hyl
      go_wp2_with fail
      refine (implJumpWidths_any xs ts _ (Reads.of_own HA.out) (Nat.le_refl _) (Reads.of_own HB.out) (Nat.le_refl _) (by unfold maxLen; omega) (by unfold maxLen; omega)).mono ?_
      rintro e w4 ⟨Ax, cx, rfl, o4, s4⟩
      have PxA := Lib.hid (apart_new HA.out (fun a h => (own_up o4 a h).1))
      have PxB := Lib.hid (apart_new HB.out (fun a h => (own_up o4 a h).1))
      have PxC := Lib.hid (apart_new HC.out (fun a h => (own_up o4 a h).1))
      have Hx := Lib.hid (own_base o4 HG3.out.size)
      replace HA := Lib.hid (own_below HA.out s4)
      replace HB := Lib.hid (own_below HB.out s4)
      replace HC := Lib.hid (own_below HC.out s4)
      have HG4 := Lib.hid (HG3.out.trans (s4.mono HG3.out.size))
      have zz4 := HG4.out.size
      clear HG3
      clear s4 o4
      rw [HW.out] at Hx ⊢
      rw [HLN.out] at Hx ⊢
      obtain ⟨wo, hwo⟩ : ∃ wo, wo = w4 := ⟨_, rfl⟩
      rw [← hwo] at Hx HC HG4 ⊢
      have HRX : Hid (Reads wo wo.heap.size 1 Ax (fixW xs ts).length (nums .i64 (fixW xs ts))) := by rw [HLN.out]; exact Reads.of_own Hx.out
      clear hwo
      have HYL2 := HYL.out
      have hyn : ys.length ≤ xs.length := by omega
      have hyn2 : xs.length ≤ ys.length := by omega
      clear HYL2
      go_wp2
      go_loopw [8] (fun i wr => ∃ k : Nat, k ≤ xs.length ∧ i = .int .i64 k ∧ ∃ d, wr = wo.drewN d) (fun i _ => xs.length - (intOf i).toNat)
      case atStart => exact ⟨0, Nat.zero_le _, rfl, 0, rfl⟩
      case round =>
        obtain ⟨k, hk, rfl, d, rfl⟩ := hrel
        by_cases hlt : k < xs.length
        · have hlt1 : k < (fixW xs ts).length := by rw [HLN.out]; exact hlt
          have hlt2 : k < ys.length := by omega
          obtain ⟨a1, u1, rfl, hbl1, hx1, hcx⟩ := HRX.out.at_ hlt1
          obtain ⟨a2, u2, rfl, hbl2, hx2, hcy⟩ := (Reads.of_own HC.out).at_ hlt2
          rw [nums_get _ _ hlt1] at hx1
          rw [nums_get _ _ hlt2] at hx2
          injection hx1 with hx1
          injection hx2 with hx2
          subst hx1 hx2
          have hle := HLE.out.2 k hlt1 hlt2
          generalize (fixW xs ts)[k] = p at *
          generalize ys[k] = q at *
          have k0 : (0 : Int) ≤ (k : Int) := Int.natCast_nonneg _
          have k1 : (k : Int) < (xs.length : Int) := by omega
          have k2 : (k : Int) < (ys.length : Int) := by omega
          have g1 : decide ((k : Int) ≥ (ys.length : Int)) = false := by simp; omega
          have g2 : decide (p > q) = false := by simp; omega
          go_wp2
          go_quiet (fail)
          clear g1 g2
          go_wp2
          go_roundw
          case rel => exact ⟨k + 1, by omega, by go_num, _, rfl⟩
          case measure => simp [intOf]; omega
        · obtain rfl : k = xs.length := by omega
          have g3 : ((xs.length : Int) == (ys.length : Int)) = true := by simp; omega
          go_wp2
          go_ret
          exact ⟨rfl, below_drewN HG4.out _⟩
  · go_enter Try.func8, Try.ntmps8
    go_wp2
    go_ret
    exact ⟨rfl, Below.refl _ _⟩
end Go.Proofs.Ytfdihhpnkmpidaa
