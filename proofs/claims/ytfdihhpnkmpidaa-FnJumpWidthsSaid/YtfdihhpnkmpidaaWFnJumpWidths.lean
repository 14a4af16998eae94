/- The walk of FnJumpWidths. No condition. -/
import Derived.Test.YtfdihhpnkmpidaaRows
import Derived.Test.YtfdihhpnkmpidaaBase
import Derived.Test.YtfdihhpnkmpidaaBase2
import Derived.Test.YtfdihhpnkmpidaaBase3
import Derived.Test.YtfdihhpnkmpidaaIn
import Derived.Test.YtfdihhpnkmpidaaIn2
import Derived.Test.YtfdihhpnkmpidaaFindI
import Derived.Test.YtfdihhpnkmpidaaJumpV
import Derived.Test.YtfdihhpnkmpidaaJumpS
import Derived.Test.YtfdihhpnkmpidaaJumpT
import Derived.Test.YtfdihhpnkmpidaaJumpP
import Derived.Test.YtfdihhpnkmpidaaJumpR
import Derived.Test.YtfdihhpnkmpidaaJumpQ
import Derived.Test.YtfdihhpnkmpidaaRepI
import Derived.Test.YtfdihhpnkmpidaaJumpW
import Derived.Test.YtfdihhpnkmpidaaSameI
import Derived.Test.YtfdihhpnkmpidaaAlive
import Derived.Test.YtfdihhpnkmpidaaPick
import Derived.Test.YtfdihhpnkmpidaaPick2
import Derived.Test.YtfdihhpnkmpidaaOpenC
import Derived.Test.YtfdihhpnkmpidaaDrawJ
import Derived.Test.YtfdihhpnkmpidaaDrawJ2
import Derived.WalkKit
import Derived.WalkSpells
import Derived.WalkLawsBesides
import Derived.Handy
import Derived.BigQuiet
import Derived.Deep.RegionHeld3
import Derived.Deep.DrawnRows
import Derived.Deep.QuietTactic
namespace Go.Proofs.Ytfdihhpnkmpidaa
open Go Go.RowKit


set_option maxRecDepth 100000 in
set_option maxHeartbeats 8000000 in
theorem FnJumpWidths_walk (W : World) (v0 : Value) (a0 : ArgCode W v0) : Calls Try.prog 10 #[v0] W (Gives W (.bool true)) := by
  obtain ⟨A, c, cs, rfl, hr, hc1, hc2, hcb⟩ := a0
  by_cases hl : cs.length ≤ 1048576
  · have HD := Lib.hid (DrawJumpWidths_any cs W hr hcb hl hc1 hc2)
    clear hcb hr
    unfold maxLen at hc2
    go_enter Try.func10, Try.ntmps10
    go_wp2_with fail
    refine HD.out.mono ?_
    rintro e w1 ⟨A1, c1, xs, A2, c2, ts, rfl, oa, ob, hap, ⟨hl1, hl2⟩, _, b1⟩
    have hr := jwd_len xs ts
    have HA := Lib.hid oa
    have HB := Lib.hid ob
    have HG1 := Lib.hid b1
    have HAP := Lib.hid hap
    have zz1 := b1.size
    clear oa ob b1 hap HD
    go_wp2_with fail
    refine (implJumpWidths_any xs ts _ (Reads.of_own HA.out) (Nat.le_refl _) (Reads.of_own HB.out) (Nat.le_refl _) (by unfold maxLen; omega) (by unfold maxLen; omega)).mono ?_
    rintro e w2 ⟨Ax, cx, rfl, o2, s2⟩
    have PxA := Lib.hid (apart_new HA.out (fun a h => (own_up o2 a h).1))
    have PxB := Lib.hid (apart_new HB.out (fun a h => (own_up o2 a h).1))
    have Hx := Lib.hid (own_base o2 HG1.out.size)
    replace HA := Lib.hid (own_below HA.out s2)
    replace HB := Lib.hid (own_below HB.out s2)
    have HG2 := Lib.hid (HG1.out.trans (s2.mono HG1.out.size))
    have zz2 := HG2.out.size
    clear HG1
    clear s2 o2
    go_wp2_with fail
    refine (specJumpWidths_any xs ts _ (Reads.of_own HA.out) (Nat.le_refl _) (Reads.of_own HB.out) (Nat.le_refl _) (by unfold maxLen; omega) (by unfold maxLen; omega)).mono ?_
    rintro e w3 ⟨Ay, cy, rfl, o3, s3⟩
    have PyA := Lib.hid (apart_new HA.out (fun a h => (own_up o3 a h).1))
    have PyB := Lib.hid (apart_new HB.out (fun a h => (own_up o3 a h).1))
    have Pyx := Lib.hid (apart_new Hx.out (fun a h => (own_up o3 a h).1))
    have Hy := Lib.hid (own_base o3 HG2.out.size)
    replace HA := Lib.hid (own_below HA.out s3)
    replace HB := Lib.hid (own_below HB.out s3)
    replace Hx := Lib.hid (own_below Hx.out s3)
    have HG3 := Lib.hid (HG2.out.trans (s3.mono HG2.out.size))
    have zz3 := HG3.out.size
    clear HG2
    clear s3 o3
    go_wp2_with fail
    refine (sameInts_any _ _ _ _ _ _ (jwd xs ts) (jwd xs ts) _ (Reads.of_own Hx.out) (Reads.of_own Hy.out) (by omega) (by omega)).mono ?_
    rintro e w4 ⟨rfl, s4⟩
    replace HA := Lib.hid (own_below HA.out s4)
    replace HB := Lib.hid (own_below HB.out s4)
    replace Hx := Lib.hid (own_below Hx.out s4)
    replace Hy := Lib.hid (own_below Hy.out s4)
    have HG4 := Lib.hid (HG3.out.trans (s4.mono HG3.out.size))
    have zz4 := HG4.out.size
    clear HG3
    clear s4
    rw [decide_eq_true rfl]
    clear Hy PyA PyB Pyx
    go_wp2_with fail
    refine (implJumpsValid_any xs ts _ (Reads.of_own HA.out) (Nat.le_refl _) (Reads.of_own HB.out) (Nat.le_refl _) (by unfold maxLen; omega) (by unfold maxLen; omega)).mono ?_
    rintro e w5 ⟨rfl, s5⟩
    replace HA := Lib.hid (own_below HA.out s5)
    replace HB := Lib.hid (own_below HB.out s5)
    replace Hx := Lib.hid (own_below Hx.out s5)
    have HG5 := Lib.hid (HG4.out.trans (s5.mono HG4.out.size))
    have zz5 := HG5.out.size
    clear HG4
    clear s5
    cases hj : jumpsOk xs ts
    · skip
      have HJ := Lib.hid hj
      have HW : Hid (jwd xs ts = []) := by unfold jwd; rw [hj]; exact rfl
      clear hj
      rw [HW.out]
      go_wp2_with fail
      refine (alive_any _).mono ?_
      rintro e w' ⟨rfl, rfl⟩
      go_wp2
      go_ret
      exact ⟨rfl, HG5.out⟩
    · skip
      have HW : Hid (jwd xs ts = fixW xs ts) := by unfold jwd; rw [hj]; exact rfl
      have HRF := Lib.hid (reach_fix hj)
      have HLN := Lib.hid (fixW_len xs ts)
      clear hj
      rw [HW.out] at Hx hr ⊢
      go_wp2_with fail
      refine (implJumpsReach_any xs ts (fixW xs ts) _ (Reads.of_own HA.out) (Nat.le_refl _) (Reads.of_own HB.out) (Nat.le_refl _) (Reads.of_own Hx.out) (Nat.le_refl _) (by unfold maxLen; omega) (by unfold maxLen; omega) (by unfold maxLen; omega)).mono ?_
      rintro e w6 ⟨rfl, s6⟩
      replace HA := Lib.hid (own_below HA.out s6)
      replace HB := Lib.hid (own_below HB.out s6)
      replace Hx := Lib.hid (own_below Hx.out s6)
      have HG6 := Lib.hid (HG5.out.trans (s6.mono HG5.out.size))
      have zz6 := HG6.out.size
      clear HG5
      clear s6
      rw [HRF.out]
      go_wp2
      go_ret
      exact ⟨rfl, HG6.out⟩
  · go_enter Try.func10, Try.ntmps10
    go_wp2
    go_ret
    exact ⟨rfl, Below.refl _ _⟩
end Go.Proofs.Ytfdihhpnkmpidaa
