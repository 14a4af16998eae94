/- The walk of FnSqueezeBytes. No condition. -/
import Derived.Test.YteceiaaiocdlfaaRows
import Derived.Test.YteceiaaiocdlfaaBase
import Derived.Test.YteceiaaiocdlfaaBase2
import Derived.Test.YteceiaaiocdlfaaBase3
import Derived.Test.YteceiaaiocdlfaaIn
import Derived.Test.YteceiaaiocdlfaaSqz
import Derived.Test.YteceiaaiocdlfaaRepB
import Derived.Test.YteceiaaiocdlfaaFill
import Derived.Test.YteceiaaiocdlfaaLooP
import Derived.Test.YteceiaaiocdlfaaLoo
import Derived.Test.YteceiaaiocdlfaaLooQ
import Derived.Test.YteceiaaiocdlfaaAlive
import Derived.Test.YteceiaaiocdlfaaSameB
import Derived.Test.YteceiaaiocdlfaaPick
import Derived.Test.YteceiaaiocdlfaaPick2
import Derived.Test.YteceiaaiocdlfaaOpenC
import Derived.Test.YteceiaaiocdlfaaDrawLo
import Derived.Test.YteceiaaiocdlfaaBent
import Derived.Test.YteceiaaiocdlfaaDrawLp
import Derived.WalkKit
import Derived.WalkSpells
import Derived.WalkLawsBesides
import Derived.Handy
import Derived.BigQuiet
import Derived.Deep.RegionHeld3
import Derived.Deep.DrawnRows
import Derived.Deep.QuietTactic
namespace Go.Proofs.Yteceiaaiocdlfaa
open Go Go.RowKit

set_option maxRecDepth 100000 in
set_option maxHeartbeats 8000000 in
theorem FnSqueezeBytes_walk (W : World) (v0 : Value) (a0 : ArgCode W v0) : Calls Try.prog 10 #[v0] W (Gives W (.bool true)) := by
  obtain ⟨A, c, cs, rfl, hr, hc1, hc2, hcb⟩ := a0
  obtain ⟨i0, hi0, hz0, hz1, hz2⟩ := info_parts byte_info
  by_cases hl : cs.length ≤ 1048576
  · have HD := Lib.hid (DrawSqueezeBytes_any cs W hr hcb hl hc1 hc2)
    clear hcb hr
    unfold maxLen at hc2
    go_enter Try.func10, Try.ntmps10
    go_wp2_with fail
    refine HD.out.mono ?_
    rintro e w1 ⟨A1, c1, bs, rfl, o1, hlb, hq, b1⟩
    have HQ := Lib.hid hq
    have HA := Lib.hid o1
    have HG1 := Lib.hid b1
    have zz1 := b1.size
    clear o1 b1 hq HD
    have hsl := squeeze_len bs
    go_wp2_with fail
    refine (implSqueeze_any bs _ (Reads.of_own HA.out) (Nat.le_refl _) (by unfold maxLen; omega)).mono ?_
    rintro e w2 ⟨Ax, cx, rfl, o2, s2⟩
    have PxA := Lib.hid (apart_new HA.out (fun a h => (own_up o2 a h).1))
    have Hx := Lib.hid (own_base o2 HG1.out.size)
    replace HA := Lib.hid (own_below HA.out s2)
    have HG2 := Lib.hid (HG1.out.trans (s2.mono HG1.out.size))
    have zz2 := HG2.out.size
    clear HG1
    clear s2 o2
    go_wp2_with fail
    refine (specSqueeze_any bs _ (Reads.of_own HA.out) (Nat.le_refl _) (by unfold maxLen; omega)).mono ?_
    rintro e w3 ⟨Ay, cy, rfl, o3, s3⟩
    have PyA := Lib.hid (apart_new HA.out (fun a h => (own_up o3 a h).1))
    have Pyx := Lib.hid (apart_new Hx.out (fun a h => (own_up o3 a h).1))
    have Hy := Lib.hid (own_base o3 HG2.out.size)
    replace HA := Lib.hid (own_below HA.out s3)
    replace Hx := Lib.hid (own_below Hx.out s3)
    have HG3 := Lib.hid (HG2.out.trans (s3.mono HG2.out.size))
    have zz3 := HG3.out.size
    clear HG2
    clear s3 o3
    go_wp2_with fail
    refine (sameBytes_any _ _ _ _ _ _ (squeeze bs) (squeeze bs) _ (Reads.of_own Hx.out) (Reads.of_own Hy.out) (by omega) (by omega)).mono ?_
    rintro e w4 ⟨rfl, s4⟩
    replace HA := Lib.hid (own_below HA.out s4)
    replace Hx := Lib.hid (own_below Hx.out s4)
    replace Hy := Lib.hid (own_below Hy.out s4)
    have HG4 := Lib.hid (HG3.out.trans (s4.mono HG3.out.size))
    have zz4 := HG4.out.size
    clear HG3
    clear s4
    rw [decide_eq_true rfl]
    clear Hy PyA Pyx
    by_cases h6 : bs.length ≤ 600
    · skip
      have h6i : ¬ (bs.length : Int) > 600 := by omega
      have HS := Lib.hid (squeeze_isB HQ.out)
      have HOK := Lib.hid (loo_squeeze_ok h6)
      have HLS := Lib.hid (looL_squeeze h6)
      have HC := Lib.hid (own_capB Hx.out)
      have hs2 := squeeze_len2 (xs := bs)
      go_wp2_with fail
      refine (implLoose_any (squeeze bs) _ (Reads.of_own Hx.out) (Nat.le_refl _) (by omega) HC.out.1 HC.out.2 HS.out).mono ?_
      rintro e w5 ⟨Az, cz, rfl, o5, s5⟩
      rw [HLS.out] at o5 ⊢
      rw [HOK.out]
      have HA5 := Lib.hid (own_below HA.out s5)
      have HG5 := Lib.hid (HG4.out.trans (s5.mono HG4.out.size))
      clear s5
      go_wp2_with fail
      refine (sameBytes_any _ _ _ _ _ _ bs bs _ (Reads.of_own o5) (Reads.of_own HA5.out) (by omega) (by omega)).mono ?_
      rintro e w6 ⟨rfl, s6⟩
      rw [decide_eq_true rfl]
      have HG6 := Lib.hid (HG5.out.trans (s6.mono HG5.out.size))
      clear s6
      have hq1 : ((squeeze bs).length : Int) ≤ 2 * (bs.length : Int) := by omega
      go_wp2
      go_ret
      exact ⟨rfl, HG6.out⟩
    · have h6i : (bs.length : Int) > 600 := by omega
      have HE := Lib.hid (squeeze_big (xs := bs) (by omega))
      rw [HE.out] at Hx ⊢
      go_wp2_with fail
      refine (alive_any _).mono ?_
      rintro e w' ⟨rfl, rfl⟩
      go_wp2
      go_ret
      exact ⟨rfl, HG4.out⟩
  · go_enter Try.func10, Try.ntmps10
    go_wp2
    go_ret
    exact ⟨rfl, Below.refl _ _⟩
end Go.Proofs.Yteceiaaiocdlfaa
