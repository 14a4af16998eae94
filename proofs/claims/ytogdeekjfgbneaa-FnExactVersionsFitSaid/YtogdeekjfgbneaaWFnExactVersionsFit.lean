/- The walk of FnExactVersionsFit. No condition. -/
import Derived.Test.YtogdeekjfgbneaaRows
import Derived.Test.YtogdeekjfgbneaaBase
import Derived.Test.YtogdeekjfgbneaaBase2
import Derived.Test.YtogdeekjfgbneaaOpen
import Derived.Test.YtogdeekjfgbneaaOpenVers
import Derived.Test.YtogdeekjfgbneaaVer
import Derived.Test.YtogdeekjfgbneaaVerF
import Derived.Test.YtogdeekjfgbneaaVerG
import Derived.Test.YtogdeekjfgbneaaVerH
import Derived.Test.YtogdeekjfgbneaaVerI
import Derived.WalkKit
import Derived.WalkSpells
import Derived.WalkLawsBesides
import Derived.Handy
import Derived.BigQuiet
import Derived.Deep.RegionHeld3
import Derived.Deep.DrawnRows
import Derived.Deep.QuietTactic
namespace Go.Proofs.Ytogdeekjfgbneaa
open Go Go.RowKit


set_option maxRecDepth 100000 in
set_option maxHeartbeats 8000000 in
theorem FnExactVersionsFit_walk (W : World) (v0 : Value) (v1 : Value) (a0 : ArgVers W v0) (a1 : ArgVers W v1) : Calls Try.prog 7 #[v0, v1] W (Gives W (.bool true)) := by
  obtain ⟨A0, c0, xs, rfl, R0, hm0, hs0⟩ := a0
  obtain ⟨A1, c1, ys, rfl, R1, hm1, hs1⟩ := a1
  have HZ0 := Lib.hid (fun w (hb : Below W.heap.size W w) => szVersionS_any (c := c0) xs 1048576 w (R0.below hb) hb.size hm0 hs0 (by omega) (by omega))
  have HZ1 := Lib.hid (fun left w (hb : Below W.heap.size W w) (h1 : -1 ≤ left) (h2 : left ≤ 1048576) => szVersionS_any (c := c1) ys left w (R1.below hb) hb.size hm1 hs1 h1 h2)
  have HS0 := Lib.hid hs0
  have HS1 := Lib.hid hs1
  clear hs0 hs1
  have hb0 := bulk_nonneg (xs.map Ver.name)
  have hb1 := bulk_nonneg (ys.map Ver.name)
  generalize bulk (xs.map Ver.name) = bk at *
  generalize bulk (ys.map Ver.name) = bl at *
  by_cases h0 : (xs.length : Int) + bk ≤ 1048576
  · have HR := Lib.hid (szRes_pos h0)
    have hlx : xs.length ≤ 1048576 := by omega
    by_cases h1 : (ys.length : Int) + bl ≤ 1048576 - ((xs.length : Int) + bk)
    · have HR1 := Lib.hid (szRes_pos h1)
      have hly : ys.length ≤ 1048576 := by omega
      generalize hlf : (1048576 : Int) - ((xs.length : Int) + bk) = lf at *
      have HLF := Lib.hid hlf
      have hl0 : -1 ≤ lf := by omega
      have hl1 : lf ≤ 1048576 := by omega
      have hl2 : 0 ≤ lf := by omega
      clear hlf h0
      go_enter Try.func7, Try.ntmps7
      go_wp2_with fail
      refine (HZ0.out _ (Below.refl _ _)).mono ?_
      rintro e w1 ⟨rfl, s1⟩
      rw [HR.out]
      go_wp2_with fail
      refine (HZ1.out _ _ s1 hl0 hl1).mono ?_
      rintro e w2 ⟨rfl, s2⟩
      rw [HR1.out]
      have b2 : Below W.heap.size W w2 := s1.trans (s2.mono s1.size)
      have z1 := s1.size
      have z2 := s2.size
      clear s1 s2
      go_wp2_with fail
      refine (toVersionS_any _ _ _ xs _ (R0.below b2) b2.size (by omega)).mono ?_
      rintro e w3 ⟨As0, cs0, rfl, os0, s3⟩
      have b3 : Below W.heap.size W w3 := b2.trans (s3.mono b2.size)
      have z3 := s3.size
      clear s3
      have us0 := own_up os0
      go_wp2_with fail
      refine (toVersionS_any _ _ _ ys _ (R1.below b3) b3.size (by omega)).mono ?_
      rintro e w4 ⟨As1, cs1, rfl, os1, s4⟩
      have b4 : Below W.heap.size W w4 := b3.trans (s4.mono b3.size)
      have z4 := s4.size
      replace os0 := own_below os0 s4
      clear s4
      have us1 := own_up os1
      go_wp2_with fail
      refine (specFit_any xs ys _ (Reads.of_own os0) (Nat.le_refl _) (Reads.of_own os1) (Nat.le_refl _) (by unfold maxLen; omega) (by unfold maxLen; omega) HS0.out HS1.out).mono ?_
      rintro e w5 ⟨rfl, s5⟩
      have b5 : Below W.heap.size W w5 := b4.trans (s5.mono b4.size)
      have z5 := s5.size
      replace os0 := own_below os0 s5
      replace os1 := own_below os1 s5
      clear s5
      clear os0 us0
      clear os1 us1
      go_wp2_with fail
      refine (toVersionS_any _ _ _ xs _ (R0.below b5) b5.size (by omega)).mono ?_
      rintro e w6 ⟨Ax0, cx0, rfl, ox0, s6⟩
      have b6 : Below W.heap.size W w6 := b5.trans (s6.mono b5.size)
      have z6 := s6.size
      clear s6
      have ux0 := own_up ox0
      go_wp2_with fail
      refine (toVersionS_any _ _ _ ys _ (R1.below b6) b6.size (by omega)).mono ?_
      rintro e w7 ⟨Ax1, cx1, rfl, ox1, s7⟩
      have b7 : Below W.heap.size W w7 := b6.trans (s7.mono b6.size)
      have z7 := s7.size
      replace ox0 := own_below ox0 s7
      clear s7
      have ux1 := own_up ox1
      go_wp2_with fail
      refine (implFit_any xs ys _ (Reads.of_own ox0) (Nat.le_refl _) (Reads.of_own ox1) (Nat.le_refl _) (by unfold maxLen; omega) (by unfold maxLen; omega) HS0.out HS1.out).mono ?_
      rintro e w8 ⟨rfl, s8⟩
      have b8 : Below W.heap.size W w8 := b7.trans (s8.mono b7.size)
      have z8 := s8.size
      replace ox0 := own_below ox0 s8
      replace ox1 := own_below ox1 s8
      clear s8
      go_wp2_with fail
      refine (toVersionS_any _ _ _ xs _ (R0.below b8) b8.size (by omega)).mono ?_
      rintro e w9 ⟨At0, ct0, rfl, ot0, s9⟩
      have b9 : Below W.heap.size W w9 := b8.trans (s9.mono b8.size)
      have z9 := s9.size
      replace ox0 := own_below ox0 s9
      replace ox1 := own_below ox1 s9
      clear s9
      have ut0 := own_up ot0
      go_wp2_with fail
      refine (eqVersionS_any _ _ _ _ _ _ _ _ _ (Reads.of_own ox0) (Reads.of_own ot0) (Nat.le_refl _) (Nat.le_refl _) (by omega) (by omega)).mono ?_
      rintro e w10 ⟨rfl, s10⟩
      rw [decide_eq_true rfl]
      have b10 : Below W.heap.size W w10 := b9.trans (s10.mono b9.size)
      have z10 := s10.size
      replace ox0 := own_below ox0 s10
      replace ox1 := own_below ox1 s10
      replace ot0 := own_below ot0 s10
      clear s10
      clear ot0 ut0
      go_wp2_with fail
      refine (toVersionS_any _ _ _ ys _ (R1.below b10) b10.size (by omega)).mono ?_
      rintro e w11 ⟨At1, ct1, rfl, ot1, s11⟩
      have b11 : Below W.heap.size W w11 := b10.trans (s11.mono b10.size)
      have z11 := s11.size
      replace ox0 := own_below ox0 s11
      replace ox1 := own_below ox1 s11
      clear s11
      have ut1 := own_up ot1
      go_wp2_with fail
      refine (eqVersionS_any _ _ _ _ _ _ _ _ _ (Reads.of_own ox1) (Reads.of_own ot1) (Nat.le_refl _) (Nat.le_refl _) (by omega) (by omega)).mono ?_
      rintro e w12 ⟨rfl, s12⟩
      rw [decide_eq_true rfl]
      have b12 : Below W.heap.size W w12 := b11.trans (s12.mono b11.size)
      have z12 := s12.size
      replace ox0 := own_below ox0 s12
      replace ox1 := own_below ox1 s12
      replace ot1 := own_below ot1 s12
      clear s12
      clear ot1 ut1
      go_wp2
      go_ret
      exact ⟨rfl, b12⟩
    · have HR1 := Lib.hid (szRes_neg (left := 1048576 - ((xs.length : Int) + bk)) (total := (ys.length : Int) + bl) (by omega))
      generalize hlf : (1048576 : Int) - ((xs.length : Int) + bk) = lf at *
      have hl0 : -1 ≤ lf := by omega
      have hl1 : lf ≤ 1048576 := by omega
      have hl2 : 0 ≤ lf := by omega
      clear hlf h0
      go_enter Try.func7, Try.ntmps7
      go_wp2_with fail
      refine (HZ0.out _ (Below.refl _ _)).mono ?_
      rintro e w1 ⟨rfl, s1⟩
      rw [HR.out]
      go_wp2_with fail
      refine (HZ1.out _ _ s1 hl0 hl1).mono ?_
      rintro e w2 ⟨rfl, s2⟩
      rw [HR1.out]
      go_wp2
      go_ret
      exact ⟨rfl, s1.trans (s2.mono s1.size)⟩
  · have HR := Lib.hid (szRes_neg (left := 1048576) (total := (xs.length : Int) + bk) (by omega))
    go_enter Try.func7, Try.ntmps7
    go_wp2_with fail
    refine (HZ0.out _ (Below.refl _ _)).mono ?_
    rintro e w1 ⟨rfl, s1⟩
    rw [HR.out]
    go_wp2
    go_ret
    exact ⟨rfl, s1⟩
end Go.Proofs.Ytogdeekjfgbneaa
