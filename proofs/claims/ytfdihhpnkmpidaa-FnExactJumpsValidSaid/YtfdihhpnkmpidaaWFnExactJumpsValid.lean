/- The walk of FnExactJumpsValid. No condition. -/
import Derived.Test.YtfdihhpnkmpidaaRows
import Derived.Test.YtfdihhpnkmpidaaBase
import Derived.Test.YtfdihhpnkmpidaaBase2
import Derived.Test.YtfdihhpnkmpidaaOpen
import Derived.Test.YtfdihhpnkmpidaaIntS
import Derived.Test.YtfdihhpnkmpidaaJumpV
import Derived.WalkKit
import Derived.WalkSpells
import Derived.WalkLawsBesides
import Derived.Handy
import Derived.BigQuiet
import Derived.Deep.QuietTactic
namespace Go.Proofs.Ytfdihhpnkmpidaa
open Go Go.RowKit


set_option maxHeartbeats 4000000 in
theorem FnExactJumpsValid_walk (W : World) (v0 : Value) (v1 : Value) (a0 : ArgNums .i64 W v0) (a1 : ArgNums .i64 W v1) : Calls Try.prog 3 #[v0, v1] W (Gives W (.bool true)) := by
  obtain ⟨A0, c0, xs, rfl, R0, hm0, wf0⟩ := a0
  obtain ⟨A1, c1, ys, rfl, R1, hm1, wf1⟩ := a1
  replace wf0 := Lib.hid wf0
  replace wf1 := Lib.hid wf1
  unfold maxLen at hm0 hm1
  by_cases h0 : xs.length ≤ 1048576
  · by_cases h1 : ys.length ≤ 1048576
    · go_enter Try.func3, Try.ntmps3
      go_wp2_with fail
      refine (toIntS_any _ _ _ xs _ R0 (Nat.le_refl _) (by omega)).mono ?_
      rintro e w1 ⟨As0, cs0, rfl, os0, s1⟩
      have b1 : Below W.heap.size W w1 := (Below.refl W.heap.size W).trans (s1.mono (Below.refl W.heap.size W).size)
      have z1 := s1.size
      clear s1
      have us0 := own_up os0
      go_wp2_with fail
      refine (toIntS_any _ _ _ ys _ (R1.below b1) b1.size (by omega)).mono ?_
      rintro e w2 ⟨As1, cs1, rfl, os1, s2⟩
      have b2 : Below W.heap.size W w2 := b1.trans (s2.mono b1.size)
      have z2 := s2.size
      replace os0 := own_below os0 s2
      clear s2
      have us1 := own_up os1
      go_wp2_with fail
      refine (specJumpsValid_any xs ys _ (Reads.of_own os0) (Reads.of_own os1) (by unfold maxLen; omega) (by unfold maxLen; omega)).mono ?_
      rintro e w3 ⟨rfl, s3⟩
      have b3 : Below W.heap.size W w3 := b2.trans (s3.mono b2.size)
      have z3 := s3.size
      replace os0 := own_below os0 s3
      replace os1 := own_below os1 s3
      clear s3
      clear os0 us0
      clear os1 us1
      go_wp2_with fail
      refine (toIntS_any _ _ _ xs _ (R0.below b3) b3.size (by omega)).mono ?_
      rintro e w4 ⟨Ax0, cx0, rfl, ox0, s4⟩
      have b4 : Below W.heap.size W w4 := b3.trans (s4.mono b3.size)
      have z4 := s4.size
      clear s4
      have ux0 := own_up ox0
      go_wp2_with fail
      refine (toIntS_any _ _ _ ys _ (R1.below b4) b4.size (by omega)).mono ?_
      rintro e w5 ⟨Ax1, cx1, rfl, ox1, s5⟩
      have b5 : Below W.heap.size W w5 := b4.trans (s5.mono b4.size)
      have z5 := s5.size
      replace ox0 := own_below ox0 s5
      clear s5
      have ux1 := own_up ox1
      go_wp2_with fail
      refine (implJumpsValid_any xs ys _ (Reads.of_own ox0) (Nat.le_refl _) (Reads.of_own ox1) (Nat.le_refl _) (by unfold maxLen; omega) (by unfold maxLen; omega)).mono ?_
      rintro e w6 ⟨rfl, s6⟩
      have b6 : Below W.heap.size W w6 := b5.trans (s6.mono b5.size)
      have z6 := s6.size
      replace ox0 := own_below ox0 s6
      replace ox1 := own_below ox1 s6
      clear s6
      go_wp2_with fail
      refine (toIntS_any _ _ _ xs _ (R0.below b6) b6.size (by omega)).mono ?_
      rintro e w7 ⟨At0, ct0, rfl, ot0, s7⟩
      have b7 : Below W.heap.size W w7 := b6.trans (s7.mono b6.size)
      have z7 := s7.size
      replace ox0 := own_below ox0 s7
      replace ox1 := own_below ox1 s7
      clear s7
      have ut0 := own_up ot0
      go_wp2_with fail
      refine (eqIntS_any _ _ _ _ _ _ _ _ _ (Reads.of_own ox0) (Reads.of_own ot0) (by omega) (by omega)).mono ?_
      rintro e w8 ⟨rfl, s8⟩
      rw [decide_eq_true rfl]
      have b8 : Below W.heap.size W w8 := b7.trans (s8.mono b7.size)
      have z8 := s8.size
      replace ox0 := own_below ox0 s8
      replace ox1 := own_below ox1 s8
      replace ot0 := own_below ot0 s8
      clear s8
      clear ot0 ut0
      go_wp2_with fail
      refine (toIntS_any _ _ _ ys _ (R1.below b8) b8.size (by omega)).mono ?_
      rintro e w9 ⟨At1, ct1, rfl, ot1, s9⟩
      have b9 : Below W.heap.size W w9 := b8.trans (s9.mono b8.size)
      have z9 := s9.size
      replace ox0 := own_below ox0 s9
      replace ox1 := own_below ox1 s9
      clear s9
      have ut1 := own_up ot1
      go_wp2_with fail
      refine (eqIntS_any _ _ _ _ _ _ _ _ _ (Reads.of_own ox1) (Reads.of_own ot1) (by omega) (by omega)).mono ?_
      rintro e w10 ⟨rfl, s10⟩
      rw [decide_eq_true rfl]
      have b10 : Below W.heap.size W w10 := b9.trans (s10.mono b9.size)
      have z10 := s10.size
      replace ox0 := own_below ox0 s10
      replace ox1 := own_below ox1 s10
      replace ot1 := own_below ot1 s10
      clear s10
      clear ot1 ut1
      go_wp2
      go_ret
      exact ⟨rfl, b10⟩
    · go_enter Try.func3, Try.ntmps3
      go_wp2
      go_ret
      exact ⟨rfl, Below.refl _ _⟩
  · go_enter Try.func3, Try.ntmps3
    go_wp2
    go_ret
    exact ⟨rfl, Below.refl _ _⟩
end Go.Proofs.Ytfdihhpnkmpidaa
