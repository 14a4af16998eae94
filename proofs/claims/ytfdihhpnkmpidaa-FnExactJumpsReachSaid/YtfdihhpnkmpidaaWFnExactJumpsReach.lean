/- The walk of FnExactJumpsReach. No condition. -/
import Derived.Test.YtfdihhpnkmpidaaRows
import Derived.Test.YtfdihhpnkmpidaaBase
import Derived.Test.YtfdihhpnkmpidaaBase2
import Derived.Test.YtfdihhpnkmpidaaOpen
import Derived.Test.YtfdihhpnkmpidaaIntS
import Derived.Test.YtfdihhpnkmpidaaJumpV
import Derived.Test.YtfdihhpnkmpidaaJumpP
import Derived.Test.YtfdihhpnkmpidaaJumpQ
import Derived.WalkKit
import Derived.WalkSpells
import Derived.WalkLawsBesides
import Derived.Handy
import Derived.BigQuiet
import Derived.Deep.RegionHeld3
import Derived.Deep.DrawnRows
import Derived.Deep.QuietTactic
namespace Go.Proofs.Ytfdihhpnkmpidaa
open Go Go.RowKit


set_option maxHeartbeats 4000000 in
theorem FnExactJumpsReach_walk (W : World) (v0 : Value) (v1 : Value) (v2 : Value) (a0 : ArgNums .i64 W v0) (a1 : ArgNums .i64 W v1) (a2 : ArgNums .i64 W v2) : Calls Try.prog 7 #[v0, v1, v2] W (Gives W (.bool true)) := by
  obtain ⟨A0, c0, xs, rfl, R0, hm0, wf0⟩ := a0
  obtain ⟨A1, c1, ts, rfl, R1, hm1, wf1⟩ := a1
  obtain ⟨A2, c2, ys, rfl, R2, hm2, wf2⟩ := a2
  replace wf0 := Lib.hid wf0
  replace wf1 := Lib.hid wf1
  replace wf2 := Lib.hid wf2
  unfold maxLen at hm0 hm1 hm2
  by_cases h0 : xs.length ≤ 1048576
  · by_cases h1 : ts.length ≤ 1048576
    · by_cases h2 : ys.length ≤ 1048576
      · go_enter Try.func7, Try.ntmps7
        go_wp2_with fail
        refine (toIntS_any _ _ _ xs _ R0 (Nat.le_refl _) (by omega)).mono ?_
        rintro e w1 ⟨As0, cs0, rfl, os0, s1⟩
        have b1 : Below W.heap.size W w1 := (Below.refl W.heap.size W).trans (s1.mono (Below.refl W.heap.size W).size)
        have z1 := s1.size
        clear s1
        have us0 := own_up os0
        go_wp2_with fail
        refine (toIntS_any _ _ _ ts _ (R1.below b1) b1.size (by omega)).mono ?_
        rintro e w2 ⟨As1, cs1, rfl, os1, s2⟩
        have b2 : Below W.heap.size W w2 := b1.trans (s2.mono b1.size)
        have z2 := s2.size
        replace os0 := own_below os0 s2
        clear s2
        have us1 := own_up os1
        go_wp2_with fail
        refine (toIntS_any _ _ _ ys _ (R2.below b2) b2.size (by omega)).mono ?_
        rintro e w3 ⟨As2, cs2, rfl, os2, s3⟩
        have b3 : Below W.heap.size W w3 := b2.trans (s3.mono b2.size)
        have z3 := s3.size
        replace os0 := own_below os0 s3
        replace os1 := own_below os1 s3
        clear s3
        have us2 := own_up os2
        go_wp2_with fail
        refine (specJumpsReach_any xs ts ys _ (Reads.of_own os0) (Nat.le_refl _) (Reads.of_own os1) (Nat.le_refl _) (Reads.of_own os2) (Nat.le_refl _) (by unfold maxLen; omega) (by unfold maxLen; omega) (by unfold maxLen; omega)).mono ?_
        rintro e w4 ⟨rfl, s4⟩
        have b4 : Below W.heap.size W w4 := b3.trans (s4.mono b3.size)
        have z4 := s4.size
        replace os0 := own_below os0 s4
        replace os1 := own_below os1 s4
        replace os2 := own_below os2 s4
        clear s4
        clear os0 us0
        clear os1 us1
        clear os2 us2
        go_wp2_with fail
        refine (toIntS_any _ _ _ xs _ (R0.below b4) b4.size (by omega)).mono ?_
        rintro e w5 ⟨Ax0, cx0, rfl, ox0, s5⟩
        have b5 : Below W.heap.size W w5 := b4.trans (s5.mono b4.size)
        have z5 := s5.size
        clear s5
        have ux0 := own_up ox0
        go_wp2_with fail
        refine (toIntS_any _ _ _ ts _ (R1.below b5) b5.size (by omega)).mono ?_
        rintro e w6 ⟨Ax1, cx1, rfl, ox1, s6⟩
        have b6 : Below W.heap.size W w6 := b5.trans (s6.mono b5.size)
        have z6 := s6.size
        replace ox0 := own_below ox0 s6
        clear s6
        have ux1 := own_up ox1
        go_wp2_with fail
        refine (toIntS_any _ _ _ ys _ (R2.below b6) b6.size (by omega)).mono ?_
        rintro e w7 ⟨Ax2, cx2, rfl, ox2, s7⟩
        have b7 : Below W.heap.size W w7 := b6.trans (s7.mono b6.size)
        have z7 := s7.size
        replace ox0 := own_below ox0 s7
        replace ox1 := own_below ox1 s7
        clear s7
        have ux2 := own_up ox2
        go_wp2_with fail
        refine (implJumpsReach_any xs ts ys _ (Reads.of_own ox0) (Nat.le_refl _) (Reads.of_own ox1) (Nat.le_refl _) (Reads.of_own ox2) (Nat.le_refl _) (by unfold maxLen; omega) (by unfold maxLen; omega) (by unfold maxLen; omega)).mono ?_
        rintro e w8 ⟨rfl, s8⟩
        have b8 : Below W.heap.size W w8 := b7.trans (s8.mono b7.size)
        have z8 := s8.size
        replace ox0 := own_below ox0 s8
        replace ox1 := own_below ox1 s8
        replace ox2 := own_below ox2 s8
        clear s8
        go_wp2_with fail
        refine (toIntS_any _ _ _ xs _ (R0.below b8) b8.size (by omega)).mono ?_
        rintro e w9 ⟨At0, ct0, rfl, ot0, s9⟩
        have b9 : Below W.heap.size W w9 := b8.trans (s9.mono b8.size)
        have z9 := s9.size
        replace ox0 := own_below ox0 s9
        replace ox1 := own_below ox1 s9
        replace ox2 := own_below ox2 s9
        clear s9
        have ut0 := own_up ot0
        go_wp2_with fail
        refine (eqIntS_any _ _ _ _ _ _ _ _ _ (Reads.of_own ox0) (Reads.of_own ot0) (by omega) (by omega)).mono ?_
        rintro e w10 ⟨rfl, s10⟩
        rw [decide_eq_true rfl]
        have b10 : Below W.heap.size W w10 := b9.trans (s10.mono b9.size)
        have z10 := s10.size
        replace ox0 := own_below ox0 s10
        replace ox1 := own_below ox1 s10
        replace ox2 := own_below ox2 s10
        replace ot0 := own_below ot0 s10
        clear s10
        clear ot0 ut0
        go_wp2_with fail
        refine (toIntS_any _ _ _ ts _ (R1.below b10) b10.size (by omega)).mono ?_
        rintro e w11 ⟨At1, ct1, rfl, ot1, s11⟩
        have b11 : Below W.heap.size W w11 := b10.trans (s11.mono b10.size)
        have z11 := s11.size
        replace ox0 := own_below ox0 s11
        replace ox1 := own_below ox1 s11
        replace ox2 := own_below ox2 s11
        clear s11
        have ut1 := own_up ot1
        go_wp2_with fail
        refine (eqIntS_any _ _ _ _ _ _ _ _ _ (Reads.of_own ox1) (Reads.of_own ot1) (by omega) (by omega)).mono ?_
        rintro e w12 ⟨rfl, s12⟩
        rw [decide_eq_true rfl]
        have b12 : Below W.heap.size W w12 := b11.trans (s12.mono b11.size)
        have z12 := s12.size
        replace ox0 := own_below ox0 s12
        replace ox1 := own_below ox1 s12
        replace ox2 := own_below ox2 s12
        replace ot1 := own_below ot1 s12
        clear s12
        clear ot1 ut1
        go_wp2_with fail
        refine (toIntS_any _ _ _ ys _ (R2.below b12) b12.size (by omega)).mono ?_
        rintro e w13 ⟨At2, ct2, rfl, ot2, s13⟩
        have b13 : Below W.heap.size W w13 := b12.trans (s13.mono b12.size)
        have z13 := s13.size
        replace ox0 := own_below ox0 s13
        replace ox1 := own_below ox1 s13
        replace ox2 := own_below ox2 s13
        clear s13
        have ut2 := own_up ot2
        go_wp2_with fail
        refine (eqIntS_any _ _ _ _ _ _ _ _ _ (Reads.of_own ox2) (Reads.of_own ot2) (by omega) (by omega)).mono ?_
        rintro e w14 ⟨rfl, s14⟩
        rw [decide_eq_true rfl]
        have b14 : Below W.heap.size W w14 := b13.trans (s14.mono b13.size)
        have z14 := s14.size
        replace ox0 := own_below ox0 s14
        replace ox1 := own_below ox1 s14
        replace ox2 := own_below ox2 s14
        replace ot2 := own_below ot2 s14
        clear s14
        clear ot2 ut2
        go_wp2
        go_ret
        exact ⟨rfl, b14⟩
      · go_enter Try.func7, Try.ntmps7
        go_wp2
        go_ret
        exact ⟨rfl, Below.refl _ _⟩
    · go_enter Try.func7, Try.ntmps7
      go_wp2
      go_ret
      exact ⟨rfl, Below.refl _ _⟩
  · go_enter Try.func7, Try.ntmps7
    go_wp2
    go_ret
    exact ⟨rfl, Below.refl _ _⟩
end Go.Proofs.Ytfdihhpnkmpidaa
