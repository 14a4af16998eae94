/- The walk of FnExactJumpWidths. No condition. -/
import Derived.Test.YtfdihhpnkmpidaaRows
import Derived.Test.YtfdihhpnkmpidaaBase
import Derived.Test.YtfdihhpnkmpidaaBase2
import Derived.Test.YtfdihhpnkmpidaaOpen
import Derived.Test.YtfdihhpnkmpidaaIntS
import Derived.Test.YtfdihhpnkmpidaaMarkI
import Derived.Test.YtfdihhpnkmpidaaJumpV
import Derived.Test.YtfdihhpnkmpidaaJumpP
import Derived.Test.YtfdihhpnkmpidaaJumpW
import Derived.WalkKit
import Derived.WalkSpells
import Derived.WalkLawsBesides
import Derived.Handy
import Derived.BigQuiet
import Derived.Deep.RegionHeld3
import Derived.Deep.DrawnRows
import Derived.Deep.QuietTactic
namespace Go.Proofs.Ytfdihhpnkmpidaa
open Go Go.RowKit


set_option maxHeartbeats 4000000 in
theorem FnExactJumpWidths_walk (W : World) (v0 : Value) (v1 : Value) (a0 : ArgNums .i64 W v0) (a1 : ArgNums .i64 W v1) : Calls Try.prog 9 #[v0, v1] W (Gives W (.bool true)) := by
  obtain ⟨A0, c0, xs, rfl, R0, hm0, wf0⟩ := a0
  obtain ⟨A1, c1, ts, rfl, R1, hm1, wf1⟩ := a1
  replace wf0 := Lib.hid wf0
  replace wf1 := Lib.hid wf1
  have hr := jwd_len xs ts
  unfold maxLen at hm0 hm1
  by_cases h0 : xs.length ≤ 1048576
  · by_cases h1 : ts.length ≤ 1048576
    · go_enter Try.func9, Try.ntmps9
      go_wp2_with fail
      refine (toIntS_any _ _ _ xs _ R0 (Nat.le_refl _) (by omega)).mono ?_
      rintro e w1 ⟨As0, cs0, rfl, os0, s1⟩
      have b1 : Below W.heap.size W w1 := (Below.refl W.heap.size W).trans (s1.mono (Below.refl W.heap.size W).size)
      have z1 := s1.size
      clear s1
      have us0 := own_up os0
      go_wp2_with fail
      refine (toIntS_any _ _ _ ts _ (R1.below b1) b1.size (by omega)).mono ?_
      rintro e w2 ⟨As1, cs1, rfl, os1, s2⟩
      have b2 : Below W.heap.size W w2 := b1.trans (s2.mono b1.size)
      have z2 := s2.size
      replace os0 := own_below os0 s2
      clear s2
      have us1 := own_up os1
      go_wp2_with fail
      refine (specJumpWidths_any xs ts _ (Reads.of_own os0) (Nat.le_refl _) (Reads.of_own os1) (Nat.le_refl _) (by unfold maxLen; omega) (by unfold maxLen; omega)).mono ?_
      rintro e w3 ⟨Aw0, cw0, rfl, ow0, s3⟩
      have b3 : Below W.heap.size W w3 := b2.trans (s3.mono b2.size)
      have z3 := s3.size
      replace os0 := own_below os0 s3
      replace os1 := own_below os1 s3
      clear s3
      have uw0 := own_up ow0
      clear os0 us0
      clear os1 us1
      go_wp2_with fail
      refine (toIntS_any _ _ _ xs _ (R0.below b3) b3.size (by omega)).mono ?_
      rintro e w4 ⟨Ax0, cx0, rfl, ox0, s4⟩
      have b4 : Below W.heap.size W w4 := b3.trans (s4.mono b3.size)
      have z4 := s4.size
      replace ow0 := own_below ow0 s4
      clear s4
      have ux0 := own_up ox0
      go_wp2_with fail
      refine (toIntS_any _ _ _ ts _ (R1.below b4) b4.size (by omega)).mono ?_
      rintro e w5 ⟨Ax1, cx1, rfl, ox1, s5⟩
      have b5 : Below W.heap.size W w5 := b4.trans (s5.mono b4.size)
      have z5 := s5.size
      replace ow0 := own_below ow0 s5
      replace ox0 := own_below ox0 s5
      clear s5
      have ux1 := own_up ox1
      go_wp2_with fail
      refine (implJumpWidths_any xs ts _ (Reads.of_own ox0) (Nat.le_refl _) (Reads.of_own ox1) (Nat.le_refl _) (by unfold maxLen; omega) (by unfold maxLen; omega)).mono ?_
      rintro e w6 ⟨Ag0, cg0, rfl, og0, s6⟩
      have b6 : Below W.heap.size W w6 := b5.trans (s6.mono b5.size)
      have z6 := s6.size
      replace ow0 := own_below ow0 s6
      replace ox0 := own_below ox0 s6
      replace ox1 := own_below ox1 s6
      clear s6
      have ug0 := own_up og0
      go_wp2_with fail
      refine (eqIntS_any _ _ _ _ _ _ _ _ _ (Reads.of_own og0) (Reads.of_own ow0) (by omega) (by omega)).mono ?_
      rintro e w7 ⟨rfl, s7⟩
      rw [decide_eq_true rfl]
      have b7 : Below W.heap.size W w7 := b6.trans (s7.mono b6.size)
      have z7 := s7.size
      replace ow0 := own_below ow0 s7
      replace ox0 := own_below ox0 s7
      replace ox1 := own_below ox1 s7
      replace og0 := own_below og0 s7
      clear s7
      go_wp2_with fail
      refine (toIntS_any _ _ _ xs _ (R0.below b7) b7.size (by omega)).mono ?_
      rintro e w8 ⟨At0, ct0, rfl, ot0, s8⟩
      have b8 : Below W.heap.size W w8 := b7.trans (s8.mono b7.size)
      have z8 := s8.size
      replace ow0 := own_below ow0 s8
      replace ox0 := own_below ox0 s8
      replace ox1 := own_below ox1 s8
      replace og0 := own_below og0 s8
      clear s8
      have ut0 := own_up ot0
      go_wp2_with fail
      refine (eqIntS_any _ _ _ _ _ _ _ _ _ (Reads.of_own ox0) (Reads.of_own ot0) (by omega) (by omega)).mono ?_
      rintro e w9 ⟨rfl, s9⟩
      rw [decide_eq_true rfl]
      have b9 : Below W.heap.size W w9 := b8.trans (s9.mono b8.size)
      have z9 := s9.size
      replace ow0 := own_below ow0 s9
      replace ox0 := own_below ox0 s9
      replace ox1 := own_below ox1 s9
      replace og0 := own_below og0 s9
      replace ot0 := own_below ot0 s9
      clear s9
      clear ot0 ut0
      go_wp2_with fail
      refine (toIntS_any _ _ _ ts _ (R1.below b9) b9.size (by omega)).mono ?_
      rintro e w10 ⟨At1, ct1, rfl, ot1, s10⟩
      have b10 : Below W.heap.size W w10 := b9.trans (s10.mono b9.size)
      have z10 := s10.size
      replace ow0 := own_below ow0 s10
      replace ox0 := own_below ox0 s10
      replace ox1 := own_below ox1 s10
      replace og0 := own_below og0 s10
      clear s10
      have ut1 := own_up ot1
      go_wp2_with fail
      refine (eqIntS_any _ _ _ _ _ _ _ _ _ (Reads.of_own ox1) (Reads.of_own ot1) (by omega) (by omega)).mono ?_
      rintro e w11 ⟨rfl, s11⟩
      rw [decide_eq_true rfl]
      have b11 : Below W.heap.size W w11 := b10.trans (s11.mono b10.size)
      have z11 := s11.size
      replace ow0 := own_below ow0 s11
      replace ox0 := own_below ox0 s11
      replace ox1 := own_below ox1 s11
      replace og0 := own_below og0 s11
      replace ot1 := own_below ot1 s11
      clear s11
      clear ot1 ut1
      go_wp2_with fail
      refine (markIntS_any _ _ _ _ 1 _ _ ox0 (by omega) (by omega) (by omega)).mono ?_
      rintro e w12 ⟨rfl, n12, g12⟩
      have b12 : Below W.heap.size W w12 := below_marks b11 ox0 (by omega) g12
      have z12 := g12.size
      replace ow0 := own_other ow0 g12 (fun a a2 h1 h2 => by have p1 := uw0 a h1; have p2 := ux0 a2 h2; omega)
      replace ox1 := own_other ox1 g12 (fun a a2 h1 h2 => by have p1 := ux1 a h1; have p2 := ux0 a2 h2; omega)
      replace og0 := own_other og0 g12 (fun a a2 h1 h2 => by have p1 := ug0 a h1; have p2 := ux0 a2 h2; omega)
      clear ox0
      have ox0 := n12
      clear n12 g12
      go_wp2_with fail
      refine (markIntS_any _ _ _ _ (1 + (xs.length : Int)) _ _ ox1 (by omega) (by omega) (by omega)).mono ?_
      rintro e w13 ⟨rfl, n13, g13⟩
      have b13 : Below W.heap.size W w13 := below_marks b12 ox1 (by omega) g13
      have z13 := g13.size
      replace ow0 := own_other ow0 g13 (fun a a2 h1 h2 => by have p1 := uw0 a h1; have p2 := ux1 a2 h2; omega)
      replace ox0 := own_other ox0 g13 (fun a a2 h1 h2 => by have p1 := ux0 a h1; have p2 := ux1 a2 h2; omega)
      replace og0 := own_other og0 g13 (fun a a2 h1 h2 => by have p1 := ug0 a h1; have p2 := ux1 a2 h2; omega)
      clear ox1
      have ox1 := n13
      clear n13 g13
      go_wp2_with fail
      refine (eqIntS_any _ _ _ _ _ _ _ _ _ (Reads.of_own og0) (Reads.of_own ow0) (by omega) (by omega)).mono ?_
      rintro e w14 ⟨rfl, s14⟩
      rw [decide_eq_true rfl]
      have b14 : Below W.heap.size W w14 := b13.trans (s14.mono b13.size)
      have z14 := s14.size
      replace ow0 := own_below ow0 s14
      replace ox0 := own_below ox0 s14
      replace ox1 := own_below ox1 s14
      replace og0 := own_below og0 s14
      clear s14
      go_wp2_with fail
      refine (markIntS_any _ _ _ _ 1 _ _ og0 (by omega) (by omega) (by omega)).mono ?_
      rintro e w15 ⟨rfl, n15, g15⟩
      have b15 : Below W.heap.size W w15 := below_marks b14 og0 (by omega) g15
      have z15 := g15.size
      replace ow0 := own_other ow0 g15 (fun a a2 h1 h2 => by have p1 := uw0 a h1; have p2 := ug0 a2 h2; omega)
      replace ox0 := own_other ox0 g15 (fun a a2 h1 h2 => by have p1 := ux0 a h1; have p2 := ug0 a2 h2; omega)
      replace ox1 := own_other ox1 g15 (fun a a2 h1 h2 => by have p1 := ux1 a h1; have p2 := ug0 a2 h2; omega)
      clear og0
      have og0 := n15
      clear n15 g15
      go_wp2_with fail
      refine (heldIntS_any _ _ _ _ 1 _ (Reads.of_own og0) (by omega) (by omega) (by omega)).mono ?_
      rintro e w16 ⟨rfl, s16⟩
      have b16 : Below W.heap.size W w16 := b15.trans (s16.mono b15.size)
      have z16 := s16.size
      replace ow0 := own_below ow0 s16
      replace ox0 := own_below ox0 s16
      replace ox1 := own_below ox1 s16
      replace og0 := own_below og0 s16
      clear s16
      go_wp2_with fail
      refine (toIntS_any _ _ _ xs _ (R0.below b16) b16.size (by omega)).mono ?_
      rintro e w17 ⟨Ay0, cy0, rfl, oy0, s17⟩
      have b17 : Below W.heap.size W w17 := b16.trans (s17.mono b16.size)
      have z17 := s17.size
      replace ow0 := own_below ow0 s17
      replace ox0 := own_below ox0 s17
      replace ox1 := own_below ox1 s17
      replace og0 := own_below og0 s17
      clear s17
      have uy0 := own_up oy0
      go_wp2_with fail
      refine (toIntS_any _ _ _ ts _ (R1.below b17) b17.size (by omega)).mono ?_
      rintro e w18 ⟨Ay1, cy1, rfl, oy1, s18⟩
      have b18 : Below W.heap.size W w18 := b17.trans (s18.mono b17.size)
      have z18 := s18.size
      replace ow0 := own_below ow0 s18
      replace ox0 := own_below ox0 s18
      replace ox1 := own_below ox1 s18
      replace og0 := own_below og0 s18
      replace oy0 := own_below oy0 s18
      clear s18
      have uy1 := own_up oy1
      go_wp2_with fail
      refine (implJumpWidths_any xs ts _ (Reads.of_own oy0) (Nat.le_refl _) (Reads.of_own oy1) (Nat.le_refl _) (by unfold maxLen; omega) (by unfold maxLen; omega)).mono ?_
      rintro e w19 ⟨Ah0, ch0, rfl, oh0, s19⟩
      have b19 : Below W.heap.size W w19 := b18.trans (s19.mono b18.size)
      have z19 := s19.size
      replace ow0 := own_below ow0 s19
      replace ox0 := own_below ox0 s19
      replace ox1 := own_below ox1 s19
      replace og0 := own_below og0 s19
      replace oy0 := own_below oy0 s19
      replace oy1 := own_below oy1 s19
      clear s19
      have uh0 := own_up oh0
      go_wp2_with fail
      refine (eqIntS_any _ _ _ _ _ _ _ _ _ (Reads.of_own oh0) (Reads.of_own ow0) (by omega) (by omega)).mono ?_
      rintro e w20 ⟨rfl, s20⟩
      rw [decide_eq_true rfl]
      have b20 : Below W.heap.size W w20 := b19.trans (s20.mono b19.size)
      have z20 := s20.size
      replace ow0 := own_below ow0 s20
      replace ox0 := own_below ox0 s20
      replace ox1 := own_below ox1 s20
      replace og0 := own_below og0 s20
      replace oy0 := own_below oy0 s20
      replace oy1 := own_below oy1 s20
      replace oh0 := own_below oh0 s20
      clear s20
      go_wp2_with fail
      refine (heldIntS_any _ _ _ _ 1 _ (Reads.of_own og0) (by omega) (by omega) (by omega)).mono ?_
      rintro e w21 ⟨rfl, s21⟩
      have b21 : Below W.heap.size W w21 := b20.trans (s21.mono b20.size)
      have z21 := s21.size
      replace ow0 := own_below ow0 s21
      replace ox0 := own_below ox0 s21
      replace ox1 := own_below ox1 s21
      replace og0 := own_below og0 s21
      replace oy0 := own_below oy0 s21
      replace oy1 := own_below oy1 s21
      replace oh0 := own_below oh0 s21
      clear s21
      go_wp2
      go_ret
      exact ⟨rfl, b21⟩
    · go_enter Try.func9, Try.ntmps9
      go_wp2
      go_ret
      exact ⟨rfl, Below.refl _ _⟩
  · go_enter Try.func9, Try.ntmps9
    go_wp2
    go_ret
    exact ⟨rfl, Below.refl _ _⟩
end Go.Proofs.Ytfdihhpnkmpidaa
