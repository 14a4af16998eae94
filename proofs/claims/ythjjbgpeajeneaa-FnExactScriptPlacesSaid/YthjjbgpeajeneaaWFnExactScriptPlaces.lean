/- The walk of FnExactScriptPlaces. No condition. -/
import Derived.Test.YthjjbgpeajeneaaRows
import Derived.Test.YthjjbgpeajeneaaBase
import Derived.Test.YthjjbgpeajeneaaBase2
import Derived.Test.YthjjbgpeajeneaaOpen
import Derived.Test.YthjjbgpeajeneaaOpenPart
import Derived.Test.YthjjbgpeajeneaaPart
import Derived.Test.YthjjbgpeajeneaaIntS
import Derived.Test.YthjjbgpeajeneaaMarkI
import Derived.Test.YthjjbgpeajeneaaAreV
import Derived.Test.YthjjbgpeajeneaaScrV
import Derived.Test.YthjjbgpeajeneaaScrW
import Derived.Test.YthjjbgpeajeneaaScrP
import Derived.Test.YthjjbgpeajeneaaScP
import Derived.Test.YthjjbgpeajeneaaScS
import Derived.Test.YthjjbgpeajeneaaMarkP
import Derived.WalkKit
import Derived.WalkSpells
import Derived.WalkLawsBesides
import Derived.Handy
import Derived.BigQuiet
import Derived.Deep.RegionHeld3
import Derived.Deep.DrawnRows
import Derived.Deep.QuietTactic
namespace Go.Proofs.Ythjjbgpeajeneaa
open Go Go.RowKit


set_option maxRecDepth 100000 in
set_option maxHeartbeats 8000000 in
theorem FnExactScriptPlaces_walk (W : World) (v0 : Value) (v1 : Value) (v2 : Value) (a0 : ArgParts W v0) (a1 : ArgNums .i64 W v1) (a2 : ArgInt v2) : Calls Try.prog 5 #[v0, v1, v2] W (Gives W (.bool true)) := by
  obtain ⟨A0, c0, xs, rfl, R0, hm0⟩ := a0
  obtain ⟨A1, c1, ss, rfl, R1, hm1, wf1⟩ := a1
  obtain ⟨base, rfl, n2a, n2b⟩ := a2
  replace wf1 := Lib.hid wf1
  have HZ := Lib.hid (fun w (hb : Below W.heap.size W w) => szPartS_any A0 xs.length c0 1048576 w hm0 (by omega) (by omega))
  have hr := spL_len xs ss base
  unfold maxLen at hm0 hm1
  by_cases h1 : ss.length ≤ 1048576
  · by_cases hz : (xs.length : Int) ≤ 1048576
    · have HR := Lib.hid (szRes_pos hz)
      have hlx : xs.length ≤ 1048576 := by omega
      go_enter Try.func5, Try.ntmps5
      go_wp2_with fail
      refine (HZ.out _ (Below.refl _ _)).mono ?_
      rintro e w1 ⟨rfl, s1⟩
      rw [HR.out]
      have b1 : Below W.heap.size W w1 := s1
      have z1 := s1.size
      clear s1
      go_wp2_with fail
      refine (toPartS_any _ _ _ xs _ (R0.below b1) b1.size (by omega)).mono ?_
      rintro e w2 ⟨As0, cs0, rfl, os0, s2⟩
      have b2 : Below W.heap.size W w2 := b1.trans (s2.mono b1.size)
      have z2 := s2.size
      clear s2
      have us0 := own_up os0
      go_wp2_with fail
      refine (toIntS_any _ _ _ ss _ (R1.below b2) b2.size (by omega)).mono ?_
      rintro e w3 ⟨As1, cs1, rfl, os1, s3⟩
      have b3 : Below W.heap.size W w3 := b2.trans (s3.mono b2.size)
      have z3 := s3.size
      replace os0 := own_below os0 s3
      clear s3
      have us1 := own_up os1
      go_wp2_with fail
      refine (specScriptPlaces_any xs ss base _ (Reads.of_own os0) (Nat.le_refl _) (Reads.of_own os1) (Nat.le_refl _) (by omega) (by omega)).mono ?_
      rintro e w4 ⟨Aw0, cw0, rfl, ow0, s4⟩
      have b4 : Below W.heap.size W w4 := b3.trans (s4.mono b3.size)
      have z4 := s4.size
      replace os0 := own_below os0 s4
      replace os1 := own_below os1 s4
      clear s4
      have uw0 := own_up ow0
      clear os0 us0
      clear os1 us1
      go_wp2_with fail
      refine (toPartS_any _ _ _ xs _ (R0.below b4) b4.size (by omega)).mono ?_
      rintro e w5 ⟨Ax0, cx0, rfl, ox0, s5⟩
      have b5 : Below W.heap.size W w5 := b4.trans (s5.mono b4.size)
      have z5 := s5.size
      replace ow0 := own_below ow0 s5
      clear s5
      have ux0 := own_up ox0
      go_wp2_with fail
      refine (toIntS_any _ _ _ ss _ (R1.below b5) b5.size (by omega)).mono ?_
      rintro e w6 ⟨Ax1, cx1, rfl, ox1, s6⟩
      have b6 : Below W.heap.size W w6 := b5.trans (s6.mono b5.size)
      have z6 := s6.size
      replace ow0 := own_below ow0 s6
      replace ox0 := own_below ox0 s6
      clear s6
      have ux1 := own_up ox1
      go_wp2_with fail
      refine (implScriptPlaces_any xs ss base _ (Reads.of_own ox0) (Nat.le_refl _) (Reads.of_own ox1) (Nat.le_refl _) (by omega) (by omega)).mono ?_
      rintro e w7 ⟨Ag0, cg0, rfl, og0, s7⟩
      have b7 : Below W.heap.size W w7 := b6.trans (s7.mono b6.size)
      have z7 := s7.size
      replace ow0 := own_below ow0 s7
      replace ox0 := own_below ox0 s7
      replace ox1 := own_below ox1 s7
      clear s7
      have ug0 := own_up og0
      go_wp2_with fail
      refine (eqIntS_any _ _ _ _ _ _ _ _ _ (Reads.of_own og0) (Reads.of_own ow0) (by omega) (by omega)).mono ?_
      rintro e w8 ⟨rfl, s8⟩
      rw [decide_eq_true rfl]
      have b8 : Below W.heap.size W w8 := b7.trans (s8.mono b7.size)
      have z8 := s8.size
      replace ow0 := own_below ow0 s8
      replace ox0 := own_below ox0 s8
      replace ox1 := own_below ox1 s8
      replace og0 := own_below og0 s8
      clear s8
      go_wp2_with fail
      refine (toPartS_any _ _ _ xs _ (R0.below b8) b8.size (by omega)).mono ?_
      rintro e w9 ⟨At0, ct0, rfl, ot0, s9⟩
      have b9 : Below W.heap.size W w9 := b8.trans (s9.mono b8.size)
      have z9 := s9.size
      replace ow0 := own_below ow0 s9
      replace ox0 := own_below ox0 s9
      replace ox1 := own_below ox1 s9
      replace og0 := own_below og0 s9
      clear s9
      have ut0 := own_up ot0
      go_wp2_with fail
      refine (eqPartS_any _ _ _ _ _ _ _ _ _ (Reads.of_own ox0) (Reads.of_own ot0) (Nat.le_refl _) (Nat.le_refl _) (by omega) (by omega)).mono ?_
      rintro e w10 ⟨rfl, s10⟩
      rw [decide_eq_true rfl]
      have b10 : Below W.heap.size W w10 := b9.trans (s10.mono b9.size)
      have z10 := s10.size
      replace ow0 := own_below ow0 s10
      replace ox0 := own_below ox0 s10
      replace ox1 := own_below ox1 s10
      replace og0 := own_below og0 s10
      replace ot0 := own_below ot0 s10
      clear s10
      clear ot0 ut0
      go_wp2_with fail
      refine (toIntS_any _ _ _ ss _ (R1.below b10) b10.size (by omega)).mono ?_
      rintro e w11 ⟨At1, ct1, rfl, ot1, s11⟩
      have b11 : Below W.heap.size W w11 := b10.trans (s11.mono b10.size)
      have z11 := s11.size
      replace ow0 := own_below ow0 s11
      replace ox0 := own_below ox0 s11
      replace ox1 := own_below ox1 s11
      replace og0 := own_below og0 s11
      clear s11
      have ut1 := own_up ot1
      go_wp2_with fail
      refine (eqIntS_any _ _ _ _ _ _ _ _ _ (Reads.of_own ox1) (Reads.of_own ot1) (by omega) (by omega)).mono ?_
      rintro e w12 ⟨rfl, s12⟩
      rw [decide_eq_true rfl]
      have b12 : Below W.heap.size W w12 := b11.trans (s12.mono b11.size)
      have z12 := s12.size
      replace ow0 := own_below ow0 s12
      replace ox0 := own_below ox0 s12
      replace ox1 := own_below ox1 s12
      replace og0 := own_below og0 s12
      replace ot1 := own_below ot1 s12
      clear s12
      clear ot1 ut1
      go_wp2_with fail
      refine (markPartS_any _ _ _ _ 1 _ _ ox0 (by omega) (by omega) (by omega)).mono ?_
      rintro e w13 ⟨rfl, n13, g13⟩
      have b13 : Below W.heap.size W w13 := below_marks b12 ox0 (by omega) g13
      have z13 := g13.size
      replace ow0 := own_other ow0 g13 (fun a a2 h1 h2 => by have p1 := uw0 a h1; have p2 := ux0 a2 h2; omega)
      replace ox1 := own_other ox1 g13 (fun a a2 h1 h2 => by have p1 := ux1 a h1; have p2 := ux0 a2 h2; omega)
      replace og0 := own_other og0 g13 (fun a a2 h1 h2 => by have p1 := ug0 a h1; have p2 := ux0 a2 h2; omega)
      clear ox0
      have ox0 := n13
      clear n13 g13
      go_wp2_with fail
      refine (markIntS_any _ _ _ _ (1 + (xs.length : Int) * 2) _ _ ox1 (by omega) (by omega) (by omega)).mono ?_
      rintro e w14 ⟨rfl, n14, g14⟩
      have b14 : Below W.heap.size W w14 := below_marks b13 ox1 (by omega) g14
      have z14 := g14.size
      replace ow0 := own_other ow0 g14 (fun a a2 h1 h2 => by have p1 := uw0 a h1; have p2 := ux1 a2 h2; omega)
      replace ox0 := own_other ox0 g14 (fun a a2 h1 h2 => by have p1 := ux0 a h1; have p2 := ux1 a2 h2; omega)
      replace og0 := own_other og0 g14 (fun a a2 h1 h2 => by have p1 := ug0 a h1; have p2 := ux1 a2 h2; omega)
      clear ox1
      have ox1 := n14
      clear n14 g14
      go_wp2_with fail
      refine (eqIntS_any _ _ _ _ _ _ _ _ _ (Reads.of_own og0) (Reads.of_own ow0) (by omega) (by omega)).mono ?_
      rintro e w15 ⟨rfl, s15⟩
      rw [decide_eq_true rfl]
      have b15 : Below W.heap.size W w15 := b14.trans (s15.mono b14.size)
      have z15 := s15.size
      replace ow0 := own_below ow0 s15
      replace ox0 := own_below ox0 s15
      replace ox1 := own_below ox1 s15
      replace og0 := own_below og0 s15
      clear s15
      go_wp2_with fail
      refine (markIntS_any _ _ _ _ 1 _ _ og0 (by omega) (by omega) (by omega)).mono ?_
      rintro e w16 ⟨rfl, n16, g16⟩
      have b16 : Below W.heap.size W w16 := below_marks b15 og0 (by omega) g16
      have z16 := g16.size
      replace ow0 := own_other ow0 g16 (fun a a2 h1 h2 => by have p1 := uw0 a h1; have p2 := ug0 a2 h2; omega)
      replace ox0 := own_other ox0 g16 (fun a a2 h1 h2 => by have p1 := ux0 a h1; have p2 := ug0 a2 h2; omega)
      replace ox1 := own_other ox1 g16 (fun a a2 h1 h2 => by have p1 := ux1 a h1; have p2 := ug0 a2 h2; omega)
      clear og0
      have og0 := n16
      clear n16 g16
      go_wp2_with fail
      refine (heldIntS_any _ _ _ _ 1 _ (Reads.of_own og0) (by omega) (by omega) (by omega)).mono ?_
      rintro e w17 ⟨rfl, s17⟩
      have b17 : Below W.heap.size W w17 := b16.trans (s17.mono b16.size)
      have z17 := s17.size
      replace ow0 := own_below ow0 s17
      replace ox0 := own_below ox0 s17
      replace ox1 := own_below ox1 s17
      replace og0 := own_below og0 s17
      clear s17
      go_wp2_with fail
      refine (toPartS_any _ _ _ xs _ (R0.below b17) b17.size (by omega)).mono ?_
      rintro e w18 ⟨Ay0, cy0, rfl, oy0, s18⟩
      have b18 : Below W.heap.size W w18 := b17.trans (s18.mono b17.size)
      have z18 := s18.size
      replace ow0 := own_below ow0 s18
      replace ox0 := own_below ox0 s18
      replace ox1 := own_below ox1 s18
      replace og0 := own_below og0 s18
      clear s18
      have uy0 := own_up oy0
      go_wp2_with fail
      refine (toIntS_any _ _ _ ss _ (R1.below b18) b18.size (by omega)).mono ?_
      rintro e w19 ⟨Ay1, cy1, rfl, oy1, s19⟩
      have b19 : Below W.heap.size W w19 := b18.trans (s19.mono b18.size)
      have z19 := s19.size
      replace ow0 := own_below ow0 s19
      replace ox0 := own_below ox0 s19
      replace ox1 := own_below ox1 s19
      replace og0 := own_below og0 s19
      replace oy0 := own_below oy0 s19
      clear s19
      have uy1 := own_up oy1
      go_wp2_with fail
      refine (implScriptPlaces_any xs ss base _ (Reads.of_own oy0) (Nat.le_refl _) (Reads.of_own oy1) (Nat.le_refl _) (by omega) (by omega)).mono ?_
      rintro e w20 ⟨Ah0, ch0, rfl, oh0, s20⟩
      have b20 : Below W.heap.size W w20 := b19.trans (s20.mono b19.size)
      have z20 := s20.size
      replace ow0 := own_below ow0 s20
      replace ox0 := own_below ox0 s20
      replace ox1 := own_below ox1 s20
      replace og0 := own_below og0 s20
      replace oy0 := own_below oy0 s20
      replace oy1 := own_below oy1 s20
      clear s20
      have uh0 := own_up oh0
      go_wp2_with fail
      refine (eqIntS_any _ _ _ _ _ _ _ _ _ (Reads.of_own oh0) (Reads.of_own ow0) (by omega) (by omega)).mono ?_
      rintro e w21 ⟨rfl, s21⟩
      rw [decide_eq_true rfl]
      have b21 : Below W.heap.size W w21 := b20.trans (s21.mono b20.size)
      have z21 := s21.size
      replace ow0 := own_below ow0 s21
      replace ox0 := own_below ox0 s21
      replace ox1 := own_below ox1 s21
      replace og0 := own_below og0 s21
      replace oy0 := own_below oy0 s21
      replace oy1 := own_below oy1 s21
      replace oh0 := own_below oh0 s21
      clear s21
      go_wp2_with fail
      refine (heldIntS_any _ _ _ _ 1 _ (Reads.of_own og0) (by omega) (by omega) (by omega)).mono ?_
      rintro e w22 ⟨rfl, s22⟩
      have b22 : Below W.heap.size W w22 := b21.trans (s22.mono b21.size)
      have z22 := s22.size
      replace ow0 := own_below ow0 s22
      replace ox0 := own_below ox0 s22
      replace ox1 := own_below ox1 s22
      replace og0 := own_below og0 s22
      replace oy0 := own_below oy0 s22
      replace oy1 := own_below oy1 s22
      replace oh0 := own_below oh0 s22
      clear s22
      go_wp2
      go_ret
      exact ⟨rfl, b22⟩
    · have HR := Lib.hid (szRes_neg (left := 1048576) (total := (xs.length : Int)) (by omega))
      go_enter Try.func5, Try.ntmps5
      go_wp2_with fail
      refine (HZ.out _ (Below.refl _ _)).mono ?_
      rintro e w1 ⟨rfl, s1⟩
      rw [HR.out]
      go_wp2
      go_ret
      exact ⟨rfl, s1⟩
  · go_enter Try.func5, Try.ntmps5
    go_wp2
    go_ret
    exact ⟨rfl, Below.refl _ _⟩
end Go.Proofs.Ythjjbgpeajeneaa
