/- The walk of FnExactSlotsOf. No condition. -/
import Derived.Test.YteceiaaiocdlfaaRows
import Derived.Test.YteceiaaiocdlfaaBase
import Derived.Test.YteceiaaiocdlfaaBase2
import Derived.Test.YteceiaaiocdlfaaOpen
import Derived.Test.YteceiaaiocdlfaaStrS
import Derived.Test.YteceiaaiocdlfaaMarkT
import Derived.Test.YteceiaaiocdlfaaMarkS
import Derived.Test.YteceiaaiocdlfaaSzStr
import Derived.Test.YteceiaaiocdlfaaBulk
import Derived.Test.YteceiaaiocdlfaaSlS
import Derived.Test.YteceiaaiocdlfaaSlI
import Derived.WalkKit
import Derived.WalkSpells
import Derived.WalkLawsBesides
import Derived.Handy
import Derived.BigQuiet
import Derived.Deep.RegionHeld3
import Derived.Deep.DrawnRows
import Derived.Deep.QuietTactic
namespace Go.Proofs.Yteceiaaiocdlfaa
open Go Go.RowKit


set_option maxRecDepth 100000 in
set_option maxHeartbeats 8000000 in
theorem FnExactSlotsOf_walk (W : World) (v0 : Value) (a0 : ArgTexts W v0) : Calls Try.prog 7 #[v0] W (Gives W (.bool true)) := by
  obtain ⟨A0, c0, xs, rfl, R0, hm0, hf0⟩ := a0
  replace hf0 := Lib.hid hf0
  have HZ := Lib.hid (fun w (hb : Below W.heap.size W w) => szStringS_any (c := c0) xs 1048576 w (R0.below hb) hm0 hf0.out (by omega) (by omega))
  have hr := slotsOf_len xs
  have hbk := bulk_nonneg xs
  unfold maxLen at hm0
  by_cases hz : (xs.length : Int) + bulk xs ≤ 1048576
  · have HR := Lib.hid (szRes_pos hz)
    have hlx : xs.length ≤ 1048576 := by omega
    generalize bulk xs = bk at *
    go_enter Try.func7, Try.ntmps7
    go_wp2_with fail
    refine (HZ.out _ (Below.refl _ _)).mono ?_
    rintro e w1 ⟨rfl, s1⟩
    rw [HR.out]
    have b1 : Below W.heap.size W w1 := s1
    have z1 := s1.size
    clear s1
    go_wp2_with fail
    refine (toStringS_any _ _ _ xs _ (R0.below b1) b1.size (by omega)).mono ?_
    rintro e w2 ⟨As0, cs0, rfl, os0, s2⟩
    have b2 : Below W.heap.size W w2 := b1.trans (s2.mono b1.size)
    have z2 := s2.size
    clear s2
    have us0 := own_up os0
    go_wp2_with fail
    refine (specSlotsF xs _ (Reads.of_own os0) (Nat.le_refl _) (by omega) hf0.out).mono ?_
    rintro e w3 ⟨Aw0, cw0, rfl, ow0, s3⟩
    have b3 : Below W.heap.size W w3 := b2.trans (s3.mono b2.size)
    have z3 := s3.size
    replace os0 := own_below os0 s3
    clear s3
    have uw0 := own_up ow0
    clear os0 us0
    go_wp2_with fail
    refine (toStringS_any _ _ _ xs _ (R0.below b3) b3.size (by omega)).mono ?_
    rintro e w4 ⟨Ax0, cx0, rfl, ox0, s4⟩
    have b4 : Below W.heap.size W w4 := b3.trans (s4.mono b3.size)
    have z4 := s4.size
    replace ow0 := own_below ow0 s4
    clear s4
    have ux0 := own_up ox0
    go_wp2_with fail
    refine (implSlotsF xs _ (Reads.of_own ox0) (Nat.le_refl _) (by omega) hf0.out).mono ?_
    rintro e w5 ⟨Ag0, cg0, rfl, og0, s5⟩
    have b5 : Below W.heap.size W w5 := b4.trans (s5.mono b4.size)
    have z5 := s5.size
    replace ow0 := own_below ow0 s5
    replace ox0 := own_below ox0 s5
    clear s5
    have ug0 := own_up og0
    go_wp2_with fail
    refine (eqStringS_any _ _ _ _ _ _ _ _ _ (Reads.of_own og0) (Reads.of_own ow0) (by omega) (by omega)).mono ?_
    rintro e w6 ⟨rfl, s6⟩
    rw [decide_eq_true rfl]
    have b6 : Below W.heap.size W w6 := b5.trans (s6.mono b5.size)
    have z6 := s6.size
    replace ow0 := own_below ow0 s6
    replace ox0 := own_below ox0 s6
    replace og0 := own_below og0 s6
    clear s6
    go_wp2_with fail
    refine (toStringS_any _ _ _ xs _ (R0.below b6) b6.size (by omega)).mono ?_
    rintro e w7 ⟨At0, ct0, rfl, ot0, s7⟩
    have b7 : Below W.heap.size W w7 := b6.trans (s7.mono b6.size)
    have z7 := s7.size
    replace ow0 := own_below ow0 s7
    replace ox0 := own_below ox0 s7
    replace og0 := own_below og0 s7
    clear s7
    have ut0 := own_up ot0
    go_wp2_with fail
    refine (eqStringS_any _ _ _ _ _ _ _ _ _ (Reads.of_own ox0) (Reads.of_own ot0) (by omega) (by omega)).mono ?_
    rintro e w8 ⟨rfl, s8⟩
    rw [decide_eq_true rfl]
    have b8 : Below W.heap.size W w8 := b7.trans (s8.mono b7.size)
    have z8 := s8.size
    replace ow0 := own_below ow0 s8
    replace ox0 := own_below ox0 s8
    replace og0 := own_below og0 s8
    replace ot0 := own_below ot0 s8
    clear s8
    clear ot0 ut0
    go_wp2_with fail
    refine (markStringS_any _ _ _ _ 1 _ _ ox0 (by omega) (by omega) (by omega)).mono ?_
    rintro e w9 ⟨rfl, n9, g9⟩
    have b9 : Below W.heap.size W w9 := below_marks b8 ox0 (by omega) g9
    have z9 := g9.size
    replace ow0 := own_other ow0 g9 (fun a a2 h1 h2 => by have p1 := uw0 a h1; have p2 := ux0 a2 h2; omega)
    replace og0 := own_other og0 g9 (fun a a2 h1 h2 => by have p1 := ug0 a h1; have p2 := ux0 a2 h2; omega)
    clear ox0
    have ox0 := n9
    clear n9 g9
    go_wp2_with fail
    refine (eqStringS_any _ _ _ _ _ _ _ _ _ (Reads.of_own og0) (Reads.of_own ow0) (by omega) (by omega)).mono ?_
    rintro e w10 ⟨rfl, s10⟩
    rw [decide_eq_true rfl]
    have b10 : Below W.heap.size W w10 := b9.trans (s10.mono b9.size)
    have z10 := s10.size
    replace ow0 := own_below ow0 s10
    replace ox0 := own_below ox0 s10
    replace og0 := own_below og0 s10
    clear s10
    go_wp2_with fail
    refine (markStringS_any _ _ _ _ 1 _ _ og0 (by omega) (by omega) (by omega)).mono ?_
    rintro e w11 ⟨rfl, n11, g11⟩
    have b11 : Below W.heap.size W w11 := below_marks b10 og0 (by omega) g11
    have z11 := g11.size
    replace ow0 := own_other ow0 g11 (fun a a2 h1 h2 => by have p1 := uw0 a h1; have p2 := ug0 a2 h2; omega)
    replace ox0 := own_other ox0 g11 (fun a a2 h1 h2 => by have p1 := ux0 a h1; have p2 := ug0 a2 h2; omega)
    clear og0
    have og0 := n11
    clear n11 g11
    go_wp2_with fail
    refine (heldStringS_any _ _ _ _ 1 _ (Reads.of_own og0) (Nat.le_refl _) (by omega) (by omega) (by omega)).mono ?_
    rintro e w12 ⟨rfl, s12⟩
    have b12 : Below W.heap.size W w12 := b11.trans (s12.mono b11.size)
    have z12 := s12.size
    replace ow0 := own_below ow0 s12
    replace ox0 := own_below ox0 s12
    replace og0 := own_below og0 s12
    clear s12
    go_wp2_with fail
    refine (toStringS_any _ _ _ xs _ (R0.below b12) b12.size (by omega)).mono ?_
    rintro e w13 ⟨Ay0, cy0, rfl, oy0, s13⟩
    have b13 : Below W.heap.size W w13 := b12.trans (s13.mono b12.size)
    have z13 := s13.size
    replace ow0 := own_below ow0 s13
    replace ox0 := own_below ox0 s13
    replace og0 := own_below og0 s13
    clear s13
    have uy0 := own_up oy0
    go_wp2_with fail
    refine (implSlotsF xs _ (Reads.of_own oy0) (Nat.le_refl _) (by omega) hf0.out).mono ?_
    rintro e w14 ⟨Ah0, ch0, rfl, oh0, s14⟩
    have b14 : Below W.heap.size W w14 := b13.trans (s14.mono b13.size)
    have z14 := s14.size
    replace ow0 := own_below ow0 s14
    replace ox0 := own_below ox0 s14
    replace og0 := own_below og0 s14
    replace oy0 := own_below oy0 s14
    clear s14
    have uh0 := own_up oh0
    go_wp2_with fail
    refine (eqStringS_any _ _ _ _ _ _ _ _ _ (Reads.of_own oh0) (Reads.of_own ow0) (by omega) (by omega)).mono ?_
    rintro e w15 ⟨rfl, s15⟩
    rw [decide_eq_true rfl]
    have b15 : Below W.heap.size W w15 := b14.trans (s15.mono b14.size)
    have z15 := s15.size
    replace ow0 := own_below ow0 s15
    replace ox0 := own_below ox0 s15
    replace og0 := own_below og0 s15
    replace oy0 := own_below oy0 s15
    replace oh0 := own_below oh0 s15
    clear s15
    go_wp2_with fail
    refine (heldStringS_any _ _ _ _ 1 _ (Reads.of_own og0) (Nat.le_refl _) (by omega) (by omega) (by omega)).mono ?_
    rintro e w16 ⟨rfl, s16⟩
    have b16 : Below W.heap.size W w16 := b15.trans (s16.mono b15.size)
    have z16 := s16.size
    replace ow0 := own_below ow0 s16
    replace ox0 := own_below ox0 s16
    replace og0 := own_below og0 s16
    replace oy0 := own_below oy0 s16
    replace oh0 := own_below oh0 s16
    clear s16
    go_wp2
    go_ret
    exact ⟨rfl, b16⟩
  · have HR := Lib.hid (szRes_neg (left := 1048576) (total := (xs.length : Int) + bulk xs) (by omega))
    go_enter Try.func7, Try.ntmps7
    go_wp2_with fail
    refine (HZ.out _ (Below.refl _ _)).mono ?_
    rintro e w1 ⟨rfl, s1⟩
    rw [HR.out]
    go_wp2
    go_ret
    exact ⟨rfl, s1⟩
end Go.Proofs.Yteceiaaiocdlfaa
