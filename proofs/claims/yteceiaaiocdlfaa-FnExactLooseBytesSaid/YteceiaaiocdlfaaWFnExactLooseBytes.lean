/- The walk of FnExactLooseBytes. No condition. -/
import Derived.Test.YteceiaaiocdlfaaRows
import Derived.Test.YteceiaaiocdlfaaBase
import Derived.Test.YteceiaaiocdlfaaBase2
import Derived.Test.YteceiaaiocdlfaaOpen
import Derived.Test.YteceiaaiocdlfaaBase3
import Derived.Test.YteceiaaiocdlfaaByteS
import Derived.Test.YteceiaaiocdlfaaMarkB
import Derived.Test.YteceiaaiocdlfaaSqz
import Derived.Test.YteceiaaiocdlfaaRepB
import Derived.Test.YteceiaaiocdlfaaFill
import Derived.Test.YteceiaaiocdlfaaLooP
import Derived.Test.YteceiaaiocdlfaaLoo
import Derived.WalkKit
import Derived.WalkSpells
import Derived.WalkLawsBesides
import Derived.Handy
import Derived.BigQuiet
import Derived.Deep.RegionHeld3
import Derived.Deep.DrawnRows
import Derived.Deep.QuietTactic
namespace Go.Proofs.Yteceiaaiocdlfaa
open Go Go.RowKit
theorem own_capB {w : World} {base : Nat} {t : TypeId} {size : Nat} {A : Option Addr} {n c : Nat} {xs : List Value} (h : w.ownsRow base t size (.slice A n c) n xs) : n ≤ c ∧ c ≤ maxLen := by
  rcases h.2 with ⟨hv, h0⟩ | ⟨g, cap, cur, hv, _, _, hnc, hcm, _⟩
  · injection hv with h1 h2 h3
    subst h3
    exact ⟨by omega, Nat.zero_le _⟩
  · injection hv with h1 h2 h3
    subst h3
    exact ⟨hnc, hcm⟩
theorem looL_len (bs : List Int) : (looL bs).length ≤ 600 := by
  cases h : looOk bs
  · rw [loo_no h]; simp
  · rw [loo_yes h]
    unfold looOk at h
    exact (of_decide_eq_true h).2.1


set_option maxRecDepth 100000 in
set_option maxHeartbeats 8000000 in
theorem FnExactLooseBytes_walk (W : World) (v0 : Value) (a0 : ArgNums .u8 W v0) : Calls Try.prog 11 #[v0] W (Gives W (.bool true)) := by
  obtain ⟨A0, c0, bs, rfl, R0, hm0, wf0⟩ := a0
  replace wf0 := Lib.hid wf0
  have hr := looL_len bs
  have HX : Hid (isB bs) := fun x hx => wf_u8_bd (wf0.out x hx)
  obtain ⟨bk, hbk⟩ : ∃ bk, looOk bs = bk := ⟨_, rfl⟩
  have HBK := Lib.hid hbk
  clear hbk
  unfold maxLen at hm0
  by_cases h0 : bs.length ≤ 1048576
  · go_enter Try.func11, Try.ntmps11
    go_wp2_with fail
    refine (toByteS_any _ _ _ bs _ R0 (Nat.le_refl _) (by omega)).mono ?_
    rintro e w1 ⟨As0, cs0, rfl, os0, s1⟩
    have b1 : Below W.heap.size W w1 := (Below.refl W.heap.size W).trans (s1.mono (Below.refl W.heap.size W).size)
    have z1 := s1.size
    clear s1
    have us0 := own_up os0
    go_wp2_with fail
    refine (specLoose_any bs _ (Reads.of_own os0) (Nat.le_refl _) (by omega) (own_capB os0).1 (own_capB os0).2 HX.out).mono ?_
    rintro e w2 ⟨Aw0, cw0, rfl, ow0, s2⟩
    have b2 : Below W.heap.size W w2 := b1.trans (s2.mono b1.size)
    have z2 := s2.size
    replace os0 := own_below os0 s2
    clear s2
    have uw0 := own_up ow0
    clear os0 us0
    go_wp2_with fail
    refine (toByteS_any _ _ _ bs _ (R0.below b2) b2.size (by omega)).mono ?_
    rintro e w3 ⟨Ax0, cx0, rfl, ox0, s3⟩
    have b3 : Below W.heap.size W w3 := b2.trans (s3.mono b2.size)
    have z3 := s3.size
    replace ow0 := own_below ow0 s3
    clear s3
    have ux0 := own_up ox0
    go_wp2_with fail
    refine (implLoose_any bs _ (Reads.of_own ox0) (Nat.le_refl _) (by omega) (own_capB ox0).1 (own_capB ox0).2 HX.out).mono ?_
    rintro e w4 ⟨Ag0, cg0, rfl, og0, s4⟩
    have b4 : Below W.heap.size W w4 := b3.trans (s4.mono b3.size)
    have z4 := s4.size
    replace ow0 := own_below ow0 s4
    replace ox0 := own_below ox0 s4
    clear s4
    have ug0 := own_up og0
    go_wp2_with fail
    refine (eqByteS_any _ _ _ _ _ _ _ _ _ (Reads.of_own og0) (Reads.of_own ow0) (by omega) (by omega)).mono ?_
    rintro e w5 ⟨rfl, s5⟩
    rw [decide_eq_true rfl]
    have b5 : Below W.heap.size W w5 := b4.trans (s5.mono b4.size)
    have z5 := s5.size
    replace ow0 := own_below ow0 s5
    replace ox0 := own_below ox0 s5
    replace og0 := own_below og0 s5
    clear s5
    go_wp2_with fail
    refine (toByteS_any _ _ _ bs _ (R0.below b5) b5.size (by omega)).mono ?_
    rintro e w6 ⟨At0, ct0, rfl, ot0, s6⟩
    have b6 : Below W.heap.size W w6 := b5.trans (s6.mono b5.size)
    have z6 := s6.size
    replace ow0 := own_below ow0 s6
    replace ox0 := own_below ox0 s6
    replace og0 := own_below og0 s6
    clear s6
    have ut0 := own_up ot0
    go_wp2_with fail
    refine (eqByteS_any _ _ _ _ _ _ _ _ _ (Reads.of_own ox0) (Reads.of_own ot0) (by omega) (by omega)).mono ?_
    rintro e w7 ⟨rfl, s7⟩
    rw [decide_eq_true rfl]
    have b7 : Below W.heap.size W w7 := b6.trans (s7.mono b6.size)
    have z7 := s7.size
    replace ow0 := own_below ow0 s7
    replace ox0 := own_below ox0 s7
    replace og0 := own_below og0 s7
    replace ot0 := own_below ot0 s7
    clear s7
    clear ot0 ut0
    go_wp2_with fail
    refine (markByteS_any _ _ _ _ 1 _ _ ox0 (by omega) (by omega) (by omega)).mono ?_
    rintro e w8 ⟨rfl, n8, g8⟩
    have b8 : Below W.heap.size W w8 := below_marks b7 ox0 (by omega) g8
    have z8 := g8.size
    replace ow0 := own_other ow0 g8 (fun a a2 h1 h2 => by have p1 := uw0 a h1; have p2 := ux0 a2 h2; omega)
    replace og0 := own_other og0 g8 (fun a a2 h1 h2 => by have p1 := ug0 a h1; have p2 := ux0 a2 h2; omega)
    clear ox0
    have ox0 := n8
    clear n8 g8
    go_wp2_with fail
    refine (eqByteS_any _ _ _ _ _ _ _ _ _ (Reads.of_own og0) (Reads.of_own ow0) (by omega) (by omega)).mono ?_
    rintro e w9 ⟨rfl, s9⟩
    rw [decide_eq_true rfl]
    have b9 : Below W.heap.size W w9 := b8.trans (s9.mono b8.size)
    have z9 := s9.size
    replace ow0 := own_below ow0 s9
    replace ox0 := own_below ox0 s9
    replace og0 := own_below og0 s9
    clear s9
    go_wp2_with fail
    refine (markByteS_any _ _ _ _ 1 _ _ og0 (by omega) (by omega) (by omega)).mono ?_
    rintro e w10 ⟨rfl, n10, g10⟩
    have b10 : Below W.heap.size W w10 := below_marks b9 og0 (by omega) g10
    have z10 := g10.size
    replace ow0 := own_other ow0 g10 (fun a a2 h1 h2 => by have p1 := uw0 a h1; have p2 := ug0 a2 h2; omega)
    replace ox0 := own_other ox0 g10 (fun a a2 h1 h2 => by have p1 := ux0 a h1; have p2 := ug0 a2 h2; omega)
    clear og0
    have og0 := n10
    clear n10 g10
    go_wp2_with fail
    refine (heldByteS_any _ _ _ _ 1 _ (Reads.of_own og0) (by omega) (by omega) (by omega)).mono ?_
    rintro e w11 ⟨rfl, s11⟩
    have b11 : Below W.heap.size W w11 := b10.trans (s11.mono b10.size)
    have z11 := s11.size
    replace ow0 := own_below ow0 s11
    replace ox0 := own_below ox0 s11
    replace og0 := own_below og0 s11
    clear s11
    go_wp2_with fail
    refine (toByteS_any _ _ _ bs _ (R0.below b11) b11.size (by omega)).mono ?_
    rintro e w12 ⟨Ay0, cy0, rfl, oy0, s12⟩
    have b12 : Below W.heap.size W w12 := b11.trans (s12.mono b11.size)
    have z12 := s12.size
    replace ow0 := own_below ow0 s12
    replace ox0 := own_below ox0 s12
    replace og0 := own_below og0 s12
    clear s12
    have uy0 := own_up oy0
    go_wp2_with fail
    refine (implLoose_any bs _ (Reads.of_own oy0) (Nat.le_refl _) (by omega) (own_capB oy0).1 (own_capB oy0).2 HX.out).mono ?_
    rintro e w13 ⟨Ah0, ch0, rfl, oh0, s13⟩
    have b13 : Below W.heap.size W w13 := b12.trans (s13.mono b12.size)
    have z13 := s13.size
    replace ow0 := own_below ow0 s13
    replace ox0 := own_below ox0 s13
    replace og0 := own_below og0 s13
    replace oy0 := own_below oy0 s13
    clear s13
    have uh0 := own_up oh0
    go_wp2_with fail
    refine (eqByteS_any _ _ _ _ _ _ _ _ _ (Reads.of_own oh0) (Reads.of_own ow0) (by omega) (by omega)).mono ?_
    rintro e w14 ⟨rfl, s14⟩
    rw [decide_eq_true rfl]
    have b14 : Below W.heap.size W w14 := b13.trans (s14.mono b13.size)
    have z14 := s14.size
    replace ow0 := own_below ow0 s14
    replace ox0 := own_below ox0 s14
    replace og0 := own_below og0 s14
    replace oy0 := own_below oy0 s14
    replace oh0 := own_below oh0 s14
    clear s14
    go_wp2_with fail
    refine (heldByteS_any _ _ _ _ 1 _ (Reads.of_own og0) (by omega) (by omega) (by omega)).mono ?_
    rintro e w15 ⟨rfl, s15⟩
    have b15 : Below W.heap.size W w15 := b14.trans (s15.mono b14.size)
    have z15 := s15.size
    replace ow0 := own_below ow0 s15
    replace ox0 := own_below ox0 s15
    replace og0 := own_below og0 s15
    replace oy0 := own_below oy0 s15
    replace oh0 := own_below oh0 s15
    clear s15
    go_wp2
    go_ret
    exact ⟨rfl, b15⟩
  · go_enter Try.func11, Try.ntmps11
    go_wp2
    go_ret
    exact ⟨rfl, Below.refl _ _⟩
end Go.Proofs.Yteceiaaiocdlfaa
