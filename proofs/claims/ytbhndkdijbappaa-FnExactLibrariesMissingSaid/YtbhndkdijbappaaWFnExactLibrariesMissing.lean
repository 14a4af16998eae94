/- The walk of FnExactLibrariesMissing. No condition. -/
import Derived.Test.YtbhndkdijbappaaRows
import Derived.Test.YtbhndkdijbappaaBase
import Derived.Test.YtbhndkdijbappaaBase2
import Derived.Test.YtbhndkdijbappaaOnly
import Derived.Test.YtbhndkdijbappaaOpen
import Derived.Test.YtbhndkdijbappaaOpen2
import Derived.Test.YtbhndkdijbappaaIn
import Derived.Test.YtbhndkdijbappaaName
import Derived.Test.YtbhndkdijbappaaStrS
import Derived.Test.YtbhndkdijbappaaBulk
import Derived.Test.YtbhndkdijbappaaSzStr
import Derived.Test.YtbhndkdijbappaaMarkT
import Derived.Test.YtbhndkdijbappaaMarkS
import Derived.Test.YtbhndkdijbappaaLb
import Derived.Test.YtbhndkdijbappaaLbM
import Derived.Test.YtbhndkdijbappaaLbO
import Derived.Test.YtbhndkdijbappaaLbK
import Derived.Test.YtbhndkdijbappaaFindS
import Derived.Test.YtbhndkdijbappaaFindLb
import Derived.Test.YtbhndkdijbappaaIdxI
import Derived.Test.YtbhndkdijbappaaIdxS
import Derived.Test.YtbhndkdijbappaaLibs
import Derived.Test.YtbhndkdijbappaaLibV
import Derived.Test.YtbhndkdijbappaaLibW
import Derived.Test.YtbhndkdijbappaaLoadP
import Derived.Test.YtbhndkdijbappaaLoadI
import Derived.Test.YtbhndkdijbappaaLoadS
import Derived.Test.YtbhndkdijbappaaLibG
import Derived.Test.YtbhndkdijbappaaLibN
import Derived.Test.YtbhndkdijbappaaLibM
import Derived.WalkKit
import Derived.WalkSpells
import Derived.WalkLawsBesides
import Derived.Handy
import Derived.BigQuiet
import Derived.Deep.RegionHeld3
import Derived.Deep.DrawnRows
import Derived.Deep.QuietTactic
namespace Go.Proofs.Ytbhndkdijbappaa
open Go Go.RowKit

theorem LbsOwn.cap {w : World} {lo hi g c : Nat} {ls : List Lb} (h : LbsOwn w lo hi g c ls) : ls.length ≤ c := by
  rcases h.2.1.2 with ⟨hv, h0⟩ | ⟨g', cap, cur, hv, _, _, hnc, hcm, _⟩
  · exact absurd hv (by simp)
  · injection hv with h1 h2 h3
    omega
set_option maxRecDepth 100000 in
set_option maxHeartbeats 8000000 in
theorem FnExactLibrariesMissing_walk (W : World) (v0 : Value) (v1 : Value) (a0 : ArgLbs W v0) (a1 : ArgStr v1) : Calls Try.prog 10 #[v0, v1] W (Gives W (.bool true)) := by
  obtain ⟨A0, c0, xs, rfl, R0, hm0, hb0⟩ := a0
  obtain ⟨nm, rfl, hn1⟩ := a1
  have HZ := Lib.hid (fun w (hb : Below W.heap.size W w) => szLibraryS_any (c := c0) xs 1048576 w (R0.below hb) hb.size hm0 hb0 (by omega) (by omega))
  unfold maxLen at hm0 hn1
  have hnn := Lb.tots_nonneg xs
  by_cases h1 : nm.size ≤ 1048576
  · by_cases hz : (xs.length : Int) + Lb.tots xs ≤ 1048576
    · have HR := Lib.hid (szRes_pos hz)
      have hlx : xs.length ≤ 1048576 := by omega
      have HSM := Lib.hid (Lb.small_of (xs := xs) (by omega))
      clear hb0
      have hrl := missL_len xs nm
      go_enter Try.func10, Try.ntmps10
      go_wp2_with fail
      refine (HZ.out _ (Below.refl _ _)).mono ?_
      rintro e w1 ⟨rfl, s1⟩
      rw [HR.out]
      clear hnn
      have b1 : Below W.heap.size W w1 := s1
      have z1 := s1.size
      clear s1
      go_wp2_with fail
      refine (toLibraryS_any xs _ (R0.below b1) b1.size (by omega) HSM.out).mono ?_
      rintro e w2 ⟨cs, ds, rfl, hvs, ps, s2⟩
      have b2 : Below W.heap.size W w2 := b1.trans (s2.mono b1.size)
      have z2 := s2.size
      clear s2
      have qs := ps
      clear ps
      have Vs := Lib.hid hvs
      clear hvs
      have Ss := Lib.hid (Lb.small_map Vs.out HSM.out)
      have Ls : ds.length = xs.length := by have := congrArg List.length Vs.out; simpa using this
      have ls : ds.length ≤ 1048576 := by omega
      clear Ls
      have HC3 := Lib.hid (specMiss_any ds nm _ qs.at_ (Nat.le_refl _) ls qs.cap Ss.out)
      rw [Vs.out] at HC3
      go_wp2_with fail
      refine (HC3.out).mono ?_
      rintro e w3 ⟨Aw0, cw0, rfl, ow0, s3⟩
      clear HC3
      have b3 : Below W.heap.size W w3 := b2.trans (s3.mono b2.size)
      have z3 := s3.size
      replace qs := qs.below s3
      clear s3
      have uw0 := own_up ow0
      clear qs
      go_wp2_with fail
      refine (toLibraryS_any xs _ (R0.below b3) b3.size (by omega) HSM.out).mono ?_
      rintro e w4 ⟨cx, dx, rfl, hvx, px, s4⟩
      have b4 : Below W.heap.size W w4 := b3.trans (s4.mono b3.size)
      have z4 := s4.size
      replace ow0 := own_below ow0 s4
      clear s4
      have qx := px
      clear px
      have Vx := Lib.hid hvx
      clear hvx
      have Sx := Lib.hid (Lb.small_map Vx.out HSM.out)
      have Lx : dx.length = xs.length := by have := congrArg List.length Vx.out; simpa using this
      have lx : dx.length ≤ 1048576 := by omega
      clear Lx
      have HC5 := Lib.hid (implMiss_any dx nm _ qx.at_ (Nat.le_refl _) lx qx.cap Sx.out)
      rw [Vx.out] at HC5
      go_wp2_with fail
      refine (HC5.out).mono ?_
      rintro e w5 ⟨Ag0, cg0, rfl, og0, s5⟩
      clear HC5
      have b5 : Below W.heap.size W w5 := b4.trans (s5.mono b4.size)
      have z5 := s5.size
      replace ow0 := own_below ow0 s5
      replace qx := qx.below s5
      clear s5
      have ug0 := own_up og0
      go_wp2_with fail
      refine (eqStringS_any _ _ _ _ _ _ _ _ _ (Reads.of_own og0) (Reads.of_own ow0) (by omega) (by omega)).mono ?_
      rintro e w6 ⟨rfl, s6⟩
      rw [decide_eq_true rfl]
      have b6 : Below W.heap.size W w6 := b5.trans (s6.mono b5.size)
      have z6 := s6.size
      replace ow0 := own_below ow0 s6
      replace og0 := own_below og0 s6
      replace qx := qx.below s6
      clear s6
      go_wp2_with fail
      refine (toLibraryS_any xs _ (R0.below b6) b6.size (by omega) HSM.out).mono ?_
      rintro e w7 ⟨ct, dt, rfl, hvt, pt, s7⟩
      have b7 : Below W.heap.size W w7 := b6.trans (s7.mono b6.size)
      have z7 := s7.size
      replace ow0 := own_below ow0 s7
      replace og0 := own_below og0 s7
      replace qx := qx.below s7
      clear s7
      have qt := pt
      clear pt
      have Vt := Lib.hid hvt
      clear hvt
      have St := Lib.hid (Lb.small_map Vt.out HSM.out)
      have Lt : dt.length = xs.length := by have := congrArg List.length Vt.out; simpa using this
      have lt : dt.length ≤ 1048576 := by omega
      clear Lt
      go_wp2_with fail
      refine (eqLibraryS_same _ _ _ (Vx.out.trans Vt.out.symm) qx.at_ qt.at_ (Nat.le_refl _) (Nat.le_refl _) lx Sx.out).mono ?_
      rintro e w8 ⟨rfl, s8⟩
      have b8 : Below W.heap.size W w8 := b7.trans (s8.mono b7.size)
      have z8 := s8.size
      replace ow0 := own_below ow0 s8
      replace og0 := own_below og0 s8
      replace qx := qx.below s8
      replace qt := qt.below s8
      clear s8
      clear qt
      go_wp2_with fail
      refine (markLibraryS_any _ 1 _ qx (by omega) (by omega) (by have := Lb.cnts_v Vx.out; have := Lb.cnts_bd xs; omega) lx Sx.out).mono ?_
      rintro e w9 ⟨rfl, on9⟩
      have hcn := (Lb.cnts_bd dx).1
      have b9 : Below W.heap.size W w9 := below_only b8 on9 (by omega) b8.size
      have z9 := on9.size
      replace ow0 := own_only ow0 on9 (fun a ha => by have := uw0 a ha; omega)
      replace og0 := own_only og0 on9 (fun a ha => by have := ug0 a ha; omega)
      clear qx
      clear on9
      go_wp2_with fail
      refine (eqStringS_any _ _ _ _ _ _ _ _ _ (Reads.of_own og0) (Reads.of_own ow0) (by omega) (by omega)).mono ?_
      rintro e w10 ⟨rfl, s10⟩
      rw [decide_eq_true rfl]
      have b10 : Below W.heap.size W w10 := b9.trans (s10.mono b9.size)
      have z10 := s10.size
      replace ow0 := own_below ow0 s10
      replace og0 := own_below og0 s10
      clear s10
      go_wp2_with fail
      refine (markStringS_any _ _ _ _ 1 _ _ og0 (by omega) (by omega) (by omega)).mono ?_
      rintro e w11 ⟨rfl, n11, g11⟩
      have b11 : Below W.heap.size W w11 := below_marks b10 og0 (by omega) g11
      have z11 := g11.size
      replace ow0 := own_other ow0 g11 (fun a a2 h1 h2 => by have p1 := uw0 a h1; have p2 := ug0 a2 h2; omega)
      clear og0
      have og0 := n11
      clear n11 g11
      go_wp2_with fail
      refine (heldStringS_any _ _ _ _ 1 _ (Reads.of_own og0) (Nat.le_refl _) (by omega) (by omega) (by omega)).mono ?_
      rintro e w12 ⟨rfl, s12⟩
      have b12 : Below W.heap.size W w12 := b11.trans (s12.mono b11.size)
      have z12 := s12.size
      replace ow0 := own_below ow0 s12
      replace og0 := own_below og0 s12
      clear s12
      go_wp2_with fail
      refine (toLibraryS_any xs _ (R0.below b12) b12.size (by omega) HSM.out).mono ?_
      rintro e w13 ⟨cy, dy, rfl, hvy, py, s13⟩
      have b13 : Below W.heap.size W w13 := b12.trans (s13.mono b12.size)
      have z13 := s13.size
      replace ow0 := own_below ow0 s13
      replace og0 := own_below og0 s13
      clear s13
      have qy := py
      clear py
      have Vy := Lib.hid hvy
      clear hvy
      have Sy := Lib.hid (Lb.small_map Vy.out HSM.out)
      have Ly : dy.length = xs.length := by have := congrArg List.length Vy.out; simpa using this
      have ly : dy.length ≤ 1048576 := by omega
      clear Ly
      have HC14 := Lib.hid (implMiss_any dy nm _ qy.at_ (Nat.le_refl _) ly qy.cap Sy.out)
      rw [Vy.out] at HC14
      go_wp2_with fail
      refine (HC14.out).mono ?_
      rintro e w14 ⟨Ah0, ch0, rfl, oh0, s14⟩
      clear HC14
      have b14 : Below W.heap.size W w14 := b13.trans (s14.mono b13.size)
      have z14 := s14.size
      replace ow0 := own_below ow0 s14
      replace og0 := own_below og0 s14
      replace qy := qy.below s14
      clear s14
      have uh0 := own_up oh0
      clear qy
      go_wp2_with fail
      refine (eqStringS_any _ _ _ _ _ _ _ _ _ (Reads.of_own oh0) (Reads.of_own ow0) (by omega) (by omega)).mono ?_
      rintro e w15 ⟨rfl, s15⟩
      rw [decide_eq_true rfl]
      have b15 : Below W.heap.size W w15 := b14.trans (s15.mono b14.size)
      have z15 := s15.size
      replace ow0 := own_below ow0 s15
      replace og0 := own_below og0 s15
      replace oh0 := own_below oh0 s15
      clear s15
      go_wp2_with fail
      refine (heldStringS_any _ _ _ _ 1 _ (Reads.of_own og0) (Nat.le_refl _) (by omega) (by omega) (by omega)).mono ?_
      rintro e w16 ⟨rfl, s16⟩
      have b16 : Below W.heap.size W w16 := b15.trans (s16.mono b15.size)
      have z16 := s16.size
      replace ow0 := own_below ow0 s16
      replace og0 := own_below og0 s16
      replace oh0 := own_below oh0 s16
      clear s16
      go_wp2
      go_ret
      exact ⟨rfl, b16⟩
    · have HR := Lib.hid (szRes_neg (left := 1048576) (total := (xs.length : Int) + Lb.tots xs) (by omega))
      go_enter Try.func10, Try.ntmps10
      go_wp2_with fail
      refine (HZ.out _ (Below.refl _ _)).mono ?_
      rintro e w1 ⟨rfl, s1⟩
      rw [HR.out]
      go_wp2
      go_ret
      exact ⟨rfl, s1⟩
  · go_enter Try.func10, Try.ntmps10
    go_wp2
    go_ret
    exact ⟨rfl, Below.refl _ _⟩
end Go.Proofs.Ytbhndkdijbappaa
