/- The walk of FnExactGiverOf. No condition. -/
import Derived.Test.YtbhndkdijbappaaRows
import Derived.Test.YtbhndkdijbappaaBase
import Derived.Test.YtbhndkdijbappaaBase2
import Derived.Test.YtbhndkdijbappaaOnly
import Derived.Test.YtbhndkdijbappaaOpen
import Derived.Test.YtbhndkdijbappaaOpen2
import Derived.Test.YtbhndkdijbappaaIn
import Derived.Test.YtbhndkdijbappaaName
import Derived.Test.YtbhndkdijbappaaStrS
import Derived.Test.YtbhndkdijbappaaBulk
import Derived.Test.YtbhndkdijbappaaSzStr
import Derived.Test.YtbhndkdijbappaaLb
import Derived.Test.YtbhndkdijbappaaLbM
import Derived.Test.YtbhndkdijbappaaLbO
import Derived.Test.YtbhndkdijbappaaFindS
import Derived.Test.YtbhndkdijbappaaFindLb
import Derived.Test.YtbhndkdijbappaaIdxI
import Derived.Test.YtbhndkdijbappaaIdxS
import Derived.Test.YtbhndkdijbappaaLibs
import Derived.Test.YtbhndkdijbappaaLibV
import Derived.Test.YtbhndkdijbappaaLibW
import Derived.Test.YtbhndkdijbappaaLoadP
import Derived.Test.YtbhndkdijbappaaLoadI
import Derived.Test.YtbhndkdijbappaaLoadS
import Derived.Test.YtbhndkdijbappaaLibG
import Derived.WalkKit
import Derived.WalkSpells
import Derived.WalkLawsBesides
import Derived.Handy
import Derived.BigQuiet
import Derived.Deep.RegionHeld3
import Derived.Deep.DrawnRows
import Derived.Deep.QuietTactic
namespace Go.Proofs.Ytbhndkdijbappaa
open Go Go.RowKit

theorem LbsOwn.cap {w : World} {lo hi g c : Nat} {ls : List Lb} (h : LbsOwn w lo hi g c ls) : ls.length ≤ c := by
  rcases h.2.1.2 with ⟨hv, h0⟩ | ⟨g', cap, cur, hv, _, _, hnc, hcm, _⟩
  · exact absurd hv (by simp)
  · injection hv with h1 h2 h3
    omega
set_option maxRecDepth 100000 in
set_option maxHeartbeats 8000000 in
theorem FnExactGiverOf_walk (W : World) (v0 : Value) (v1 : Value) (v2 : Value) (a0 : ArgLbs W v0) (a1 : ArgStr v1) (a2 : ArgStr v2) : Calls Try.prog 8 #[v0, v1, v2] W (Gives W (.bool true)) := by
  obtain ⟨A0, c0, xs, rfl, R0, hm0, hb0⟩ := a0
  obtain ⟨nm, rfl, hn1⟩ := a1
  obtain ⟨wt, rfl, hn2⟩ := a2
  have HZ := Lib.hid (fun w (hb : Below W.heap.size W w) => szLibraryS_any (c := c0) xs 1048576 w (R0.below hb) hb.size hm0 hb0 (by omega) (by omega))
  unfold maxLen at hm0 hn1 hn2
  have hnn := Lb.tots_nonneg xs
  by_cases h1 : nm.size ≤ 1048576
  · by_cases h2 : wt.size ≤ 1048576
    · by_cases hz : (xs.length : Int) + Lb.tots xs ≤ 1048576
      · have HR := Lib.hid (szRes_pos hz)
        have hlx : xs.length ≤ 1048576 := by omega
        have HSM := Lib.hid (Lb.small_of (xs := xs) (by omega))
        clear hb0
        go_enter Try.func8, Try.ntmps8
        go_wp2_with fail
        refine (HZ.out _ (Below.refl _ _)).mono ?_
        rintro e w1 ⟨rfl, s1⟩
        rw [HR.out]
        clear hnn
        have b1 : Below W.heap.size W w1 := s1
        have z1 := s1.size
        clear s1
        go_wp2_with fail
        refine (toLibraryS_any xs _ (R0.below b1) b1.size (by omega) HSM.out).mono ?_
        rintro e w2 ⟨cs, ds, rfl, hvs, ps, s2⟩
        have b2 : Below W.heap.size W w2 := b1.trans (s2.mono b1.size)
        have z2 := s2.size
        clear s2
        have qs := ps
        clear ps
        have Vs := Lib.hid hvs
        clear hvs
        have Ss := Lib.hid (Lb.small_map Vs.out HSM.out)
        have Ls : ds.length = xs.length := by have := congrArg List.length Vs.out; simpa using this
        have ls : ds.length ≤ 1048576 := by omega
        clear Ls
        have HC3 := Lib.hid (specGiver_any ds nm wt _ qs.at_ (Nat.le_refl _) ls qs.cap Ss.out)
        rw [Vs.out] at HC3
        go_wp2_with fail
        refine HC3.out.mono ?_
        rintro e w3 ⟨rfl, s3⟩
        clear HC3
        have b3 : Below W.heap.size W w3 := b2.trans (s3.mono b2.size)
        have z3 := s3.size
        replace qs := qs.below s3
        clear s3
        clear qs
        go_wp2_with fail
        refine (toLibraryS_any xs _ (R0.below b3) b3.size (by omega) HSM.out).mono ?_
        rintro e w4 ⟨cx, dx, rfl, hvx, px, s4⟩
        have b4 : Below W.heap.size W w4 := b3.trans (s4.mono b3.size)
        have z4 := s4.size
        clear s4
        have qx := px
        clear px
        have Vx := Lib.hid hvx
        clear hvx
        have Sx := Lib.hid (Lb.small_map Vx.out HSM.out)
        have Lx : dx.length = xs.length := by have := congrArg List.length Vx.out; simpa using this
        have lx : dx.length ≤ 1048576 := by omega
        clear Lx
        have HC5 := Lib.hid (implGiver_any dx nm wt _ qx.at_ (Nat.le_refl _) lx qx.cap Sx.out)
        rw [Vx.out] at HC5
        go_wp2_with fail
        refine HC5.out.mono ?_
        rintro e w5 ⟨rfl, s5⟩
        clear HC5
        have b5 : Below W.heap.size W w5 := b4.trans (s5.mono b4.size)
        have z5 := s5.size
        replace qx := qx.below s5
        clear s5
        go_wp2_with fail
        refine (toLibraryS_any xs _ (R0.below b5) b5.size (by omega) HSM.out).mono ?_
        rintro e w6 ⟨ct, dt, rfl, hvt, pt, s6⟩
        have b6 : Below W.heap.size W w6 := b5.trans (s6.mono b5.size)
        have z6 := s6.size
        replace qx := qx.below s6
        clear s6
        have qt := pt
        clear pt
        have Vt := Lib.hid hvt
        clear hvt
        have St := Lib.hid (Lb.small_map Vt.out HSM.out)
        have Lt : dt.length = xs.length := by have := congrArg List.length Vt.out; simpa using this
        have lt : dt.length ≤ 1048576 := by omega
        clear Lt
        go_wp2_with fail
        refine (eqLibraryS_same _ _ _ (Vx.out.trans Vt.out.symm) qx.at_ qt.at_ (Nat.le_refl _) (Nat.le_refl _) lx Sx.out).mono ?_
        rintro e w7 ⟨rfl, s7⟩
        have b7 : Below W.heap.size W w7 := b6.trans (s7.mono b6.size)
        have z7 := s7.size
        replace qx := qx.below s7
        replace qt := qt.below s7
        clear s7
        clear qt
        go_wp2
        go_ret
        exact ⟨rfl, b7⟩
      · have HR := Lib.hid (szRes_neg (left := 1048576) (total := (xs.length : Int) + Lb.tots xs) (by omega))
        go_enter Try.func8, Try.ntmps8
        go_wp2_with fail
        refine (HZ.out _ (Below.refl _ _)).mono ?_
        rintro e w1 ⟨rfl, s1⟩
        rw [HR.out]
        go_wp2
        go_ret
        exact ⟨rfl, s1⟩
    · go_enter Try.func8, Try.ntmps8
      go_wp2
      go_ret
      exact ⟨rfl, Below.refl _ _⟩
  · go_enter Try.func8, Try.ntmps8
    go_wp2
    go_ret
    exact ⟨rfl, Below.refl _ _⟩
end Go.Proofs.Ytbhndkdijbappaa
