/- The walk of FnExactScriptText. No condition. -/
import Derived.Test.YthjjbgpeajeneaaDoorRows
import Derived.Test.YthjjbgpeajeneaaDoorBase
import Derived.Test.YthjjbgpeajeneaaDoorBase2
import Derived.Test.YthjjbgpeajeneaaDoorOpen
import Derived.Test.YthjjbgpeajeneaaDoorOpenPart
import Derived.Test.YthjjbgpeajeneaaDoorPart
import Derived.Test.YthjjbgpeajeneaaDoorScrV
import Derived.Test.YthjjbgpeajeneaaDoorScrW
import Derived.Test.YthjjbgpeajeneaaDoorStS
import Derived.Test.YthjjbgpeajeneaaDoorStI
import Derived.Test.YthjjbgpeajeneaaDoorLibV3
import Derived.WalkKit
import Derived.WalkSpells
import Derived.WalkLawsBesides
import Derived.Handy
import Derived.BigQuiet
import Derived.Deep.RegionHeld3
import Derived.Deep.DrawnRows
import Derived.Deep.QuietTactic
namespace Go.Proofs.YthjjbgpeajeneaaDoor
open Go Go.RowKit


set_option maxRecDepth 100000 in
set_option maxHeartbeats 8000000 in
theorem FnExactScriptText_walk (W : World) (v0 : Value) (a0 : ArgParts W v0) (hkw : KwOk W) : Calls Tryd.prog 3 #[v0] W (Gives W (.bool true)) := by
  obtain ⟨A0, c0, xs, rfl, R0, hm0⟩ := a0
  have HZ := Lib.hid (fun w (hb : Below W.heap.size W w) => szPartS_any A0 xs.length c0 1048576 w hm0 (by omega) (by omega))
  by_cases h0 : (xs.length : Int) ≤ 1048576
  · have HR := Lib.hid (szRes_pos h0)
    have hlx : xs.length ≤ 1048576 := by omega
    go_enter Tryd.func3, Tryd.ntmps3
    go_wp2_with fail
    refine (HZ.out _ (Below.refl _ _)).mono ?_
    rintro e w1 ⟨rfl, s1⟩
    rw [HR.out]
    have b1 : Below W.heap.size W w1 := s1
    have z1 := s1.size
    clear s1
    go_wp2_with fail
    refine (toPartS_any _ _ _ xs _ (R0.below b1) b1.size (by omega)).mono ?_
    rintro e w2 ⟨As0, cs0, rfl, os0, s2⟩
    have b2 : Below W.heap.size W w2 := b1.trans (s2.mono b1.size)
    have z2 := s2.size
    clear s2
    have us0 := own_up os0
    go_wp2_with fail
    refine (specScrText_any xs _ (Reads.of_own os0) (Nat.le_refl _) (by unfold maxLen; omega)).mono ?_
    rintro e w3 ⟨rfl, s3⟩
    have b3 : Below W.heap.size W w3 := b2.trans (s3.mono b2.size)
    have z3 := s3.size
    replace os0 := own_below os0 s3
    clear s3
    clear os0 us0
    go_wp2_with fail
    refine (toPartS_any _ _ _ xs _ (R0.below b3) b3.size (by omega)).mono ?_
    rintro e w4 ⟨Ax0, cx0, rfl, ox0, s4⟩
    have b4 : Below W.heap.size W w4 := b3.trans (s4.mono b3.size)
    have z4 := s4.size
    clear s4
    have ux0 := own_up ox0
    go_wp2_with fail
    refine (implScrText_any xs _ (Reads.of_own ox0) (Nat.le_refl _) (by unfold maxLen; omega) (hkw.below b4)).mono ?_
    rintro e w5 ⟨rfl, s5⟩
    have b5 : Below W.heap.size W w5 := b4.trans (s5.mono b4.size)
    have z5 := s5.size
    replace ox0 := own_below ox0 s5
    clear s5
    go_wp2_with fail
    refine (toPartS_any _ _ _ xs _ (R0.below b5) b5.size (by omega)).mono ?_
    rintro e w6 ⟨At0, ct0, rfl, ot0, s6⟩
    have b6 : Below W.heap.size W w6 := b5.trans (s6.mono b5.size)
    have z6 := s6.size
    replace ox0 := own_below ox0 s6
    clear s6
    have ut0 := own_up ot0
    go_wp2_with fail
    refine (eqPartS_any _ _ _ _ _ _ _ _ _ (Reads.of_own ox0) (Reads.of_own ot0) (Nat.le_refl _) (Nat.le_refl _) (by omega) (by omega)).mono ?_
    rintro e w7 ⟨rfl, s7⟩
    rw [decide_eq_true rfl]
    have b7 : Below W.heap.size W w7 := b6.trans (s7.mono b6.size)
    have z7 := s7.size
    replace ox0 := own_below ox0 s7
    replace ot0 := own_below ot0 s7
    clear s7
    go_wp2
    go_ret
    exact ⟨rfl, b7⟩
  · have HR := Lib.hid (szRes_neg (left := 1048576) (total := (xs.length : Int)) (by omega))
    go_enter Tryd.func3, Tryd.ntmps3
    go_wp2_with fail
    refine (HZ.out _ (Below.refl _ _)).mono ?_
    rintro e w1 ⟨rfl, s1⟩
    rw [HR.out]
    go_wp2
    go_ret
    exact ⟨rfl, s1⟩
end Go.Proofs.YthjjbgpeajeneaaDoor
