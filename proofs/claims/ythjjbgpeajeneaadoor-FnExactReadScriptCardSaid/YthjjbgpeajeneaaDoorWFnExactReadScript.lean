/- The walk of FnExactReadScript. Condition: the package's variables. -/
import Derived.Test.YthjjbgpeajeneaaDoorRows
import Derived.Test.YthjjbgpeajeneaaDoorBase
import Derived.Test.YthjjbgpeajeneaaDoorBase2
import Derived.Test.YthjjbgpeajeneaaDoorOpen
import Derived.Test.YthjjbgpeajeneaaDoorPart
import Derived.Test.YthjjbgpeajeneaaDoorScrV
import Derived.Test.YthjjbgpeajeneaaDoorScr3
import Derived.Test.YthjjbgpeajeneaaDoorDec
import Derived.Test.YthjjbgpeajeneaaDoorStx
import Derived.Test.YthjjbgpeajeneaaDoorStf
import Derived.Test.YthjjbgpeajeneaaDoorStI
import Derived.Test.YthjjbgpeajeneaaDoorLibR
import Derived.Test.YthjjbgpeajeneaaDoorLibV3
import Derived.Test.YthjjbgpeajeneaaDoorRsI
import Derived.Test.YthjjbgpeajeneaaDoorRsS
import Derived.Test.YthjjbgpeajeneaaDoorMarkP
import Derived.Test.YthjjbgpeajeneaaDoorHeldP
import Derived.WalkKit
import Derived.WalkSpells
import Derived.WalkLawsBesides
import Derived.Handy
import Derived.BigQuiet
import Derived.Deep.RegionHeld3
import Derived.Deep.DrawnRows
import Derived.Deep.QuietTactic
namespace Go.Proofs.YthjjbgpeajeneaaDoor
open Go Go.RowKit

theorem IsScr.len {s : ByteArray} {ps : List Prt} {b : Bool} (h : IsScr s ps b) : ps.length ≤ 3 := by
  rcases h with ⟨_, h, _⟩ | ⟨_, h, _⟩
  · have := script_len h
    omega
  · subst h
    simp
set_option maxRecDepth 100000 in
set_option maxHeartbeats 2000000 in
theorem FnExactReadScript_walk (W : World) (v0 : Value) (a0 : ArgStr v0) (hlib : LibW W) (hkw : KwOk W) : Calls Tryd.prog 5 #[v0] W (Gives W (.bool true)) := by
  obtain ⟨s, rfl, hs⟩ := a0
  unfold maxLen at hs
  by_cases hm : s.size ≤ 1048576
  · have HS := Lib.hid (fun w => specReadScr_any s w (by omega))
    have HI := Lib.hid (fun w hl hk => implReadScr_any s w (by omega) hl hk)
    have HL := Lib.hid hlib
    have HK := Lib.hid hkw
    clear hlib hkw
    go_enter Tryd.func5, Tryd.ntmps5
    go_wp2_with fail
    refine (HS.out _).mono ?_
    rintro e w1 ⟨A1, c1, ps, b, rfl, hp, o1, b1⟩
    have hl3 := hp.len
    have HX := Lib.hid hp
    have u1 := own_up o1
    clear hp HS
    go_wp2_with fail
    refine (HI.out _ (HL.out.below b1) (HK.out.below b1)).mono ?_
    rintro e w2 ⟨A2, c2, qs, b', rfl, hq, o2, s2⟩
    obtain ⟨hpq, hbb⟩ := HX.out.one hq
    subst hpq hbb
    have b2 : Below W.heap.size W w2 := b1.trans (s2.mono b1.size)
    have z1 := b1.size
    have z2 := s2.size
    replace o1 := own_below o1 s2
    have u2 := own_up o2
    clear hq s2
    go_wp2_with fail
    refine (eqPartS_any _ _ _ _ _ _ _ _ _ (Reads.of_own o2) (Reads.of_own o1) (Nat.le_refl _) (Nat.le_refl _) (by omega) (by omega)).mono ?_
    rintro e w3 ⟨rfl, s3⟩
    rw [decide_eq_true rfl]
    have b3 : Below W.heap.size W w3 := b2.trans (s3.mono b2.size)
    have z3 := s3.size
    replace o1 := own_below o1 s3
    replace o2 := own_below o2 s3
    clear s3
    go_wp2_with fail
    refine (markPartS_any _ _ _ _ 1 _ _ o2 (by omega) (by omega) (by omega)).mono ?_
    rintro e w4 ⟨rfl, n4, g4⟩
    have b4 : Below W.heap.size W w4 := below_marks b3 o2 (by omega) g4
    have z4 := g4.size
    replace o1 := own_other o1 g4 (fun a a2 h1 h2 => by have p1 := u1 a h1; have p2 := u2 a2 h2; omega)
    clear o2 g4
    have o2 := n4
    clear n4
    go_wp2_with fail
    refine (heldPartS_any _ _ _ _ 1 _ o2 (by omega) (by omega) (by omega)).mono ?_
    rintro e w5 ⟨rfl, s5⟩
    have b5 : Below W.heap.size W w5 := b4.trans (s5.mono b4.size)
    have z5 := s5.size
    replace o1 := own_below o1 s5
    replace o2 := own_below o2 s5
    clear s5
    go_wp2_with fail
    refine (HI.out _ (HL.out.below b5) (HK.out.below b5)).mono ?_
    rintro e w6 ⟨A3, c3, qs, b', rfl, hq, o3, s6⟩
    obtain ⟨hpq, hbb⟩ := HX.out.one hq
    subst hpq hbb
    have b6 : Below W.heap.size W w6 := b5.trans (s6.mono b5.size)
    have z6 := s6.size
    replace o1 := own_below o1 s6
    replace o2 := own_below o2 s6
    clear hq s6 HI HL HK HX
    go_wp2_with fail
    refine (eqPartS_any _ _ _ _ _ _ _ _ _ (Reads.of_own o3) (Reads.of_own o1) (Nat.le_refl _) (Nat.le_refl _) (by omega) (by omega)).mono ?_
    rintro e w7 ⟨rfl, s7⟩
    rw [decide_eq_true rfl]
    have b7 : Below W.heap.size W w7 := b6.trans (s7.mono b6.size)
    replace o2 := own_below o2 s7
    clear s7 o1 o3
    go_wp2_with fail
    refine (heldPartS_any _ _ _ _ 1 _ o2 (by omega) (by omega) (by omega)).mono ?_
    rintro e w8 ⟨rfl, s8⟩
    have b8 : Below W.heap.size W w8 := b7.trans (s8.mono b7.size)
    go_wp2
    go_ret
    exact ⟨rfl, b8⟩
  · have hi : (1048576 : Int) < (s.size : Int) := by omega
    go_enter Tryd.func5, Tryd.ntmps5
    go_wp2
    go_ret
    exact ⟨rfl, Below.refl _ _⟩
end Go.Proofs.YthjjbgpeajeneaaDoor
