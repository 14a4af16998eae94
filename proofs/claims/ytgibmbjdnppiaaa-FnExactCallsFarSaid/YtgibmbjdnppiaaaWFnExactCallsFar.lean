/- The walk of FnExactCallsFar. No condition. -/
import Derived.Test.YtgibmbjdnppiaaaRows
import Derived.Test.YtgibmbjdnppiaaaBase
import Derived.Test.YtgibmbjdnppiaaaBase2
import Derived.Test.YtgibmbjdnppiaaaOpen
import Derived.Test.YtgibmbjdnppiaaaOpenEdge
import Derived.Test.YtgibmbjdnppiaaaEdge
import Derived.Test.YtgibmbjdnppiaaaIntS
import Derived.Test.YtgibmbjdnppiaaaEdgeV
import Derived.Test.YtgibmbjdnppiaaaEdgeW
import Derived.Test.YtgibmbjdnppiaaaCallP
import Derived.Test.YtgibmbjdnppiaaaCall
import Derived.Test.YtgibmbjdnppiaaaCallS
import Derived.WalkKit
import Derived.WalkSpells
import Derived.WalkLawsBesides
import Derived.Handy
import Derived.BigQuiet
import Derived.Deep.RegionHeld3
import Derived.Deep.DrawnRows
import Derived.Deep.QuietTactic
namespace Go.Proofs.Ytgibmbjdnppiaaa
open Go Go.RowKit


set_option maxRecDepth 100000 in
set_option maxHeartbeats 8000000 in
theorem FnExactCallsFar_walk (W : World) (v0 : Value) (v1 : Value) (v2 : Value) (a0 : ArgInt v0) (a1 : ArgEdges W v1) (a2 : ArgNums .i64 W v2) : Calls Try.prog 5 #[v0, v1, v2] W (Gives W (.bool true)) := by
  obtain ⟨many, rfl, n0a, n0b⟩ := a0
  obtain ⟨A1, c1, es, rfl, R1, hm1⟩ := a1
  obtain ⟨A2, c2, ls, rfl, R2, hm2, wf2⟩ := a2
  replace wf2 := Lib.hid wf2
  have HZ := Lib.hid (fun w (hb : Below W.heap.size W w) => szEdgeS_any A1 es.length c1 1048576 w hm1 (by omega) (by omega))
  unfold maxLen at hm1 hm2
  by_cases h2 : ls.length ≤ 1048576
  · by_cases hz : (es.length : Int) ≤ 1048576
    · have HR := Lib.hid (szRes_pos hz)
      have hlx : es.length ≤ 1048576 := by omega
      go_enter Try.func5, Try.ntmps5
      go_wp2_with fail
      refine (HZ.out _ (Below.refl _ _)).mono ?_
      rintro e w1 ⟨rfl, s1⟩
      rw [HR.out]
      have b1 : Below W.heap.size W w1 := s1
      have z1 := s1.size
      clear s1
      go_wp2_with fail
      refine (toEdgeS_any _ _ _ es _ (R1.below b1) b1.size (by omega)).mono ?_
      rintro e w2 ⟨As1, cs1, rfl, os1, s2⟩
      have b2 : Below W.heap.size W w2 := b1.trans (s2.mono b1.size)
      have z2 := s2.size
      clear s2
      have us1 := own_up os1
      go_wp2_with fail
      refine (toIntS_any _ _ _ ls _ (R2.below b2) b2.size (by omega)).mono ?_
      rintro e w3 ⟨As2, cs2, rfl, os2, s3⟩
      have b3 : Below W.heap.size W w3 := b2.trans (s3.mono b2.size)
      have z3 := s3.size
      replace os1 := own_below os1 s3
      clear s3
      have us2 := own_up os2
      go_wp2_with fail
      refine (specCallsFar_any many es ls _ (Reads.of_own os1) (Nat.le_refl _) (Reads.of_own os2) (Nat.le_refl _) (by omega) (by omega)).mono ?_
      rintro e w4 ⟨rfl, s4⟩
      have b4 : Below W.heap.size W w4 := b3.trans (s4.mono b3.size)
      have z4 := s4.size
      replace os1 := own_below os1 s4
      replace os2 := own_below os2 s4
      clear s4
      clear os1 us1
      clear os2 us2
      go_wp2_with fail
      refine (toEdgeS_any _ _ _ es _ (R1.below b4) b4.size (by omega)).mono ?_
      rintro e w5 ⟨Ax1, cx1, rfl, ox1, s5⟩
      have b5 : Below W.heap.size W w5 := b4.trans (s5.mono b4.size)
      have z5 := s5.size
      clear s5
      have ux1 := own_up ox1
      go_wp2_with fail
      refine (toIntS_any _ _ _ ls _ (R2.below b5) b5.size (by omega)).mono ?_
      rintro e w6 ⟨Ax2, cx2, rfl, ox2, s6⟩
      have b6 : Below W.heap.size W w6 := b5.trans (s6.mono b5.size)
      have z6 := s6.size
      replace ox1 := own_below ox1 s6
      clear s6
      have ux2 := own_up ox2
      go_wp2_with fail
      refine (implCallsFar_any many es ls _ (Reads.of_own ox1) (Nat.le_refl _) (Reads.of_own ox2) (Nat.le_refl _) (by omega) (by omega)).mono ?_
      rintro e w7 ⟨rfl, s7⟩
      have b7 : Below W.heap.size W w7 := b6.trans (s7.mono b6.size)
      have z7 := s7.size
      replace ox1 := own_below ox1 s7
      replace ox2 := own_below ox2 s7
      clear s7
      go_wp2_with fail
      refine (toEdgeS_any _ _ _ es _ (R1.below b7) b7.size (by omega)).mono ?_
      rintro e w8 ⟨At1, ct1, rfl, ot1, s8⟩
      have b8 : Below W.heap.size W w8 := b7.trans (s8.mono b7.size)
      have z8 := s8.size
      replace ox1 := own_below ox1 s8
      replace ox2 := own_below ox2 s8
      clear s8
      have ut1 := own_up ot1
      go_wp2_with fail
      refine (eqEdgeS_any _ _ _ _ _ _ _ _ _ (Reads.of_own ox1) (Reads.of_own ot1) (Nat.le_refl _) (Nat.le_refl _) (by omega) (by omega)).mono ?_
      rintro e w9 ⟨rfl, s9⟩
      rw [decide_eq_true rfl]
      have b9 : Below W.heap.size W w9 := b8.trans (s9.mono b8.size)
      have z9 := s9.size
      replace ox1 := own_below ox1 s9
      replace ox2 := own_below ox2 s9
      replace ot1 := own_below ot1 s9
      clear s9
      clear ot1 ut1
      go_wp2_with fail
      refine (toIntS_any _ _ _ ls _ (R2.below b9) b9.size (by omega)).mono ?_
      rintro e w10 ⟨At2, ct2, rfl, ot2, s10⟩
      have b10 : Below W.heap.size W w10 := b9.trans (s10.mono b9.size)
      have z10 := s10.size
      replace ox1 := own_below ox1 s10
      replace ox2 := own_below ox2 s10
      clear s10
      have ut2 := own_up ot2
      go_wp2_with fail
      refine (eqIntS_any _ _ _ _ _ _ _ _ _ (Reads.of_own ox2) (Reads.of_own ot2) (by omega) (by omega)).mono ?_
      rintro e w11 ⟨rfl, s11⟩
      rw [decide_eq_true rfl]
      have b11 : Below W.heap.size W w11 := b10.trans (s11.mono b10.size)
      have z11 := s11.size
      replace ox1 := own_below ox1 s11
      replace ox2 := own_below ox2 s11
      replace ot2 := own_below ot2 s11
      clear s11
      clear ot2 ut2
      go_wp2
      go_ret
      exact ⟨rfl, b11⟩
    · have HR := Lib.hid (szRes_neg (left := 1048576) (total := (es.length : Int)) (by omega))
      go_enter Try.func5, Try.ntmps5
      go_wp2_with fail
      refine (HZ.out _ (Below.refl _ _)).mono ?_
      rintro e w1 ⟨rfl, s1⟩
      rw [HR.out]
      go_wp2
      go_ret
      exact ⟨rfl, s1⟩
  · go_enter Try.func5, Try.ntmps5
    go_wp2
    go_ret
    exact ⟨rfl, Below.refl _ _⟩
end Go.Proofs.Ytgibmbjdnppiaaa
