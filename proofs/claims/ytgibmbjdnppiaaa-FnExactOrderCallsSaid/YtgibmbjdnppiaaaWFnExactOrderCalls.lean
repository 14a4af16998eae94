/- The walk of FnExactOrderCalls. No condition. -/
import Derived.Test.YtgibmbjdnppiaaaRows
import Derived.Test.YtgibmbjdnppiaaaBase
import Derived.Test.YtgibmbjdnppiaaaBase2
import Derived.Test.YtgibmbjdnppiaaaOpen
import Derived.Test.YtgibmbjdnppiaaaOpenEdge
import Derived.Test.YtgibmbjdnppiaaaEdge
import Derived.Test.YtgibmbjdnppiaaaIntS
import Derived.Test.YtgibmbjdnppiaaaMarkI
import Derived.Test.YtgibmbjdnppiaaaEdgeV
import Derived.Test.YtgibmbjdnppiaaaEdgeW
import Derived.Test.YtgibmbjdnppiaaaCallP
import Derived.Test.YtgibmbjdnppiaaaOrdP
import Derived.Test.YtgibmbjdnppiaaaOrdI
import Derived.Test.YtgibmbjdnppiaaaOrdS
import Derived.Test.YtgibmbjdnppiaaaMarkE
import Derived.WalkKit
import Derived.WalkSpells
import Derived.WalkLawsBesides
import Derived.Handy
import Derived.BigQuiet
import Derived.Deep.RegionHeld3
import Derived.Deep.DrawnRows
import Derived.Deep.QuietTactic
namespace Go.Proofs.Ytgibmbjdnppiaaa
open Go Go.RowKit


set_option maxRecDepth 100000 in
set_option maxHeartbeats 8000000 in
theorem FnExactOrderCalls_walk (W : World) (v0 : Value) (v1 : Value) (a0 : ArgInt v0) (a1 : ArgEdges W v1) : Calls Try.prog 7 #[v0, v1] W (Gives W (.bool true)) := by
  obtain ⟨many, rfl, n0a, n0b⟩ := a0
  obtain ⟨A1, c1, es, rfl, R1, hm1⟩ := a1
  have HZ := Lib.hid (fun w (hb : Below W.heap.size W w) => szEdgeS_any A1 es.length c1 1048576 w hm1 (by omega) (by omega))
  have hr := ordR_small many es
  unfold maxLen at hm1
  by_cases hz : (es.length : Int) ≤ 1048576
  · have HR := Lib.hid (szRes_pos hz)
    have hlx : es.length ≤ 1048576 := by omega
    go_enter Try.func7, Try.ntmps7
    go_wp2_with fail
    refine (HZ.out _ (Below.refl _ _)).mono ?_
    rintro e w1 ⟨rfl, s1⟩
    rw [HR.out]
    have b1 : Below W.heap.size W w1 := s1
    have z1 := s1.size
    clear s1
    go_wp2_with fail
    refine (toEdgeS_any _ _ _ es _ (R1.below b1) b1.size (by omega)).mono ?_
    rintro e w2 ⟨As1, cs1, rfl, os1, s2⟩
    have b2 : Below W.heap.size W w2 := b1.trans (s2.mono b1.size)
    have z2 := s2.size
    clear s2
    have us1 := own_up os1
    go_wp2_with fail
    refine (specOrder_any many es _ (Reads.of_own os1) (Nat.le_refl _) (by omega)).mono ?_
    rintro e w3 ⟨Aw0, cw0, rfl, ow0, s3⟩
    have b3 : Below W.heap.size W w3 := b2.trans (s3.mono b2.size)
    have z3 := s3.size
    replace os1 := own_below os1 s3
    clear s3
    have uw0 := own_up ow0
    clear os1 us1
    go_wp2_with fail
    refine (toEdgeS_any _ _ _ es _ (R1.below b3) b3.size (by omega)).mono ?_
    rintro e w4 ⟨Ax1, cx1, rfl, ox1, s4⟩
    have b4 : Below W.heap.size W w4 := b3.trans (s4.mono b3.size)
    have z4 := s4.size
    replace ow0 := own_below ow0 s4
    clear s4
    have ux1 := own_up ox1
    go_wp2_with fail
    refine (implOrder_any many es _ (Reads.of_own ox1) (Nat.le_refl _) (by omega)).mono ?_
    rintro e w5 ⟨Ag0, cg0, rfl, og0, s5⟩
    have b5 : Below W.heap.size W w5 := b4.trans (s5.mono b4.size)
    have z5 := s5.size
    replace ow0 := own_below ow0 s5
    replace ox1 := own_below ox1 s5
    clear s5
    have ug0 := own_up og0
    go_wp2_with fail
    refine (eqIntS_any _ _ _ _ _ _ _ _ _ (Reads.of_own og0) (Reads.of_own ow0) (by omega) (by omega)).mono ?_
    rintro e w6 ⟨rfl, s6⟩
    rw [decide_eq_true rfl]
    have b6 : Below W.heap.size W w6 := b5.trans (s6.mono b5.size)
    have z6 := s6.size
    replace ow0 := own_below ow0 s6
    replace ox1 := own_below ox1 s6
    replace og0 := own_below og0 s6
    clear s6
    go_wp2_with fail
    refine (toEdgeS_any _ _ _ es _ (R1.below b6) b6.size (by omega)).mono ?_
    rintro e w7 ⟨At1, ct1, rfl, ot1, s7⟩
    have b7 : Below W.heap.size W w7 := b6.trans (s7.mono b6.size)
    have z7 := s7.size
    replace ow0 := own_below ow0 s7
    replace ox1 := own_below ox1 s7
    replace og0 := own_below og0 s7
    clear s7
    have ut1 := own_up ot1
    go_wp2_with fail
    refine (eqEdgeS_any _ _ _ _ _ _ _ _ _ (Reads.of_own ox1) (Reads.of_own ot1) (Nat.le_refl _) (Nat.le_refl _) (by omega) (by omega)).mono ?_
    rintro e w8 ⟨rfl, s8⟩
    rw [decide_eq_true rfl]
    have b8 : Below W.heap.size W w8 := b7.trans (s8.mono b7.size)
    have z8 := s8.size
    replace ow0 := own_below ow0 s8
    replace ox1 := own_below ox1 s8
    replace og0 := own_below og0 s8
    replace ot1 := own_below ot1 s8
    clear s8
    clear ot1 ut1
    go_wp2_with fail
    refine (markEdgeS_any _ _ _ _ 1 _ _ ox1 (by omega) (by omega) (by omega)).mono ?_
    rintro e w9 ⟨rfl, n9, g9⟩
    have b9 : Below W.heap.size W w9 := below_marks b8 ox1 (by omega) g9
    have z9 := g9.size
    replace ow0 := own_other ow0 g9 (fun a a2 h1 h2 => by have p1 := uw0 a h1; have p2 := ux1 a2 h2; omega)
    replace og0 := own_other og0 g9 (fun a a2 h1 h2 => by have p1 := ug0 a h1; have p2 := ux1 a2 h2; omega)
    clear ox1
    have ox1 := n9
    clear n9 g9
    go_wp2_with fail
    refine (eqIntS_any _ _ _ _ _ _ _ _ _ (Reads.of_own og0) (Reads.of_own ow0) (by omega) (by omega)).mono ?_
    rintro e w10 ⟨rfl, s10⟩
    rw [decide_eq_true rfl]
    have b10 : Below W.heap.size W w10 := b9.trans (s10.mono b9.size)
    have z10 := s10.size
    replace ow0 := own_below ow0 s10
    replace ox1 := own_below ox1 s10
    replace og0 := own_below og0 s10
    clear s10
    go_wp2_with fail
    refine (markIntS_any _ _ _ _ 1 _ _ og0 (by omega) (by omega) (by omega)).mono ?_
    rintro e w11 ⟨rfl, n11, g11⟩
    have b11 : Below W.heap.size W w11 := below_marks b10 og0 (by omega) g11
    have z11 := g11.size
    replace ow0 := own_other ow0 g11 (fun a a2 h1 h2 => by have p1 := uw0 a h1; have p2 := ug0 a2 h2; omega)
    replace ox1 := own_other ox1 g11 (fun a a2 h1 h2 => by have p1 := ux1 a h1; have p2 := ug0 a2 h2; omega)
    clear og0
    have og0 := n11
    clear n11 g11
    go_wp2_with fail
    refine (heldIntS_any _ _ _ _ 1 _ (Reads.of_own og0) (by omega) (by omega) (by omega)).mono ?_
    rintro e w12 ⟨rfl, s12⟩
    have b12 : Below W.heap.size W w12 := b11.trans (s12.mono b11.size)
    have z12 := s12.size
    replace ow0 := own_below ow0 s12
    replace ox1 := own_below ox1 s12
    replace og0 := own_below og0 s12
    clear s12
    go_wp2_with fail
    refine (toEdgeS_any _ _ _ es _ (R1.below b12) b12.size (by omega)).mono ?_
    rintro e w13 ⟨Ay1, cy1, rfl, oy1, s13⟩
    have b13 : Below W.heap.size W w13 := b12.trans (s13.mono b12.size)
    have z13 := s13.size
    replace ow0 := own_below ow0 s13
    replace ox1 := own_below ox1 s13
    replace og0 := own_below og0 s13
    clear s13
    have uy1 := own_up oy1
    go_wp2_with fail
    refine (implOrder_any many es _ (Reads.of_own oy1) (Nat.le_refl _) (by omega)).mono ?_
    rintro e w14 ⟨Ah0, ch0, rfl, oh0, s14⟩
    have b14 : Below W.heap.size W w14 := b13.trans (s14.mono b13.size)
    have z14 := s14.size
    replace ow0 := own_below ow0 s14
    replace ox1 := own_below ox1 s14
    replace og0 := own_below og0 s14
    replace oy1 := own_below oy1 s14
    clear s14
    have uh0 := own_up oh0
    go_wp2_with fail
    refine (eqIntS_any _ _ _ _ _ _ _ _ _ (Reads.of_own oh0) (Reads.of_own ow0) (by omega) (by omega)).mono ?_
    rintro e w15 ⟨rfl, s15⟩
    rw [decide_eq_true rfl]
    have b15 : Below W.heap.size W w15 := b14.trans (s15.mono b14.size)
    have z15 := s15.size
    replace ow0 := own_below ow0 s15
    replace ox1 := own_below ox1 s15
    replace og0 := own_below og0 s15
    replace oy1 := own_below oy1 s15
    replace oh0 := own_below oh0 s15
    clear s15
    go_wp2_with fail
    refine (heldIntS_any _ _ _ _ 1 _ (Reads.of_own og0) (by omega) (by omega) (by omega)).mono ?_
    rintro e w16 ⟨rfl, s16⟩
    have b16 : Below W.heap.size W w16 := b15.trans (s16.mono b15.size)
    have z16 := s16.size
    replace ow0 := own_below ow0 s16
    replace ox1 := own_below ox1 s16
    replace og0 := own_below og0 s16
    replace oy1 := own_below oy1 s16
    replace oh0 := own_below oh0 s16
    clear s16
    go_wp2
    go_ret
    exact ⟨rfl, b16⟩
  · have HR := Lib.hid (szRes_neg (left := 1048576) (total := (es.length : Int)) (by omega))
    go_enter Try.func7, Try.ntmps7
    go_wp2_with fail
    refine (HZ.out _ (Below.refl _ _)).mono ?_
    rintro e w1 ⟨rfl, s1⟩
    rw [HR.out]
    go_wp2
    go_ret
    exact ⟨rfl, s1⟩
end Go.Proofs.Ytgibmbjdnppiaaa
