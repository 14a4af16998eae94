/- The walk of FnExactRunMachine. No condition. -/
import Derived.Test.YtbljkdhokbhcdaaRows
import Derived.Test.YtbljkdhokbhcdaaBase
import Derived.Test.YtbljkdhokbhcdaaBase2
import Derived.Test.YtbljkdhokbhcdaaBase3
import Derived.Test.YtbljkdhokbhcdaaOnly
import Derived.Test.YtbljkdhokbhcdaaOpen
import Derived.Test.YtbljkdhokbhcdaaIn
import Derived.Test.YtbljkdhokbhcdaaIn2
import Derived.Test.YtbljkdhokbhcdaaGet2IS
import Derived.Test.YtbljkdhokbhcdaaIntS
import Derived.Test.YtbljkdhokbhcdaaByteS
import Derived.Test.YtbljkdhokbhcdaaMarkB
import Derived.Test.YtbljkdhokbhcdaaMarkI
import Derived.Test.YtbljkdhokbhcdaaReg
import Derived.Test.YtbljkdhokbhcdaaRegS
import Derived.Test.YtbljkdhokbhcdaaPick2
import Derived.Test.YtbljkdhokbhcdaaKT
import Derived.Test.YtbljkdhokbhcdaaMc
import Derived.Test.YtbljkdhokbhcdaaMcy
import Derived.Test.YtbljkdhokbhcdaaMcM
import Derived.Test.YtbljkdhokbhcdaaMcO
import Derived.Test.YtbljkdhokbhcdaaCd
import Derived.Test.YtbljkdhokbhcdaaXm
import Derived.Test.YtbljkdhokbhcdaaDo
import Derived.Test.YtbljkdhokbhcdaaMStI
import Derived.Test.YtbljkdhokbhcdaaMStS
import Derived.Test.YtbljkdhokbhcdaaRun
import Derived.WalkKit
import Derived.WalkSpells
import Derived.WalkLawsBesides
import Derived.Handy
import Derived.BigQuiet
import Derived.Deep.RegionHeld3
import Derived.Deep.DrawnRows
import Derived.Deep.QuietTactic
namespace Go.Proofs.Ytbljkdhokbhcdaa
open Go Go.RowKit

theorem runM_small (bs : List Int) (hx : ∀ x ∈ bs, 0 ≤ x ∧ x ≤ 255) (v : McV) (steps : Int) {z : Mc} (h : z.v = (runM bs v steps).1) : z.small := by
  have hrun : ∀ (n : Nat) (v : McV), vOk v = true → vOk (runV bs n v).1 = true := fun n => by
    induction n with
    | zero => intro v hv; exact hv
    | succ n ih =>
      intro v hv
      unfold runV
      split
      · exact ih _ (stepV_ok hx hv)
      · exact stepV_ok hx hv
  have hz : vOk (runM bs v steps).1 = true := by
    unfold runM
    split
    · rename_i hq
      exact hrun _ _ hq.1
    · decide
  rw [← h] at hz
  exact Mc.small_ok hz
set_option maxRecDepth 100000 in
set_option maxHeartbeats 8000000 in
theorem FnExactRunMachine_walk (W : World) (v0 v1 v2 : Value) (a0 : ArgMc W v0) (a1 : ArgNums .u8 W v1) (a2 : ArgInt v2) : Calls Try.prog 3 #[v0, v1, v2] W (Gives W (.bool true)) := by
  obtain ⟨m, rfl, r0, hm1, hm2⟩ := a0
  obtain ⟨A, c, bs, rfl, r1, hb0, hwf⟩ := a1
  obtain ⟨steps, rfl, hst1, hst2⟩ := a2
  have R0 := Lib.hid r0
  have R1 := Lib.hid r1
  have HBX : Hid (∀ x ∈ bs, 0 ≤ x ∧ x ≤ 255) := fun x hx => wf_u8_bd (hwf x hx)
  have HM1 := Lib.hid hm1
  have HM2 := Lib.hid hm2
  have HRS : Hid (∀ z : Mc, z.v = (runM bs m.v steps).1 → z.small) := fun z h => runM_small bs HBX.out m.v steps h
  unfold maxLen at hb0
  clear r0 r1 hwf hm1 hm2
  obtain ⟨wA, hwA⟩ : ∃ wA, wA = W.alloc (.cells #[.int .i64 m.pc, .slice m.sA m.st.length m.sc, .slice m.cA m.ca.length m.cc] 24) := ⟨_, rfl⟩
  have HG : Hid (Below W.heap.size W wA) := by rw [hwA]; exact (Below.refl _ _).alloc (Nat.le_refl _) _
  have HA : Hid (Blk wA W.heap.size 24 #[.int .i64 m.pc, .slice m.sA m.st.length m.sc, .slice m.cA m.ca.length m.cc]) := by rw [hwA]; exact Blk.new _ _ _
  show Calls Try.prog 3 #[.agg #[.int .i64 m.pc, .slice m.sA m.st.length m.sc, .slice m.cA m.ca.length m.cc], .slice A bs.length c, .int .i64 steps] W (Gives W (.bool true))
  by_cases hbl : bs.length ≤ 1048576
  · have hbl' : ¬ (1048576 : Int) < (bs.length : Int) := by omega
    by_cases hz : m.tot ≤ 1048576
    · have HR := Lib.hid (szRes_pos hz)
      have HSM : Hid (m.small) := by
        unfold Mc.tot at hz
        exact ⟨by omega, by omega⟩
      have hzt : ¬ 1048576 - m.tot < 0 := by omega
      have hzu : ¬ 1048576 < m.tot := by omega
      go_enter Try.func3, Try.ntmps3
      go_upto_region 1 with fail
      rw [← hwA]
      clear hwA
      have ea0 : wA.cell? ⟨W.heap.size, 0, none⟩ = some (.int .i64 m.pc) := HA.out.cell 0
      have ea1 : wA.cell? ⟨W.heap.size, 1, none⟩ = some (.slice m.sA m.st.length m.sc) := HA.out.cell 1
      have ea2 : wA.cell? ⟨W.heap.size, 2, none⟩ = some (.slice m.cA m.ca.length m.cc) := HA.out.cell 2
      go_wp2_with fail
      clear ea0 ea1 ea2
      refine (szMc_any m 1048576 wA HM1.out HM2.out (by omega) (by omega)).mono ?_
      rintro e w1 ⟨rfl, s9⟩
      rw [HR.out]
      have HG' : Hid (Below W.heap.size W w1) := HG.out.trans (s9.mono HG.out.size)
      have HA' : Hid (Blk w1 W.heap.size 24 #[.int .i64 m.pc, .slice m.sA m.st.length m.sc, .slice m.cA m.ca.length m.cc]) := HA.out.below s9 HA.out.lt
      clear HG HA s9 HR
      have HG := HG'
      have HA := HA'
      clear HG' HA'
      have z_0 := HA.out.lt
      have ea0 : w1.cell? ⟨W.heap.size, 0, none⟩ = some (.int .i64 m.pc) := HA.out.cell 0
      have ea1 : w1.cell? ⟨W.heap.size, 1, none⟩ = some (.slice m.sA m.st.length m.sc) := HA.out.cell 1
      have ea2 : w1.cell? ⟨W.heap.size, 2, none⟩ = some (.slice m.cA m.ca.length m.cc) := HA.out.cell 2
      have eaz : W.heap.size < w1.heap.size := HA.out.lt
      go_wp2_with fail
      clear ea0 ea1 ea2 eaz
      refine (toMc_any m w1 (R0.out.below HG.out) HG.out.size HSM.out).mono ?_
      rintro e w2 ⟨y, rfl, hv, ho, s9⟩
      have HG' : Hid (Below W.heap.size W w2) := HG.out.trans (s9.mono HG.out.size)
      clear HG
      have HG := HG'
      clear HG'
      have HA' : Hid (Blk w2 W.heap.size 24 #[.int .i64 m.pc, .slice m.sA m.st.length m.sc, .slice m.cA m.ca.length m.cc]) := HA.out.below s9 HA.out.lt
      clear HA
      have HA := HA'
      clear HA'
      have z_w2 : w1.heap.size ≤ w2.heap.size := s9.size
      have HVy := Lib.hid hv
      have HOy := Lib.hid ho
      have Uy := Lib.hid ho.up
      have HSy := Lib.hid (Mc.small_v hv HSM.out)
      clear hv ho s9
      go_wp2_with fail
      refine (toByteS_any _ _ _ bs w2 (R1.out.below HG.out) HG.out.size hbl).mono ?_
      rintro e w3 ⟨B0, B0c, rfl, ho, s9⟩
      have HG' : Hid (Below W.heap.size W w3) := HG.out.trans (s9.mono HG.out.size)
      clear HG
      have HG := HG'
      clear HG'
      have HA' : Hid (Blk w3 W.heap.size 24 #[.int .i64 m.pc, .slice m.sA m.st.length m.sc, .slice m.cA m.ca.length m.cc]) := HA.out.below s9 HA.out.lt
      clear HA
      have HA := HA'
      clear HA'
      have HOy' : Hid (y.Own w3 w1.heap.size) := HOy.out.below s9
      clear HOy
      have HOy := HOy'
      clear HOy'
      have z_w3 : w2.heap.size ≤ w3.heap.size := s9.size
      have HBB0 := Lib.hid ho
      have UBB0 := Lib.hid (own_up ho)
      clear ho s9
      go_wp2_with fail
      have HC : Hid (Calls Try.prog 6 #[.agg #[.int .i64 y.pc, .slice y.sA y.st.length y.sc, .slice y.cA y.ca.length y.cc], .slice B0 bs.length B0c, .int .i64 steps] w3 (Ran (runM bs m.v steps) w3)) := by
        have h := specRun_any (A := B0) (c := B0c) y bs steps w3 HOy.out.at_ (Nat.le_refl _) HSy.out (Reads.of_own HBB0.out) (Nat.le_refl _) hbl HBX.out
        rw [HVy.out] at h
        exact h
      refine HC.out.mono ?_
      rintro e w4 ⟨z0, rfl, hv, ho, s9⟩
      clear HC
      have HG' : Hid (Below W.heap.size W w4) := HG.out.trans (s9.mono HG.out.size)
      clear HG
      have HG := HG'
      clear HG'
      have HA' : Hid (Blk w4 W.heap.size 24 #[.int .i64 m.pc, .slice m.sA m.st.length m.sc, .slice m.cA m.ca.length m.cc]) := HA.out.below s9 HA.out.lt
      clear HA
      have HA := HA'
      clear HA'
      have HOy' : Hid (y.Own w4 w1.heap.size) := HOy.out.below s9
      clear HOy
      have HOy := HOy'
      clear HOy'
      have HBB0' : Hid (w4.ownsRow w2.heap.size 5 1 (.slice B0 bs.length B0c) bs.length (nums .u8 bs)) := own_below HBB0.out s9
      clear HBB0
      have HBB0 := HBB0'
      clear HBB0'
      have z_w4 : w3.heap.size ≤ w4.heap.size := s9.size
      have HVz0 := Lib.hid hv
      have HOz0 := Lib.hid ho
      have Uz0 := Lib.hid ho.up
      clear hv ho s9
      have HSz0 : Hid (z0.small) := HRS.out z0 HVz0.out
      simp only [Mc.val]
      go_upto_region 8 with fail
      obtain ⟨gw, hgw⟩ : ∃ gw, gw = w4.heap.size := ⟨_, rfl⟩
      obtain ⟨w5, hw5⟩ : ∃ w5, w5 = (w4.alloc (.cells #[.int .i64 z0.pc, .slice z0.sA z0.st.length z0.sc, .slice z0.cA z0.ca.length z0.cc] 27)) := ⟨_, rfl⟩
      have s9 : Below w4.heap.size w4 w5 := by rw [hw5]; exact (Below.refl w4.heap.size w4).alloc (Nat.le_refl _) (.cells #[.int .i64 z0.pc, .slice z0.sA z0.st.length z0.sc, .slice z0.cA z0.ca.length z0.cc] 27)
      have HW : Hid (Blk w5 gw 27 #[.int .i64 z0.pc, .slice z0.sA z0.st.length z0.sc, .slice z0.cA z0.ca.length z0.cc]) := by
        have h := Blk.new w4 27 #[.int .i64 z0.pc, .slice z0.sA z0.st.length z0.sc, .slice z0.cA z0.ca.length z0.cc]
        rw [hw5, hgw]
        simpa [Hid] using h
      have zg_gw : w4.heap.size ≤ gw := by omega
      have zn_w5 : w4.heap.size < w5.heap.size := by rw [hw5]; simp
      rw [← hw5, ← hgw]
      clear hw5 hgw
      have HG' : Hid (Below W.heap.size W w5) := HG.out.trans (s9.mono HG.out.size)
      clear HG
      have HG := HG'
      clear HG'
      have HA' : Hid (Blk w5 W.heap.size 24 #[.int .i64 m.pc, .slice m.sA m.st.length m.sc, .slice m.cA m.ca.length m.cc]) := HA.out.below s9 HA.out.lt
      clear HA
      have HA := HA'
      clear HA'
      have HOy' : Hid (y.Own w5 w1.heap.size) := HOy.out.below s9
      clear HOy
      have HOy := HOy'
      clear HOy'
      have HBB0' : Hid (w5.ownsRow w2.heap.size 5 1 (.slice B0 bs.length B0c) bs.length (nums .u8 bs)) := own_below HBB0.out s9
      clear HBB0
      have HBB0 := HBB0'
      clear HBB0'
      have HOz0' : Hid (z0.Own w5 w3.heap.size) := HOz0.out.below s9
      clear HOz0
      have HOz0 := HOz0'
      clear HOz0'
      have z_w5 : w4.heap.size ≤ w5.heap.size := s9.size
      clear s9
      have zl_gw := HW.out.lt
      clear HOy
      clear HBB0
      have ea0 : w5.cell? ⟨W.heap.size, 0, none⟩ = some (.int .i64 m.pc) := HA.out.cell 0
      have ea1 : w5.cell? ⟨W.heap.size, 1, none⟩ = some (.slice m.sA m.st.length m.sc) := HA.out.cell 1
      have ea2 : w5.cell? ⟨W.heap.size, 2, none⟩ = some (.slice m.cA m.ca.length m.cc) := HA.out.cell 2
      have eaz : W.heap.size < w5.heap.size := HA.out.lt
      go_wp2_with fail
      clear ea0 ea1 ea2 eaz
      refine (toMc_any m w5 (R0.out.below HG.out) HG.out.size HSM.out).mono ?_
      rintro e w6 ⟨x, rfl, hv, ho, s9⟩
      have HG' : Hid (Below W.heap.size W w6) := HG.out.trans (s9.mono HG.out.size)
      clear HG
      have HG := HG'
      clear HG'
      have HA' : Hid (Blk w6 W.heap.size 24 #[.int .i64 m.pc, .slice m.sA m.st.length m.sc, .slice m.cA m.ca.length m.cc]) := HA.out.below s9 HA.out.lt
      clear HA
      have HA := HA'
      clear HA'
      have HOz0' : Hid (z0.Own w6 w3.heap.size) := HOz0.out.below s9
      clear HOz0
      have HOz0 := HOz0'
      clear HOz0'
      have HW' : Hid (Blk w6 gw 27 #[.int .i64 z0.pc, .slice z0.sA z0.st.length z0.sc, .slice z0.cA z0.ca.length z0.cc]) := HW.out.below s9 HW.out.lt
      clear HW
      have HW := HW'
      clear HW'
      have z_w6 : w5.heap.size ≤ w6.heap.size := s9.size
      have HVx := Lib.hid hv
      have HOx := Lib.hid ho
      have Ux := Lib.hid ho.up
      have HSx := Lib.hid (Mc.small_v hv HSM.out)
      clear hv ho s9
      go_upto_region 9 with fail
      obtain ⟨gx, hgx⟩ : ∃ gx, gx = w6.heap.size := ⟨_, rfl⟩
      obtain ⟨w7, hw7⟩ : ∃ w7, w7 = (w6.alloc (.cells #[.int .i64 x.pc, .slice x.sA x.st.length x.sc, .slice x.cA x.ca.length x.cc] 27)) := ⟨_, rfl⟩
      have s9 : Below w6.heap.size w6 w7 := by rw [hw7]; exact (Below.refl w6.heap.size w6).alloc (Nat.le_refl _) (.cells #[.int .i64 x.pc, .slice x.sA x.st.length x.sc, .slice x.cA x.ca.length x.cc] 27)
      have HX : Hid (Blk w7 gx 27 #[.int .i64 x.pc, .slice x.sA x.st.length x.sc, .slice x.cA x.ca.length x.cc]) := by
        have h := Blk.new w6 27 #[.int .i64 x.pc, .slice x.sA x.st.length x.sc, .slice x.cA x.ca.length x.cc]
        rw [hw7, hgx]
        simpa [Hid] using h
      have zg_gx : w6.heap.size ≤ gx := by omega
      have zn_w7 : w6.heap.size < w7.heap.size := by rw [hw7]; simp
      rw [← hw7, ← hgx]
      clear hw7 hgx
      have HG' : Hid (Below W.heap.size W w7) := HG.out.trans (s9.mono HG.out.size)
      clear HG
      have HG := HG'
      clear HG'
      have HA' : Hid (Blk w7 W.heap.size 24 #[.int .i64 m.pc, .slice m.sA m.st.length m.sc, .slice m.cA m.ca.length m.cc]) := HA.out.below s9 HA.out.lt
      clear HA
      have HA := HA'
      clear HA'
      have HOz0' : Hid (z0.Own w7 w3.heap.size) := HOz0.out.below s9
      clear HOz0
      have HOz0 := HOz0'
      clear HOz0'
      have HW' : Hid (Blk w7 gw 27 #[.int .i64 z0.pc, .slice z0.sA z0.st.length z0.sc, .slice z0.cA z0.ca.length z0.cc]) := HW.out.below s9 HW.out.lt
      clear HW
      have HW := HW'
      clear HW'
      have HOx' : Hid (x.Own w7 w5.heap.size) := HOx.out.below s9
      clear HOx
      have HOx := HOx'
      clear HOx'
      have z_w7 : w6.heap.size ≤ w7.heap.size := s9.size
      clear s9
      have zl_gx := HX.out.lt
      go_wp2_with fail
      refine (toByteS_any _ _ _ bs w7 (R1.out.below HG.out) HG.out.size hbl).mono ?_
      rintro e w8 ⟨B1, B1c, rfl, ho, s9⟩
      have HG' : Hid (Below W.heap.size W w8) := HG.out.trans (s9.mono HG.out.size)
      clear HG
      have HG := HG'
      clear HG'
      have HA' : Hid (Blk w8 W.heap.size 24 #[.int .i64 m.pc, .slice m.sA m.st.length m.sc, .slice m.cA m.ca.length m.cc]) := HA.out.below s9 HA.out.lt
      clear HA
      have HA := HA'
      clear HA'
      have HOz0' : Hid (z0.Own w8 w3.heap.size) := HOz0.out.below s9
      clear HOz0
      have HOz0 := HOz0'
      clear HOz0'
      have HW' : Hid (Blk w8 gw 27 #[.int .i64 z0.pc, .slice z0.sA z0.st.length z0.sc, .slice z0.cA z0.ca.length z0.cc]) := HW.out.below s9 HW.out.lt
      clear HW
      have HW := HW'
      clear HW'
      have HOx' : Hid (x.Own w8 w5.heap.size) := HOx.out.below s9
      clear HOx
      have HOx := HOx'
      clear HOx'
      have HX' : Hid (Blk w8 gx 27 #[.int .i64 x.pc, .slice x.sA x.st.length x.sc, .slice x.cA x.ca.length x.cc]) := HX.out.below s9 HX.out.lt
      clear HX
      have HX := HX'
      clear HX'
      have z_w8 : w7.heap.size ≤ w8.heap.size := s9.size
      have HBB1 := Lib.hid ho
      have UBB1 := Lib.hid (own_up ho)
      clear ho s9
      have ea0 : w8.cell? ⟨gx, 0, none⟩ = some (.int .i64 x.pc) := HX.out.cell 0
      have ea1 : w8.cell? ⟨gx, 1, none⟩ = some (.slice x.sA x.st.length x.sc) := HX.out.cell 1
      have ea2 : w8.cell? ⟨gx, 2, none⟩ = some (.slice x.cA x.ca.length x.cc) := HX.out.cell 2
      have eaz : gx < w8.heap.size := HX.out.lt
      go_wp2_with fail
      clear ea0 ea1 ea2 eaz
      have HC : Hid (Calls Try.prog 9 #[.agg #[.int .i64 x.pc, .slice x.sA x.st.length x.sc, .slice x.cA x.ca.length x.cc], .slice B1 bs.length B1c, .int .i64 steps] w8 (Ran (runM bs m.v steps) w8)) := by
        have h := implRun_any (A := B1) (c := B1c) x bs steps w8 HOx.out.at_ (Nat.le_refl _) HSx.out (Reads.of_own HBB1.out) (Nat.le_refl _) hbl HBX.out
        rw [HVx.out] at h
        exact h
      refine HC.out.mono ?_
      rintro e w9 ⟨z1, rfl, hv, ho, s9⟩
      clear HC
      have HG' : Hid (Below W.heap.size W w9) := HG.out.trans (s9.mono HG.out.size)
      clear HG
      have HG := HG'
      clear HG'
      have HA' : Hid (Blk w9 W.heap.size 24 #[.int .i64 m.pc, .slice m.sA m.st.length m.sc, .slice m.cA m.ca.length m.cc]) := HA.out.below s9 HA.out.lt
      clear HA
      have HA := HA'
      clear HA'
      have HOz0' : Hid (z0.Own w9 w3.heap.size) := HOz0.out.below s9
      clear HOz0
      have HOz0 := HOz0'
      clear HOz0'
      have HW' : Hid (Blk w9 gw 27 #[.int .i64 z0.pc, .slice z0.sA z0.st.length z0.sc, .slice z0.cA z0.ca.length z0.cc]) := HW.out.below s9 HW.out.lt
      clear HW
      have HW := HW'
      clear HW'
      have HOx' : Hid (x.Own w9 w5.heap.size) := HOx.out.below s9
      clear HOx
      have HOx := HOx'
      clear HOx'
      have HX' : Hid (Blk w9 gx 27 #[.int .i64 x.pc, .slice x.sA x.st.length x.sc, .slice x.cA x.ca.length x.cc]) := HX.out.below s9 HX.out.lt
      clear HX
      have HX := HX'
      clear HX'
      have HBB1' : Hid (w9.ownsRow w7.heap.size 5 1 (.slice B1 bs.length B1c) bs.length (nums .u8 bs)) := own_below HBB1.out s9
      clear HBB1
      have HBB1 := HBB1'
      clear HBB1'
      have z_w9 : w8.heap.size ≤ w9.heap.size := s9.size
      have HVz1 := Lib.hid hv
      have HOz1 := Lib.hid ho
      have Uz1 := Lib.hid ho.up
      clear hv ho s9
      have HSz1 : Hid (z1.small) := HRS.out z1 HVz1.out
      simp only [Mc.val]
      go_upto_region 11 with fail
      obtain ⟨gg, hgg⟩ : ∃ gg, gg = w9.heap.size := ⟨_, rfl⟩
      obtain ⟨w10, hw10⟩ : ∃ w10, w10 = (w9.alloc (.cells #[.int .i64 z1.pc, .slice z1.sA z1.st.length z1.sc, .slice z1.cA z1.ca.length z1.cc] 27)) := ⟨_, rfl⟩
      have s9 : Below w9.heap.size w9 w10 := by rw [hw10]; exact (Below.refl w9.heap.size w9).alloc (Nat.le_refl _) (.cells #[.int .i64 z1.pc, .slice z1.sA z1.st.length z1.sc, .slice z1.cA z1.ca.length z1.cc] 27)
      have HGB : Hid (Blk w10 gg 27 #[.int .i64 z1.pc, .slice z1.sA z1.st.length z1.sc, .slice z1.cA z1.ca.length z1.cc]) := by
        have h := Blk.new w9 27 #[.int .i64 z1.pc, .slice z1.sA z1.st.length z1.sc, .slice z1.cA z1.ca.length z1.cc]
        rw [hw10, hgg]
        simpa [Hid] using h
      have zg_gg : w9.heap.size ≤ gg := by omega
      have zn_w10 : w9.heap.size < w10.heap.size := by rw [hw10]; simp
      rw [← hw10, ← hgg]
      clear hw10 hgg
      have HG' : Hid (Below W.heap.size W w10) := HG.out.trans (s9.mono HG.out.size)
      clear HG
      have HG := HG'
      clear HG'
      have HA' : Hid (Blk w10 W.heap.size 24 #[.int .i64 m.pc, .slice m.sA m.st.length m.sc, .slice m.cA m.ca.length m.cc]) := HA.out.below s9 HA.out.lt
      clear HA
      have HA := HA'
      clear HA'
      have HOz0' : Hid (z0.Own w10 w3.heap.size) := HOz0.out.below s9
      clear HOz0
      have HOz0 := HOz0'
      clear HOz0'
      have HW' : Hid (Blk w10 gw 27 #[.int .i64 z0.pc, .slice z0.sA z0.st.length z0.sc, .slice z0.cA z0.ca.length z0.cc]) := HW.out.below s9 HW.out.lt
      clear HW
      have HW := HW'
      clear HW'
      have HOx' : Hid (x.Own w10 w5.heap.size) := HOx.out.below s9
      clear HOx
      have HOx := HOx'
      clear HOx'
      have HX' : Hid (Blk w10 gx 27 #[.int .i64 x.pc, .slice x.sA x.st.length x.sc, .slice x.cA x.ca.length x.cc]) := HX.out.below s9 HX.out.lt
      clear HX
      have HX := HX'
      clear HX'
      have HBB1' : Hid (w10.ownsRow w7.heap.size 5 1 (.slice B1 bs.length B1c) bs.length (nums .u8 bs)) := own_below HBB1.out s9
      clear HBB1
      have HBB1 := HBB1'
      clear HBB1'
      have HOz1' : Hid (z1.Own w10 w8.heap.size) := HOz1.out.below s9
      clear HOz1
      have HOz1 := HOz1'
      clear HOz1'
      have z_w10 : w9.heap.size ≤ w10.heap.size := s9.size
      clear s9
      have zl_gg := HGB.out.lt
      have HEQ : Hid (z1.v = z0.v) := HVz1.out.trans HVz0.out.symm
      have ea0 : w10.cell? ⟨gg, 0, none⟩ = some (.int .i64 z1.pc) := HGB.out.cell 0
      have ea1 : w10.cell? ⟨gg, 1, none⟩ = some (.slice z1.sA z1.st.length z1.sc) := HGB.out.cell 1
      have ea2 : w10.cell? ⟨gg, 2, none⟩ = some (.slice z1.cA z1.ca.length z1.cc) := HGB.out.cell 2
      have eaz : gg < w10.heap.size := HGB.out.lt
      have eb0 : w10.cell? ⟨gw, 0, none⟩ = some (.int .i64 z0.pc) := HW.out.cell 0
      have eb1 : w10.cell? ⟨gw, 1, none⟩ = some (.slice z0.sA z0.st.length z0.sc) := HW.out.cell 1
      have eb2 : w10.cell? ⟨gw, 2, none⟩ = some (.slice z0.cA z0.ca.length z0.cc) := HW.out.cell 2
      have ebz : gw < w10.heap.size := HW.out.lt
      go_wp2_with fail
      clear ea0 ea1 ea2 eaz
      clear eb0 eb1 eb2 ebz
      refine (eqMc_any z1 z0 w10 HEQ.out HOz1.out.at_ HOz0.out.at_ HSz1.out).mono ?_
      rintro e w11 ⟨rfl, s9⟩
      have HG' : Hid (Below W.heap.size W w11) := HG.out.trans (s9.mono HG.out.size)
      clear HG
      have HG := HG'
      clear HG'
      have HA' : Hid (Blk w11 W.heap.size 24 #[.int .i64 m.pc, .slice m.sA m.st.length m.sc, .slice m.cA m.ca.length m.cc]) := HA.out.below s9 HA.out.lt
      clear HA
      have HA := HA'
      clear HA'
      have HOz0' : Hid (z0.Own w11 w3.heap.size) := HOz0.out.below s9
      clear HOz0
      have HOz0 := HOz0'
      clear HOz0'
      have HW' : Hid (Blk w11 gw 27 #[.int .i64 z0.pc, .slice z0.sA z0.st.length z0.sc, .slice z0.cA z0.ca.length z0.cc]) := HW.out.below s9 HW.out.lt
      clear HW
      have HW := HW'
      clear HW'
      have HOx' : Hid (x.Own w11 w5.heap.size) := HOx.out.below s9
      clear HOx
      have HOx := HOx'
      clear HOx'
      have HX' : Hid (Blk w11 gx 27 #[.int .i64 x.pc, .slice x.sA x.st.length x.sc, .slice x.cA x.ca.length x.cc]) := HX.out.below s9 HX.out.lt
      clear HX
      have HX := HX'
      clear HX'
      have HBB1' : Hid (w11.ownsRow w7.heap.size 5 1 (.slice B1 bs.length B1c) bs.length (nums .u8 bs)) := own_below HBB1.out s9
      clear HBB1
      have HBB1 := HBB1'
      clear HBB1'
      have HOz1' : Hid (z1.Own w11 w8.heap.size) := HOz1.out.below s9
      clear HOz1
      have HOz1 := HOz1'
      clear HOz1'
      have HGB' : Hid (Blk w11 gg 27 #[.int .i64 z1.pc, .slice z1.sA z1.st.length z1.sc, .slice z1.cA z1.ca.length z1.cc]) := HGB.out.below s9 HGB.out.lt
      clear HGB
      have HGB := HGB'
      clear HGB'
      have z_w11 : w10.heap.size ≤ w11.heap.size := s9.size
      clear s9
      go_wp2
      refine wp_region_facts (fun i v wv => match i with
          | 0 => v = .agg #[.int .i64 x.pc, .slice x.sA x.st.length x.sc, .slice x.cA x.ca.length x.cc]
          | 1 => v = .agg #[.int .i64 m.pc, .slice m.sA m.st.length m.sc, .slice m.cA m.ca.length m.cc]
          | 2 => ∃ t : Mc, v = .agg #[.int .i64 t.pc, .slice t.sA t.st.length t.sc, .slice t.cA t.ca.length t.cc] ∧ t.v = m.v ∧ t.Own wv w11.heap.size
          | 3 => v = .bool true
          | _ => v = .bool false)
        (fun fl vs wq => Below w11.heap.size w11 wq) (fun w w' => KeepT TI w w') (by kernel_rfl) (by kernel_rfl) ?_ ?_ ?_ ?_
      · intro i v u u2 hk h
        match i, h with
        | 0, h => exact h
        | 1, h => exact h
        | 2, h => exact let ⟨t, h1, h2, h3⟩ := h; ⟨t, h1, h2, h3.keep hk⟩
        | 3, h => exact h
        | _ + 4, h => exact h
      · intro fl vs hfl
        exact below_drewN (Below.refl _ _) 1
      · refine ⟨?_, ?_, ?_, ?_, ?_, trivial⟩
        all_goals intro fl vs wr9 a1 hc hG hfi hcl hp K hK
        · have e1 : a1.eval (.tmp 10) = .pointer (some ⟨gx, 0, none⟩) := hc.ev0 10 rfl
          have c0_ : wr9.cell? ⟨gx, 0, none⟩ = some (.int .i64 x.pc) := (HX.out.below hG HX.out.lt).cell 0
          have c1_ : wr9.cell? ⟨gx, 1, none⟩ = some (.slice x.sA x.st.length x.sc) := (HX.out.below hG HX.out.lt).cell 1
          have c2_ : wr9.cell? ⟨gx, 2, none⟩ = some (.slice x.cA x.ca.length x.cc) := (HX.out.below hG HX.out.lt).cell 2
          unfold Oper.wp execOp
          simp only [e1]
          go_simp
          exact hK _ _ ⟨Nat.le_refl _, fun _ _ _ _ _ => rfl⟩ rfl hG
        · have e1 : a1.eval (.tmp 3) = .pointer (some ⟨W.heap.size, 0, none⟩) := hc.ev0 3 rfl
          have c0_ : wr9.cell? ⟨W.heap.size, 0, none⟩ = some (.int .i64 m.pc) := (HA.out.below hG HA.out.lt).cell 0
          have c1_ : wr9.cell? ⟨W.heap.size, 1, none⟩ = some (.slice m.sA m.st.length m.sc) := (HA.out.below hG HA.out.lt).cell 1
          have c2_ : wr9.cell? ⟨W.heap.size, 2, none⟩ = some (.slice m.cA m.ca.length m.cc) := (HA.out.below hG HA.out.lt).cell 2
          unfold Oper.wp execOp
          simp only [e1]
          go_simp
          exact hK _ _ ⟨Nat.le_refl _, fun _ _ _ _ _ => rfl⟩ rfl hG
        · have e1 := hc.ev 57 1 rfl
          rw [show vs 1 = _ from (hp 1 (by kernel_rfl)).2] at e1
          have hbw := HG.out.trans (hG.mono HG.out.size)
          refine op_call rfl (vs := #[.agg #[.int .i64 m.pc, .slice m.sA m.st.length m.sc, .slice m.cA m.ca.length m.cc]]) (by simp only [List.map_toArray, List.map_cons, List.map_nil, e1]) (by kernel_rfl) (toMc_any m wr9 (R0.out.below hbw) hbw.size HSM.out) ?_
          rintro e w9 ⟨t, rfl, htv, hto, s9⟩
          exact ⟨_, rfl, hK _ _ (KeepT.of_below s9) ⟨t, rfl, htv, hto.base hG.size⟩ (hG.trans (s9.mono hG.size))⟩
        · obtain ⟨t, hv, htv, hto⟩ := (hp 2 (by kernel_rfl)).2
          have e1 := hc.ev 56 0 rfl
          rw [show vs 0 = _ from (hp 0 (by kernel_rfl)).2] at e1
          have e2 := hc.ev 58 2 rfl
          rw [hv] at e2
          refine op_call rfl (vs := #[.agg #[.int .i64 x.pc, .slice x.sA x.st.length x.sc, .slice x.cA x.ca.length x.cc], .agg #[.int .i64 t.pc, .slice t.sA t.st.length t.sc, .slice t.cA t.ca.length t.cc]]) (by simp only [List.map_toArray, List.map_cons, List.map_nil, e1, e2]) (by kernel_rfl) (eqMc_any x t wr9 (HVx.out.trans htv.symm) (HOx.out.below hG).at_ hto.at_ HSx.out) ?_
          rintro e w9 ⟨rfl, s9⟩
          exact ⟨_, rfl, hK _ _ (KeepT.of_below s9) rfl (hG.trans (s9.mono hG.size))⟩
        · have e1 := hc.ev 59 3 rfl
          rw [show vs 3 = _ from (hp 3 (by kernel_rfl)).2] at e1
          unfold Oper.wp execOp
          simp only [e1]
          go_simp
          exact hK _ _ ⟨Nat.le_refl _, fun _ _ _ _ _ => rfl⟩ rfl hG
      · intro fl vs w12 hfl hG hF
        have h4 := hF 4 (by simp)
        have s9 := hG
        clear hG hF hfl
        simp only [fill]
        go_simp
        try rw [show vs 4 = _ from h4]
        clear h4
        have HG' : Hid (Below W.heap.size W w12) := HG.out.trans (s9.mono HG.out.size)
        clear HG
        have HG := HG'
        clear HG'
        have HA' : Hid (Blk w12 W.heap.size 24 #[.int .i64 m.pc, .slice m.sA m.st.length m.sc, .slice m.cA m.ca.length m.cc]) := HA.out.below s9 HA.out.lt
        clear HA
        have HA := HA'
        clear HA'
        have HOz0' : Hid (z0.Own w12 w3.heap.size) := HOz0.out.below s9
        clear HOz0
        have HOz0 := HOz0'
        clear HOz0'
        have HW' : Hid (Blk w12 gw 27 #[.int .i64 z0.pc, .slice z0.sA z0.st.length z0.sc, .slice z0.cA z0.ca.length z0.cc]) := HW.out.below s9 HW.out.lt
        clear HW
        have HW := HW'
        clear HW'
        have HOx' : Hid (x.Own w12 w5.heap.size) := HOx.out.below s9
        clear HOx
        have HOx := HOx'
        clear HOx'
        have HX' : Hid (Blk w12 gx 27 #[.int .i64 x.pc, .slice x.sA x.st.length x.sc, .slice x.cA x.ca.length x.cc]) := HX.out.below s9 HX.out.lt
        clear HX
        have HX := HX'
        clear HX'
        have HBB1' : Hid (w12.ownsRow w7.heap.size 5 1 (.slice B1 bs.length B1c) bs.length (nums .u8 bs)) := own_below HBB1.out s9
        clear HBB1
        have HBB1 := HBB1'
        clear HBB1'
        have HOz1' : Hid (z1.Own w12 w8.heap.size) := HOz1.out.below s9
        clear HOz1
        have HOz1 := HOz1'
        clear HOz1'
        have HGB' : Hid (Blk w12 gg 27 #[.int .i64 z1.pc, .slice z1.sA z1.st.length z1.sc, .slice z1.cA z1.ca.length z1.cc]) := HGB.out.below s9 HGB.out.lt
        clear HGB
        have HGB := HGB'
        clear HGB'
        have z_w12 : w11.heap.size ≤ w12.heap.size := s9.size
        clear s9
        go_wp2_with fail
        refine (toByteS_any _ _ _ bs w12 (R1.out.below HG.out) HG.out.size hbl).mono ?_
        rintro e w13 ⟨B2, B2c, rfl, ho, s9⟩
        have HG' : Hid (Below W.heap.size W w13) := HG.out.trans (s9.mono HG.out.size)
        clear HG
        have HG := HG'
        clear HG'
        have HA' : Hid (Blk w13 W.heap.size 24 #[.int .i64 m.pc, .slice m.sA m.st.length m.sc, .slice m.cA m.ca.length m.cc]) := HA.out.below s9 HA.out.lt
        clear HA
        have HA := HA'
        clear HA'
        have HOz0' : Hid (z0.Own w13 w3.heap.size) := HOz0.out.below s9
        clear HOz0
        have HOz0 := HOz0'
        clear HOz0'
        have HW' : Hid (Blk w13 gw 27 #[.int .i64 z0.pc, .slice z0.sA z0.st.length z0.sc, .slice z0.cA z0.ca.length z0.cc]) := HW.out.below s9 HW.out.lt
        clear HW
        have HW := HW'
        clear HW'
        have HOx' : Hid (x.Own w13 w5.heap.size) := HOx.out.below s9
        clear HOx
        have HOx := HOx'
        clear HOx'
        have HX' : Hid (Blk w13 gx 27 #[.int .i64 x.pc, .slice x.sA x.st.length x.sc, .slice x.cA x.ca.length x.cc]) := HX.out.below s9 HX.out.lt
        clear HX
        have HX := HX'
        clear HX'
        have HBB1' : Hid (w13.ownsRow w7.heap.size 5 1 (.slice B1 bs.length B1c) bs.length (nums .u8 bs)) := own_below HBB1.out s9
        clear HBB1
        have HBB1 := HBB1'
        clear HBB1'
        have HOz1' : Hid (z1.Own w13 w8.heap.size) := HOz1.out.below s9
        clear HOz1
        have HOz1 := HOz1'
        clear HOz1'
        have HGB' : Hid (Blk w13 gg 27 #[.int .i64 z1.pc, .slice z1.sA z1.st.length z1.sc, .slice z1.cA z1.ca.length z1.cc]) := HGB.out.below s9 HGB.out.lt
        clear HGB
        have HGB := HGB'
        clear HGB'
        have z_w13 : w12.heap.size ≤ w13.heap.size := s9.size
        have HBB2 := Lib.hid ho
        have UBB2 := Lib.hid (own_up ho)
        clear ho s9
        go_wp2_with fail
        refine (eqByteS_any _ _ _ _ _ _ bs bs w13 (Reads.of_own HBB1.out) (Reads.of_own HBB2.out) (by omega) (by omega)).mono ?_
        rintro e w14 ⟨rfl, s9⟩
        rw [decide_eq_true rfl]
        have HG' : Hid (Below W.heap.size W w14) := HG.out.trans (s9.mono HG.out.size)
        clear HG
        have HG := HG'
        clear HG'
        have HA' : Hid (Blk w14 W.heap.size 24 #[.int .i64 m.pc, .slice m.sA m.st.length m.sc, .slice m.cA m.ca.length m.cc]) := HA.out.below s9 HA.out.lt
        clear HA
        have HA := HA'
        clear HA'
        have HOz0' : Hid (z0.Own w14 w3.heap.size) := HOz0.out.below s9
        clear HOz0
        have HOz0 := HOz0'
        clear HOz0'
        have HW' : Hid (Blk w14 gw 27 #[.int .i64 z0.pc, .slice z0.sA z0.st.length z0.sc, .slice z0.cA z0.ca.length z0.cc]) := HW.out.below s9 HW.out.lt
        clear HW
        have HW := HW'
        clear HW'
        have HOx' : Hid (x.Own w14 w5.heap.size) := HOx.out.below s9
        clear HOx
        have HOx := HOx'
        clear HOx'
        have HX' : Hid (Blk w14 gx 27 #[.int .i64 x.pc, .slice x.sA x.st.length x.sc, .slice x.cA x.ca.length x.cc]) := HX.out.below s9 HX.out.lt
        clear HX
        have HX := HX'
        clear HX'
        have HBB1' : Hid (w14.ownsRow w7.heap.size 5 1 (.slice B1 bs.length B1c) bs.length (nums .u8 bs)) := own_below HBB1.out s9
        clear HBB1
        have HBB1 := HBB1'
        clear HBB1'
        have HOz1' : Hid (z1.Own w14 w8.heap.size) := HOz1.out.below s9
        clear HOz1
        have HOz1 := HOz1'
        clear HOz1'
        have HGB' : Hid (Blk w14 gg 27 #[.int .i64 z1.pc, .slice z1.sA z1.st.length z1.sc, .slice z1.cA z1.ca.length z1.cc]) := HGB.out.below s9 HGB.out.lt
        clear HGB
        have HGB := HGB'
        clear HGB'
        have HBB2' : Hid (w14.ownsRow w12.heap.size 5 1 (.slice B2 bs.length B2c) bs.length (nums .u8 bs)) := own_below HBB2.out s9
        clear HBB2
        have HBB2 := HBB2'
        clear HBB2'
        have z_w14 : w13.heap.size ≤ w14.heap.size := s9.size
        clear s9
        clear HBB2
        have ea0 : w14.cell? ⟨gx, 0, none⟩ = some (.int .i64 x.pc) := HX.out.cell 0
        have ea1 : w14.cell? ⟨gx, 1, none⟩ = some (.slice x.sA x.st.length x.sc) := HX.out.cell 1
        have ea2 : w14.cell? ⟨gx, 2, none⟩ = some (.slice x.cA x.ca.length x.cc) := HX.out.cell 2
        have eaz : gx < w14.heap.size := HX.out.lt
        go_wp2_with fail
        clear ea0 ea1 ea2 eaz
        have hsx := HSx.out
        have hsz1 := HSz1.out
        unfold Mc.small at hsx hsz1
        refine (markMc_any x 1 w5.heap.size gx w14 HOx.out ⟨fun a ha => by have := Ux.out.1 a ha; omega, fun a ha => by have := Ux.out.2 a ha; omega⟩ HSx.out (by omega) (by omega) (by omega)).mono ?_
        rintro e w15 ⟨rfl, on9, _⟩
        clear HOx
        have HG' : Hid (Below W.heap.size W w15) := below_only HG.out on9 (by omega) HG.out.size
        clear HG
        have HG := HG'
        clear HG'
        have HA' : Hid (Blk w15 W.heap.size 24 #[.int .i64 m.pc, .slice m.sA m.st.length m.sc, .slice m.cA m.ca.length m.cc]) := blk_only HA.out on9 (by omega)
        clear HA
        have HA := HA'
        clear HA'
        have HOz0' : Hid (z0.Own w15 w3.heap.size) := HOz0.out.only on9 ⟨fun a ha => by have := Uz0.out.1 a ha; omega, fun a ha => by have := Uz0.out.2 a ha; omega⟩
        clear HOz0
        have HOz0 := HOz0'
        clear HOz0'
        have HW' : Hid (Blk w15 gw 27 #[.int .i64 z0.pc, .slice z0.sA z0.st.length z0.sc, .slice z0.cA z0.ca.length z0.cc]) := blk_only HW.out on9 (by omega)
        clear HW
        have HW := HW'
        clear HW'
        have HX' : Hid (Blk w15 gx 27 #[.int .i64 x.pc, .slice x.sA x.st.length x.sc, .slice x.cA x.ca.length x.cc]) := blk_only HX.out on9 (by omega)
        clear HX
        have HX := HX'
        clear HX'
        have HBB1' : Hid (w15.ownsRow w7.heap.size 5 1 (.slice B1 bs.length B1c) bs.length (nums .u8 bs)) := own_only HBB1.out on9 (fun a ha => by have := UBB1.out a ha; omega)
        clear HBB1
        have HBB1 := HBB1'
        clear HBB1'
        have HOz1' : Hid (z1.Own w15 w8.heap.size) := HOz1.out.only on9 ⟨fun a ha => by have := Uz1.out.1 a ha; omega, fun a ha => by have := Uz1.out.2 a ha; omega⟩
        clear HOz1
        have HOz1 := HOz1'
        clear HOz1'
        have HGB' : Hid (Blk w15 gg 27 #[.int .i64 z1.pc, .slice z1.sA z1.st.length z1.sc, .slice z1.cA z1.ca.length z1.cc]) := blk_only HGB.out on9 (by omega)
        clear HGB
        have HGB := HGB'
        clear HGB'
        have z_w15 : w14.heap.size ≤ w15.heap.size := on9.size
        clear on9
        go_wp2_with fail
        refine (markByteS_any _ _ _ _ _ _ w15 HBB1.out (by omega) (by omega) (by omega)).mono ?_
        rintro e w16 ⟨rfl, _, sg⟩
        have on9 := Only.of_marks HBB1.out (fun a ha => (UBB1.out a ha).2) sg
        clear HBB1
        have HG' : Hid (Below W.heap.size W w16) := below_only HG.out on9 (by omega) HG.out.size
        clear HG
        have HG := HG'
        clear HG'
        have HA' : Hid (Blk w16 W.heap.size 24 #[.int .i64 m.pc, .slice m.sA m.st.length m.sc, .slice m.cA m.ca.length m.cc]) := blk_only HA.out on9 (by omega)
        clear HA
        have HA := HA'
        clear HA'
        have HOz0' : Hid (z0.Own w16 w3.heap.size) := HOz0.out.only on9 ⟨fun a ha => by have := Uz0.out.1 a ha; omega, fun a ha => by have := Uz0.out.2 a ha; omega⟩
        clear HOz0
        have HOz0 := HOz0'
        clear HOz0'
        have HW' : Hid (Blk w16 gw 27 #[.int .i64 z0.pc, .slice z0.sA z0.st.length z0.sc, .slice z0.cA z0.ca.length z0.cc]) := blk_only HW.out on9 (by omega)
        clear HW
        have HW := HW'
        clear HW'
        have HX' : Hid (Blk w16 gx 27 #[.int .i64 x.pc, .slice x.sA x.st.length x.sc, .slice x.cA x.ca.length x.cc]) := blk_only HX.out on9 (by omega)
        clear HX
        have HX := HX'
        clear HX'
        have HOz1' : Hid (z1.Own w16 w8.heap.size) := HOz1.out.only on9 ⟨fun a ha => by have := Uz1.out.1 a ha; omega, fun a ha => by have := Uz1.out.2 a ha; omega⟩
        clear HOz1
        have HOz1 := HOz1'
        clear HOz1'
        have HGB' : Hid (Blk w16 gg 27 #[.int .i64 z1.pc, .slice z1.sA z1.st.length z1.sc, .slice z1.cA z1.ca.length z1.cc]) := blk_only HGB.out on9 (by omega)
        clear HGB
        have HGB := HGB'
        clear HGB'
        have z_w16 : w15.heap.size ≤ w16.heap.size := on9.size
        clear on9 sg
        have ea0 : w16.cell? ⟨gg, 0, none⟩ = some (.int .i64 z1.pc) := HGB.out.cell 0
        have ea1 : w16.cell? ⟨gg, 1, none⟩ = some (.slice z1.sA z1.st.length z1.sc) := HGB.out.cell 1
        have ea2 : w16.cell? ⟨gg, 2, none⟩ = some (.slice z1.cA z1.ca.length z1.cc) := HGB.out.cell 2
        have eaz : gg < w16.heap.size := HGB.out.lt
        have eb0 : w16.cell? ⟨gw, 0, none⟩ = some (.int .i64 z0.pc) := HW.out.cell 0
        have eb1 : w16.cell? ⟨gw, 1, none⟩ = some (.slice z0.sA z0.st.length z0.sc) := HW.out.cell 1
        have eb2 : w16.cell? ⟨gw, 2, none⟩ = some (.slice z0.cA z0.ca.length z0.cc) := HW.out.cell 2
        have ebz : gw < w16.heap.size := HW.out.lt
        go_wp2_with fail
        clear ea0 ea1 ea2 eaz
        clear eb0 eb1 eb2 ebz
        refine (eqMc_any z1 z0 w16 HEQ.out HOz1.out.at_ HOz0.out.at_ HSz1.out).mono ?_
        rintro e w17 ⟨rfl, s9⟩
        have HG' : Hid (Below W.heap.size W w17) := HG.out.trans (s9.mono HG.out.size)
        clear HG
        have HG := HG'
        clear HG'
        have HA' : Hid (Blk w17 W.heap.size 24 #[.int .i64 m.pc, .slice m.sA m.st.length m.sc, .slice m.cA m.ca.length m.cc]) := HA.out.below s9 HA.out.lt
        clear HA
        have HA := HA'
        clear HA'
        have HOz0' : Hid (z0.Own w17 w3.heap.size) := HOz0.out.below s9
        clear HOz0
        have HOz0 := HOz0'
        clear HOz0'
        have HW' : Hid (Blk w17 gw 27 #[.int .i64 z0.pc, .slice z0.sA z0.st.length z0.sc, .slice z0.cA z0.ca.length z0.cc]) := HW.out.below s9 HW.out.lt
        clear HW
        have HW := HW'
        clear HW'
        have HX' : Hid (Blk w17 gx 27 #[.int .i64 x.pc, .slice x.sA x.st.length x.sc, .slice x.cA x.ca.length x.cc]) := HX.out.below s9 HX.out.lt
        clear HX
        have HX := HX'
        clear HX'
        have HOz1' : Hid (z1.Own w17 w8.heap.size) := HOz1.out.below s9
        clear HOz1
        have HOz1 := HOz1'
        clear HOz1'
        have HGB' : Hid (Blk w17 gg 27 #[.int .i64 z1.pc, .slice z1.sA z1.st.length z1.sc, .slice z1.cA z1.ca.length z1.cc]) := HGB.out.below s9 HGB.out.lt
        clear HGB
        have HGB := HGB'
        clear HGB'
        have z_w17 : w16.heap.size ≤ w17.heap.size := s9.size
        clear s9
        have ea0 : w17.cell? ⟨gg, 0, none⟩ = some (.int .i64 z1.pc) := HGB.out.cell 0
        have ea1 : w17.cell? ⟨gg, 1, none⟩ = some (.slice z1.sA z1.st.length z1.sc) := HGB.out.cell 1
        have ea2 : w17.cell? ⟨gg, 2, none⟩ = some (.slice z1.cA z1.ca.length z1.cc) := HGB.out.cell 2
        have eaz : gg < w17.heap.size := HGB.out.lt
        go_wp2_with fail
        clear ea0 ea1 ea2 eaz
        refine (markMc_any z1 1 w8.heap.size gg w17 HOz1.out ⟨fun a ha => by have := Uz1.out.1 a ha; omega, fun a ha => by have := Uz1.out.2 a ha; omega⟩ HSz1.out (by omega) (by omega) (by omega)).mono ?_
        rintro e w18 ⟨rfl, on9, hm9⟩
        clear HOz1
        have HG' : Hid (Below W.heap.size W w18) := below_only HG.out on9 (by omega) HG.out.size
        clear HG
        have HG := HG'
        clear HG'
        have HA' : Hid (Blk w18 W.heap.size 24 #[.int .i64 m.pc, .slice m.sA m.st.length m.sc, .slice m.cA m.ca.length m.cc]) := blk_only HA.out on9 (by omega)
        clear HA
        have HA := HA'
        clear HA'
        have HOz0' : Hid (z0.Own w18 w3.heap.size) := HOz0.out.only on9 ⟨fun a ha => by have := Uz0.out.1 a ha; omega, fun a ha => by have := Uz0.out.2 a ha; omega⟩
        clear HOz0
        have HOz0 := HOz0'
        clear HOz0'
        have HW' : Hid (Blk w18 gw 27 #[.int .i64 z0.pc, .slice z0.sA z0.st.length z0.sc, .slice z0.cA z0.ca.length z0.cc]) := blk_only HW.out on9 (by omega)
        clear HW
        have HW := HW'
        clear HW'
        have HX' : Hid (Blk w18 gx 27 #[.int .i64 x.pc, .slice x.sA x.st.length x.sc, .slice x.cA x.ca.length x.cc]) := blk_only HX.out on9 (by omega)
        clear HX
        have HX := HX'
        clear HX'
        have HGB' : Hid (Blk w18 gg 27 #[.int .i64 z1.pc, .slice z1.sA z1.st.length z1.sc, .slice z1.cA z1.ca.length z1.cc]) := blk_only HGB.out on9 (by omega)
        clear HGB
        have HGB := HGB'
        clear HGB'
        have z_w18 : w17.heap.size ≤ w18.heap.size := on9.size
        have HOz1 := Lib.hid hm9
        clear on9 hm9
        have ea0 : w18.cell? ⟨gg, 0, none⟩ = some (.int .i64 z1.pc) := HGB.out.cell 0
        have ea1 : w18.cell? ⟨gg, 1, none⟩ = some (.slice z1.sA z1.st.length z1.sc) := HGB.out.cell 1
        have ea2 : w18.cell? ⟨gg, 2, none⟩ = some (.slice z1.cA z1.ca.length z1.cc) := HGB.out.cell 2
        have eaz : gg < w18.heap.size := HGB.out.lt
        go_wp2_with fail
        clear ea0 ea1 ea2 eaz
        refine (heldMc_any z1 w18 HOz1.out.at_ HSz1.out).mono ?_
        rintro e w19 ⟨rfl, s9⟩
        have HG' : Hid (Below W.heap.size W w19) := HG.out.trans (s9.mono HG.out.size)
        clear HG
        have HG := HG'
        clear HG'
        have HA' : Hid (Blk w19 W.heap.size 24 #[.int .i64 m.pc, .slice m.sA m.st.length m.sc, .slice m.cA m.ca.length m.cc]) := HA.out.below s9 HA.out.lt
        clear HA
        have HA := HA'
        clear HA'
        have HOz0' : Hid (z0.Own w19 w3.heap.size) := HOz0.out.below s9
        clear HOz0
        have HOz0 := HOz0'
        clear HOz0'
        have HW' : Hid (Blk w19 gw 27 #[.int .i64 z0.pc, .slice z0.sA z0.st.length z0.sc, .slice z0.cA z0.ca.length z0.cc]) := HW.out.below s9 HW.out.lt
        clear HW
        have HW := HW'
        clear HW'
        have HX' : Hid (Blk w19 gx 27 #[.int .i64 x.pc, .slice x.sA x.st.length x.sc, .slice x.cA x.ca.length x.cc]) := HX.out.below s9 HX.out.lt
        clear HX
        have HX := HX'
        clear HX'
        have HGB' : Hid (Blk w19 gg 27 #[.int .i64 z1.pc, .slice z1.sA z1.st.length z1.sc, .slice z1.cA z1.ca.length z1.cc]) := HGB.out.below s9 HGB.out.lt
        clear HGB
        have HGB := HGB'
        clear HGB'
        have HOz1' : Hid ((z1.marked 1).Own w19 w8.heap.size) := HOz1.out.below s9
        clear HOz1
        have HOz1 := HOz1'
        clear HOz1'
        have z_w19 : w18.heap.size ≤ w19.heap.size := s9.size
        clear s9
        have ea0 : w19.cell? ⟨W.heap.size, 0, none⟩ = some (.int .i64 m.pc) := HA.out.cell 0
        have ea1 : w19.cell? ⟨W.heap.size, 1, none⟩ = some (.slice m.sA m.st.length m.sc) := HA.out.cell 1
        have ea2 : w19.cell? ⟨W.heap.size, 2, none⟩ = some (.slice m.cA m.ca.length m.cc) := HA.out.cell 2
        have eaz : W.heap.size < w19.heap.size := HA.out.lt
        go_wp2_with fail
        clear ea0 ea1 ea2 eaz
        refine (toMc_any m w19 (R0.out.below HG.out) HG.out.size HSM.out).mono ?_
        rintro e w20 ⟨t, rfl, hv, ho, s9⟩
        have HG' : Hid (Below W.heap.size W w20) := HG.out.trans (s9.mono HG.out.size)
        clear HG
        have HG := HG'
        clear HG'
        have HA' : Hid (Blk w20 W.heap.size 24 #[.int .i64 m.pc, .slice m.sA m.st.length m.sc, .slice m.cA m.ca.length m.cc]) := HA.out.below s9 HA.out.lt
        clear HA
        have HA := HA'
        clear HA'
        have HOz0' : Hid (z0.Own w20 w3.heap.size) := HOz0.out.below s9
        clear HOz0
        have HOz0 := HOz0'
        clear HOz0'
        have HW' : Hid (Blk w20 gw 27 #[.int .i64 z0.pc, .slice z0.sA z0.st.length z0.sc, .slice z0.cA z0.ca.length z0.cc]) := HW.out.below s9 HW.out.lt
        clear HW
        have HW := HW'
        clear HW'
        have HX' : Hid (Blk w20 gx 27 #[.int .i64 x.pc, .slice x.sA x.st.length x.sc, .slice x.cA x.ca.length x.cc]) := HX.out.below s9 HX.out.lt
        clear HX
        have HX := HX'
        clear HX'
        have HGB' : Hid (Blk w20 gg 27 #[.int .i64 z1.pc, .slice z1.sA z1.st.length z1.sc, .slice z1.cA z1.ca.length z1.cc]) := HGB.out.below s9 HGB.out.lt
        clear HGB
        have HGB := HGB'
        clear HGB'
        have HOz1' : Hid ((z1.marked 1).Own w20 w8.heap.size) := HOz1.out.below s9
        clear HOz1
        have HOz1 := HOz1'
        clear HOz1'
        have z_w20 : w19.heap.size ≤ w20.heap.size := s9.size
        have HVt := Lib.hid hv
        have HOt := Lib.hid ho
        have Ut := Lib.hid ho.up
        have HSt := Lib.hid (Mc.small_v hv HSM.out)
        clear hv ho s9
        go_wp2_with fail
        refine (toByteS_any _ _ _ bs w20 (R1.out.below HG.out) HG.out.size hbl).mono ?_
        rintro e w21 ⟨B3, B3c, rfl, ho, s9⟩
        have HG' : Hid (Below W.heap.size W w21) := HG.out.trans (s9.mono HG.out.size)
        clear HG
        have HG := HG'
        clear HG'
        have HA' : Hid (Blk w21 W.heap.size 24 #[.int .i64 m.pc, .slice m.sA m.st.length m.sc, .slice m.cA m.ca.length m.cc]) := HA.out.below s9 HA.out.lt
        clear HA
        have HA := HA'
        clear HA'
        have HOz0' : Hid (z0.Own w21 w3.heap.size) := HOz0.out.below s9
        clear HOz0
        have HOz0 := HOz0'
        clear HOz0'
        have HW' : Hid (Blk w21 gw 27 #[.int .i64 z0.pc, .slice z0.sA z0.st.length z0.sc, .slice z0.cA z0.ca.length z0.cc]) := HW.out.below s9 HW.out.lt
        clear HW
        have HW := HW'
        clear HW'
        have HX' : Hid (Blk w21 gx 27 #[.int .i64 x.pc, .slice x.sA x.st.length x.sc, .slice x.cA x.ca.length x.cc]) := HX.out.below s9 HX.out.lt
        clear HX
        have HX := HX'
        clear HX'
        have HGB' : Hid (Blk w21 gg 27 #[.int .i64 z1.pc, .slice z1.sA z1.st.length z1.sc, .slice z1.cA z1.ca.length z1.cc]) := HGB.out.below s9 HGB.out.lt
        clear HGB
        have HGB := HGB'
        clear HGB'
        have HOz1' : Hid ((z1.marked 1).Own w21 w8.heap.size) := HOz1.out.below s9
        clear HOz1
        have HOz1 := HOz1'
        clear HOz1'
        have HOt' : Hid (t.Own w21 w19.heap.size) := HOt.out.below s9
        clear HOt
        have HOt := HOt'
        clear HOt'
        have z_w21 : w20.heap.size ≤ w21.heap.size := s9.size
        have HBB3 := Lib.hid ho
        have UBB3 := Lib.hid (own_up ho)
        clear ho s9
        go_wp2_with fail
        have HC : Hid (Calls Try.prog 9 #[.agg #[.int .i64 t.pc, .slice t.sA t.st.length t.sc, .slice t.cA t.ca.length t.cc], .slice B3 bs.length B3c, .int .i64 steps] w21 (Ran (runM bs m.v steps) w21)) := by
          have h := implRun_any (A := B3) (c := B3c) t bs steps w21 HOt.out.at_ (Nat.le_refl _) HSt.out (Reads.of_own HBB3.out) (Nat.le_refl _) hbl HBX.out
          rw [HVt.out] at h
          exact h
        refine HC.out.mono ?_
        rintro e w22 ⟨z2, rfl, hv, ho, s9⟩
        clear HC
        have HG' : Hid (Below W.heap.size W w22) := HG.out.trans (s9.mono HG.out.size)
        clear HG
        have HG := HG'
        clear HG'
        have HA' : Hid (Blk w22 W.heap.size 24 #[.int .i64 m.pc, .slice m.sA m.st.length m.sc, .slice m.cA m.ca.length m.cc]) := HA.out.below s9 HA.out.lt
        clear HA
        have HA := HA'
        clear HA'
        have HOz0' : Hid (z0.Own w22 w3.heap.size) := HOz0.out.below s9
        clear HOz0
        have HOz0 := HOz0'
        clear HOz0'
        have HW' : Hid (Blk w22 gw 27 #[.int .i64 z0.pc, .slice z0.sA z0.st.length z0.sc, .slice z0.cA z0.ca.length z0.cc]) := HW.out.below s9 HW.out.lt
        clear HW
        have HW := HW'
        clear HW'
        have HX' : Hid (Blk w22 gx 27 #[.int .i64 x.pc, .slice x.sA x.st.length x.sc, .slice x.cA x.ca.length x.cc]) := HX.out.below s9 HX.out.lt
        clear HX
        have HX := HX'
        clear HX'
        have HGB' : Hid (Blk w22 gg 27 #[.int .i64 z1.pc, .slice z1.sA z1.st.length z1.sc, .slice z1.cA z1.ca.length z1.cc]) := HGB.out.below s9 HGB.out.lt
        clear HGB
        have HGB := HGB'
        clear HGB'
        have HOz1' : Hid ((z1.marked 1).Own w22 w8.heap.size) := HOz1.out.below s9
        clear HOz1
        have HOz1 := HOz1'
        clear HOz1'
        have HOt' : Hid (t.Own w22 w19.heap.size) := HOt.out.below s9
        clear HOt
        have HOt := HOt'
        clear HOt'
        have HBB3' : Hid (w22.ownsRow w20.heap.size 5 1 (.slice B3 bs.length B3c) bs.length (nums .u8 bs)) := own_below HBB3.out s9
        clear HBB3
        have HBB3 := HBB3'
        clear HBB3'
        have z_w22 : w21.heap.size ≤ w22.heap.size := s9.size
        have HVz2 := Lib.hid hv
        have HOz2 := Lib.hid ho
        have Uz2 := Lib.hid ho.up
        clear hv ho s9
        have HSz2 : Hid (z2.small) := HRS.out z2 HVz2.out
        simp only [Mc.val]
        go_upto_region 31 with fail
        obtain ⟨gh, hgh⟩ : ∃ gh, gh = w22.heap.size := ⟨_, rfl⟩
        obtain ⟨w23, hw23⟩ : ∃ w23, w23 = (w22.alloc (.cells #[.int .i64 z2.pc, .slice z2.sA z2.st.length z2.sc, .slice z2.cA z2.ca.length z2.cc] 27)) := ⟨_, rfl⟩
        have s9 : Below w22.heap.size w22 w23 := by rw [hw23]; exact (Below.refl w22.heap.size w22).alloc (Nat.le_refl _) (.cells #[.int .i64 z2.pc, .slice z2.sA z2.st.length z2.sc, .slice z2.cA z2.ca.length z2.cc] 27)
        have HH : Hid (Blk w23 gh 27 #[.int .i64 z2.pc, .slice z2.sA z2.st.length z2.sc, .slice z2.cA z2.ca.length z2.cc]) := by
          have h := Blk.new w22 27 #[.int .i64 z2.pc, .slice z2.sA z2.st.length z2.sc, .slice z2.cA z2.ca.length z2.cc]
          rw [hw23, hgh]
          simpa [Hid] using h
        have zg_gh : w22.heap.size ≤ gh := by omega
        have zn_w23 : w22.heap.size < w23.heap.size := by rw [hw23]; simp
        rw [← hw23, ← hgh]
        clear hw23 hgh
        have HG' : Hid (Below W.heap.size W w23) := HG.out.trans (s9.mono HG.out.size)
        clear HG
        have HG := HG'
        clear HG'
        have HA' : Hid (Blk w23 W.heap.size 24 #[.int .i64 m.pc, .slice m.sA m.st.length m.sc, .slice m.cA m.ca.length m.cc]) := HA.out.below s9 HA.out.lt
        clear HA
        have HA := HA'
        clear HA'
        have HOz0' : Hid (z0.Own w23 w3.heap.size) := HOz0.out.below s9
        clear HOz0
        have HOz0 := HOz0'
        clear HOz0'
        have HW' : Hid (Blk w23 gw 27 #[.int .i64 z0.pc, .slice z0.sA z0.st.length z0.sc, .slice z0.cA z0.ca.length z0.cc]) := HW.out.below s9 HW.out.lt
        clear HW
        have HW := HW'
        clear HW'
        have HX' : Hid (Blk w23 gx 27 #[.int .i64 x.pc, .slice x.sA x.st.length x.sc, .slice x.cA x.ca.length x.cc]) := HX.out.below s9 HX.out.lt
        clear HX
        have HX := HX'
        clear HX'
        have HGB' : Hid (Blk w23 gg 27 #[.int .i64 z1.pc, .slice z1.sA z1.st.length z1.sc, .slice z1.cA z1.ca.length z1.cc]) := HGB.out.below s9 HGB.out.lt
        clear HGB
        have HGB := HGB'
        clear HGB'
        have HOz1' : Hid ((z1.marked 1).Own w23 w8.heap.size) := HOz1.out.below s9
        clear HOz1
        have HOz1 := HOz1'
        clear HOz1'
        have HOt' : Hid (t.Own w23 w19.heap.size) := HOt.out.below s9
        clear HOt
        have HOt := HOt'
        clear HOt'
        have HBB3' : Hid (w23.ownsRow w20.heap.size 5 1 (.slice B3 bs.length B3c) bs.length (nums .u8 bs)) := own_below HBB3.out s9
        clear HBB3
        have HBB3 := HBB3'
        clear HBB3'
        have HOz2' : Hid (z2.Own w23 w21.heap.size) := HOz2.out.below s9
        clear HOz2
        have HOz2 := HOz2'
        clear HOz2'
        have z_w23 : w22.heap.size ≤ w23.heap.size := s9.size
        clear s9
        have zl_gh := HH.out.lt
        have HEQ2 : Hid (z2.v = z0.v) := HVz2.out.trans HVz0.out.symm
        have ea0 : w23.cell? ⟨gh, 0, none⟩ = some (.int .i64 z2.pc) := HH.out.cell 0
        have ea1 : w23.cell? ⟨gh, 1, none⟩ = some (.slice z2.sA z2.st.length z2.sc) := HH.out.cell 1
        have ea2 : w23.cell? ⟨gh, 2, none⟩ = some (.slice z2.cA z2.ca.length z2.cc) := HH.out.cell 2
        have eaz : gh < w23.heap.size := HH.out.lt
        have eb0 : w23.cell? ⟨gw, 0, none⟩ = some (.int .i64 z0.pc) := HW.out.cell 0
        have eb1 : w23.cell? ⟨gw, 1, none⟩ = some (.slice z0.sA z0.st.length z0.sc) := HW.out.cell 1
        have eb2 : w23.cell? ⟨gw, 2, none⟩ = some (.slice z0.cA z0.ca.length z0.cc) := HW.out.cell 2
        have ebz : gw < w23.heap.size := HW.out.lt
        go_wp2_with fail
        clear ea0 ea1 ea2 eaz
        clear eb0 eb1 eb2 ebz
        refine (eqMc_any z2 z0 w23 HEQ2.out HOz2.out.at_ HOz0.out.at_ HSz2.out).mono ?_
        rintro e w24 ⟨rfl, s9⟩
        have HG' : Hid (Below W.heap.size W w24) := HG.out.trans (s9.mono HG.out.size)
        clear HG
        have HG := HG'
        clear HG'
        have HA' : Hid (Blk w24 W.heap.size 24 #[.int .i64 m.pc, .slice m.sA m.st.length m.sc, .slice m.cA m.ca.length m.cc]) := HA.out.below s9 HA.out.lt
        clear HA
        have HA := HA'
        clear HA'
        have HOz0' : Hid (z0.Own w24 w3.heap.size) := HOz0.out.below s9
        clear HOz0
        have HOz0 := HOz0'
        clear HOz0'
        have HW' : Hid (Blk w24 gw 27 #[.int .i64 z0.pc, .slice z0.sA z0.st.length z0.sc, .slice z0.cA z0.ca.length z0.cc]) := HW.out.below s9 HW.out.lt
        clear HW
        have HW := HW'
        clear HW'
        have HX' : Hid (Blk w24 gx 27 #[.int .i64 x.pc, .slice x.sA x.st.length x.sc, .slice x.cA x.ca.length x.cc]) := HX.out.below s9 HX.out.lt
        clear HX
        have HX := HX'
        clear HX'
        have HGB' : Hid (Blk w24 gg 27 #[.int .i64 z1.pc, .slice z1.sA z1.st.length z1.sc, .slice z1.cA z1.ca.length z1.cc]) := HGB.out.below s9 HGB.out.lt
        clear HGB
        have HGB := HGB'
        clear HGB'
        have HOz1' : Hid ((z1.marked 1).Own w24 w8.heap.size) := HOz1.out.below s9
        clear HOz1
        have HOz1 := HOz1'
        clear HOz1'
        have HOt' : Hid (t.Own w24 w19.heap.size) := HOt.out.below s9
        clear HOt
        have HOt := HOt'
        clear HOt'
        have HBB3' : Hid (w24.ownsRow w20.heap.size 5 1 (.slice B3 bs.length B3c) bs.length (nums .u8 bs)) := own_below HBB3.out s9
        clear HBB3
        have HBB3 := HBB3'
        clear HBB3'
        have HOz2' : Hid (z2.Own w24 w21.heap.size) := HOz2.out.below s9
        clear HOz2
        have HOz2 := HOz2'
        clear HOz2'
        have HH' : Hid (Blk w24 gh 27 #[.int .i64 z2.pc, .slice z2.sA z2.st.length z2.sc, .slice z2.cA z2.ca.length z2.cc]) := HH.out.below s9 HH.out.lt
        clear HH
        have HH := HH'
        clear HH'
        have z_w24 : w23.heap.size ≤ w24.heap.size := s9.size
        clear s9
        have ea0 : w24.cell? ⟨gg, 0, none⟩ = some (.int .i64 z1.pc) := HGB.out.cell 0
        have ea1 : w24.cell? ⟨gg, 1, none⟩ = some (.slice z1.sA z1.st.length z1.sc) := HGB.out.cell 1
        have ea2 : w24.cell? ⟨gg, 2, none⟩ = some (.slice z1.cA z1.ca.length z1.cc) := HGB.out.cell 2
        have eaz : gg < w24.heap.size := HGB.out.lt
        go_wp2_with fail
        clear ea0 ea1 ea2 eaz
        refine (heldMc_any z1 w24 HOz1.out.at_ HSz1.out).mono ?_
        rintro e w25 ⟨rfl, s9⟩
        have HG' : Hid (Below W.heap.size W w25) := HG.out.trans (s9.mono HG.out.size)
        clear HG
        have HG := HG'
        clear HG'
        have HA' : Hid (Blk w25 W.heap.size 24 #[.int .i64 m.pc, .slice m.sA m.st.length m.sc, .slice m.cA m.ca.length m.cc]) := HA.out.below s9 HA.out.lt
        clear HA
        have HA := HA'
        clear HA'
        have HOz0' : Hid (z0.Own w25 w3.heap.size) := HOz0.out.below s9
        clear HOz0
        have HOz0 := HOz0'
        clear HOz0'
        have HW' : Hid (Blk w25 gw 27 #[.int .i64 z0.pc, .slice z0.sA z0.st.length z0.sc, .slice z0.cA z0.ca.length z0.cc]) := HW.out.below s9 HW.out.lt
        clear HW
        have HW := HW'
        clear HW'
        have HX' : Hid (Blk w25 gx 27 #[.int .i64 x.pc, .slice x.sA x.st.length x.sc, .slice x.cA x.ca.length x.cc]) := HX.out.below s9 HX.out.lt
        clear HX
        have HX := HX'
        clear HX'
        have HGB' : Hid (Blk w25 gg 27 #[.int .i64 z1.pc, .slice z1.sA z1.st.length z1.sc, .slice z1.cA z1.ca.length z1.cc]) := HGB.out.below s9 HGB.out.lt
        clear HGB
        have HGB := HGB'
        clear HGB'
        have HOz1' : Hid ((z1.marked 1).Own w25 w8.heap.size) := HOz1.out.below s9
        clear HOz1
        have HOz1 := HOz1'
        clear HOz1'
        have HOt' : Hid (t.Own w25 w19.heap.size) := HOt.out.below s9
        clear HOt
        have HOt := HOt'
        clear HOt'
        have HBB3' : Hid (w25.ownsRow w20.heap.size 5 1 (.slice B3 bs.length B3c) bs.length (nums .u8 bs)) := own_below HBB3.out s9
        clear HBB3
        have HBB3 := HBB3'
        clear HBB3'
        have HOz2' : Hid (z2.Own w25 w21.heap.size) := HOz2.out.below s9
        clear HOz2
        have HOz2 := HOz2'
        clear HOz2'
        have HH' : Hid (Blk w25 gh 27 #[.int .i64 z2.pc, .slice z2.sA z2.st.length z2.sc, .slice z2.cA z2.ca.length z2.cc]) := HH.out.below s9 HH.out.lt
        clear HH
        have HH := HH'
        clear HH'
        have z_w25 : w24.heap.size ≤ w25.heap.size := s9.size
        clear s9
        go_wp2
        go_ret
        exact ⟨rfl, HG.out⟩
    · have HR := Lib.hid (szRes_neg (left := 1048576) (total := m.tot) (by omega))
      clear hz
      go_enter Try.func3, Try.ntmps3
      go_upto_region 1 with fail
      rw [← hwA]
      clear hwA
      have ea0 : wA.cell? ⟨W.heap.size, 0, none⟩ = some (.int .i64 m.pc) := HA.out.cell 0
      have ea1 : wA.cell? ⟨W.heap.size, 1, none⟩ = some (.slice m.sA m.st.length m.sc) := HA.out.cell 1
      have ea2 : wA.cell? ⟨W.heap.size, 2, none⟩ = some (.slice m.cA m.ca.length m.cc) := HA.out.cell 2
      go_wp2_with fail
      clear ea0 ea1 ea2
      refine (szMc_any m 1048576 wA HM1.out HM2.out (by omega) (by omega)).mono ?_
      rintro e w1 ⟨rfl, s9⟩
      rw [HR.out]
      have HG' : Hid (Below W.heap.size W w1) := HG.out.trans (s9.mono HG.out.size)
      have HA' : Hid (Blk w1 W.heap.size 24 #[.int .i64 m.pc, .slice m.sA m.st.length m.sc, .slice m.cA m.ca.length m.cc]) := HA.out.below s9 HA.out.lt
      clear HG HA s9 HR
      have HG := HG'
      have HA := HA'
      clear HG' HA'
      go_wp2
      go_ret
      exact ⟨rfl, HG.out⟩
  · have hbl' : ¬ (bs.length : Int) ≤ 1048576 := by omega
    have hbl'' : (1048576 : Int) < (bs.length : Int) := by omega
    go_enter Try.func3, Try.ntmps3
    go_upto_region 1 with fail
    rw [← hwA]
    clear hwA
    go_wp2
    go_ret
    exact ⟨rfl, HG.out⟩
end Go.Proofs.Ytbljkdhokbhcdaa
