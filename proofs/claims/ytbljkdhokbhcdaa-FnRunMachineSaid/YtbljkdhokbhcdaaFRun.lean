/- The walk of FnRunMachine, from what the drawing hands back. Condition: the draw's contract. -/
import Derived.Test.YtbljkdhokbhcdaaRows
import Derived.Test.YtbljkdhokbhcdaaBase
import Derived.Test.YtbljkdhokbhcdaaBase2
import Derived.Test.YtbljkdhokbhcdaaBase3
import Derived.Test.YtbljkdhokbhcdaaOnly
import Derived.Test.YtbljkdhokbhcdaaIn
import Derived.Test.YtbljkdhokbhcdaaIn2
import Derived.Test.YtbljkdhokbhcdaaGet2IS
import Derived.Test.YtbljkdhokbhcdaaIntS
import Derived.Test.YtbljkdhokbhcdaaReg
import Derived.Test.YtbljkdhokbhcdaaRegS
import Derived.Test.YtbljkdhokbhcdaaPick2
import Derived.Test.YtbljkdhokbhcdaaKT
import Derived.Test.YtbljkdhokbhcdaaMc
import Derived.Test.YtbljkdhokbhcdaaMcy
import Derived.Test.YtbljkdhokbhcdaaCd
import Derived.Test.YtbljkdhokbhcdaaXm
import Derived.Test.YtbljkdhokbhcdaaDo
import Derived.Test.YtbljkdhokbhcdaaMStI
import Derived.Test.YtbljkdhokbhcdaaMStS
import Derived.Test.YtbljkdhokbhcdaaRun
import Derived.Test.YtbljkdhokbhcdaaSameI
import Derived.Test.YtbljkdhokbhcdaaRunP
import Derived.Test.YtbljkdhokbhcdaaAlive
import Derived.WalkKit
import Derived.WalkSpells
import Derived.WalkLawsBesides
import Derived.Handy
import Derived.BigQuiet
import Derived.Deep.RegionHeld3
import Derived.Deep.DrawnRows
import Derived.Deep.QuietTactic
namespace Go.Proofs.Ytbljkdhokbhcdaa
open Go Go.RowKit

/-- A machine, bytes and steps were drawn. -/
def DrewRun (w : World) (e : Ending) (w' : World) : Prop := ∃ (m : Mc) (A : Option Addr) (c : Nat) (bs : List Int) (steps : Int), e = .returned (.tuple #[m.val, .slice A bs.length c, .int .i64 steps]) ∧ m.At w' w'.heap.size ∧ m.small ∧ Reads w' w'.heap.size 1 A bs.length (nums .u8 bs) ∧ bs.length ≤ 1048576 ∧ (∀ x ∈ bs, 0 ≤ x ∧ x ≤ 255) ∧ (-1 ≤ steps ∧ steps ≤ 101) ∧ Below w.heap.size w w'
theorem small_run {bs : List Int} (hx : ∀ x ∈ bs, 0 ≤ x ∧ x ≤ 255) {v : McV} {steps : Int} {z : Mc} (h : z.v = (runM bs v steps).1) : z.small := by
  have hz : vOk (runM bs v steps).1 = true := by
    by_cases hq : vOk v = true ∧ 0 ≤ steps ∧ steps ≤ 100
    · obtain ⟨n, rfl⟩ := Int.eq_ofNat_of_zero_le hq.2.1
      rw [runM_in hq.1 (by omega)]
      exact runV_ok hx _ _ hq.1
    · rw [runM_out hq]; decide
  rw [← h] at hz
  exact Mc.small_ok hz
set_option maxRecDepth 100000 in
set_option maxHeartbeats 8000000 in
theorem FnRunMachine_core {A : Option Addr} {c : Nat} (cs : List Int) (W : World) (hl : cs.length ≤ 1048576) (hD : Calls Try.prog 15 #[.slice A cs.length c] W (DrewRun W)) : Calls Try.prog 4 #[.slice A cs.length c] W (Gives W (.bool true)) := by
  have HD := Lib.hid hD
  clear hD
  have hl2 : ¬ (1048576 : Int) < (cs.length : Int) := by omega
  go_enter Try.func4, Try.ntmps4
  go_wp2_with fail
  refine HD.out.mono ?_
  rintro e w1 ⟨m, B, c2, bs, steps, rfl, hm, hms, hrb, hbm, hbx, hst, hb⟩
  have HSm := Lib.hid hms
  have HBX := Lib.hid hbx
  have HAm0 := Lib.hid hm
  have HRB0 := Lib.hid hrb
  have HG0 := Lib.hid hb
  clear HD hms hbx hm hrb hb
  simp only [Mc.val]
  go_upto_region 4 with fail
  obtain ⟨g3, hg3⟩ : ∃ g3, g3 = w1.heap.size := ⟨_, rfl⟩
  obtain ⟨wA, hwA⟩ : ∃ wA, wA = w1.alloc (.cells #[.int .i64 m.pc, .slice m.sA m.st.length m.sc, .slice m.cA m.ca.length m.cc] 27) := ⟨_, rfl⟩
  have s9 : Below w1.heap.size w1 wA := by rw [hwA]; exact (Below.refl _ _).alloc (Nat.le_refl _) _
  have HM : Hid (Blk wA g3 27 #[.int .i64 m.pc, .slice m.sA m.st.length m.sc, .slice m.cA m.ca.length m.cc]) := by rw [hwA, hg3]; exact Blk.new _ _ _
  rw [← hwA, ← hg3]
  clear hwA hg3
  have HG : Hid (Below W.heap.size W wA) := HG0.out.trans (s9.mono HG0.out.size)
  have HRB : Hid (Reads wA wA.heap.size 1 B bs.length (nums .u8 bs)) := (HRB0.out.below s9).more s9.size
  have HAm : Hid (Mc.At m wA wA.heap.size) := (HAm0.out.below s9).more s9.size
  clear s9 HG0 HRB0 HAm0
  have ea0 : wA.cell? ⟨g3, 0, none⟩ = some (.int .i64 m.pc) := HM.out.cell 0
  have ea1 : wA.cell? ⟨g3, 1, none⟩ = some (.slice m.sA m.st.length m.sc) := HM.out.cell 1
  have ea2 : wA.cell? ⟨g3, 2, none⟩ = some (.slice m.cA m.ca.length m.cc) := HM.out.cell 2
  have eaz : g3 < wA.heap.size := HM.out.lt
  go_wp2_with fail
  clear ea0 ea1 ea2 eaz
  have HC : Hid (Calls Try.prog 9 #[.agg #[.int .i64 m.pc, .slice m.sA m.st.length m.sc, .slice m.cA m.ca.length m.cc], .slice B bs.length c2, .int .i64 (steps)] wA (Ran (runM bs m.v (steps)) wA)) := implRun_any (A := B) (c := c2) m bs (steps) wA HAm.out (Nat.le_refl _) HSm.out HRB.out (Nat.le_refl _) hbm HBX.out
  refine HC.out.mono ?_
  rintro e w11 ⟨x, rfl, hv, ho, s9⟩
  clear HC
  have HVx := Lib.hid hv
  have HAx : Hid (Mc.At x w11 w11.heap.size) := ho.at_
  have HSx : Hid (x.small) := small_run HBX.out hv
  clear hv ho
  have HG' : Hid (Below W.heap.size W w11) := HG.out.trans (s9.mono HG.out.size)
  clear HG
  have HG := HG'
  clear HG'
  have HRB' : Hid (Reads w11 w11.heap.size 1 B bs.length (nums .u8 bs)) := (HRB.out.below s9).more s9.size
  clear HRB
  have HRB := HRB'
  clear HRB'
  have HAm' : Hid (Mc.At m w11 w11.heap.size) := (HAm.out.below s9).more s9.size
  clear HAm
  have HAm := HAm'
  clear HAm'
  have HM' : Hid (Blk w11 g3 27 #[.int .i64 m.pc, .slice m.sA m.st.length m.sc, .slice m.cA m.ca.length m.cc]) := HM.out.below s9 HM.out.lt
  clear HM
  have HM := HM'
  clear HM'
  clear s9
  simp only [Mc.val]
  go_upto_region 5 with fail
  obtain ⟨g6, hg6⟩ : ∃ g6, g6 = w11.heap.size := ⟨_, rfl⟩
  obtain ⟨w12, hw12⟩ : ∃ w12, w12 = (w11.alloc (.cells #[.int .i64 x.pc, .slice x.sA x.st.length x.sc, .slice x.cA x.ca.length x.cc] 27)) := ⟨_, rfl⟩
  have s9 : Below w11.heap.size w11 w12 := by rw [hw12]; exact (Below.refl w11.heap.size w11).alloc (Nat.le_refl _) (.cells #[.int .i64 x.pc, .slice x.sA x.st.length x.sc, .slice x.cA x.ca.length x.cc] 27)
  have HX : Hid (Blk w12 g6 27 #[.int .i64 x.pc, .slice x.sA x.st.length x.sc, .slice x.cA x.ca.length x.cc]) := by
    have h := Blk.new w11 27 #[.int .i64 x.pc, .slice x.sA x.st.length x.sc, .slice x.cA x.ca.length x.cc]
    rw [hw12, hg6]
    simpa [Hid] using h
  rw [← hw12, ← hg6]
  clear hw12 hg6
  have HG' : Hid (Below W.heap.size W w12) := HG.out.trans (s9.mono HG.out.size)
  clear HG
  have HG := HG'
  clear HG'
  have HRB' : Hid (Reads w12 w12.heap.size 1 B bs.length (nums .u8 bs)) := (HRB.out.below s9).more s9.size
  clear HRB
  have HRB := HRB'
  clear HRB'
  have HAm' : Hid (Mc.At m w12 w12.heap.size) := (HAm.out.below s9).more s9.size
  clear HAm
  have HAm := HAm'
  clear HAm'
  have HM' : Hid (Blk w12 g3 27 #[.int .i64 m.pc, .slice m.sA m.st.length m.sc, .slice m.cA m.ca.length m.cc]) := HM.out.below s9 HM.out.lt
  clear HM
  have HM := HM'
  clear HM'
  have HAx' : Hid (Mc.At x w12 w12.heap.size) := (HAx.out.below s9).more s9.size
  clear HAx
  have HAx := HAx'
  clear HAx'
  clear s9
  have ea0 : w12.cell? ⟨g3, 0, none⟩ = some (.int .i64 m.pc) := HM.out.cell 0
  have ea1 : w12.cell? ⟨g3, 1, none⟩ = some (.slice m.sA m.st.length m.sc) := HM.out.cell 1
  have ea2 : w12.cell? ⟨g3, 2, none⟩ = some (.slice m.cA m.ca.length m.cc) := HM.out.cell 2
  have eaz : g3 < w12.heap.size := HM.out.lt
  go_wp2_with fail
  clear ea0 ea1 ea2 eaz
  have HC : Hid (Calls Try.prog 6 #[.agg #[.int .i64 m.pc, .slice m.sA m.st.length m.sc, .slice m.cA m.ca.length m.cc], .slice B bs.length c2, .int .i64 (steps)] w12 (Ran (runM bs m.v (steps)) w12)) := specRun_any (A := B) (c := c2) m bs (steps) w12 HAm.out (Nat.le_refl _) HSm.out HRB.out (Nat.le_refl _) hbm HBX.out
  refine HC.out.mono ?_
  rintro e w13 ⟨y, rfl, hv, ho, s9⟩
  clear HC
  have HVy := Lib.hid hv
  have HAy : Hid (Mc.At y w13 w13.heap.size) := ho.at_
  have HSy : Hid (y.small) := small_run HBX.out hv
  clear hv ho
  have HG' : Hid (Below W.heap.size W w13) := HG.out.trans (s9.mono HG.out.size)
  clear HG
  have HG := HG'
  clear HG'
  have HRB' : Hid (Reads w13 w13.heap.size 1 B bs.length (nums .u8 bs)) := (HRB.out.below s9).more s9.size
  clear HRB
  have HRB := HRB'
  clear HRB'
  have HAm' : Hid (Mc.At m w13 w13.heap.size) := (HAm.out.below s9).more s9.size
  clear HAm
  have HAm := HAm'
  clear HAm'
  have HM' : Hid (Blk w13 g3 27 #[.int .i64 m.pc, .slice m.sA m.st.length m.sc, .slice m.cA m.ca.length m.cc]) := HM.out.below s9 HM.out.lt
  clear HM
  have HM := HM'
  clear HM'
  have HAx' : Hid (Mc.At x w13 w13.heap.size) := (HAx.out.below s9).more s9.size
  clear HAx
  have HAx := HAx'
  clear HAx'
  have HX' : Hid (Blk w13 g6 27 #[.int .i64 x.pc, .slice x.sA x.st.length x.sc, .slice x.cA x.ca.length x.cc]) := HX.out.below s9 HX.out.lt
  clear HX
  have HX := HX'
  clear HX'
  clear s9
  simp only [Mc.val]
  go_upto_region 6 with fail
  obtain ⟨g8, hg8⟩ : ∃ g8, g8 = w13.heap.size := ⟨_, rfl⟩
  obtain ⟨w14, hw14⟩ : ∃ w14, w14 = (w13.alloc (.cells #[.int .i64 y.pc, .slice y.sA y.st.length y.sc, .slice y.cA y.ca.length y.cc] 27)) := ⟨_, rfl⟩
  have s9 : Below w13.heap.size w13 w14 := by rw [hw14]; exact (Below.refl w13.heap.size w13).alloc (Nat.le_refl _) (.cells #[.int .i64 y.pc, .slice y.sA y.st.length y.sc, .slice y.cA y.ca.length y.cc] 27)
  have HY : Hid (Blk w14 g8 27 #[.int .i64 y.pc, .slice y.sA y.st.length y.sc, .slice y.cA y.ca.length y.cc]) := by
    have h := Blk.new w13 27 #[.int .i64 y.pc, .slice y.sA y.st.length y.sc, .slice y.cA y.ca.length y.cc]
    rw [hw14, hg8]
    simpa [Hid] using h
  rw [← hw14, ← hg8]
  clear hw14 hg8
  have HG' : Hid (Below W.heap.size W w14) := HG.out.trans (s9.mono HG.out.size)
  clear HG
  have HG := HG'
  clear HG'
  have HRB' : Hid (Reads w14 w14.heap.size 1 B bs.length (nums .u8 bs)) := (HRB.out.below s9).more s9.size
  clear HRB
  have HRB := HRB'
  clear HRB'
  have HAm' : Hid (Mc.At m w14 w14.heap.size) := (HAm.out.below s9).more s9.size
  clear HAm
  have HAm := HAm'
  clear HAm'
  have HM' : Hid (Blk w14 g3 27 #[.int .i64 m.pc, .slice m.sA m.st.length m.sc, .slice m.cA m.ca.length m.cc]) := HM.out.below s9 HM.out.lt
  clear HM
  have HM := HM'
  clear HM'
  have HAx' : Hid (Mc.At x w14 w14.heap.size) := (HAx.out.below s9).more s9.size
  clear HAx
  have HAx := HAx'
  clear HAx'
  have HX' : Hid (Blk w14 g6 27 #[.int .i64 x.pc, .slice x.sA x.st.length x.sc, .slice x.cA x.ca.length x.cc]) := HX.out.below s9 HX.out.lt
  clear HX
  have HX := HX'
  clear HX'
  have HAy' : Hid (Mc.At y w14 w14.heap.size) := (HAy.out.below s9).more s9.size
  clear HAy
  have HAy := HAy'
  clear HAy'
  clear s9
  have HEQ : Hid (x.v = y.v) := HVx.out.trans HVy.out.symm
  have ea0 : w14.cell? ⟨g6, 0, none⟩ = some (.int .i64 x.pc) := HX.out.cell 0
  have ea1 : w14.cell? ⟨g6, 1, none⟩ = some (.slice x.sA x.st.length x.sc) := HX.out.cell 1
  have ea2 : w14.cell? ⟨g6, 2, none⟩ = some (.slice x.cA x.ca.length x.cc) := HX.out.cell 2
  have eaz : g6 < w14.heap.size := HX.out.lt
  have eb0 : w14.cell? ⟨g8, 0, none⟩ = some (.int .i64 y.pc) := HY.out.cell 0
  have eb1 : w14.cell? ⟨g8, 1, none⟩ = some (.slice y.sA y.st.length y.sc) := HY.out.cell 1
  have eb2 : w14.cell? ⟨g8, 2, none⟩ = some (.slice y.cA y.ca.length y.cc) := HY.out.cell 2
  have ebz : g8 < w14.heap.size := HY.out.lt
  go_wp2_with fail
  clear ea0 ea1 ea2 eaz
  clear eb0 eb1 eb2 ebz
  refine (sameMc_any x y w14 HEQ.out HAx.out HAy.out HSx.out).mono ?_
  rintro e w15 ⟨rfl, s9⟩
  have HG' : Hid (Below W.heap.size W w15) := HG.out.trans (s9.mono HG.out.size)
  clear HG
  have HG := HG'
  clear HG'
  have HRB' : Hid (Reads w15 w15.heap.size 1 B bs.length (nums .u8 bs)) := (HRB.out.below s9).more s9.size
  clear HRB
  have HRB := HRB'
  clear HRB'
  have HAm' : Hid (Mc.At m w15 w15.heap.size) := (HAm.out.below s9).more s9.size
  clear HAm
  have HAm := HAm'
  clear HAm'
  have HM' : Hid (Blk w15 g3 27 #[.int .i64 m.pc, .slice m.sA m.st.length m.sc, .slice m.cA m.ca.length m.cc]) := HM.out.below s9 HM.out.lt
  clear HM
  have HM := HM'
  clear HM'
  have HAx' : Hid (Mc.At x w15 w15.heap.size) := (HAx.out.below s9).more s9.size
  clear HAx
  have HAx := HAx'
  clear HAx'
  have HX' : Hid (Blk w15 g6 27 #[.int .i64 x.pc, .slice x.sA x.st.length x.sc, .slice x.cA x.ca.length x.cc]) := HX.out.below s9 HX.out.lt
  clear HX
  have HX := HX'
  clear HX'
  have HAy' : Hid (Mc.At y w15 w15.heap.size) := (HAy.out.below s9).more s9.size
  clear HAy
  have HAy := HAy'
  clear HAy'
  have HY' : Hid (Blk w15 g8 27 #[.int .i64 y.pc, .slice y.sA y.st.length y.sc, .slice y.cA y.ca.length y.cc]) := HY.out.below s9 HY.out.lt
  clear HY
  have HY := HY'
  clear HY'
  clear s9
  have ea0 : w15.cell? ⟨g3, 0, none⟩ = some (.int .i64 m.pc) := HM.out.cell 0
  have ea1 : w15.cell? ⟨g3, 1, none⟩ = some (.slice m.sA m.st.length m.sc) := HM.out.cell 1
  have ea2 : w15.cell? ⟨g3, 2, none⟩ = some (.slice m.cA m.ca.length m.cc) := HM.out.cell 2
  have eaz : g3 < w15.heap.size := HM.out.lt
  go_wp2_with fail
  clear ea0 ea1 ea2 eaz
  have HC : Hid (Calls Try.prog 17 #[.agg #[.int .i64 m.pc, .slice m.sA m.st.length m.sc, .slice m.cA m.ca.length m.cc]] w15 (Gives w15 (.bool (mOk m.pc m.st m.ca)))) := implMOk_any m w15 HAm.out (Nat.le_refl _) HSm.out
  refine HC.out.mono ?_
  rintro e w16 ⟨rfl, s9⟩
  clear HC
  have HG' : Hid (Below W.heap.size W w16) := HG.out.trans (s9.mono HG.out.size)
  clear HG
  have HG := HG'
  clear HG'
  have HRB' : Hid (Reads w16 w16.heap.size 1 B bs.length (nums .u8 bs)) := (HRB.out.below s9).more s9.size
  clear HRB
  have HRB := HRB'
  clear HRB'
  have HAm' : Hid (Mc.At m w16 w16.heap.size) := (HAm.out.below s9).more s9.size
  clear HAm
  have HAm := HAm'
  clear HAm'
  have HM' : Hid (Blk w16 g3 27 #[.int .i64 m.pc, .slice m.sA m.st.length m.sc, .slice m.cA m.ca.length m.cc]) := HM.out.below s9 HM.out.lt
  clear HM
  have HM := HM'
  clear HM'
  have HAx' : Hid (Mc.At x w16 w16.heap.size) := (HAx.out.below s9).more s9.size
  clear HAx
  have HAx := HAx'
  clear HAx'
  have HX' : Hid (Blk w16 g6 27 #[.int .i64 x.pc, .slice x.sA x.st.length x.sc, .slice x.cA x.ca.length x.cc]) := HX.out.below s9 HX.out.lt
  clear HX
  have HX := HX'
  clear HX'
  have HAy' : Hid (Mc.At y w16 w16.heap.size) := (HAy.out.below s9).more s9.size
  clear HAy
  have HAy := HAy'
  clear HAy'
  have HY' : Hid (Blk w16 g8 27 #[.int .i64 y.pc, .slice y.sA y.st.length y.sc, .slice y.cA y.ca.length y.cc]) := HY.out.below s9 HY.out.lt
  clear HY
  have HY := HY'
  clear HY'
  clear s9
  by_cases hq : vOk m.v = true ∧ 0 ≤ steps ∧ steps ≤ 100
  · have HOKM : Hid (mOk m.pc m.st m.ca = true) := hq.1
    obtain ⟨n, rfl⟩ := Int.eq_ofNat_of_zero_le hq.2.1
    have hn : n ≤ 100 := by omega
    have hn1 : ¬ (n : Int) < 0 := by omega
    have hn2 : ¬ (100 : Int) < (n : Int) := by omega
    have hn3 : (n : Int) / 2 = ((n / 2 : Nat) : Int) := by omega
    have hn4 : (n : Int).tdiv 2 = (n : Int) / 2 := Int.tdiv_eq_ediv_of_nonneg (by omega)
    have hw1 : IntKind.i64.wrap ((n : Int) / 2) = (n : Int) / 2 := IntWalk.i64_in _ (by omega)
    have hw2 : IntKind.i64.wrap ((n : Int) - (n : Int) / 2) = (n : Int) - (n : Int) / 2 := IntWalk.i64_in _ (by omega)
    have HFI : Hid ((runM bs m.v ((n : Int) / 2)).2 ≠ 3 → runM bs m.v (n : Int) = runM bs m.v ((n : Int) / 2)) := fun h => by
      rw [hn3] at h ⊢
      exact run_first hq.1 hn (Nat.div_le_self _ _) h
    have HSE : Hid ((runM bs m.v ((n : Int) / 2)).2 = 3 → runM bs m.v (n : Int) = runM bs (runM bs m.v ((n : Int) / 2)).1 ((n : Int) - (n : Int) / 2)) := fun h => by
      rw [hn3] at h ⊢
      exact run_second HBX.out hq.1 hn (Nat.div_le_self _ _) h
    have HVX2 : Hid (mOk x.pc x.st x.ca = true) := by
      have h := runV_ok HBX.out n m.v hq.1
      rw [← runM_in hq.1 hn, ← HVx.out] at h
      exact h
    rw [HOKM.out]
    clear hq hst HOKM hn3
    have ea0 : w16.cell? ⟨g3, 0, none⟩ = some (.int .i64 m.pc) := HM.out.cell 0
    have ea1 : w16.cell? ⟨g3, 1, none⟩ = some (.slice m.sA m.st.length m.sc) := HM.out.cell 1
    have ea2 : w16.cell? ⟨g3, 2, none⟩ = some (.slice m.cA m.ca.length m.cc) := HM.out.cell 2
    have eaz : g3 < w16.heap.size := HM.out.lt
    go_wp2_with fail
    clear ea0 ea1 ea2 eaz
    have HC : Hid (Calls Try.prog 9 #[.agg #[.int .i64 m.pc, .slice m.sA m.st.length m.sc, .slice m.cA m.ca.length m.cc], .slice B bs.length c2, .int .i64 ((n : Int) / 2)] w16 (Ran (runM bs m.v ((n : Int) / 2)) w16)) := implRun_any (A := B) (c := c2) m bs ((n : Int) / 2) w16 HAm.out (Nat.le_refl _) HSm.out HRB.out (Nat.le_refl _) hbm HBX.out
    refine HC.out.mono ?_
    rintro e w17 ⟨a, rfl, hv, ho, s9⟩
    clear HC
    have HVa := Lib.hid hv
    have HAa : Hid (Mc.At a w17 w17.heap.size) := ho.at_
    have HSa : Hid (a.small) := small_run HBX.out hv
    clear hv ho
    have HG' : Hid (Below W.heap.size W w17) := HG.out.trans (s9.mono HG.out.size)
    clear HG
    have HG := HG'
    clear HG'
    have HRB' : Hid (Reads w17 w17.heap.size 1 B bs.length (nums .u8 bs)) := (HRB.out.below s9).more s9.size
    clear HRB
    have HRB := HRB'
    clear HRB'
    have HAm' : Hid (Mc.At m w17 w17.heap.size) := (HAm.out.below s9).more s9.size
    clear HAm
    have HAm := HAm'
    clear HAm'
    have HM' : Hid (Blk w17 g3 27 #[.int .i64 m.pc, .slice m.sA m.st.length m.sc, .slice m.cA m.ca.length m.cc]) := HM.out.below s9 HM.out.lt
    clear HM
    have HM := HM'
    clear HM'
    have HAx' : Hid (Mc.At x w17 w17.heap.size) := (HAx.out.below s9).more s9.size
    clear HAx
    have HAx := HAx'
    clear HAx'
    have HX' : Hid (Blk w17 g6 27 #[.int .i64 x.pc, .slice x.sA x.st.length x.sc, .slice x.cA x.ca.length x.cc]) := HX.out.below s9 HX.out.lt
    clear HX
    have HX := HX'
    clear HX'
    have HAy' : Hid (Mc.At y w17 w17.heap.size) := (HAy.out.below s9).more s9.size
    clear HAy
    have HAy := HAy'
    clear HAy'
    have HY' : Hid (Blk w17 g8 27 #[.int .i64 y.pc, .slice y.sA y.st.length y.sc, .slice y.cA y.ca.length y.cc]) := HY.out.below s9 HY.out.lt
    clear HY
    have HY := HY'
    clear HY'
    clear s9
    simp only [Mc.val]
    go_upto_region 11 with fail
    obtain ⟨g10, hg10⟩ : ∃ g10, g10 = w17.heap.size := ⟨_, rfl⟩
    obtain ⟨w18, hw18⟩ : ∃ w18, w18 = (w17.alloc (.cells #[.int .i64 a.pc, .slice a.sA a.st.length a.sc, .slice a.cA a.ca.length a.cc] 27)) := ⟨_, rfl⟩
    have s9 : Below w17.heap.size w17 w18 := by rw [hw18]; exact (Below.refl w17.heap.size w17).alloc (Nat.le_refl _) (.cells #[.int .i64 a.pc, .slice a.sA a.st.length a.sc, .slice a.cA a.ca.length a.cc] 27)
    have HAA : Hid (Blk w18 g10 27 #[.int .i64 a.pc, .slice a.sA a.st.length a.sc, .slice a.cA a.ca.length a.cc]) := by
      have h := Blk.new w17 27 #[.int .i64 a.pc, .slice a.sA a.st.length a.sc, .slice a.cA a.ca.length a.cc]
      rw [hw18, hg10]
      simpa [Hid] using h
    rw [← hw18, ← hg10]
    clear hw18 hg10
    have HG' : Hid (Below W.heap.size W w18) := HG.out.trans (s9.mono HG.out.size)
    clear HG
    have HG := HG'
    clear HG'
    have HRB' : Hid (Reads w18 w18.heap.size 1 B bs.length (nums .u8 bs)) := (HRB.out.below s9).more s9.size
    clear HRB
    have HRB := HRB'
    clear HRB'
    have HAm' : Hid (Mc.At m w18 w18.heap.size) := (HAm.out.below s9).more s9.size
    clear HAm
    have HAm := HAm'
    clear HAm'
    have HM' : Hid (Blk w18 g3 27 #[.int .i64 m.pc, .slice m.sA m.st.length m.sc, .slice m.cA m.ca.length m.cc]) := HM.out.below s9 HM.out.lt
    clear HM
    have HM := HM'
    clear HM'
    have HAx' : Hid (Mc.At x w18 w18.heap.size) := (HAx.out.below s9).more s9.size
    clear HAx
    have HAx := HAx'
    clear HAx'
    have HX' : Hid (Blk w18 g6 27 #[.int .i64 x.pc, .slice x.sA x.st.length x.sc, .slice x.cA x.ca.length x.cc]) := HX.out.below s9 HX.out.lt
    clear HX
    have HX := HX'
    clear HX'
    have HAy' : Hid (Mc.At y w18 w18.heap.size) := (HAy.out.below s9).more s9.size
    clear HAy
    have HAy := HAy'
    clear HAy'
    have HY' : Hid (Blk w18 g8 27 #[.int .i64 y.pc, .slice y.sA y.st.length y.sc, .slice y.cA y.ca.length y.cc]) := HY.out.below s9 HY.out.lt
    clear HY
    have HY := HY'
    clear HY'
    have HAa' : Hid (Mc.At a w18 w18.heap.size) := (HAa.out.below s9).more s9.size
    clear HAa
    have HAa := HAa'
    clear HAa'
    clear s9
    by_cases h3 : (runM bs m.v ((n : Int) / 2)).2 = 3
    · have HQ2 : Hid ((runM bs a.v ((n : Int) - (n : Int) / 2)).1 = (runM bs m.v (n : Int)).1) := by show _ = _; rw [HSE.out h3, HVa.out]
      have HQ3 : Hid ((runM bs a.v ((n : Int) - (n : Int) / 2)).2 = (runM bs m.v (n : Int)).2) := by show _ = _; rw [HSE.out h3, HVa.out]
      rw [h3]
      clear HFI HSE h3
      have ea0 : w18.cell? ⟨g10, 0, none⟩ = some (.int .i64 a.pc) := HAA.out.cell 0
      have ea1 : w18.cell? ⟨g10, 1, none⟩ = some (.slice a.sA a.st.length a.sc) := HAA.out.cell 1
      have ea2 : w18.cell? ⟨g10, 2, none⟩ = some (.slice a.cA a.ca.length a.cc) := HAA.out.cell 2
      have eaz : g10 < w18.heap.size := HAA.out.lt
      go_wp2_with fail
      clear ea0 ea1 ea2 eaz
      have HC : Hid (Calls Try.prog 9 #[.agg #[.int .i64 a.pc, .slice a.sA a.st.length a.sc, .slice a.cA a.ca.length a.cc], .slice B bs.length c2, .int .i64 ((n : Int) - (n : Int) / 2)] w18 (Ran (runM bs a.v ((n : Int) - (n : Int) / 2)) w18)) := implRun_any (A := B) (c := c2) a bs ((n : Int) - (n : Int) / 2) w18 HAa.out (Nat.le_refl _) HSa.out HRB.out (Nat.le_refl _) hbm HBX.out
      refine HC.out.mono ?_
      rintro e w19 ⟨d, rfl, hv, ho, s9⟩
      clear HC
      have HVd := Lib.hid hv
      have HAd : Hid (Mc.At d w19 w19.heap.size) := ho.at_
      have HSd : Hid (d.small) := small_run HBX.out hv
      clear hv ho
      have HG' : Hid (Below W.heap.size W w19) := HG.out.trans (s9.mono HG.out.size)
      clear HG
      have HG := HG'
      clear HG'
      have HRB' : Hid (Reads w19 w19.heap.size 1 B bs.length (nums .u8 bs)) := (HRB.out.below s9).more s9.size
      clear HRB
      have HRB := HRB'
      clear HRB'
      have HAm' : Hid (Mc.At m w19 w19.heap.size) := (HAm.out.below s9).more s9.size
      clear HAm
      have HAm := HAm'
      clear HAm'
      have HM' : Hid (Blk w19 g3 27 #[.int .i64 m.pc, .slice m.sA m.st.length m.sc, .slice m.cA m.ca.length m.cc]) := HM.out.below s9 HM.out.lt
      clear HM
      have HM := HM'
      clear HM'
      have HAx' : Hid (Mc.At x w19 w19.heap.size) := (HAx.out.below s9).more s9.size
      clear HAx
      have HAx := HAx'
      clear HAx'
      have HX' : Hid (Blk w19 g6 27 #[.int .i64 x.pc, .slice x.sA x.st.length x.sc, .slice x.cA x.ca.length x.cc]) := HX.out.below s9 HX.out.lt
      clear HX
      have HX := HX'
      clear HX'
      have HAy' : Hid (Mc.At y w19 w19.heap.size) := (HAy.out.below s9).more s9.size
      clear HAy
      have HAy := HAy'
      clear HAy'
      have HY' : Hid (Blk w19 g8 27 #[.int .i64 y.pc, .slice y.sA y.st.length y.sc, .slice y.cA y.ca.length y.cc]) := HY.out.below s9 HY.out.lt
      clear HY
      have HY := HY'
      clear HY'
      have HAa' : Hid (Mc.At a w19 w19.heap.size) := (HAa.out.below s9).more s9.size
      clear HAa
      have HAa := HAa'
      clear HAa'
      have HAA' : Hid (Blk w19 g10 27 #[.int .i64 a.pc, .slice a.sA a.st.length a.sc, .slice a.cA a.ca.length a.cc]) := HAA.out.below s9 HAA.out.lt
      clear HAA
      have HAA := HAA'
      clear HAA'
      clear s9
      simp only [Mc.val]
      go_upto_region 14 with fail
      obtain ⟨g12, hg12⟩ : ∃ g12, g12 = w19.heap.size := ⟨_, rfl⟩
      obtain ⟨w20, hw20⟩ : ∃ w20, w20 = (w19.alloc (.cells #[.int .i64 d.pc, .slice d.sA d.st.length d.sc, .slice d.cA d.ca.length d.cc] 27)) := ⟨_, rfl⟩
      have s9 : Below w19.heap.size w19 w20 := by rw [hw20]; exact (Below.refl w19.heap.size w19).alloc (Nat.le_refl _) (.cells #[.int .i64 d.pc, .slice d.sA d.st.length d.sc, .slice d.cA d.ca.length d.cc] 27)
      have HDD : Hid (Blk w20 g12 27 #[.int .i64 d.pc, .slice d.sA d.st.length d.sc, .slice d.cA d.ca.length d.cc]) := by
        have h := Blk.new w19 27 #[.int .i64 d.pc, .slice d.sA d.st.length d.sc, .slice d.cA d.ca.length d.cc]
        rw [hw20, hg12]
        simpa [Hid] using h
      rw [← hw20, ← hg12]
      clear hw20 hg12
      have HG' : Hid (Below W.heap.size W w20) := HG.out.trans (s9.mono HG.out.size)
      clear HG
      have HG := HG'
      clear HG'
      have HRB' : Hid (Reads w20 w20.heap.size 1 B bs.length (nums .u8 bs)) := (HRB.out.below s9).more s9.size
      clear HRB
      have HRB := HRB'
      clear HRB'
      have HAm' : Hid (Mc.At m w20 w20.heap.size) := (HAm.out.below s9).more s9.size
      clear HAm
      have HAm := HAm'
      clear HAm'
      have HM' : Hid (Blk w20 g3 27 #[.int .i64 m.pc, .slice m.sA m.st.length m.sc, .slice m.cA m.ca.length m.cc]) := HM.out.below s9 HM.out.lt
      clear HM
      have HM := HM'
      clear HM'
      have HAx' : Hid (Mc.At x w20 w20.heap.size) := (HAx.out.below s9).more s9.size
      clear HAx
      have HAx := HAx'
      clear HAx'
      have HX' : Hid (Blk w20 g6 27 #[.int .i64 x.pc, .slice x.sA x.st.length x.sc, .slice x.cA x.ca.length x.cc]) := HX.out.below s9 HX.out.lt
      clear HX
      have HX := HX'
      clear HX'
      have HAy' : Hid (Mc.At y w20 w20.heap.size) := (HAy.out.below s9).more s9.size
      clear HAy
      have HAy := HAy'
      clear HAy'
      have HY' : Hid (Blk w20 g8 27 #[.int .i64 y.pc, .slice y.sA y.st.length y.sc, .slice y.cA y.ca.length y.cc]) := HY.out.below s9 HY.out.lt
      clear HY
      have HY := HY'
      clear HY'
      have HAa' : Hid (Mc.At a w20 w20.heap.size) := (HAa.out.below s9).more s9.size
      clear HAa
      have HAa := HAa'
      clear HAa'
      have HAA' : Hid (Blk w20 g10 27 #[.int .i64 a.pc, .slice a.sA a.st.length a.sc, .slice a.cA a.ca.length a.cc]) := HAA.out.below s9 HAA.out.lt
      clear HAA
      have HAA := HAA'
      clear HAA'
      have HAd' : Hid (Mc.At d w20 w20.heap.size) := (HAd.out.below s9).more s9.size
      clear HAd
      have HAd := HAd'
      clear HAd'
      clear s9
      have HEQD : Hid (d.v = x.v) := HVd.out.trans (HQ2.out.trans HVx.out.symm)
      have ea0 : w20.cell? ⟨g12, 0, none⟩ = some (.int .i64 d.pc) := HDD.out.cell 0
      have ea1 : w20.cell? ⟨g12, 1, none⟩ = some (.slice d.sA d.st.length d.sc) := HDD.out.cell 1
      have ea2 : w20.cell? ⟨g12, 2, none⟩ = some (.slice d.cA d.ca.length d.cc) := HDD.out.cell 2
      have eaz : g12 < w20.heap.size := HDD.out.lt
      have eb0 : w20.cell? ⟨g6, 0, none⟩ = some (.int .i64 x.pc) := HX.out.cell 0
      have eb1 : w20.cell? ⟨g6, 1, none⟩ = some (.slice x.sA x.st.length x.sc) := HX.out.cell 1
      have eb2 : w20.cell? ⟨g6, 2, none⟩ = some (.slice x.cA x.ca.length x.cc) := HX.out.cell 2
      have ebz : g6 < w20.heap.size := HX.out.lt
      go_wp2_with fail
      clear ea0 ea1 ea2 eaz
      clear eb0 eb1 eb2 ebz
      refine (sameMc_any d x w20 HEQD.out HAd.out HAx.out HSd.out).mono ?_
      rintro e w21 ⟨rfl, s9⟩
      have HG' : Hid (Below W.heap.size W w21) := HG.out.trans (s9.mono HG.out.size)
      clear HG
      have HG := HG'
      clear HG'
      have HRB' : Hid (Reads w21 w21.heap.size 1 B bs.length (nums .u8 bs)) := (HRB.out.below s9).more s9.size
      clear HRB
      have HRB := HRB'
      clear HRB'
      have HAm' : Hid (Mc.At m w21 w21.heap.size) := (HAm.out.below s9).more s9.size
      clear HAm
      have HAm := HAm'
      clear HAm'
      have HM' : Hid (Blk w21 g3 27 #[.int .i64 m.pc, .slice m.sA m.st.length m.sc, .slice m.cA m.ca.length m.cc]) := HM.out.below s9 HM.out.lt
      clear HM
      have HM := HM'
      clear HM'
      have HAx' : Hid (Mc.At x w21 w21.heap.size) := (HAx.out.below s9).more s9.size
      clear HAx
      have HAx := HAx'
      clear HAx'
      have HX' : Hid (Blk w21 g6 27 #[.int .i64 x.pc, .slice x.sA x.st.length x.sc, .slice x.cA x.ca.length x.cc]) := HX.out.below s9 HX.out.lt
      clear HX
      have HX := HX'
      clear HX'
      have HAy' : Hid (Mc.At y w21 w21.heap.size) := (HAy.out.below s9).more s9.size
      clear HAy
      have HAy := HAy'
      clear HAy'
      have HY' : Hid (Blk w21 g8 27 #[.int .i64 y.pc, .slice y.sA y.st.length y.sc, .slice y.cA y.ca.length y.cc]) := HY.out.below s9 HY.out.lt
      clear HY
      have HY := HY'
      clear HY'
      have HAa' : Hid (Mc.At a w21 w21.heap.size) := (HAa.out.below s9).more s9.size
      clear HAa
      have HAa := HAa'
      clear HAa'
      have HAA' : Hid (Blk w21 g10 27 #[.int .i64 a.pc, .slice a.sA a.st.length a.sc, .slice a.cA a.ca.length a.cc]) := HAA.out.below s9 HAA.out.lt
      clear HAA
      have HAA := HAA'
      clear HAA'
      have HAd' : Hid (Mc.At d w21 w21.heap.size) := (HAd.out.below s9).more s9.size
      clear HAd
      have HAd := HAd'
      clear HAd'
      have HDD' : Hid (Blk w21 g12 27 #[.int .i64 d.pc, .slice d.sA d.st.length d.sc, .slice d.cA d.ca.length d.cc]) := HDD.out.below s9 HDD.out.lt
      clear HDD
      have HDD := HDD'
      clear HDD'
      clear s9
      rw [HQ3.out]
      have ea0 : w21.cell? ⟨g6, 0, none⟩ = some (.int .i64 x.pc) := HX.out.cell 0
      have ea1 : w21.cell? ⟨g6, 1, none⟩ = some (.slice x.sA x.st.length x.sc) := HX.out.cell 1
      have ea2 : w21.cell? ⟨g6, 2, none⟩ = some (.slice x.cA x.ca.length x.cc) := HX.out.cell 2
      have eaz : g6 < w21.heap.size := HX.out.lt
      go_wp2_with fail
      clear ea0 ea1 ea2 eaz
      have HC : Hid (Calls Try.prog 17 #[.agg #[.int .i64 x.pc, .slice x.sA x.st.length x.sc, .slice x.cA x.ca.length x.cc]] w21 (Gives w21 (.bool (mOk x.pc x.st x.ca)))) := implMOk_any x w21 HAx.out (Nat.le_refl _) HSx.out
      refine HC.out.mono ?_
      rintro e w22 ⟨rfl, s9⟩
      clear HC
      have HG' : Hid (Below W.heap.size W w22) := HG.out.trans (s9.mono HG.out.size)
      clear HG
      have HG := HG'
      clear HG'
      have HRB' : Hid (Reads w22 w22.heap.size 1 B bs.length (nums .u8 bs)) := (HRB.out.below s9).more s9.size
      clear HRB
      have HRB := HRB'
      clear HRB'
      have HAm' : Hid (Mc.At m w22 w22.heap.size) := (HAm.out.below s9).more s9.size
      clear HAm
      have HAm := HAm'
      clear HAm'
      have HM' : Hid (Blk w22 g3 27 #[.int .i64 m.pc, .slice m.sA m.st.length m.sc, .slice m.cA m.ca.length m.cc]) := HM.out.below s9 HM.out.lt
      clear HM
      have HM := HM'
      clear HM'
      have HAx' : Hid (Mc.At x w22 w22.heap.size) := (HAx.out.below s9).more s9.size
      clear HAx
      have HAx := HAx'
      clear HAx'
      have HX' : Hid (Blk w22 g6 27 #[.int .i64 x.pc, .slice x.sA x.st.length x.sc, .slice x.cA x.ca.length x.cc]) := HX.out.below s9 HX.out.lt
      clear HX
      have HX := HX'
      clear HX'
      have HAy' : Hid (Mc.At y w22 w22.heap.size) := (HAy.out.below s9).more s9.size
      clear HAy
      have HAy := HAy'
      clear HAy'
      have HY' : Hid (Blk w22 g8 27 #[.int .i64 y.pc, .slice y.sA y.st.length y.sc, .slice y.cA y.ca.length y.cc]) := HY.out.below s9 HY.out.lt
      clear HY
      have HY := HY'
      clear HY'
      have HAa' : Hid (Mc.At a w22 w22.heap.size) := (HAa.out.below s9).more s9.size
      clear HAa
      have HAa := HAa'
      clear HAa'
      have HAA' : Hid (Blk w22 g10 27 #[.int .i64 a.pc, .slice a.sA a.st.length a.sc, .slice a.cA a.ca.length a.cc]) := HAA.out.below s9 HAA.out.lt
      clear HAA
      have HAA := HAA'
      clear HAA'
      have HAd' : Hid (Mc.At d w22 w22.heap.size) := (HAd.out.below s9).more s9.size
      clear HAd
      have HAd := HAd'
      clear HAd'
      have HDD' : Hid (Blk w22 g12 27 #[.int .i64 d.pc, .slice d.sA d.st.length d.sc, .slice d.cA d.ca.length d.cc]) := HDD.out.below s9 HDD.out.lt
      clear HDD
      have HDD := HDD'
      clear HDD'
      clear s9
      rw [HVX2.out]
      go_wp2
      go_ret
      exact ⟨rfl, HG.out⟩
    · have HE := Lib.hid (HFI.out h3)
      have HEQA : Hid (a.v = x.v) := by show _ = _; rw [HVa.out, HVx.out, HE.out]
      have h3b : ((runM bs m.v ((n : Int) / 2)).2 == 3) = false := by rw [beq_eq_false_iff_ne]; exact h3
      have h3c : ((runM bs m.v ((n : Int) / 2)).2 != 3) = true := by rw [bne_iff_ne]; exact h3
      rw [HE.out]
      clear HFI HSE h3
      have ea0 : w18.cell? ⟨g10, 0, none⟩ = some (.int .i64 a.pc) := HAA.out.cell 0
      have ea1 : w18.cell? ⟨g10, 1, none⟩ = some (.slice a.sA a.st.length a.sc) := HAA.out.cell 1
      have ea2 : w18.cell? ⟨g10, 2, none⟩ = some (.slice a.cA a.ca.length a.cc) := HAA.out.cell 2
      have eaz : g10 < w18.heap.size := HAA.out.lt
      have eb0 : w18.cell? ⟨g6, 0, none⟩ = some (.int .i64 x.pc) := HX.out.cell 0
      have eb1 : w18.cell? ⟨g6, 1, none⟩ = some (.slice x.sA x.st.length x.sc) := HX.out.cell 1
      have eb2 : w18.cell? ⟨g6, 2, none⟩ = some (.slice x.cA x.ca.length x.cc) := HX.out.cell 2
      have ebz : g6 < w18.heap.size := HX.out.lt
      go_wp2_with fail
      clear ea0 ea1 ea2 eaz
      clear eb0 eb1 eb2 ebz
      refine (sameMc_any a x w18 HEQA.out HAa.out HAx.out HSa.out).mono ?_
      rintro e w19 ⟨rfl, s9⟩
      have HG' : Hid (Below W.heap.size W w19) := HG.out.trans (s9.mono HG.out.size)
      clear HG
      have HG := HG'
      clear HG'
      have HRB' : Hid (Reads w19 w19.heap.size 1 B bs.length (nums .u8 bs)) := (HRB.out.below s9).more s9.size
      clear HRB
      have HRB := HRB'
      clear HRB'
      have HAm' : Hid (Mc.At m w19 w19.heap.size) := (HAm.out.below s9).more s9.size
      clear HAm
      have HAm := HAm'
      clear HAm'
      have HM' : Hid (Blk w19 g3 27 #[.int .i64 m.pc, .slice m.sA m.st.length m.sc, .slice m.cA m.ca.length m.cc]) := HM.out.below s9 HM.out.lt
      clear HM
      have HM := HM'
      clear HM'
      have HAx' : Hid (Mc.At x w19 w19.heap.size) := (HAx.out.below s9).more s9.size
      clear HAx
      have HAx := HAx'
      clear HAx'
      have HX' : Hid (Blk w19 g6 27 #[.int .i64 x.pc, .slice x.sA x.st.length x.sc, .slice x.cA x.ca.length x.cc]) := HX.out.below s9 HX.out.lt
      clear HX
      have HX := HX'
      clear HX'
      have HAy' : Hid (Mc.At y w19 w19.heap.size) := (HAy.out.below s9).more s9.size
      clear HAy
      have HAy := HAy'
      clear HAy'
      have HY' : Hid (Blk w19 g8 27 #[.int .i64 y.pc, .slice y.sA y.st.length y.sc, .slice y.cA y.ca.length y.cc]) := HY.out.below s9 HY.out.lt
      clear HY
      have HY := HY'
      clear HY'
      have HAa' : Hid (Mc.At a w19 w19.heap.size) := (HAa.out.below s9).more s9.size
      clear HAa
      have HAa := HAa'
      clear HAa'
      have HAA' : Hid (Blk w19 g10 27 #[.int .i64 a.pc, .slice a.sA a.st.length a.sc, .slice a.cA a.ca.length a.cc]) := HAA.out.below s9 HAA.out.lt
      clear HAA
      have HAA := HAA'
      clear HAA'
      clear s9
      go_wp2
      go_ret
      exact ⟨by simp, HG.out⟩
  · have HXO := Lib.hid (runM_out (bs := bs) hq)
    have hxl : x.st.length ≤ 0 := by
      have h := HVx.out
      rw [HXO.out] at h
      unfold Mc.v at h
      simp only [Prod.mk.injEq] at h
      rw [h.2.1]
      simp
    have hxl0 : x.st.length = 0 := by omega
    rw [HXO.out]
    by_cases hok : mOk m.pc m.st m.ca = true
    · rw [hok]
      have hs : steps < 0 ∨ 100 < steps := by
        by_cases h1 : 0 ≤ steps
        · by_cases h2 : steps ≤ 100
          · exact absurd ⟨hok, h1, h2⟩ hq
          · omega
        · omega
      clear hq hok
      rcases hs with hs | hs
      · clear hst
        have ea0 : w16.cell? ⟨g6, 0, none⟩ = some (.int .i64 x.pc) := HX.out.cell 0
        have ea1 : w16.cell? ⟨g6, 1, none⟩ = some (.slice x.sA x.st.length x.sc) := HX.out.cell 1
        have ea2 : w16.cell? ⟨g6, 2, none⟩ = some (.slice x.cA x.ca.length x.cc) := HX.out.cell 2
        have eaz : g6 < w16.heap.size := HX.out.lt
        go_wp2_with fail
        refine (alive_any _).mono ?_
        rintro e w' ⟨rfl, rfl⟩
        go_wp2
        go_ret
        exact ⟨rfl, HG.out⟩
      · have hs2 : ¬ steps < 0 := by omega
        clear hst
        have ea0 : w16.cell? ⟨g6, 0, none⟩ = some (.int .i64 x.pc) := HX.out.cell 0
        have ea1 : w16.cell? ⟨g6, 1, none⟩ = some (.slice x.sA x.st.length x.sc) := HX.out.cell 1
        have ea2 : w16.cell? ⟨g6, 2, none⟩ = some (.slice x.cA x.ca.length x.cc) := HX.out.cell 2
        have eaz : g6 < w16.heap.size := HX.out.lt
        go_wp2_with fail
        refine (alive_any _).mono ?_
        rintro e w' ⟨rfl, rfl⟩
        go_wp2
        go_ret
        exact ⟨rfl, HG.out⟩
    · rw [show mOk m.pc m.st m.ca = false from by simpa using hok]
      clear hq hok hst
      have ea0 : w16.cell? ⟨g6, 0, none⟩ = some (.int .i64 x.pc) := HX.out.cell 0
      have ea1 : w16.cell? ⟨g6, 1, none⟩ = some (.slice x.sA x.st.length x.sc) := HX.out.cell 1
      have ea2 : w16.cell? ⟨g6, 2, none⟩ = some (.slice x.cA x.ca.length x.cc) := HX.out.cell 2
      have eaz : g6 < w16.heap.size := HX.out.lt
      go_wp2_with fail
      refine (alive_any _).mono ?_
      rintro e w' ⟨rfl, rfl⟩
      go_wp2
      go_ret
      exact ⟨rfl, HG.out⟩
end Go.Proofs.Ytbljkdhokbhcdaa
