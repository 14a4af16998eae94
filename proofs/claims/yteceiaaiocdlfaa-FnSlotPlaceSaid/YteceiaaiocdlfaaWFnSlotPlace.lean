/- The walk of FnSlotPlace. No condition. -/
import Derived.Test.YteceiaaiocdlfaaRows
import Derived.Test.YteceiaaiocdlfaaBase
import Derived.Test.YteceiaaiocdlfaaBase2
import Derived.Test.YteceiaaiocdlfaaBase3
import Derived.Test.YteceiaaiocdlfaaIn
import Derived.Test.YteceiaaiocdlfaaName
import Derived.Test.YteceiaaiocdlfaaSlt
import Derived.Test.YteceiaaiocdlfaaSlS
import Derived.Test.YteceiaaiocdlfaaSlI
import Derived.Test.YteceiaaiocdlfaaIdxS
import Derived.Test.YteceiaaiocdlfaaSlot
import Derived.Test.YteceiaaiocdlfaaSameT
import Derived.Test.YteceiaaiocdlfaaAlive
import Derived.Test.YteceiaaiocdlfaaPick
import Derived.Test.YteceiaaiocdlfaaPick2
import Derived.Test.YteceiaaiocdlfaaOpenC
import Derived.Test.YteceiaaiocdlfaaReg
import Derived.Test.YteceiaaiocdlfaaRegS
import Derived.Test.YteceiaaiocdlfaaDrawN
import Derived.Test.YteceiaaiocdlfaaRegK
import Derived.Test.YteceiaaiocdlfaaDsl
import Derived.Test.YteceiaaiocdlfaaWFnSlotsOf
import Derived.WalkKit
import Derived.WalkSpells
import Derived.WalkLawsBesides
import Derived.Handy
import Derived.BigQuiet
import Derived.Deep.RegionHeld3
import Derived.Deep.DrawnRows
import Derived.Deep.QuietTactic
namespace Go.Proofs.Yteceiaaiocdlfaa
open Go Go.RowKit

set_option maxRecDepth 100000 in
set_option maxHeartbeats 8000000 in
theorem FnSlotPlace_walk (W : World) (v0 : Value) (a0 : ArgCode W v0) : Calls Try.prog 4 #[v0] W (Gives W (.bool true)) := by
  obtain ⟨A, c, cs, rfl, hr, hc1, hc2, hcb⟩ := a0
  by_cases hl : cs.length ≤ 1048576
  · have HD := Lib.hid (DrawSlotPlace_any cs W hr hcb hl hc1 hc2)
    clear hcb hr
    unfold maxLen at hc2
    go_enter Try.func4, Try.ntmps4
    go_wp2_with fail
    refine HD.out.mono ?_
    rintro e w1 ⟨A1, c1, ss, base, nm, rfl, o1, hgood, ⟨hb0, hb1⟩, b1⟩
    clear HD
    obtain ⟨hs1, hs3, hasc⟩ := hgood
    have HX := Lib.hid o1
    have HG1 := Lib.hid b1
    have zz1 := b1.size
    have HA := Lib.hid hasc
    have HF := Lib.hid (slotAt_form ss base nm (by omega))
    have HO : Hid (base < 0 ∨ 60000 < base → slotAt ss base nm = -1) := fun h => slotAt_out ss nm h
    clear o1 b1 hasc
    go_wp2_with fail
    refine (implSlotPlace_any ss base nm _ (Reads.of_own HX.out) (by omega)).mono ?_
    rintro e w2 ⟨rfl, s2⟩
    replace HX := Lib.hid (own_below HX.out s2)
    have HG2 := Lib.hid (HG1.out.trans (s2.mono HG1.out.size))
    have zz2 := HG2.out.size
    clear HG1
    clear s2
    go_wp2_with fail
    refine (specSlotPlace_any ss base nm _ (Reads.of_own HX.out) (by omega)).mono ?_
    rintro e w3 ⟨rfl, s3⟩
    replace HX := Lib.hid (own_below HX.out s3)
    have HG3 := Lib.hid (HG2.out.trans (s3.mono HG2.out.size))
    have zz3 := HG3.out.size
    clear HG2
    clear s3
    generalize slotAt ss base nm = z at *
    by_cases hob : base < 0 ∨ 60000 < base
    · have hz := HO.out hob
      subst hz
      clear HO HF
      have key : (decide (base < 0) = true) ∨ (decide (base < 0) = false ∧ decide (60000 < base) = true) := by
        by_cases h : base < 0
        · exact .inl (decide_eq_true h)
        · exact .inr ⟨decide_eq_false h, decide_eq_true (by omega)⟩
      clear hob
      rcases key with k1 | ⟨k1, k2⟩
      all_goals
        go_wp2_with fail
        refine (alive_any _).mono ?_
        rintro e w' ⟨rfl, rfl⟩
        go_wp2
        go_ret
        exact ⟨rfl, HG3.out⟩
    · have hq0 : 0 ≤ base := by omega
      have hq1 : base ≤ 60000 := by omega
      clear hob HO hb0 hb1
      go_wp2
      go_loopw [7] (fun iv wr => ∃ k : Nat, k ≤ ss.length ∧ iv = .int .i64 k ∧ Hid (Below W.heap.size W wr) ∧ Hid (wr.ownsRow W.heap.size 9 1 (.slice A1 ss.length c1) ss.length (texts ss))) (fun iv _ => ss.length - (intOf iv).toNat)
      case atStart => exact ⟨0, Nat.zero_le _, rfl, HG3, HX⟩
      case round =>
        clear HG3 HX
        obtain ⟨k, hk, rfl, HG, HX⟩ := hrel
        by_cases hlt : k < ss.length
        · have i1 : (k : Int) < (ss.length : Int) := by omega
          have i0 : (0 : Int) ≤ (k : Int) := Int.natCast_nonneg _
          obtain ⟨g, rfl, _, _⟩ := own_addr HX.out (by omega)
          have hc1 : wr.cell? ⟨g, k, none⟩ = some (.string ss[k]) := (HX.out.cellAt k (by omega)).trans (texts_get _ _ hlt)
          have HP := Lib.hid (slotAt_at HA.out hlt hq0 hq1)
          generalize ss[k] = n2 at *
          go_wp2_with fail
          refine (implSlotPlace_any (c := c1) ss base n2 _ (Reads.of_own HX.out) (by omega)).mono ?_
          rintro e w6 ⟨rfl, s6⟩
          have HG6 := Lib.hid (HG.out.trans (s6.mono HG.out.size))
          have HX6 := Lib.hid (own_below HX.out s6)
          clear s6 HG HX
          rw [HP.out]
          have y1 : IntKind.i64.wrap (2 * (k : Int)) = 2 * (k : Int) := IntWalk.i64_in _ (by omega)
          have y2 : IntKind.i64.wrap (base + 2 * (k : Int)) = base + 2 * (k : Int) := IntWalk.i64_in _ (by omega)
          go_wp2
          go_roundw
          case rel => exact ⟨k + 1, by omega, by go_num, HG6, HX6⟩
          case measure => simp [intOf]; omega
        · obtain rfl : k = ss.length := by omega
          rcases HF.out with hz | ⟨q, hqa, hqb, hz⟩
          · subst hz
            clear HF
            go_wp2
            go_ret
            exact ⟨rfl, HG.out⟩
          · subst hz
            clear HF
            have c1 : (base + 2 * q == -1) = false := by simp; omega
            have c2 : base ≤ base + 2 * q := by omega
            have c3 : IntKind.i64.wrap (base + 2 * q - base) = 2 * q := by rw [IntWalk.i64_in _ (by omega)]; omega
            have c4 : (2 * q).tmod 2 = 0 := by rw [Int.tmod_eq_emod_of_nonneg (by omega)]; omega
            have c5 : IntKind.i64.wrap 0 = 0 := rfl
            go_wp2
            go_ret
            exact ⟨rfl, HG.out⟩
  · go_enter Try.func4, Try.ntmps4
    go_wp2
    go_ret
    exact ⟨rfl, Below.refl _ _⟩
end Go.Proofs.Yteceiaaiocdlfaa
