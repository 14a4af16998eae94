/- The walk of FnFillSlots. No condition. -/
import Derived.Test.YteceiaaiocdlfaaRows
import Derived.Test.YteceiaaiocdlfaaBase
import Derived.Test.YteceiaaiocdlfaaBase2
import Derived.Test.YteceiaaiocdlfaaBase3
import Derived.Test.YteceiaaiocdlfaaIn
import Derived.Test.YteceiaaiocdlfaaIn2
import Derived.Test.YteceiaaiocdlfaaPut
import Derived.Test.YteceiaaiocdlfaaFill
import Derived.Test.YteceiaaiocdlfaaSameB
import Derived.Test.YteceiaaiocdlfaaAlive
import Derived.Test.YteceiaaiocdlfaaPick
import Derived.Test.YteceiaaiocdlfaaPick2
import Derived.Test.YteceiaaiocdlfaaOpenC
import Derived.Test.YteceiaaiocdlfaaGet2
import Derived.Test.YteceiaaiocdlfaaDfs
import Derived.WalkKit
import Derived.WalkSpells
import Derived.WalkLawsBesides
import Derived.Handy
import Derived.BigQuiet
import Derived.Deep.RegionHeld3
import Derived.Deep.DrawnRows
import Derived.Deep.QuietTactic
namespace Go.Proofs.Yteceiaaiocdlfaa
open Go Go.RowKit

theorem fl_get2 {ps : List Int} {k : Nat} (h : k < ps.length) : get2 (fl ps) ((2 * k : Nat) : Int) = ps[k] := by
  have hl := fl_len ps
  rw [get2_at (a := 2 * k) (by omega)]
  have e0 := flat_get two 2 (fun _ => rfl) ps k 0 h (by omega)
  have e1 := flat_get two 2 (fun _ => rfl) ps k 1 h (by omega)
  have g0 : (fl ps)[2 * k]'(by omega) = ps[k] % 256 := by
    rw [show k * 2 + 0 = 2 * k from by omega] at e0
    unfold fl
    have := (List.getElem?_eq_some_iff.1 (e0.trans (show (two ps[k])[0]? = some (ps[k] % 256) from rfl))).2
    exact this
  have g1 : (fl ps)[2 * k + 1]'(by omega) = ps[k] / 256 := by
    rw [show k * 2 + 1 = 2 * k + 1 from by omega] at e1
    unfold fl
    have := (List.getElem?_eq_some_iff.1 (e1.trans (show (two ps[k])[1]? = some (ps[k] / 256) from rfl))).2
    exact this
  rw [g0, g1]
  omega
theorem fl_bytes {ps : List Int} (h : placesOk ps = true) : ∀ x ∈ fl ps, 0 ≤ x ∧ x ≤ 255 := fun x hx => by
  obtain ⟨p, hp, hxp⟩ := List.mem_flatMap.1 hx
  have hb := inB_iff.1 (List.all_eq_true.1 h p hp)
  simp only [two, List.mem_cons, List.not_mem_nil, or_false] at hxp
  rcases hxp with rfl | rfl <;> omega
theorem fill_ok {m : Nat} {ps : List Int} (h : fillB m ps = true) : ps.length = m ∧ placesOk ps = true := by
  unfold fillB at h
  simp only [Bool.and_eq_true, decide_eq_true_eq] at h
  exact h
set_option maxRecDepth 100000 in
set_option maxHeartbeats 8000000 in
theorem FnFillSlots_walk (W : World) (v0 : Value) (a0 : ArgCode W v0) : Calls Try.prog 6 #[v0] W (Gives W (.bool true)) := by
  obtain ⟨A, c, cs, rfl, hr, hc1, hc2, hcb⟩ := a0
  by_cases hl : cs.length ≤ 1048576
  · have HD := Lib.hid (DrawFillSlots_any cs W hr hcb hl hc1 hc2)
    clear hcb hr
    unfold maxLen at hc2
    go_enter Try.func6, Try.ntmps6
    go_wp2_with fail
    refine HD.out.mono ?_
    rintro e w1 ⟨A1, c1, ss, A2, c2, ps, rfl, o1, o2, hs3, hp4, b1⟩
    clear HD
    have HX := Lib.hid o1
    have HP := Lib.hid o2
    have HG1 := Lib.hid b1
    have zz1 := b1.size
    have hfl := fillL_len ss.length ps
    clear o1 o2 b1
    go_wp2_with fail
    refine (implFill_any (A1 := A1) (c1 := c1) (A2 := A2) (c2 := c2) ss.length ps _ (Reads.of_own HP.out) (Nat.le_refl _) (by omega)).mono ?_
    rintro e w2 ⟨AY, cY, rfl, o2, s2⟩
    have HY := Lib.hid (own_base o2 HG1.out.size)
    replace HX := Lib.hid (own_below HX.out s2)
    replace HP := Lib.hid (own_below HP.out s2)
    have HG2 := Lib.hid (HG1.out.trans (s2.mono HG1.out.size))
    have zz2 := HG2.out.size
    clear HG1
    clear s2 o2
    go_wp2_with fail
    refine (specFill_any (A1 := A1) (c1 := c1) (A2 := A2) (c2 := c2) ss.length ps _ (Reads.of_own HP.out) (Nat.le_refl _) (by omega)).mono ?_
    rintro e w3 ⟨AZ, cZ, rfl, o3, s3⟩
    have HZ := Lib.hid (own_base o3 HG2.out.size)
    replace HX := Lib.hid (own_below HX.out s3)
    replace HP := Lib.hid (own_below HP.out s3)
    replace HY := Lib.hid (own_below HY.out s3)
    have HG3 := Lib.hid (HG2.out.trans (s3.mono HG2.out.size))
    have zz3 := HG3.out.size
    clear HG2
    clear s3 o3
    go_wp2_with fail
    refine (sameBytes_any _ _ _ _ _ _ (fillL ss.length ps) (fillL ss.length ps) _ (Reads.of_own HY.out) (Reads.of_own HZ.out) (by omega) (by omega)).mono ?_
    rintro e w4 ⟨rfl, s4⟩
    replace HX := Lib.hid (own_below HX.out s4)
    replace HP := Lib.hid (own_below HP.out s4)
    replace HY := Lib.hid (own_below HY.out s4)
    replace HZ := Lib.hid (own_below HZ.out s4)
    have HG4 := Lib.hid (HG3.out.trans (s4.mono HG3.out.size))
    have zz4 := HG4.out.size
    clear HG3
    clear s4
    rw [decide_eq_true rfl]
    clear HZ
    cases hf : fillB ss.length ps
    · have HE := Lib.hid (fillL_no hf)
      clear hf
      rw [HE.out] at HY ⊢
      go_wp2_with fail
      refine (alive_any _).mono ?_
      rintro e w' ⟨rfl, rfl⟩
      go_wp2
      go_ret
      exact ⟨rfl, HG4.out⟩
    · have HE := Lib.hid (fillL_yes hf)
      have HOK := Lib.hid (fill_ok hf)
      have HLN := Lib.hid (fl_len ps)
      clear hf
      rw [HE.out] at HY ⊢
      rw [HE.out] at hfl
      clear HE
      have HBY := Lib.hid (fl_bytes HOK.out.2)
      have HGT : Hid (∀ k, (h : k < ps.length) → get2 (fl ps) ((2 * k : Nat) : Int) = ps[k]) := fun k h => fl_get2 h
      generalize fl ps = fs at *
      clear HX
      go_wp2
      go_loopw [9] (fun iv wr => ∃ k d : Nat, k ≤ ps.length ∧ iv = .int .i64 k ∧ wr = w4.drewN d) (fun iv _ => ps.length - (intOf iv).toNat)
      case atStart => exact ⟨0, 0, Nat.zero_le _, rfl, rfl⟩
      case round =>
        obtain ⟨k, dn, hk, rfl, rfl⟩ := hrel
        by_cases hlt : k < ps.length
        · have i1 : (k : Int) < (ps.length : Int) := by omega
          have i0 : (0 : Int) ≤ (k : Int) := Int.natCast_nonneg _
          obtain ⟨g, rfl, _, _⟩ := own_addr HP.out (by omega)
          have hc1 : w4.cell? ⟨g, k, none⟩ = some (.int .i64 ps[k]) := (HP.out.cellAt k (by omega)).trans (nums_get _ _ hlt)
          have HV := Lib.hid (HGT.out k hlt)
          generalize ps[k] = p at *
          have y1 : IntKind.i64.wrap (2 * (k : Int)) = 2 * (k : Int) := IntWalk.i64_in _ (by omega)
          have HC : Hid (∀ dd : Nat, Calls Try.prog 31 #[.slice AY fs.length cY, .int .i64 (2 * (k : Int)), .int .i64 2] (w4.drewN (dn + dd)) fun e w' => e = .returned (.int .i64 p) ∧ ∃ n, w' = w4.drewN (dn + n)) := fun dd => by
            have h := implGet2_any (A := AY) (c := cY) fs ((2 * k : Nat) : Int) (w4.drewN (dn + dd)) ((Reads.of_own HY.out).drewN (dn + dd)) (by omega) HBY.out (by omega) (by omega)
            rw [HV.out] at h
            have e : ((2 * k : Nat) : Int) = 2 * (k : Int) := by omega
            rw [e] at h
            exact h.mono fun _ _ q => ⟨q.1, dd, q.2.symm⟩
          clear HV
          go_wp2
          go_quiet (first | (with_reducible exact HC.out _))
          go_wp2
          go_roundw
          case rel => exact ⟨k + 1, _, by omega, by go_num, rfl⟩
          case measure => simp [intOf]; omega
        · obtain rfl : k = ps.length := by omega
          have hlen : (fs.length : Int) = 2 * (ss.length : Int) := by have h1 := HLN.out; have h2 := HOK.out.1; omega
          have y1 : IntKind.i64.wrap (2 * (ss.length : Int)) = 2 * (ss.length : Int) := IntWalk.i64_in _ (by omega)
          have HB9 := Lib.hid (below_drewN HG4.out dn)
          go_wp2
          go_ret
          exact ⟨rfl, HB9.out⟩
  · go_enter Try.func6, Try.ntmps6
    go_wp2
    go_ret
    exact ⟨rfl, Below.refl _ _⟩
end Go.Proofs.Yteceiaaiocdlfaa
