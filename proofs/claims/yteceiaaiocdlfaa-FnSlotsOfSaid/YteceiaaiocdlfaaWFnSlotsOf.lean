/- Plain law of slots, and the walk of FnSlotsOf. No condition. -/
import Derived.Test.YteceiaaiocdlfaaRows
import Derived.Test.YteceiaaiocdlfaaBase
import Derived.Test.YteceiaaiocdlfaaBase2
import Derived.Test.YteceiaaiocdlfaaBase3
import Derived.Test.YteceiaaiocdlfaaIn
import Derived.Test.YteceiaaiocdlfaaName
import Derived.Test.YteceiaaiocdlfaaSlt
import Derived.Test.YteceiaaiocdlfaaSlS
import Derived.Test.YteceiaaiocdlfaaSlI
import Derived.Test.YteceiaaiocdlfaaIdxS
import Derived.Test.YteceiaaiocdlfaaSlot
import Derived.Test.YteceiaaiocdlfaaSameT
import Derived.Test.YteceiaaiocdlfaaAlive
import Derived.Test.YteceiaaiocdlfaaPick
import Derived.Test.YteceiaaiocdlfaaPick2
import Derived.Test.YteceiaaiocdlfaaOpenC
import Derived.Test.YteceiaaiocdlfaaReg
import Derived.Test.YteceiaaiocdlfaaRegS
import Derived.Test.YteceiaaiocdlfaaDrawN
import Derived.Test.YteceiaaiocdlfaaRegK
import Derived.Test.YteceiaaiocdlfaaDsl
import Derived.WalkKit
import Derived.WalkSpells
import Derived.WalkLawsBesides
import Derived.Handy
import Derived.BigQuiet
import Derived.Deep.RegionHeld3
import Derived.Deep.DrawnRows
import Derived.Deep.QuietTactic
namespace Go.Proofs.Yteceiaaiocdlfaa
open Go Go.RowKit

theorem asc_ne {xs : List ByteArray} (h : Asc xs) {i j : Nat} (hij : i < j) (hj : j < xs.length) : xs[i]'(by omega) ≠ xs[j] := fun e => by
  have := asc_at h hij hj
  rw [e] at this
  exact Lt8.irr _ this
theorem slotAt_at {xs : List ByteArray} (h : Asc xs) {k : Nat} (hk : k < xs.length) {base : Int} (h0 : 0 ≤ base) (h1 : base ≤ 60000) : slotAt xs base xs[k] = base + 2 * k := by
  have e : idxOf (fun x => decide (x = xs[k])) xs = k := idxOf_at hk (by simp) (fun j hj hjk => by
    have := asc_ne h hjk hk
    simpa using this)
  unfold slotAt
  rw [e, inB_true h0 h1, if_neg (by simp)]
theorem slotAt_mem {xs : List ByteArray} (h : Asc xs) {nm : ByteArray} (hm : nm ∈ xs) : 0 ≤ slotAt xs 0 nm := by
  obtain ⟨k, hk, rfl⟩ := List.getElem_of_mem hm
  rw [slotAt_at h hk (by omega) (by omega)]
  omega
theorem slotAt_form (xs : List ByteArray) (base : Int) (nm : ByteArray) (hl : xs.length ≤ 1000) : slotAt xs base nm = -1 ∨ ∃ z : Int, 0 ≤ z ∧ z ≤ 1000 ∧ slotAt xs base nm = base + 2 * z := by
  unfold slotAt
  by_cases hc : idxOf (fun x => decide (x = nm)) xs < 0 ∨ inB base 0 60000 = false
  · exact .inl (if_pos hc)
  · rw [if_neg hc]
    have h1 := idxOf_lt (fun x => decide (x = nm)) xs
    exact .inr ⟨_, by omega, by omega, rfl⟩
theorem slotAt_out (xs : List ByteArray) {base : Int} (nm : ByteArray) (h : base < 0 ∨ 60000 < base) : slotAt xs base nm = -1 := by
  unfold slotAt
  exact if_pos (.inr (inB_false h))
theorem slots_in {ns ss : List ByteArray} (h : IsSlots ns ss) (hne : ss.length ≠ 0) : Asc ss ∧ ∀ x ∈ ns, x ∈ ss := by
  rcases h with ⟨_, h2, h3⟩ | ⟨_, rfl⟩
  · exact ⟨h2, fun x hx => (h3 x).2 hx⟩
  · exact absurd rfl hne
set_option maxRecDepth 100000 in
set_option maxHeartbeats 8000000 in
theorem FnSlotsOf_walk (W : World) (v0 : Value) (a0 : ArgCode W v0) : Calls Try.prog 8 #[v0] W (Gives W (.bool true)) := by
  obtain ⟨A, c, cs, rfl, hr, hc1, hc2, hcb⟩ := a0
  by_cases hl : cs.length ≤ 1048576
  · have HD := Lib.hid (DrawSlotsOf_any cs W hr hcb hl hc1 hc2)
    clear hcb hr
    unfold maxLen at hc2
    go_enter Try.func8, Try.ntmps8
    go_wp2_with fail
    refine HD.out.mono ?_
    rintro e w1 ⟨A1, c1, ns, rfl, o1, hl7, hs9, b1⟩
    clear HD
    have HN := Lib.hid o1
    have HG1 := Lib.hid b1
    have zz1 := b1.size
    have HS : Hid (∀ x ∈ ns, x.size ≤ maxLen) := fun x hx => by have := hs9 x hx; unfold maxLen; omega
    have HI := Lib.hid (slotsOf_is ns)
    have hsl := slotsOf_len ns
    clear o1 b1 hs9
    go_wp2_with fail
    refine (implSlotsF ns _ (Reads.of_own HN.out) (Nat.le_refl _) (by omega) HS.out).mono ?_
    rintro e w2 ⟨AX, cX, rfl, o2, s2⟩
    have PXN := Lib.hid (apart_new HN.out (fun a h => (own_up o2 a h).1))
    have HX := Lib.hid (own_base o2 HG1.out.size)
    replace HN := Lib.hid (own_below HN.out s2)
    have HG2 := Lib.hid (HG1.out.trans (s2.mono HG1.out.size))
    have zz2 := HG2.out.size
    clear HG1
    clear s2 o2
    go_wp2_with fail
    refine (specSlotsF ns _ (Reads.of_own HN.out) (Nat.le_refl _) (by omega) HS.out).mono ?_
    rintro e w3 ⟨AY, cY, rfl, o3, s3⟩
    have PYN := Lib.hid (apart_new HN.out (fun a h => (own_up o3 a h).1))
    have PYX := Lib.hid (apart_new HX.out (fun a h => (own_up o3 a h).1))
    have HY := Lib.hid (own_base o3 HG2.out.size)
    replace HN := Lib.hid (own_below HN.out s3)
    replace HX := Lib.hid (own_below HX.out s3)
    have HG3 := Lib.hid (HG2.out.trans (s3.mono HG2.out.size))
    have zz3 := HG3.out.size
    clear HG2
    clear s3 o3
    go_wp2_with fail
    refine (sameTexts_any _ _ _ _ _ _ (slotsOf ns) (slotsOf ns) _ (Reads.of_own HX.out) (Reads.of_own HY.out) (by omega) (by omega)).mono ?_
    rintro e w4 ⟨rfl, s4⟩
    replace HN := Lib.hid (own_below HN.out s4)
    replace HX := Lib.hid (own_below HX.out s4)
    replace HY := Lib.hid (own_below HY.out s4)
    have HG4 := Lib.hid (HG3.out.trans (s4.mono HG3.out.size))
    have zz4 := HG4.out.size
    clear HG3
    clear s4
    rw [decide_eq_true rfl]
    clear HY PYN PYX
    generalize slotsOf ns = ss at *
    by_cases h0 : ss.length = 0
    · have H0 : ((ss.length : Int) == 0) = true := by rw [h0]; rfl
      clear h0
      go_wp2_with fail
      refine (alive_any _).mono ?_
      rintro e w' ⟨rfl, rfl⟩
      go_wp2
      go_ret
      exact ⟨rfl, HG4.out⟩
    · have hp0 : 0 < ss.length := by omega
      have H0 : ((ss.length : Int) == 0) = false := by rw [beq_eq_false_iff_ne]; omega
      have HA := Lib.hid (slots_in HI.out h0)
      clear h0 HI
      go_wp2
      go_loopw [5] (fun iv wr => ∃ k d : Nat, k ≤ ss.length ∧ iv = .int .i64 k ∧ wr = w4.drewN d) (fun iv _ => ss.length - (intOf iv).toNat)
      case atStart => exact ⟨0, 0, Nat.zero_le _, rfl, rfl⟩
      case round =>
        obtain ⟨k, dn, hk, rfl, rfl⟩ := hrel
        by_cases hlt : k < ss.length
        · have i1 : (k : Int) < (ss.length : Int) := by omega
          have i0 : (0 : Int) ≤ (k : Int) := Int.natCast_nonneg _
          obtain ⟨g, rfl, _, _⟩ := own_addr HX.out (by omega)
          have hc1 : w4.cell? ⟨g, k, none⟩ = some (.string ss[k]) := (HX.out.cellAt k (by omega)).trans (texts_get _ _ hlt)
          rcases Nat.eq_zero_or_pos k with h0 | h0
          · subst h0
            go_wp2
            go_quiet (fail)
            go_wp2
            go_roundw
            case rel => exact ⟨1, _, by omega, by go_num, rfl⟩
            case measure => simp [intOf]; omega
          · have hc2 : w4.cell? ⟨g, k - 1, none⟩ = some (.string ss[k - 1]) := (HX.out.cellAt (k - 1) (by omega)).trans (texts_get _ _ (by omega))
            have hlq : Lt8 ss[k - 1] ss[k] := asc_at HA.out.1 (by omega) hlt
            have HL : Op.bytesLess (ss[k]).toList (ss[k - 1]).toList = false := less_false (fun h => Lt8.irr _ (h.trans hlq))
            have HL2 : ((ss[k]).toList == (ss[k - 1]).toList) = false := by
              rw [beq_eq_false_iff_ne]
              intro h
              rw [toList_inj h] at hlq
              exact Lt8.irr _ hlq
            clear hlq
            generalize ss[k - 1] = s1 at *
            generalize ss[k] = s2 at *
            obtain ⟨q, hq⟩ : ∃ q, q = k - 1 := ⟨k - 1, rfl⟩
            rw [← hq] at hc2
            have y1 : IntKind.i64.wrap ((k : Int) - 1) = (q : Int) := by rw [IntWalk.i64_in _ (by omega)]; omega
            have y2 : (0 : Int) < (k : Int) := by omega
            have y3 : (0 : Int) ≤ (q : Int) := by omega
            have y4 : (q : Int) < (ss.length : Int) := by omega
            clear hq
            go_wp2
            go_quiet (fail)
            go_wp2
            go_roundw
            case rel => exact ⟨k + 1, _, by omega, by go_num, rfl⟩
            case measure => simp [intOf]; omega
        · obtain rfl : k = ss.length := by omega
          have HX5 : Hid ((w4.drewN dn).ownsRow W.heap.size 9 1 (.slice AX ss.length cX) ss.length (texts ss)) := HX.out
          have HN5 : Hid ((w4.drewN dn).ownsRow W.heap.size 9 1 (.slice A1 ns.length c1) ns.length (texts ns)) := HN.out
          have HG5 := Lib.hid (below_drewN HG4.out dn)
          generalize w4.drewN dn = w5 at *
          clear HX HN HG4
          go_wp2
          go_loopw [6] (fun iv wr => ∃ k : Nat, k ≤ ns.length ∧ iv = .int .i64 k ∧ Hid (Below W.heap.size W wr) ∧ Hid (wr.ownsRow W.heap.size 9 1 (.slice AX ss.length cX) ss.length (texts ss)) ∧ Hid (wr.ownsRow W.heap.size 9 1 (.slice A1 ns.length c1) ns.length (texts ns))) (fun iv _ => ns.length - (intOf iv).toNat)
          case atStart => exact ⟨0, Nat.zero_le _, rfl, HG5, HX5, HN5⟩
          case round =>
            obtain ⟨k, hk, rfl, HG, HX, HN⟩ := hrel
            clear HG5 HX5 HN5
            by_cases hlt : k < ns.length
            · have i1 : (k : Int) < (ns.length : Int) := by omega
              have i0 : (0 : Int) ≤ (k : Int) := Int.natCast_nonneg _
              obtain ⟨g, rfl, _, _⟩ := own_addr HN.out (by omega)
              have hc1 : wr.cell? ⟨g, k, none⟩ = some (.string ns[k]) := (HN.out.cellAt k (by omega)).trans (texts_get _ _ hlt)
              have hp := slotAt_mem HA.out.1 (HA.out.2 _ (List.getElem_mem hlt))
              generalize ns[k] = nm at *
              go_wp2_with fail
              refine (implSlotPlace_any (c := cX) ss 0 nm _ (Reads.of_own HX.out) (by omega)).mono ?_
              rintro e w6 ⟨rfl, s6⟩
              have HG6 := Lib.hid (HG.out.trans (s6.mono HG.out.size))
              have HX6 := Lib.hid (own_below HX.out s6)
              have HN6 := Lib.hid (own_below HN.out s6)
              clear s6 HG HX HN
              have hd : decide (slotAt ss 0 nm < 0) = false := decide_eq_false (by omega)
              generalize slotAt ss 0 nm = z at *
              go_wp2
              go_roundw
              case rel => exact ⟨k + 1, by omega, by go_num, HG6, HX6, HN6⟩
              case measure => simp [intOf]; omega
            · obtain rfl : k = ns.length := by omega
              have hle : (ss.length : Int) ≤ (ns.length : Int) := by omega
              go_wp2
              go_ret
              exact ⟨rfl, HG.out⟩
  · go_enter Try.func8, Try.ntmps8
    go_wp2
    go_ret
    exact ⟨rfl, Below.refl _ _⟩
end Go.Proofs.Yteceiaaiocdlfaa
