/- The walk of FnScriptPlaces. No condition. -/
import Derived.Test.YthjjbgpeajeneaaRows
import Derived.Test.YthjjbgpeajeneaaBase
import Derived.Test.YthjjbgpeajeneaaBase2
import Derived.Test.YthjjbgpeajeneaaBase3
import Derived.Test.YthjjbgpeajeneaaBase4
import Derived.Test.YthjjbgpeajeneaaIn
import Derived.Test.YthjjbgpeajeneaaPart
import Derived.Test.YthjjbgpeajeneaaIntS
import Derived.Test.YthjjbgpeajeneaaScrV
import Derived.Test.YthjjbgpeajeneaaScrW
import Derived.Test.YthjjbgpeajeneaaAreV
import Derived.Test.YthjjbgpeajeneaaScrP
import Derived.Test.YthjjbgpeajeneaaScP
import Derived.Test.YthjjbgpeajeneaaScS
import Derived.Test.YthjjbgpeajeneaaAlive
import Derived.Test.YthjjbgpeajeneaaSameI
import Derived.Test.YthjjbgpeajeneaaPick
import Derived.Test.YthjjbgpeajeneaaPick2
import Derived.Test.YthjjbgpeajeneaaOpenC
import Derived.Test.YthjjbgpeajeneaaDrawSc
import Derived.Test.YthjjbgpeajeneaaReg
import Derived.Test.YthjjbgpeajeneaaRegS
import Derived.Test.YthjjbgpeajeneaaDrawSP
import Derived.WalkKit
import Derived.WalkSpells
import Derived.WalkLawsBesides
import Derived.Handy
import Derived.BigQuiet
import Derived.Deep.RegionHeld3
import Derived.Deep.DrawnRows
import Derived.Deep.QuietTactic
namespace Go.Proofs.Ythjjbgpeajeneaa
open Go Go.RowKit

theorem upP_law {n al : Int} (h : alOk al = true) (hn : 0 ≤ n) : (upP n al).tmod al = 0 ∧ n ≤ upP n al ∧ upP n al - n < al ∧ 0 ≤ upP n al := by
  have h1 := upP_bd (n := n) h
  have h2 : upP n al % al = 0 := by unfold upP; exact Int.mul_emod_left _ _
  have h3 := alOk_bd h
  refine ⟨by rw [Int.tmod_eq_emod_of_nonneg (by omega)]; exact h2, h1.1, ?_, by omega⟩
  rcases (alOk_iff al).1 h with h | h | h | h | h | h | h <;> (subst h; unfold upP; omega)
theorem sp_keep (ss : List Int) : ∀ (xs : List Prt) (st : List Int × Int) (i : Nat), (∀ p ∈ xs, (p.kind - 1).toNat ≠ i) → (xs.foldl (spStep ss) st).1[i]? = st.1[i]?
  | [], _, _, _ => rfl
  | p :: xs, st, i, h => by
    rw [List.foldl_cons, sp_keep ss xs _ i (fun q hq => h q (List.mem_cons_of_mem _ hq))]
    unfold spStep
    rw [List.getElem?_set_ne (h p List.mem_cons_self)]
theorem sp_parts {xs : List Prt} {ss : List Int} {base : Int} (h : spOk xs ss base = true) : scriptOk xs = true ∧ ss.length = 3 ∧ valsOk ss = true ∧ 0 ≤ base ∧ base ≤ 60000 := by
  unfold spOk at h
  simp only [Bool.and_eq_true, decide_eq_true_eq] at h
  have := inB_iff.1 h.2.2
  exact ⟨h.1.1, h.1.2, h.2.1, this.1, this.2⟩
theorem sp_apart {xs : List Prt} (h : scriptOk xs = true) {k : Nat} (hk : k < xs.length) : ∀ p ∈ xs.drop (k + 1), p.kind ≠ xs[k].kind := by
  have hl := script_len h
  match xs, hl with
  | [p, q, r], _ =>
    have h3 := (script_three h).2.1
    intro x hx
    match k, hk with
    | 0, _ => simp at hx; rcases hx with rfl | rfl <;> simp <;> omega
    | 1, _ => simp at hx; subst hx; simp; omega
    | 2, _ => simp at hx
theorem sp_bd {xs : List Prt} {ss : List Int} {base : Int} (h : spOk xs ss base = true) : ∀ k, k ≤ xs.length → 0 ≤ (spRun ss (xs.take k) base).2 ∧ (spRun ss (xs.take k) base).2 ≤ 60000 + 60063 * k
  | 0, _ => by
    obtain ⟨_, _, _, h1, h2⟩ := sp_parts h
    simp [spRun]
    omega
  | k + 1, hk => by
    have ih := sp_bd h k (by omega)
    obtain ⟨h1, h2, h3, _, _⟩ := sp_parts h
    have hk' : k < xs.length := by omega
    obtain ⟨hkd, hal⟩ := script_at h1 hk'
    rw [spRun_take hk']
    have hi : (xs[k].kind - 1).toNat < ss.length := by omega
    have hv := valsGet h3 hi
    have hu := upP_bd (n := (spRun ss (xs.take k) base).2) hal
    unfold spStep
    rw [getDP hi]
    simp only
    omega
/-- What the law asks of each part. -/
theorem sp_place {xs : List Prt} {ss : List Int} {base : Int} (h : spOk xs ss base = true) {k : Nat} (hk : k < xs.length) :
    ∃ i : Nat, i < 3 ∧ xs[k].kind = (i : Int) + 1 ∧ (∃ hi : i < (spL xs ss base).length, (spL xs ss base)[i] = upP (spRun ss (xs.take k) base).2 xs[k].align) ∧ ∃ hi : i < ss.length, (0 ≤ ss[i] ∧ ss[i] ≤ 60000) ∧ (spRun ss (xs.take (k + 1)) base).2 = upP (spRun ss (xs.take k) base).2 xs[k].align + ss[i] := by
  obtain ⟨h1, h2, h3, _, _⟩ := sp_parts h
  obtain ⟨hkd, hal⟩ := script_at h1 hk
  have hi : (xs[k].kind - 1).toNat < ss.length := by omega
  refine ⟨(xs[k].kind - 1).toNat, by omega, by omega, ?_, hi, valsGet h3 hi, ?_⟩
  · have e : (spL xs ss base)[(xs[k].kind - 1).toNat]? = some (upP (spRun ss (xs.take k) base).2 xs[k].align) := by
      rw [(sp_yes h).1]
      have e1 : spRun ss xs base = (xs.drop (k + 1)).foldl (spStep ss) (spRun ss (xs.take (k + 1)) base) := by
        unfold spRun
        rw [← List.foldl_append, List.take_append_drop]
      rw [e1, sp_keep ss _ _ _ (fun p hp => by
        have hne := sp_apart h1 hk p hp
        have hpm : p ∈ xs := List.mem_of_mem_drop hp
        obtain ⟨j, hj, rfl⟩ := List.getElem_of_mem hpm
        have := (script_at h1 hj).1
        omega), spRun_take hk]
      unfold spStep
      have hl3 : (spRun ss (xs.take k) base).1.length = 3 := spRun_len ss (xs.take k) ([0, 0, 0], base)
      rw [List.getElem?_set_self (by omega)]
    obtain ⟨hi2, e2⟩ := List.getElem?_eq_some_iff.1 e
    exact ⟨hi2, e2⟩
  · rw [spRun_take hk]
    unfold spStep
    rw [getDP hi]
theorem sp_end {xs : List Prt} {ss : List Int} {base : Int} (h : spOk xs ss base = true) : (spRun ss xs base).2 = spE xs ss base ∧ 0 ≤ spE xs ss base ∧ (spL xs ss base).length = 3 := by
  have h1 := sp_bd h xs.length (Nat.le_refl _)
  rw [List.take_of_length_le (Nat.le_refl _)] at h1
  rw [(sp_yes h).2, (sp_yes h).1]
  exact ⟨rfl, h1.1, spRun_len ss xs ([0, 0, 0], base)⟩
set_option maxRecDepth 100000 in
set_option maxHeartbeats 8000000 in
theorem FnScriptPlaces_walk (W : World) (v0 : Value) (a0 : ArgCode W v0) : Calls Try.prog 6 #[v0] W (Gives W (.bool true)) := by
  obtain ⟨A, c, cs, rfl, hr, hc1, hc2, hcb⟩ := a0
  by_cases hl : cs.length ≤ 1048576
  · have HD := Lib.hid (DrawScriptPlaces_any cs W hr hcb hl hc1 hc2)
    clear hcb hr
    unfold maxLen at hc2
    go_enter Try.func6, Try.ntmps6
    go_wp2_with fail
    refine HD.out.mono ?_
    rintro e w1 ⟨AX, cX, xs, AS, cS, ss, base, rfl, rx, rs, hx3, hs3, b1⟩
    clear HD
    go_wp2_with fail
    refine (implScriptPlaces_any xs ss base _ rx (Nat.le_refl _) rs (Nat.le_refl _) (by omega) (by omega)).mono ?_
    rintro e w2 ⟨A1, c1, rfl, o1, s2⟩
    replace rx := (rx.below s2).more s2.size
    replace rs := (rs.below s2).more s2.size
    have b2 := b1.trans (s2.mono b1.size)
    clear s2
    go_wp2_with fail
    refine (specScriptPlaces_any xs ss base _ rx (Nat.le_refl _) rs (Nat.le_refl _) (by omega) (by omega)).mono ?_
    rintro e w3 ⟨A2, c2, rfl, o2, s3⟩
    replace rx := (rx.below s3).more s3.size
    replace rs := (rs.below s3).more s3.size
    replace o1 := own_below o1 s3
    have b3 := b2.trans (s3.mono b2.size)
    have hll := spL_len xs ss base
    clear s3
    go_wp2_with fail
    refine (sameInts_any _ _ _ _ _ _ _ _ _ (Reads.of_own o1) (Reads.of_own o2) (by omega) (by omega)).mono ?_
    rintro e w4 ⟨rfl, s4⟩
    rw [decide_eq_true rfl]
    have HX := Lib.hid ((rx.below s4).more s4.size)
    have HS := Lib.hid ((rs.below s4).more s4.size)
    have HL := Lib.hid (Reads.of_own (own_below o1 s4))
    have HB := Lib.hid (b3.trans (s4.mono b3.size))
    clear s4 rx rs o1 o2 b1 b2 b3
    have heq : (spE xs ss base != spE xs ss base) = false := by simp
    cases hok : spOk xs ss base
    · obtain ⟨h1, h2⟩ := sp_no hok
      clear hok heq
      rw [h1] at HL
      rw [h1, h2]
      simp only [List.length_nil]
      clear h1 h2 hll
      go_wp2_with fail
      refine (alive_any _).mono ?_
      rintro e w' ⟨rfl, rfl⟩
      go_wp2
      go_ret
      exact ⟨rfl, HB.out⟩
    · obtain ⟨he1, he2, he3⟩ := sp_end hok
      have HPL := Lib.hid (fun k (hk : k < xs.length) => sp_place hok hk)
      have HBD := Lib.hid (fun k (hk : k ≤ xs.length) => sp_bd hok k hk)
      have HSA := Lib.hid (fun k (hk : k < xs.length) => (script_at (sp_parts hok).1 hk).2)
      have HE1 := Lib.hid he1
      have hd0 : decide (spE xs ss base < 0) = false := decide_eq_false (by omega)
      have hsl := (sp_parts hok).2.1
      have HSL := Lib.hid hsl
      have HL3 := Lib.hid he3
      have hb0 : (spRun ss (xs.take 0) base).2 = base := by simp [spRun]
      have HB0 := Lib.hid hb0
      clear hok he1 hsl hb0
      generalize spE xs ss base = en at *
      generalize spL xs ss base = xl at *
      clear he3
      go_wp2
      go_loopw [10, 11, 12] (fun av kv _ wr => ∃ k : Nat, k ≤ xs.length ∧ kv = .int .i64 k ∧ av = .int .i64 (spRun ss (xs.take k) base).2 ∧ ∃ d, wr = w4.drewN d) (fun _ kv _ _ => xs.length - (intOf kv).toNat)
      case atStart => exact ⟨0, Nat.zero_le _, rfl, by rw [HB0.out], 0, rfl⟩
      case round =>
        obtain ⟨k, hk, rfl, rfl, d, rfl⟩ := hrel
        by_cases hlt : k < xs.length
        · obtain ⟨i, hi3, hkd, ⟨hi1, hxi⟩, hi2, ⟨hv1, hv2⟩, hnx⟩ := HPL.out k hlt
          obtain ⟨hb1, hb2⟩ := HBD.out k hk
          have hal := HSA.out k hlt
          have hup := upP_law (n := (spRun ss (xs.take k) base).2) hal hb1
          have hub := (upP_bd (n := (spRun ss (xs.take k) base).2) hal).2
          have hab := alOk_bd hal
          have HNX := Lib.hid hnx
          obtain ⟨b, off, rfl, hbl, hcx⟩ := HX.out.row_ (by omega) (by omega)
          have e0 : w4.cell? ⟨b, off + k * 2, none⟩ = some (.int .i64 xs[k].kind) := hcx (k * 2) _ (by
            have := flat_get Prt.cells 2 Prt.cells_len xs k 0 hlt (by omega)
            simpa [Prt.cells] using this)
          have e1 : w4.cell? ⟨b, off + k * 2 + 1, none⟩ = some (.int .i64 xs[k].align) := hcx (k * 2 + 1) _ (by
            have := flat_get Prt.cells 2 Prt.cells_len xs k 1 hlt (by omega)
            simpa [Prt.cells] using this)
          obtain ⟨ad1, u1, rfl, _, hx1, hc1⟩ := HL.out.at_ hi1
          rw [nums_get _ _ hi1, hxi] at hx1
          injection hx1 with hx1
          subst hx1
          obtain ⟨ad2, u2, rfl, _, hx2, hc2⟩ := HS.out.at_ hi2
          rw [nums_get _ _ hi2] at hx2
          injection hx2 with hx2
          subst hx2
          rw [hkd] at e0
          generalize xs[k].align = al at *
          generalize ss[i] = sz at *
          generalize (spRun ss (xs.take k) base).2 = at_ at *
          generalize upP at_ al = z at *
          obtain ⟨hz1', hz2', hz3', hz4'⟩ := hup
          have hm0 : (z.tmod al != 0) = false := by rw [hz1']; rfl
          have hm1 : decide (z < at_) = false := decide_eq_false (by omega)
          have hm2 : decide (al ≤ z - at_) = false := decide_eq_false (by omega)
          have y1 : IntKind.i64.wrap (z - at_) = z - at_ := IntWalk.i64_in _ (by omega)
          have y2 : IntKind.i64.wrap (z + sz) = z + sz := IntWalk.i64_in _ (by omega)
          have hal0 : ¬ al = 0 := by omega
          have k0 : (0 : Int) ≤ (k : Int) := Int.natCast_nonneg _
          have k1 : (k : Int) < (xs.length : Int) := by omega
          have i0' : (0 : Int) ≤ (i : Int) := Int.natCast_nonneg _
          have i1' : (i : Int) < (xl.length : Int) := by omega
          have i2' : (i : Int) < (ss.length : Int) := by omega
          have HZ1 := Lib.hid hz1'
          clear hcx hxi hnx hkd hal hub hz1'
          go_wp2
          go_quiet (fail)
          go_wp2
          go_quiet (fail)
          go_wp2
          go_roundw
          case rel => exact ⟨k + 1, by omega, by go_num, by rw [HNX.out], _, rfl⟩
          case measure => simp [intOf]; omega
        · have hae : (spRun ss (xs.take k) base).2 = en := by rw [List.take_of_length_le (by omega)]; exact HE1.out
          rw [hae]
          have hl3' : ((xl.length : Int) == 3) = true := by rw [HL3.out]; rfl
          have hee : (en == en) = true := by simp
          clear hae
          go_wp2
          go_ret
          exact ⟨rfl, below_drewN HB.out _⟩
  · go_enter Try.func6, Try.ntmps6
    go_wp2
    go_ret
    exact ⟨rfl, Below.refl _ _⟩
end Go.Proofs.Ythjjbgpeajeneaa
