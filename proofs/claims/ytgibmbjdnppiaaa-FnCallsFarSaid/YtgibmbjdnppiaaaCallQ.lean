/- What the law of CallsFar asks, in plain words: turned orders, no edges. No program, no condition. -/
import Derived.Test.YtgibmbjdnppiaaaEdgeV
import Derived.Test.YtgibmbjdnppiaaaCallP
namespace Go.Proofs.Ytgibmbjdnppiaaa
open Go Go.RowKit

theorem plc_nodup {l : List Int} (hd : l.Nodup) {k : Nat} (hk : k < l.length) : plc l l[k] = k :=
  idxOf_at (p := fun x => decide (x = l[k])) hk (by simp) (fun j hj hjk => decide_eq_false (List.pairwise_iff_getElem.1 hd j k hj hk hjk))
theorem rev_nodup {l : List Int} (hd : l.Nodup) : l.reverse.Nodup := (List.reverse_perm l).nodup_iff.2 hd
theorem plc_rev {l : List Int} (hd : l.Nodup) {i : Int} (h : i ∈ l) : plc l.reverse i = (l.length : Int) - 1 - plc l i := by
  obtain ⟨k, hk, rfl⟩ := List.getElem_of_mem h
  rw [plc_nodup hd hk]
  have hk2 : l.length - 1 - k < l.reverse.length := by rw [List.length_reverse]; omega
  have e : l.reverse[l.length - 1 - k] = l[k] := by
    rw [List.getElem_reverse]
    congr 1
    omega
  have h2 := plc_nodup (rev_nodup hd) hk2
  rw [e] at h2
  rw [h2]
  omega
theorem farS_rev {l : List Int} (hd : l.Nodup) : ∀ (es : List Edg), (∀ e ∈ es, e.from_ ∈ l ∧ e.to_ ∈ l) → farS l.reverse es = farS l es
  | [], _ => rfl
  | e :: es, h => by
    obtain ⟨h1, h2⟩ := h e List.mem_cons_self
    rw [farS, farS, plc_rev hd h1, plc_rev hd h2, farS_rev hd es (fun x hx => h x (List.mem_cons_of_mem _ hx))]
    have : max ((l.length : Int) - 1 - plc l e.from_ - ((l.length : Int) - 1 - plc l e.to_)) (-((l.length : Int) - 1 - plc l e.from_ - ((l.length : Int) - 1 - plc l e.to_))) = max (plc l e.from_ - plc l e.to_) (-(plc l e.from_ - plc l e.to_)) := by omega
    rw [this]
theorem plc_inj {l : List Int} {i j : Int} (hi : i ∈ l) (hd : l.Nodup) (hj : j ∈ l) (h : plc l i = plc l j) : i = j := by
  obtain ⟨a, ha, rfl⟩ := List.getElem_of_mem hi
  obtain ⟨b, hb, rfl⟩ := List.getElem_of_mem hj
  rw [plc_nodup hd ha, plc_nodup hd hb] at h
  have : a = b := by omega
  subst this
  rfl
theorem farS_pos {l : List Int} (hd : l.Nodup) : ∀ (es : List Edg), (∀ e ∈ es, (e.from_ ∈ l ∧ e.to_ ∈ l) ∧ e.from_ ≠ e.to_ ∧ 1 ≤ e.count) → 0 ≤ farS l es ∧ (0 < es.length → 0 < farS l es)
  | [], _ => ⟨Int.le_refl 0, fun h => absurd h (by simp)⟩
  | e :: es, h => by
    obtain ⟨⟨h1, h2⟩, h3, h4⟩ := h e List.mem_cons_self
    have ih := (farS_pos hd es (fun x hx => h x (List.mem_cons_of_mem _ hx))).1
    have hne : plc l e.from_ ≠ plc l e.to_ := fun q => h3 (plc_inj h1 hd h2 q)
    have hm : 1 ≤ max (plc l e.from_ - plc l e.to_) (-(plc l e.from_ - plc l e.to_)) := by omega
    have hp : 1 ≤ e.count * max (plc l e.from_ - plc l e.to_) (-(plc l e.from_ - plc l e.to_)) := by
      have := Int.mul_le_mul h4 hm (by omega) (by omega)
      omega
    rw [farS]
    exact ⟨by omega, fun _ => by omega⟩
theorem callsFar_parts {many : Int} {es : List Edg} {l : List Int} (h : 0 ≤ callsFar many es l) : edgesOk many es = true ∧ (l.length : Int) = many ∧ hasAll l l.length = true ∧ callsFar many es l = farS l es := by
  unfold callsFar at h ⊢
  by_cases hc : edgesOk many es = true ∧ (l.length : Int) = many ∧ hasAll l l.length = true
  · rw [if_pos hc]
    exact ⟨hc.1, hc.2.1, hc.2.2, rfl⟩
  · rw [if_neg hc] at h
    omega
theorem callsFar_no {many : Int} {es : List Edg} {l : List Int} (h : callsFar many es l < 0) : callsFar many es l = -1 := by
  by_cases hc : edgesOk many es = true ∧ (l.length : Int) = many ∧ hasAll l l.length = true
  · exfalso
    obtain ⟨h1, h2, h3⟩ := hc
    have h0 : callsFar many es l = farS l es := if_pos ⟨h1, h2, h3⟩
    have ho := (order_iff (l := l) rfl).1 h3
    have hin := hasAll_iff.1 h3
    obtain ⟨_, _, hp⟩ := edgesOk_parts h1
    have := (farS_pos ho.1 es (fun e he => by
      obtain ⟨k, hk, rfl⟩ := List.getElem_of_mem he
      obtain ⟨⟨a1, a2⟩, ⟨b1, b2⟩, c, d1, d2⟩ := hp k hk
      refine ⟨⟨?_, ?_⟩, c, d1⟩
      · have := hin es[k].from_.toNat (by omega)
        rwa [Int.toNat_of_nonneg a1] at this
      · have := hin es[k].to_.toNat (by omega)
        rwa [Int.toNat_of_nonneg b1] at this)).1
    omega
  · unfold callsFar
    rw [if_neg hc]
/-- In turned order it is the same; without edges it is 0; with edges it is more. -/
theorem callsFar_law {many : Int} {es : List Edg} {l : List Int} (h : 0 ≤ callsFar many es l) : callsFar many es l.reverse = callsFar many es l ∧ callsFar many [] l = 0 ∧ decide (0 < callsFar many es l) = decide (0 < (es.length : Int)) := by
  obtain ⟨h1, h2, h3, h4⟩ := callsFar_parts h
  have ho := (order_iff (l := l) rfl).1 h3
  have hin := hasAll_iff.1 h3
  obtain ⟨hm, _, hp⟩ := edgesOk_parts h1
  have hes : ∀ e ∈ es, (e.from_ ∈ l ∧ e.to_ ∈ l) ∧ e.from_ ≠ e.to_ ∧ 1 ≤ e.count := fun e he => by
    obtain ⟨k, hk, rfl⟩ := List.getElem_of_mem he
    obtain ⟨⟨a1, a2⟩, ⟨b1, b2⟩, c, d1, d2⟩ := hp k hk
    refine ⟨⟨?_, ?_⟩, c, d1⟩
    · have := hin es[k].from_.toNat (by omega)
      rwa [Int.toNat_of_nonneg a1] at this
    · have := hin es[k].to_.toNat (by omega)
      rwa [Int.toNat_of_nonneg b1] at this
  have hrev : hasAll l.reverse l.reverse.length = true := by
    rw [hasAll_iff]
    intro i hi
    rw [List.length_reverse] at hi
    exact List.mem_reverse.2 (hin i hi)
  refine ⟨?_, ?_, ?_⟩
  · rw [h4, ← farS_rev ho.1 es (fun e he => (hes e he).1)]
    exact if_pos ⟨h1, by rw [List.length_reverse]; exact h2, hrev⟩
  · have : edgesOk many [] = true := by
      unfold edgesOk
      rw [inB_true hm.1 hm.2]
      rfl
    exact if_pos ⟨this, h2, h3⟩
  · have hps := farS_pos ho.1 es hes
    rw [h4, decide_eq_decide]
    constructor
    · intro hpos
      rcases Nat.eq_zero_or_pos es.length with h0 | h0
      · have : es = [] := List.eq_nil_of_length_eq_zero h0
        subst this
        exact absurd hpos (by simp [farS])
      · omega
    · intro hl
      exact hps.2 (by omega)
end Go.Proofs.Ytgibmbjdnppiaaa
