/- Plain words on orders of sections: each number once; how far calls go. No program, no condition. -/
import Derived.Test.YtgibmbjdnppiaaaEdgeV
namespace Go.Proofs.Ytgibmbjdnppiaaa
open Go Go.RowKit

/-- The numbers 0 to n-1 are all there. -/
def hasAll (l : List Int) (n : Nat) : Bool := (List.range n).all fun i => decide ((i : Int) ∈ l)
theorem hasAll_iff {l : List Int} {n : Nat} : hasAll l n = true ↔ ∀ i, i < n → (i : Int) ∈ l := by
  unfold hasAll
  rw [List.all_eq_true]
  simp
theorem hasAll_no {l : List Int} {n k : Nat} (hk : k < n) (h : ¬ (k : Int) ∈ l) : hasAll l n = false := by
  cases hq : hasAll l n
  · rfl
  · exact absurd (hasAll_iff.1 hq k hk) h
theorem pig1 : ∀ (n : Nat) (l : List Int), l.length = n → (∀ i, i < n → (i : Int) ∈ l) → l.Nodup ∧ ∀ x ∈ l, 0 ≤ x ∧ x < n
  | 0, l, hl, _ => by
    have : l = [] := List.eq_nil_of_length_eq_zero hl
    subst this
    simp
  | n + 1, l, hl, h => by
    have hm := h n (by omega)
    have hp := List.perm_cons_erase hm
    have ih := pig1 n (l.erase (n : Int)) (by rw [List.length_erase_of_mem hm]; omega) (fun i hi => (List.mem_erase_of_ne (by omega)).2 (h i (by omega)))
    refine ⟨hp.nodup_iff.2 (List.nodup_cons.2 ⟨fun hmem => ?_, ih.1⟩), fun x hx => ?_⟩
    · have := ih.2 _ hmem
      omega
    · rcases List.mem_cons.1 (hp.mem_iff.1 hx) with rfl | hx
      · omega
      · have := ih.2 x hx
        omega
theorem pig2 : ∀ (n : Nat) (l : List Int), l.Nodup → (∀ x ∈ l, 0 ≤ x ∧ x < n) → l.length ≤ n
  | 0, l, _, h => by
    match l with
    | [] => simp
    | x :: l => have := h x (by simp); omega
  | n + 1, l, hd, h => by
    by_cases hm : (n : Int) ∈ l
    · have hp := List.perm_cons_erase hm
      have hd2 := List.nodup_cons.1 (hp.nodup_iff.1 hd)
      have ih := pig2 n (l.erase (n : Int)) hd2.2 (fun x hx => by
        have := h x (List.mem_of_mem_erase hx)
        have hne : x ≠ (n : Int) := by rintro rfl; exact hd2.1 hx
        omega)
      rw [List.length_erase_of_mem hm] at ih
      omega
    · have ih := pig2 n l hd (fun x hx => by
        have := h x hx
        have hne : x ≠ (n : Int) := by rintro rfl; exact hm hx
        omega)
      omega
theorem pig3 : ∀ (n : Nat) (l : List Int), l.Nodup → (∀ x ∈ l, 0 ≤ x ∧ x < n) → l.length = n → ∀ i, i < n → (i : Int) ∈ l
  | 0, _, _, _, _, i, hi => by omega
  | n + 1, l, hd, h, hl, i, hi => by
    by_cases hm : (n : Int) ∈ l
    · have hp := List.perm_cons_erase hm
      have hd2 := List.nodup_cons.1 (hp.nodup_iff.1 hd)
      have ih := pig3 n (l.erase (n : Int)) hd2.2 (fun x hx => by
        have := h x (List.mem_of_mem_erase hx)
        have hne : x ≠ (n : Int) := by rintro rfl; exact hd2.1 hx
        omega) (by rw [List.length_erase_of_mem hm]; omega)
      by_cases hin : i = n
      · rw [hin]; exact hm
      · exact List.mem_of_mem_erase (ih i (by omega))
    · have := pig2 n l hd (fun x hx => by
        have := h x hx
        have hne : x ≠ (n : Int) := by rintro rfl; exact hm hx
        omega)
      omega
/-- Each of the first n numbers once. -/
def okOrder (l : List Int) (n : Nat) : Prop := l.Nodup ∧ ∀ x ∈ l, 0 ≤ x ∧ x < n
theorem order_iff {l : List Int} {n : Nat} (hl : l.length = n) : hasAll l n = true ↔ okOrder l n := by
  rw [hasAll_iff]
  exact ⟨fun h => pig1 n l hl h, fun h => pig3 n l h.1 h.2 hl⟩
theorem okOrder_take {l : List Int} {n k : Nat} (h : okOrder (l.take k) n) (hk : k < l.length) (h1 : 0 ≤ l[k] ∧ l[k] < n) (h2 : ¬ l[k] ∈ l.take k) : okOrder (l.take (k + 1)) n := by
  rw [List.take_succ_eq_append_getElem hk]
  refine ⟨List.nodup_append.2 ⟨h.1, by simp, fun a ha b hb => ?_⟩, fun x hx => ?_⟩
  · rw [List.mem_singleton.1 hb]
    rintro rfl
    exact h2 ha
  · rcases List.mem_append.1 hx with hx | hx
    · exact h.2 x hx
    · rw [List.mem_singleton.1 hx]; exact h1
theorem not_ok_range {l : List Int} {n k : Nat} (hk : k < l.length) (h : ¬ (0 ≤ l[k] ∧ l[k] < n)) : ¬ okOrder l n := fun ho => h (ho.2 _ (List.getElem_mem hk))
theorem not_ok_dup {l : List Int} {n k : Nat} (hk : k < l.length) (h : l[k] ∈ l.take k) : ¬ okOrder l n := fun ho => by
  have e : l = l.take k ++ (l[k] :: l.drop (k + 1)) := by rw [← List.drop_eq_getElem_cons hk, List.take_append_drop]
  have hd : (l.take k ++ (l[k] :: l.drop (k + 1))).Nodup := by rw [← e]; exact ho.1
  exact (List.nodup_append.1 hd).2.2 l[k] h l[k] List.mem_cons_self rfl
/-- Where a section is. -/
def plc (l : List Int) (i : Int) : Int := idxOf (fun x => decide (x = i)) l
theorem plc_at {l : List Int} {k : Nat} (hk : k < l.length) (h : ¬ l[k] ∈ l.take k) : plc l l[k] = k :=
  idxOf_at (p := fun x => decide (x = l[k])) hk (by simp) (fun j hj hjk => by
    refine decide_eq_false fun e => h ?_
    rw [← e]
    exact List.mem_take_iff_getElem.2 ⟨j, by omega, by simp⟩)
theorem plc_bd {l : List Int} {i : Int} (h : i ∈ l) : 0 ≤ plc l i ∧ plc l i < l.length := by
  have h1 := idxOf_lt (fun x => decide (x = i)) l
  have h2 := idxOf_any (fun x => decide (x = i)) l
  have h3 : l.any (fun x => decide (x = i)) = true := List.any_eq_true.2 ⟨i, h, by simp⟩
  rw [h3] at h2
  have h4 := of_decide_eq_true h2
  exact ⟨h4, h1.2⟩
/-- How far the calls of the first k edges go. -/
def farS (l : List Int) : List Edg → Int
  | [] => 0
  | e :: es => e.count * max (plc l e.from_ - plc l e.to_) (-(plc l e.from_ - plc l e.to_)) + farS l es
theorem farS_snoc (l : List Int) : ∀ (es : List Edg) (e : Edg), farS l (es ++ [e]) = farS l es + e.count * max (plc l e.from_ - plc l e.to_) (-(plc l e.from_ - plc l e.to_))
  | [], e => by simp [farS]
  | x :: es, e => by rw [List.cons_append, farS, farS_snoc l es e, farS]; omega
def callsFar (many : Int) (es : List Edg) (l : List Int) : Int := if edgesOk many es = true ∧ (l.length : Int) = many ∧ hasAll l l.length = true then farS l es else -1
theorem edgesOk_parts {many : Int} {xs : List Edg} (h : edgesOk many xs = true) : (1 ≤ many ∧ many ≤ 8) ∧ xs.length ≤ 12 ∧ ∀ k, (hk : k < xs.length) → (0 ≤ xs[k].from_ ∧ xs[k].from_ ≤ many - 1) ∧ (0 ≤ xs[k].to_ ∧ xs[k].to_ ≤ many - 1) ∧ xs[k].from_ ≠ xs[k].to_ ∧ (1 ≤ xs[k].count ∧ xs[k].count ≤ 60000) := by
  unfold edgesOk at h
  rw [Bool.and_eq_true, Bool.and_eq_true] at h
  obtain ⟨⟨h1, h2⟩, h3⟩ := h
  refine ⟨inB_iff.1 h1, of_decide_eq_true h2, fun k hk => ?_⟩
  rw [List.all_eq_true] at h3
  have := h3 _ (List.getElem_mem hk)
  unfold edgeOk at this
  rw [Bool.and_eq_true, Bool.and_eq_true, Bool.and_eq_true] at this
  obtain ⟨⟨⟨a, b⟩, c⟩, d⟩ := this
  exact ⟨inB_iff.1 a, inB_iff.1 b, by simpa using c, inB_iff.1 d⟩
theorem mul_max_bd {c d : Int} (h1 : 0 ≤ c) (h2 : c ≤ 60000) (h3 : -8 ≤ d) (h4 : d ≤ 8) : 0 ≤ c * max d (-d) ∧ c * max d (-d) ≤ 480000 := by
  have hm : 0 ≤ max d (-d) ∧ max d (-d) ≤ 8 := by omega
  refine ⟨Int.mul_nonneg h1 hm.1, ?_⟩
  have := Int.mul_le_mul h2 hm.2 hm.1 (by omega)
  omega
theorem farS_bd {l : List Int} : ∀ (es : List Edg), (∀ e ∈ es, (0 ≤ e.count ∧ e.count ≤ 60000) ∧ -8 ≤ plc l e.from_ - plc l e.to_ ∧ plc l e.from_ - plc l e.to_ ≤ 8) → 0 ≤ farS l es ∧ farS l es ≤ 480000 * es.length
  | [], _ => by simp [farS]
  | e :: es, h => by
    have ih := farS_bd es (fun x hx => h x (by simp [hx]))
    obtain ⟨⟨h1, h2⟩, h3, h4⟩ := h e (by simp)
    have := mul_max_bd h1 h2 h3 h4
    simp only [farS, List.length_cons]
    omega
end Go.Proofs.Ytgibmbjdnppiaaa
