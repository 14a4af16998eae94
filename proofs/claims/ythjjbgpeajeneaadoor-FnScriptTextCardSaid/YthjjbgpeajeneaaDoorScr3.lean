/- Plain words on valid scripts. No program, no condition. -/
import Derived.Test.YthjjbgpeajeneaaDoorScrV
namespace Go.Proofs.YthjjbgpeajeneaaDoor
open Go Go.RowKit

theorem script_three {p q r : Prt} (h : scriptOk [p, q, r] = true) : ((1 ≤ p.kind ∧ p.kind ≤ 3) ∧ (1 ≤ q.kind ∧ q.kind ≤ 3) ∧ (1 ≤ r.kind ∧ r.kind ≤ 3)) ∧ (p.kind ≠ q.kind ∧ p.kind ≠ r.kind ∧ q.kind ≠ r.kind) ∧ alOk p.align = true ∧ alOk q.align = true ∧ alOk r.align = true := by
  unfold scriptOk at h
  simp only [scGo, Bool.and_eq_true, Bool.and_false, Bool.or_false, Bool.not_false, Bool.false_or, Bool.not_eq_true', Bool.or_eq_false_iff, Bool.and_eq_false_iff, inB_iff, beq_eq_false_iff_ne, ne_eq] at h
  obtain ⟨⟨⟨⟨h1, _⟩, h2⟩, ⟨⟨h3, h4⟩, h5⟩, ⟨⟨h6, h7⟩, h8⟩, _⟩, _⟩ := h
  exact ⟨⟨h1, h3, h6⟩, ⟨by omega, by omega, by omega⟩, h2, h5, h8⟩
theorem script_len {xs : List Prt} (h : scriptOk xs = true) : xs.length = 3 := by
  unfold scriptOk at h
  rw [Bool.and_eq_true] at h
  exact of_decide_eq_true h.2
theorem script_at {xs : List Prt} (h : scriptOk xs = true) {k : Nat} (hk : k < xs.length) : (1 ≤ xs[k].kind ∧ xs[k].kind ≤ 3) ∧ alOk xs[k].align = true := by
  have hl := script_len h
  match xs, hl with
  | [p, q, r], _ =>
    obtain ⟨⟨h1, h2, h3⟩, _, a1, a2, a3⟩ := script_three h
    match k, hk with
    | 0, _ => exact ⟨h1, a1⟩
    | 1, _ => exact ⟨h2, a2⟩
    | 2, _ => exact ⟨h3, a3⟩
theorem script_all {xs : List Prt} (h : scriptOk xs = true) {j : Nat} (hj : j < 3) : ∃ k, ∃ hk : k < xs.length, xs[k].kind = (j : Int) + 1 := by
  have hl := script_len h
  match xs, hl with
  | [p, q, r], _ =>
    obtain ⟨⟨h1, h2, h3⟩, ⟨d1, d2, d3⟩, _⟩ := script_three h
    by_cases e1 : p.kind = (j : Int) + 1
    · exact ⟨0, by simp, e1⟩
    · by_cases e2 : q.kind = (j : Int) + 1
      · exact ⟨1, by simp, e2⟩
      · exact ⟨2, by simp, by show r.kind = (j : Int) + 1; omega⟩
theorem alOk_bd {al : Int} (h : alOk al = true) : 1 ≤ al ∧ al ≤ 64 := by rcases (alOk_iff al).1 h with h | h | h | h | h | h | h <;> omega
end Go.Proofs.YthjjbgpeajeneaaDoor
