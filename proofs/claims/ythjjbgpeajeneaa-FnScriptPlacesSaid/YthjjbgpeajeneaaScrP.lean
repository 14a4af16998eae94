/- Plain words on where the parts of a script begin. No program, no condition. -/
import Derived.Test.YthjjbgpeajeneaaScrV
import Derived.Test.YthjjbgpeajeneaaAreV
namespace Go.Proofs.Ythjjbgpeajeneaa
open Go Go.RowKit

theorem script_three {p q r : Prt} (h : scriptOk [p, q, r] = true) : ((1 ≤ p.kind ∧ p.kind ≤ 3) ∧ (1 ≤ q.kind ∧ q.kind ≤ 3) ∧ (1 ≤ r.kind ∧ r.kind ≤ 3)) ∧ (p.kind ≠ q.kind ∧ p.kind ≠ r.kind ∧ q.kind ≠ r.kind) ∧ alOk p.align = true ∧ alOk q.align = true ∧ alOk r.align = true := by
  unfold scriptOk at h
  simp only [scGo, Bool.and_eq_true, Bool.and_false, Bool.or_false, Bool.not_false, Bool.false_or, Bool.not_eq_true', Bool.or_eq_false_iff, Bool.and_eq_false_iff, inB_iff, beq_eq_false_iff_ne, ne_eq] at h
  obtain ⟨⟨⟨⟨h1, _⟩, h2⟩, ⟨⟨h3, h4⟩, h5⟩, ⟨⟨h6, h7⟩, h8⟩, _⟩, _⟩ := h
  exact ⟨⟨h1, h3, h6⟩, ⟨by omega, by omega, by omega⟩, h2, h5, h8⟩
theorem script_len {xs : List Prt} (h : scriptOk xs = true) : xs.length = 3 := by
  unfold scriptOk at h
  rw [Bool.and_eq_true] at h
  exact of_decide_eq_true h.2
theorem script_at {xs : List Prt} (h : scriptOk xs = true) {k : Nat} (hk : k < xs.length) : (1 ≤ xs[k].kind ∧ xs[k].kind ≤ 3) ∧ alOk xs[k].align = true := by
  have hl := script_len h
  match xs, hl with
  | [p, q, r], _ =>
    obtain ⟨⟨h1, h2, h3⟩, _, a1, a2, a3⟩ := script_three h
    match k, hk with
    | 0, _ => exact ⟨h1, a1⟩
    | 1, _ => exact ⟨h2, a2⟩
    | 2, _ => exact ⟨h3, a3⟩
theorem script_all {xs : List Prt} (h : scriptOk xs = true) {j : Nat} (hj : j < 3) : ∃ k, ∃ hk : k < xs.length, xs[k].kind = (j : Int) + 1 := by
  have hl := script_len h
  match xs, hl with
  | [p, q, r], _ =>
    obtain ⟨⟨h1, h2, h3⟩, ⟨d1, d2, d3⟩, _⟩ := script_three h
    by_cases e1 : p.kind = (j : Int) + 1
    · exact ⟨0, by simp, e1⟩
    · by_cases e2 : q.kind = (j : Int) + 1
      · exact ⟨1, by simp, e2⟩
      · exact ⟨2, by simp, by show r.kind = (j : Int) + 1; omega⟩
/-- The next multiple. -/
def upP (n al : Int) : Int := (n + al - 1) / al * al
theorem alOk_bd {al : Int} (h : alOk al = true) : 1 ≤ al ∧ al ≤ 64 := by rcases (alOk_iff al).1 h with h | h | h | h | h | h | h <;> omega
theorem upP_bd {n al : Int} (h : alOk al = true) : n ≤ upP n al ∧ upP n al ≤ n + 63 := by
  unfold upP
  rcases (alOk_iff al).1 h with h | h | h | h | h | h | h <;> subst h <;> omega
def spStep (ss : List Int) (st : List Int × Int) (p : Prt) : List Int × Int := (st.1.set (p.kind - 1).toNat (upP st.2 p.align), upP st.2 p.align + ss.getD (p.kind - 1).toNat 0)
def spRun (ss : List Int) (xs : List Prt) (base : Int) : List Int × Int := xs.foldl (spStep ss) ([0, 0, 0], base)
theorem spRun_take {ss : List Int} {xs : List Prt} {base : Int} {k : Nat} (hk : k < xs.length) : spRun ss (xs.take (k + 1)) base = spStep ss (spRun ss (xs.take k) base) xs[k] := by
  unfold spRun
  rw [List.take_succ_eq_append_getElem hk, List.foldl_append]
  rfl
def spOk (xs : List Prt) (ss : List Int) (base : Int) : Bool := (scriptOk xs && decide (ss.length = 3)) && (valsOk ss && inB base 0 60000)
def spL (xs : List Prt) (ss : List Int) (base : Int) : List Int := if spOk xs ss base = true then (spRun ss xs base).1 else []
def spE (xs : List Prt) (ss : List Int) (base : Int) : Int := if spOk xs ss base = true then (spRun ss xs base).2 else -1
theorem sp_no {xs : List Prt} {ss : List Int} {base : Int} (h : spOk xs ss base = false) : spL xs ss base = [] ∧ spE xs ss base = -1 := by
  unfold spL spE
  rw [h]
  exact ⟨rfl, rfl⟩
theorem sp_yes {xs : List Prt} {ss : List Int} {base : Int} (h : spOk xs ss base = true) : spL xs ss base = (spRun ss xs base).1 ∧ spE xs ss base = (spRun ss xs base).2 := by
  unfold spL spE
  rw [h]
  exact ⟨rfl, rfl⟩
theorem spRun_len (ss : List Int) (xs : List Prt) : ∀ (st : List Int × Int), (xs.foldl (spStep ss) st).1.length = st.1.length := by
  induction xs with
  | nil => intro st; rfl
  | cons x xs ih => intro st; rw [List.foldl_cons, ih]; simp [spStep]
theorem spL_len (xs : List Prt) (ss : List Int) (base : Int) : (spL xs ss base).length ≤ 3 := by
  unfold spL
  split
  · unfold spRun; rw [spRun_len ss]; simp
  · simp
end Go.Proofs.Ythjjbgpeajeneaa
