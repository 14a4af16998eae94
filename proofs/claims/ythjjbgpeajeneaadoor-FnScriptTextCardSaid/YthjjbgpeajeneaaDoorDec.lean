/- Plain words on decimal numbers below a hundred, and on a text that is parted at a byte. No condition. -/
import Derived.Lib.AtoiAll
import Derived.Lib.ItoaNum
import Derived.Lib.IndexMore
namespace Go.Proofs.YthjjbgpeajeneaaDoor
open Go
/-- The digits of a number below a hundred. -/
def dec2 (n : Nat) : List UInt8 := if n < 10 then [UInt8.ofNat (48 + n)] else [UInt8.ofNat (48 + n / 10), UInt8.ofNat (48 + n % 10)]
theorem dec2_eq {n : Nat} (h : n < 100) : Lib.decDigits n = dec2 n := by
  unfold dec2
  by_cases h1 : n < 10
  · rw [if_pos h1, Lib.decDigits_one h1]
  · rw [if_neg h1, Lib.decDigits_two h1 h]
theorem dec2_all : ∀ n : Fin 100, Lib.atoiAll (dec2 n.val) = .ok (n.val : Int) ∧ (dec2 n.val).all (fun c => decide (48 ≤ c.toNat ∧ c.toNat ≤ 57)) = true ∧ 1 ≤ (dec2 n.val).length ∧ (dec2 n.val).length ≤ 2 := by decide +kernel
theorem dec2_atoi {n : Nat} (h : n < 100) : Lib.atoiAll (dec2 n) = .ok (n : Int) := (dec2_all ⟨n, h⟩).1
theorem dec2_digit {n : Nat} (h : n < 100) {c : UInt8} (hc : c ∈ dec2 n) : 48 ≤ c.toNat ∧ c.toNat ≤ 57 := by
  have := List.all_eq_true.1 (dec2_all ⟨n, h⟩).2.1 c hc
  simpa using this
theorem dec2_len {n : Nat} (h : n < 100) : 1 ≤ (dec2 n).length ∧ (dec2 n).length ≤ 2 := (dec2_all ⟨n, h⟩).2.2
theorem dec2_inj {n m : Nat} (h : n < 100) (k : m < 100) (e : dec2 n = dec2 m) : n = m := by
  have h1 := dec2_atoi h
  rw [e, dec2_atoi k] at h1
  injection h1 with h1
  omega
/-- What stands before and behind the first byte c. -/
theorem index_at {c : UInt8} : ∀ (p q : List UInt8), c ∉ p → Lib.index (p ++ c :: q) [c] = (p.length : Int)
  | [], q, _ => by simp [Lib.index]
  | x :: p, q, h => by
    have hx : x ≠ c := fun e => h (by simp [e])
    have hp : c ∉ p := fun e => h (by simp [e])
    have ih := index_at p q hp
    rw [List.cons_append, Lib.index, ih]
    have h1 : ([c] : List UInt8).isPrefixOf (x :: (p ++ c :: q)) = false := by simp [List.isPrefixOf, hx.symm]
    rw [h1]
    simp
theorem index_no {c : UInt8} : ∀ (p : List UInt8), c ∉ p → Lib.index p [c] = -1
  | [], _ => by simp [Lib.index]
  | x :: p, h => by
    have hx : x ≠ c := fun e => h (by simp [e])
    have hp : c ∉ p := fun e => h (by simp [e])
    rw [Lib.index, index_no p hp]
    have h1 : ([c] : List UInt8).isPrefixOf (x :: p) = false := by simp [List.isPrefixOf, hx.symm]
    rw [h1]
    simp
theorem cut_at {c : UInt8} {p q : List UInt8} (h : c ∉ p) : Lib.cut (p ++ c :: q) [c] = (p, q, true) := by
  unfold Lib.cut
  rw [index_at p q h, if_pos (by omega)]
  simp
theorem cut_no {c : UInt8} {p : List UInt8} (h : c ∉ p) : Lib.cut p [c] = (p, [], false) := by
  unfold Lib.cut
  rw [index_no p h, if_neg (by omega)]
theorem cut_len (s : List UInt8) (c : UInt8) : (Lib.cut s [c]).1.length ≤ s.length ∧ (Lib.cut s [c]).2.1.length ≤ s.length := by
  unfold Lib.cut
  split <;> simp <;> omega
/-- Where the last c stands. -/
theorem last_at {c : UInt8} : ∀ {p q p' q' : List UInt8}, p ++ c :: q = p' ++ c :: q' → c ∉ q → c ∉ q' → p = p' ∧ q = q'
  | [], q, [], q', h, _, _ => by simpa using h
  | [], q, x :: p', q', h, hq, _ => by
    simp only [List.nil_append, List.cons_append, List.cons.injEq] at h
    exact absurd (by rw [h.2]; simp) hq
  | x :: p, q, [], q', h, _, hq' => by
    simp only [List.nil_append, List.cons_append, List.cons.injEq] at h
    exact absurd (by rw [← h.2]; simp) hq'
  | x :: p, q, y :: p', q', h, hq, hq' => by
    simp only [List.cons_append, List.cons.injEq] at h
    obtain ⟨h1, h2⟩ := last_at h.2 hq hq'
    exact ⟨by rw [h.1, h1], h2⟩
theorem first_at {c : UInt8} {p q p' q' : List UInt8} (h : p ++ c :: q = p' ++ c :: q') (hp : c ∉ p) (hp' : c ∉ p') : p = p' ∧ q = q' := by
  have h1 := cut_at (q := q) hp
  rw [h, cut_at hp'] at h1
  injection h1 with h1 h2
  injection h2 with h2 _
  exact ⟨h1.symm, h2.symm⟩
end Go.Proofs.YthjjbgpeajeneaaDoor
