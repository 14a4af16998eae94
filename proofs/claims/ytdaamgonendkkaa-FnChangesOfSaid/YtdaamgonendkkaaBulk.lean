/- The sum of the sizes of strings. No condition. -/
import Derived.Test.YtdaamgonendkkaaBase2
namespace Go.Proofs.Ytdaamgonendkkaa
open Go Go.RowKit

def bulk (xs : List ByteArray) : Int := (xs.map fun s => (s.size : Int)).sum
theorem bulk_take (xs : List ByteArray) {k : Nat} (hk : k < xs.length) : bulk (xs.take (k + 1)) = bulk (xs.take k) + xs[k].size := by
  unfold bulk
  rw [List.take_succ_eq_append_getElem hk, List.map_append, List.sum_append]
  simp only [List.map_cons, List.map_nil, List.sum_cons, List.sum_nil, Int.add_zero]
theorem bulk_nonneg (xs : List ByteArray) : 0 ≤ bulk xs := by
  unfold bulk
  induction xs with
  | nil => simp
  | cons x xs ih => simp only [List.map_cons, List.sum_cons]; omega
theorem bulk_le (xs : List ByteArray) (k : Nat) : bulk (xs.take k) ≤ bulk xs := by
  have h : bulk xs = bulk (xs.take k) + bulk (xs.drop k) := by
    unfold bulk
    rw [← List.sum_append, ← List.map_append, List.take_append_drop]
  have := bulk_nonneg (xs.drop k)
  omega
theorem bulk_at (xs : List ByteArray) {k : Nat} (hk : k < xs.length) : (xs[k].size : Int) ≤ bulk xs := by
  have h1 := bulk_take xs hk
  have h2 := bulk_le xs (k + 1)
  have h3 := bulk_nonneg (xs.take k)
  omega


theorem bulk_mem {xs : List ByteArray} {s : ByteArray} (h : s ∈ xs) : (s.size : Int) ≤ bulk xs := by
  obtain ⟨i, hi, rfl⟩ := List.getElem_of_mem h
  exact bulk_at xs hi
end Go.Proofs.Ytdaamgonendkkaa
