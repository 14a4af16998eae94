/- Plain law of choosing edges one after the other. No condition. -/
import Derived.Test.YtgibmbjdnppiaaaBase
import Derived.Test.YtgibmbjdnppiaaaEdge
import Derived.Test.YtgibmbjdnppiaaaEdgeV
import Derived.Test.YtgibmbjdnppiaaaCallP
import Derived.Test.YtgibmbjdnppiaaaOrdP
namespace Go.Proofs.Ytgibmbjdnppiaaa
open Go Go.RowKit

def te (es : List Edg) (i : Nat) : TE := (es.getD i default, i)
/-- k is not taken before i. -/
def nb (es : List Edg) (k i : Nat) : Prop := bef (te es k) (te es i) = false
structure Sel (es : List Edg) (os : List Nat) : Prop where
  nd : os.Nodup
  lt : ∀ i ∈ os, i < es.length
  pw : os.Pairwise (fun i k => nb es k i)
  rest : ∀ i ∈ os, ∀ k, k < es.length → ¬ k ∈ os → nb es k i
structure Best (es : List Edg) (os : List Nat) (k b : Nat) : Prop where
  lt : b < k
  no : ¬ b ∈ os
  all : ∀ j, j < k → ¬ j ∈ os → nb es j b
theorem nb_iff {es : List Edg} {k i : Nat} : nb es k i ↔ ¬ ((es.getD i default).count < (es.getD k default).count ∨ ((es.getD k default).count = (es.getD i default).count ∧ k < i)) := bef_not
theorem nb_self (es : List Edg) (k : Nat) : nb es k k := by rw [nb_iff]; omega
section
variable {es : List Edg} {os : List Nat} {k b : Nat}
theorem Best.first (h : ∀ j, j < k → j ∈ os) (hk : ¬ k ∈ os) : Best es os (k + 1) k :=
  ⟨by omega, hk, fun j hj hn => by
    by_cases hjk : j < k
    · exact absurd (h j hjk) hn
    · obtain rfl : j = k := by omega
      exact nb_self es j⟩
theorem Best.more (h : Best es os k b) (hk : ¬ k ∈ os) (hc : (es.getD b default).count < (es.getD k default).count) : Best es os (k + 1) k :=
  ⟨by omega, hk, fun j hj hn => by
    by_cases hjk : j < k
    · have := nb_iff.1 (h.all j hjk hn)
      rw [nb_iff]; omega
    · obtain rfl : j = k := by omega
      exact nb_self es j⟩
theorem Best.keep (h : Best es os k b) (hc : k ∈ os ∨ ¬ (es.getD b default).count < (es.getD k default).count) : Best es os (k + 1) b :=
  ⟨by have := h.lt; omega, h.no, fun j hj hn => by
    by_cases hjk : j < k
    · exact h.all j hjk hn
    · obtain rfl : j = k := by omega
      rcases hc with hc | hc
      · exact absurd hc hn
      · have := h.lt
        rw [nb_iff]; omega⟩
theorem Sel.nil (es : List Edg) : Sel es [] := ⟨List.nodup_nil, fun _ h => by simp at h, List.Pairwise.nil, fun _ h => by simp at h⟩
theorem Sel.step (h : Sel es os) (hb : Best es os es.length b) : Sel es (os ++ [b]) :=
  ⟨List.nodup_append.2 ⟨h.nd, by simp, fun x hx y hy => by rw [List.mem_singleton.1 hy]; rintro rfl; exact hb.no hx⟩,
   fun i hi => by
    rcases List.mem_append.1 hi with hi | hi
    · exact h.lt i hi
    · rw [List.mem_singleton.1 hi]; exact hb.lt,
   List.pairwise_append.2 ⟨h.pw, List.pairwise_singleton _ _, fun i hi k hk => by rw [List.mem_singleton.1 hk]; exact h.rest i hi b hb.lt hb.no⟩,
   fun i hi k hk hn => by
    rw [List.mem_append, List.mem_singleton, not_or] at hn
    rcases List.mem_append.1 hi with hi | hi
    · exact h.rest i hi k hk hn.1
    · rw [List.mem_singleton.1 hi]; exact hb.all k hk hn.1⟩
theorem all_len : ∀ (n : Nat) (l : List Nat), (∀ i, i < n → i ∈ l) → n ≤ l.length
  | 0, _, _ => Nat.zero_le _
  | n + 1, l, h => by
    have hm := h n (by omega)
    have ih := all_len n (l.erase n) (fun i hi => (List.mem_erase_of_ne (by omega)).2 (h i (by omega)))
    rw [List.length_erase_of_mem hm] at ih
    have : 0 < l.length := List.length_pos_of_mem hm
    omega
theorem nodup_all : ∀ (n : Nat) (l : List Nat), l.Nodup → (∀ x ∈ l, x < n) → l.length = n → ∀ i, i < n → i ∈ l := fun n l hn hl hlen i hi => by
  have h1 : (l.map (fun (x : Nat) => (x : Int))).Nodup := by
    rw [List.nodup_iff_pairwise_ne, List.pairwise_map]
    exact (List.nodup_iff_pairwise_ne.1 hn).imp (fun {a b} hab => by omega)
  have h2 := pig3 n (l.map (fun (x : Nat) => (x : Int))) h1 (fun x hx => by
    obtain ⟨y, hy, rfl⟩ := List.mem_map.1 hx
    have := hl y hy
    omega) (by simpa using hlen) i hi
  obtain ⟨y, hy, he⟩ := List.mem_map.1 h2
  have : y = i := by omega
  exact this ▸ hy
theorem zip_range (es : List Edg) : es.zipIdx = (List.range es.length).map (te es) := by
  apply List.ext_getElem
  · simp
  · intro i h1 h2
    simp at h1
    simp [te, h1]
theorem Sel.end_ (h : Sel es os) (hl : os.length = es.length) : os.map (fun i => es.getD i default) = sortE es := by
  have hp : os.Perm (List.range es.length) := by
    rw [List.perm_iff_count]
    intro a
    have h1 := List.nodup_iff_count.1 h.nd a
    have h2 := List.nodup_iff_count.1 (List.nodup_range (n := es.length)) a
    by_cases ha : a < es.length
    · have m1 := List.count_pos_iff.2 (nodup_all es.length os h.nd h.lt hl a ha)
      have m2 := List.count_pos_iff.2 (List.mem_range.2 ha)
      omega
    · have m1 : os.count a = 0 := List.count_eq_zero.2 (fun hm => ha (h.lt a hm))
      have m2 : (List.range es.length).count a = 0 := List.count_eq_zero.2 (fun hm => ha (List.mem_range.1 hm))
      omega
  have he : os.map (te es) = sortT es := by
    refine order_unique ?_ ?_
    · rw [zip_range]
      exact hp.map _
    · rw [List.pairwise_map]
      exact h.pw
  unfold sortE
  rw [← he, List.map_map]
  rfl
end
/-- Which edges were taken. -/
def doneT (n : Nat) (os : List Nat) : List Bool := (List.range n).map fun (j : Nat) => decide (j ∈ os)
theorem doneT_len (n : Nat) (os : List Nat) : (doneT n os).length = n := by simp [doneT]
theorem doneT_get {n : Nat} {os : List Nat} {j : Nat} (h : j < n) : (doneT n os)[j]'(by rw [doneT_len]; exact h) = decide (j ∈ os) := by simp [doneT]
theorem doneT_nil (n : Nat) : doneT n [] = List.replicate n false := by simp [doneT, List.map_const']
theorem doneT_set {n b : Nat} {os : List Nat} : (doneT n os).set b true = doneT n (os ++ [b]) := by
  refine List.ext_getElem (by rw [List.length_set, doneT_len, doneT_len]) fun j h1 h2 => ?_
  rw [doneT_len] at h2
  rw [List.getElem_set, doneT_get h2, doneT_get h2]
  by_cases hj : b = j
  · rw [if_pos hj]
    simp [hj]
  · rw [if_neg hj]
    have : ¬ j = b := fun e => hj e.symm
    simp [this]
end Go.Proofs.Ytgibmbjdnppiaaa
