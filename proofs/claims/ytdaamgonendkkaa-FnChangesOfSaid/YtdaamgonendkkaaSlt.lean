/- Plain words on texts that stand in ascending order, each once. No condition. -/
import Derived.Sort.Walk0
import Derived.Lib.SlicesCompact
import Derived.Lib.RowBridge
import Derived.Test.YtdaamgonendkkaaBase
import Derived.Test.YtdaamgonendkkaaName
namespace Go.Proofs.Ytdaamgonendkkaa
open Go

theorem bytesEq {a b : ByteArray} (h : a.data.toList = b.data.toList) : a = b := by
  obtain ⟨a⟩ := a
  obtain ⟨b⟩ := b
  exact congrArg ByteArray.mk (Array.ext' h)
/-- a stands before b. -/
def Lt8 (a b : ByteArray) : Prop := a.data.toList < b.data.toList
theorem Lt8.irr (a : ByteArray) : ¬ Lt8 a a := List.lt_irrefl _
theorem Lt8.trans {a b c : ByteArray} (h : Lt8 a b) (g : Lt8 b c) : Lt8 a c := List.lt_trans h g
theorem Lt8.tri (a b : ByteArray) : Lt8 a b ∨ a = b ∨ Lt8 b a := by
  by_cases h : Lt8 a b
  · exact .inl h
  · by_cases g : Lt8 b a
    · exact .inr (.inr g)
    · exact .inr (.inl (bytesEq (List.le_antisymm (List.not_lt.1 g) (List.not_lt.1 h))))
theorem less_iff {a b : ByteArray} : Op.bytesLess a.toList b.toList = true ↔ Lt8 a b := by
  rw [Go.ByteArray.toList_eq, Go.ByteArray.toList_eq, bytesLess_eq, decide_eq_true_iff]
  exact Iff.rfl
theorem less_true {a b : ByteArray} (h : Lt8 a b) : Op.bytesLess a.toList b.toList = true := less_iff.2 h
theorem less_false {a b : ByteArray} (h : ¬ Lt8 a b) : Op.bytesLess a.toList b.toList = false := by
  cases hq : Op.bytesLess a.toList b.toList with
  | false => rfl
  | true => exact absurd (less_iff.1 hq) h
/-- Ascending, each once. -/
def Asc (l : List ByteArray) : Prop := l.Pairwise Lt8
theorem Asc.nil : Asc [] := List.Pairwise.nil
theorem asc_one : ∀ {l m : List ByteArray}, Asc l → Asc m → (∀ x, x ∈ l ↔ x ∈ m) → l = m
  | [], [], _, _, _ => rfl
  | [], b :: m, _, _, h => absurd ((h b).2 (by simp)) (by simp)
  | a :: l, [], _, _, h => absurd ((h a).1 (by simp)) (by simp)
  | a :: l, b :: m, hl, hm, h => by
    obtain ⟨ha, hl'⟩ := List.pairwise_cons.1 hl
    obtain ⟨hb, hm'⟩ := List.pairwise_cons.1 hm
    have e : a = b := by
      rcases List.mem_cons.1 ((h a).1 (by simp)) with e | e
      · exact e
      · rcases List.mem_cons.1 ((h b).2 (by simp)) with e2 | e2
        · exact e2.symm
        · exact absurd ((ha b e2).trans (hb a e)) (Lt8.irr a)
    subst e
    have ht : ∀ x, x ∈ l ↔ x ∈ m := fun x => by
      constructor
      · intro hx
        rcases List.mem_cons.1 ((h x).1 (by simp [hx])) with e | e
        · subst e
          exact absurd (ha x hx) (Lt8.irr x)
        · exact e
      · intro hx
        rcases List.mem_cons.1 ((h x).2 (by simp [hx])) with e | e
        · subst e
          exact absurd (hb x hx) (Lt8.irr x)
        · exact e
    rw [asc_one hl' hm' ht]
theorem asc_at {l : List ByteArray} (h : Asc l) {i j : Nat} (hij : i < j) (hj : j < l.length) : Lt8 (l[i]'(by omega)) l[j] := List.pairwise_iff_getElem.1 h i j (by omega) hj hij
theorem asc_ins {l : List ByteArray} {x : ByteArray} {k : Nat} (h : Asc l) (hk : k ≤ l.length) (hlo : ∀ j (hj : j < l.length), j < k → Lt8 l[j] x) (hhi : ∀ (hj : k < l.length), Lt8 x l[k]) : Asc (l.take k ++ x :: l.drop k) := by
  have h2 : Asc (l.take k ++ l.drop k) := by rw [List.take_append_drop]; exact h
  obtain ⟨ht, hd, hc⟩ := List.pairwise_append.1 h2
  refine List.pairwise_append.2 ⟨ht, List.pairwise_cons.2 ⟨fun y hy => ?_, hd⟩, fun a ha b hb => ?_⟩
  · obtain ⟨i, hi, rfl⟩ := List.getElem_of_mem hy
    rw [List.length_drop] at hi
    rw [List.getElem_drop]
    have h0 := hhi (by omega)
    rcases Nat.eq_zero_or_pos i with h1 | h1
    · subst h1
      exact h0
    · exact h0.trans (asc_at h (by omega) (by omega))
  · rcases List.mem_cons.1 hb with rfl | hb
    · obtain ⟨i, hi, rfl⟩ := List.getElem_of_mem ha
      rw [List.length_take] at hi
      rw [List.getElem_take]
      exact hlo i (by omega) (by omega)
    · exact hc a ha b hb
theorem mem_ins {l : List ByteArray} {x y : ByteArray} {k : Nat} : y ∈ l.take k ++ x :: l.drop k ↔ y = x ∨ y ∈ l := by
  rw [List.mem_append, List.mem_cons]
  have h : y ∈ l ↔ y ∈ l.take k ∨ y ∈ l.drop k := by rw [← List.mem_append, List.take_append_drop]
  rw [h]
  constructor
  · rintro (h | h | h)
    · exact .inr (.inl h)
    · exact .inl h
    · exact .inr (.inr h)
  · rintro (h | h | h)
    · exact .inr (.inl h)
    · exact .inl h
    · exact .inr (.inr h)
/-- Names of slots. -/
def namesB (ns : List ByteArray) : Bool := decide (ns.length ≤ 40) && ns.all nameOk
def IsSlots (ns l : List ByteArray) : Prop := (namesB ns = true ∧ Asc l ∧ ∀ x, x ∈ l ↔ x ∈ ns) ∨ (namesB ns = false ∧ l = [])
theorem IsSlots.one {ns l m : List ByteArray} (h : IsSlots ns l) (g : IsSlots ns m) : l = m := by
  rcases h with ⟨h1, h2, h3⟩ | ⟨h1, h2⟩ <;> rcases g with ⟨g1, g2, g3⟩ | ⟨g1, g2⟩
  · exact asc_one h2 g2 (fun x => (h3 x).trans (g3 x).symm)
  · rw [h1] at g1; cases g1
  · rw [h1] at g1; cases g1
  · rw [h2, g2]
/-- Sorted and compacted. -/
def sortL (ns : List ByteArray) : List (List UInt8) := Lib.compact ((ns.map (·.data.toList)).mergeSort fun x y => decide (x ≤ y))
theorem compact_asc (d : Array (List UInt8)) (hs : ∀ i j, i < j → j < d.size → d[i]! ≤ d[j]!) : ∀ m, m ≤ d.size → (Lib.compactUpTo d m).Pairwise (· < ·) ∧ (∀ x ∈ Lib.compactUpTo d m, ∃ j, j < m ∧ d[j]! = x) ∧ ∀ j, j < m → d[j]! ∈ Lib.compactUpTo d m
  | 0, _ => ⟨by simp [Lib.compactUpTo], fun x hx => by simp [Lib.compactUpTo] at hx, fun j hj => by omega⟩
  | m + 1, hm => by
    obtain ⟨h1, h2, h3⟩ := compact_asc d hs m (by omega)
    rw [Lib.compactUpTo_succ]
    cases hk : Lib.keeps d m with
    | true =>
      rw [if_pos rfl]
      refine ⟨List.pairwise_append.2 ⟨h1, List.pairwise_singleton _ _, fun a ha b hb => ?_⟩, fun x hx => ?_, fun j hj => ?_⟩
      · have := List.mem_singleton.1 hb
        subst this
        obtain ⟨j, hj, rfl⟩ := h2 a ha
        have hne : d[m]! ≠ d[m - 1]! := by
          unfold Lib.keeps at hk
          have := of_decide_eq_true hk
          rcases this with h | h
          · omega
          · exact h
        have hle : d[m - 1]! ≤ d[m]! := hs (m - 1) m (by omega) (by omega)
        have hlt : d[m - 1]! < d[m]! := by
          rcases List.le_iff_lt_or_eq.1 hle with h | h
          · exact h
          · exact absurd h.symm hne
        by_cases hj2 : j = m - 1
        · rw [hj2]; exact hlt
        · exact List.lt_of_le_of_lt (hs j (m - 1) (by omega) (by omega)) hlt
      · rcases List.mem_append.1 hx with hx | hx
        · obtain ⟨j, hj, e⟩ := h2 x hx
          exact ⟨j, by omega, e⟩
        · exact ⟨m, by omega, (List.mem_singleton.1 hx).symm⟩
      · by_cases hjm : j = m
        · subst hjm
          simp
        · exact List.mem_append.2 (.inl (h3 j (by omega)))
    | false =>
      rw [if_neg (by simp), List.append_nil]
      refine ⟨h1, fun x hx => ?_, fun j hj => ?_⟩
      · obtain ⟨j, hj, e⟩ := h2 x hx
        exact ⟨j, by omega, e⟩
      · by_cases hjm : j = m
        · subst hjm
          unfold Lib.keeps at hk
          have := of_decide_eq_false hk
          have h0 : j ≠ 0 := fun e => this (.inl e)
          have he : d[j]! = d[j - 1]! := Classical.byContradiction fun e => this (.inr e)
          rw [he]
          exact h3 (j - 1) (by omega)
        · exact h3 j (by omega)
theorem sortL_slots {ns : List ByteArray} (h : namesB ns = true) : IsSlots ns ((sortL ns).map fun l => ⟨l.toArray⟩) := by
  refine .inl ⟨h, ?_⟩
  have hp := List.pairwise_mergeSort (le := fun x y : List UInt8 => decide (x ≤ y)) (fun a b c h1 h2 => decide_eq_true (List.le_trans (of_decide_eq_true h1) (of_decide_eq_true h2))) (fun a b => by
    rcases List.le_total a b with h | h
    · simp [h]
    · simp [h]) (ns.map (·.data.toList))
  have hm := List.mergeSort_perm (ns.map (·.data.toList)) (fun x y : List UInt8 => decide (x ≤ y))
  unfold sortL Lib.compact
  generalize (ns.map (·.data.toList)).mergeSort (fun x y : List UInt8 => decide (x ≤ y)) = zs at *
  have hs : ∀ i j, i < j → j < zs.toArray.size → zs.toArray[i]! ≤ zs.toArray[j]! := fun i j hij hj => by
    have hj' : j < zs.length := by simpa using hj
    have h1 := List.pairwise_iff_getElem.1 hp i j (by omega) hj' hij
    have h2 := of_decide_eq_true h1
    simpa [getElem!_pos, hj', show i < zs.length by omega] using h2
  obtain ⟨h1, h2, h3⟩ := compact_asc zs.toArray hs zs.length (by simp)
  refine ⟨List.pairwise_map.2 (h1.imp fun {a b} hab => by show (⟨a.toArray⟩ : ByteArray).data.toList < (⟨b.toArray⟩ : ByteArray).data.toList; simpa using hab), fun x => ?_⟩
  rw [List.mem_map]
  constructor
  · rintro ⟨l, hl, rfl⟩
    obtain ⟨j, hj, e⟩ := h2 l hl
    have hj' : j < zs.length := hj
    have hz : l ∈ zs := by
      rw [← e]
      simp only [getElem!_pos, List.size_toArray, hj', List.getElem_toArray]
      exact List.getElem_mem _
    have hz2 := hm.mem_iff.1 hz
    obtain ⟨y, hy, e2⟩ := List.mem_map.1 hz2
    have : y = ⟨l.toArray⟩ := bytesEq (by simpa using e2)
    rw [← this]
    exact hy
  · intro hx
    have hz := hm.mem_iff.2 (List.mem_map.2 ⟨x, hx, rfl⟩)
    obtain ⟨j, hj, e⟩ := List.getElem_of_mem hz
    have h4 := h3 j hj
    simp only [getElem!_pos, List.size_toArray, hj, List.getElem_toArray, e] at h4
    exact ⟨x.data.toList, h4, bytesEq (by simp)⟩
theorem sortL_len (ns : List ByteArray) : (sortL ns).length ≤ ns.length := by
  have h := Lib.compact_length_le ((ns.map (·.data.toList)).mergeSort fun x y => decide (x ≤ y))
  rw [List.length_mergeSort, List.length_map] at h
  exact h
end Go.Proofs.Ytdaamgonendkkaa
