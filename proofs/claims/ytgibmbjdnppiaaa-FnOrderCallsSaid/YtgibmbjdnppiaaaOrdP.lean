/- Plain law of orders of sections: sorting edges, joining chains. No condition. -/
import Derived.Sort.LotA
import Derived.Shelf.SlSortCmp.Insertion
import Derived.Test.YtgibmbjdnppiaaaBase
import Derived.Test.YtgibmbjdnppiaaaEdge
import Derived.Test.YtgibmbjdnppiaaaEdgeV
import Derived.Test.YtgibmbjdnppiaaaCallP
namespace Go.Proofs.Ytgibmbjdnppiaaa
open Go Go.RowKit

/-- An edge with its place. -/
abbrev TE := Edg × Nat
/-- x is taken before y. -/
def bef (x y : TE) : Bool := decide (y.1.count < x.1.count) || (decide (x.1.count = y.1.count) && decide (x.2 < y.2))
/-- More calls. -/
def mor (x y : TE) : Bool := decide (y.1.count < x.1.count)
theorem bef_iff {x y : TE} : bef x y = true ↔ y.1.count < x.1.count ∨ (x.1.count = y.1.count ∧ x.2 < y.2) := by
  unfold bef; simp
theorem bef_not {x y : TE} : bef x y = false ↔ ¬ (y.1.count < x.1.count ∨ (x.1.count = y.1.count ∧ x.2 < y.2)) := by
  rw [← bef_iff]; simp
theorem swo_bef : Go.Sort.SWO bef := ⟨fun x => by rw [bef_not]; omega, fun x y z h1 h2 => by rw [bef_iff] at *; omega, fun x y z h1 h2 => by rw [bef_not] at *; omega⟩
/-- The edges with their places, from the greatest count on, and as they stand for equal ones. -/
def sortT (es : List Edg) : List TE := es.zipIdx.mergeSort (fun x y => !bef y x)
def sortE (es : List Edg) : List Edg := (sortT es).map Prod.fst
theorem zip_eq {es : List Edg} {a b : TE} (ha : a ∈ es.zipIdx) (hb : b ∈ es.zipIdx) (h : a.2 = b.2) : a = b := by
  obtain ⟨x, i⟩ := a
  obtain ⟨y, j⟩ := b
  simp only at h
  subst h
  have h1 := List.mem_zipIdx_iff_getElem?.1 ha
  have h2 := List.mem_zipIdx_iff_getElem?.1 hb
  simp only at h1 h2
  rw [h1] at h2
  injection h2 with h2
  subst h2
  rfl
theorem order_unique {es : List Edg} {l : List TE} (hp : l.Perm es.zipIdx) (hs : l.Pairwise (fun x y => bef y x = false)) : l = sortT es := by
  have hp2 : (sortT es).Perm es.zipIdx := List.mergeSort_perm _ _
  have hs2 : (sortT es).Pairwise (fun x y => (!bef y x) = true) := List.pairwise_mergeSort (fun a b c h1 h2 => by
    simp only [Bool.not_eq_true'] at *
    rw [bef_not] at *; omega) (fun a b => by
    cases h : bef b a
    · simp
    · have : bef a b = false := by rw [bef_iff] at h; rw [bef_not]; omega
      simp [this]) _
  refine List.Perm.eq_of_pairwise (le := fun x y => bef y x = false) (fun a b ha hb h1 h2 => ?_) hs (hs2.imp (fun h => by simpa using h)) (hp.trans hp2.symm)
  refine zip_eq (hp.mem_iff.1 ha) (hp2.mem_iff.1 hb) ?_
  rw [bef_not] at h1 h2
  omega

section
open Go.Sort
instance : Inhabited TE := ⟨(default, 0)⟩
/-- The places ascend up to the place that is moved. -/
def AscJ (i j : Nat) (d : Array TE) : Prop := ∀ p q, p < q → q < d.size → (i < q ∨ q = j) → (d[p]!).2 < (d[q]!).2
theorem inner_same (i : Nat) : ∀ (j : Nat) (d : Array TE), j ≤ i → i < d.size → AscJ i j d → insInner mor 0 j d = insInner bef 0 j d ∧ (insInner bef 0 j d).size = d.size ∧ ∀ p q, p < q → q < d.size → i < q → ((insInner bef 0 j d)[p]!).2 < ((insInner bef 0 j d)[q]!).2
  | 0, d, _, _, h => ⟨rfl, rfl, fun p q h1 h2 h3 => h p q h1 h2 (.inl h3)⟩
  | j + 1, d, hj, hi, h => by
    have hb : mor d[j + 1]! d[j]! = bef d[j + 1]! d[j]! := by
      have := h j (j + 1) (by omega) (by omega) (.inr rfl)
      unfold mor bef
      rw [show decide ((d[j + 1]!).2 < (d[j]!).2) = false from decide_eq_false (by omega), Bool.and_false, Bool.or_false]
    rw [insInner, insInner, hb]
    by_cases hc : bef d[j + 1]! d[j]! = true
    · have hcond : (decide (j + 1 > 0) && bef d[j + 1]! d[j]!) = true := by simp [hc]
      rw [if_pos hcond, if_pos hcond]
      have hsz : (swp d (j + 1) j).size = d.size := size_swp d _ _
      have ih := inner_same i j (swp d (j + 1) j) (by omega) (by omega) (fun p q h1 h2 h3 => by
        rw [swp_get d (by omega) (by omega), swp_get d (by omega) (by omega)]
        have hq := h
        by_cases e1 : q = j
        · subst e1
          rw [if_pos rfl, if_neg (by omega), if_neg (by omega)]
          exact h p (q + 1) (by omega) (by omega) (.inr rfl)
        · have hiq : i < q := by omega
          rw [if_neg e1, if_neg (show ¬ q = j + 1 by omega)]
          split
          · exact h (j + 1) q (by omega) (by omega) (.inl hiq)
          · split
            · exact h j q (by omega) (by omega) (.inl hiq)
            · exact h p q h1 (by omega) (.inl hiq))
      rw [hsz] at ih
      exact ih
    · have hcond : ¬ (decide (j + 1 > 0) && bef d[j + 1]! d[j]!) = true := by simp [hc]
      rw [if_neg hcond, if_neg hcond]
      exact ⟨rfl, rfl, fun p q h1 h2 h3 => h p q h1 h2 (.inl h3)⟩
theorem outer_stop (lt : TE → TE → Bool) {b i : Nat} (d : Array TE) (h : ¬ i < b) : insOuter lt 0 b i d = d := by rw [insOuter, if_neg h]
theorem outer_step (lt : TE → TE → Bool) {b i : Nat} (d : Array TE) (h : i < b) : insOuter lt 0 b i d = insOuter lt 0 b (i + 1) (insInner lt 0 i d) := by
  conv => lhs; rw [insOuter]
  rw [if_pos h]
theorem outer_same (b : Nat) : ∀ (k i : Nat) (d : Array TE), b - i = k → b ≤ d.size → (∀ p q, p < q → q < d.size → i ≤ q → (d[p]!).2 < (d[q]!).2) → insOuter mor 0 b i d = insOuter bef 0 b i d
  | 0, i, d, hk, hb, h => by
    rw [outer_stop _ _ (by omega), outer_stop _ _ (by omega)]
  | k + 1, i, d, hk, hb, h => by
    rw [outer_step mor d (by omega), outer_step bef d (by omega)]
    obtain ⟨h1, h2, h3⟩ := inner_same i i d (Nat.le_refl _) (by omega) (fun p q hpq hq ho => h p q hpq hq (by omega))
    rw [h1]
    exact outer_same b k (i + 1) _ (by omega) (by omega) (fun p q hpq hq hi => h3 p q hpq (by omega) (by omega))
theorem zip_get (es : List Edg) (k : Nat) (hk : k < es.length) : es.zipIdx.toArray[k]! = (es[k], k) := by
  have : es.zipIdx.toArray[k]? = some (es[k], k) := by simp [hk]
  rw [Array.getElem!_eq_getD, Array.getD_eq_getD_getElem?, this]
  rfl
theorem sort_same (es : List Edg) : insertionSort mor es.zipIdx.toArray 0 es.length = insertionSort bef es.zipIdx.toArray 0 es.length := by
  unfold insertionSort
  refine outer_same _ _ _ _ rfl (by simp) (fun p q h1 h2 _ => ?_)
  have hq : q < es.length := by simpa using h2
  rw [zip_get es q hq, zip_get es p (by omega)]
  exact h1
theorem sort_list (es : List Edg) : (insertionSort mor es.zipIdx.toArray 0 es.length).toList = sortT es := by
  rw [sort_same]
  obtain ⟨⟨h1, h2, h3⟩, h4⟩ := insertionSort_holds swo_bef es.zipIdx.toArray 0 es.length (Nat.zero_le _) (by simp)
  have hz : es.zipIdx.toArray.size = es.length := by simp
  rw [hz] at h1
  refine order_unique ?_ ?_
  · have e1 : (insertionSort bef es.zipIdx.toArray 0 es.length).extract 0 es.length = insertionSort bef es.zipIdx.toArray 0 es.length := by
      exact Array.extract_eq_self_of_le (by omega)
    have e2 : es.zipIdx.toArray.extract 0 es.length = es.zipIdx.toArray := by
      exact Array.extract_eq_self_of_le (by omega)
    rw [e1, e2] at h3
    simpa using h3
  · rw [List.pairwise_iff_getElem]
    intro i j hi hj hij
    have hi' : i < (insertionSort bef es.zipIdx.toArray 0 es.length).size := by simpa using hi
    have hj' : j < (insertionSort bef es.zipIdx.toArray 0 es.length).size := by simpa using hj
    have := h4 i j (Nat.zero_le _) hij (by omega)
    rw [getElem!_pos _ i hi', getElem!_pos _ j hj'] at this
    simpa using this
theorem ltOf_mor : Go.Proofs.ltOf (fun x y : TE => Go.Lib.compareInt y.1.count x.1.count) = mor := by
  funext x y
  show decide (Go.Lib.compareInt y.1.count x.1.count < 0) = mor x y
  unfold Go.Lib.compareInt mor
  by_cases h : y.1.count < x.1.count
  · rw [if_pos h, decide_eq_true h]; rfl
  · rw [if_neg h, decide_eq_false h]
    by_cases h2 : y.1.count > x.1.count
    · rw [if_pos h2]; rfl
    · rw [if_neg h2]; rfl
end
theorem sortE_len (es : List Edg) : (sortE es).length = es.length := by
  unfold sortE sortT
  rw [List.length_map, List.length_mergeSort]
  simp
theorem sortE_mem {es : List Edg} {e : Edg} (h : e ∈ sortE es) : e ∈ es := by
  unfold sortE at h
  obtain ⟨t, ht, rfl⟩ := List.mem_map.1 h
  have h2 : t ∈ es.zipIdx := (List.mergeSort_perm _ _).mem_iff.1 ht
  exact (List.mem_zipIdx h2).2.2 ▸ List.getElem_mem _
/-- Each section a chain. -/
def chains0 (many : Nat) : List (List Int) := (List.range many).map (fun (k : Nat) => [(k : Int)])
/-- The chain that a section is in. -/
def idxC (cs : List (List Int)) (n : Int) : Nat := cs.findIdx (fun c => c.contains n)
def joinC (cs : List (List Int)) (a b : Nat) : List (List Int) := (cs.set a (cs.getD a [] ++ cs.getD b [])).eraseIdx b
def joinE (cs : List (List Int)) (e : Edg) : List (List Int) := if idxC cs e.from_ = idxC cs e.to_ then cs else joinC cs (idxC cs e.from_) (idxC cs e.to_)
def ordV (many : Nat) (es : List Edg) : List Int := ((sortE es).foldl joinE (chains0 many)).flatten
def ordR (many : Int) (es : List Edg) : List Int := if edgesOk many es = true then ordV many.toNat es else []
theorem cnt_erase (v : Int) : ∀ (l : List (List Int)) (b : Nat) (hb : b < l.length), (l.eraseIdx b).flatten.count v + l[b].count v = l.flatten.count v
  | [], _, hb => by simp at hb
  | x :: l, 0, _ => by simp; omega
  | x :: l, b + 1, hb => by
    have := cnt_erase v l b (by simpa using hb)
    simp only [List.eraseIdx_cons_succ, List.flatten_cons, List.count_append, List.getElem_cons_succ]
    omega
theorem cnt_set (v : Int) : ∀ (l : List (List Int)) (a : Nat) (x : List Int) (ha : a < l.length), (l.set a x).flatten.count v + l[a].count v = l.flatten.count v + x.count v
  | [], _, _, ha => by simp at ha
  | y :: l, 0, x, _ => by simp; omega
  | y :: l, a + 1, x, ha => by
    have := cnt_set v l a x (by simpa using ha)
    simp only [List.set_cons_succ, List.flatten_cons, List.count_append, List.getElem_cons_succ]
    omega
theorem joinC_perm {cs : List (List Int)} {a b : Nat} (ha : a < cs.length) (hb : b < cs.length) (hne : a ≠ b) : (joinC cs a b).flatten.Perm cs.flatten := by
  rw [List.perm_iff_count]
  intro v
  unfold joinC
  rw [List.getD_eq_getElem?_getD, List.getD_eq_getElem?_getD, List.getElem?_eq_getElem ha, List.getElem?_eq_getElem hb]
  simp only [Option.getD_some]
  have h1 := cnt_set v cs a (cs[a] ++ cs[b]) ha
  have h2 := cnt_erase v (cs.set a (cs[a] ++ cs[b])) b (by simpa using hb)
  rw [List.getElem_set_ne hne] at h2
  rw [List.count_append] at h1
  omega
theorem idxC_lt {cs : List (List Int)} {n : Int} (h : n ∈ cs.flatten) : idxC cs n < cs.length := by
  obtain ⟨c, hc, hn⟩ := List.mem_flatten.1 h
  exact List.findIdx_lt_length.2 ⟨c, hc, by simpa using hn⟩
theorem joinE_perm {cs : List (List Int)} {e : Edg} (h1 : e.from_ ∈ cs.flatten) (h2 : e.to_ ∈ cs.flatten) : (joinE cs e).flatten.Perm cs.flatten := by
  unfold joinE
  split
  · exact List.Perm.refl _
  · rename_i h
    exact joinC_perm (idxC_lt h1) (idxC_lt h2) h
theorem chains0_flat (many : Nat) : (chains0 many).flatten = (List.range many).map (fun (k : Nat) => (k : Int)) := by
  unfold chains0
  induction (List.range many) with
  | nil => rfl
  | cons x l ih => simp [ih]
theorem fold_perm (many : Nat) : ∀ (es : List Edg) (cs : List (List Int)), (∀ e ∈ es, (0 ≤ e.from_ ∧ e.from_ < many) ∧ (0 ≤ e.to_ ∧ e.to_ < many)) → cs.flatten.Perm (chains0 many).flatten → (es.foldl joinE cs).flatten.Perm (chains0 many).flatten
  | [], cs, _, h => h
  | e :: es, cs, he, h => by
    have hm : ∀ n : Int, 0 ≤ n ∧ n < many → n ∈ cs.flatten := fun n hn => by
      rw [h.mem_iff, chains0_flat]
      exact List.mem_map.2 ⟨n.toNat, by simp; omega, by omega⟩
    have := he e (by simp)
    exact fold_perm many es _ (fun x hx => he x (by simp [hx])) ((joinE_perm (hm _ this.1) (hm _ this.2)).trans h)
theorem edges_in {many : Int} {es : List Edg} (h : edgesOk many es = true) : ∀ e ∈ es, (0 ≤ e.from_ ∧ e.from_ < many.toNat) ∧ (0 ≤ e.to_ ∧ e.to_ < many.toNat) ∧ e.from_ ≠ e.to_ ∧ 1 ≤ e.count ∧ e.count ≤ 60000 := fun e he => by
  obtain ⟨hm, _, hk⟩ := edgesOk_parts h
  obtain ⟨k, hkl, rfl⟩ := List.getElem_of_mem he
  have := hk k hkl
  omega
theorem ordV_perm {many : Int} {es : List Edg} (h : edgesOk many es = true) : (ordV many.toNat es).Perm ((List.range many.toNat).map (fun (k : Nat) => (k : Int))) := by
  rw [← chains0_flat]
  exact fold_perm _ _ _ (fun e he => by have := edges_in h e (sortE_mem he); exact ⟨this.1, this.2.1⟩) (List.Perm.refl _)
theorem ordR_len {many : Int} {es : List Edg} (h : edgesOk many es = true) : ((ordR many es).length : Int) = many := by
  have h1 := (ordV_perm h).length_eq
  have h2 := (edgesOk_parts h).1
  unfold ordR
  rw [if_pos h, h1]
  simp; omega
theorem ordR_no {many : Int} {es : List Edg} (h : edgesOk many es = false) : ordR many es = [] := by
  unfold ordR; rw [if_neg (by simp [h])]
theorem ordR_all {many : Int} {es : List Edg} (h : edgesOk many es = true) : hasAll (ordR many es) (ordR many es).length = true := by
  rw [hasAll_iff]
  intro i hi
  have hl := ordR_len h
  unfold ordR at hi hl ⊢
  rw [if_pos h] at hi hl ⊢
  rw [(ordV_perm h).mem_iff]
  exact List.mem_map.2 ⟨i, by simp; omega, rfl⟩
theorem ordR_small (many : Int) (es : List Edg) : (ordR many es).length ≤ 8 := by
  cases h : edgesOk many es
  · rw [ordR_no h]; simp
  · have := ordR_len h
    have := (edgesOk_parts h).1
    omega
/-- An order's calls are told. -/
theorem ordR_far {many : Int} {es : List Edg} (h : edgesOk many es = true) : 0 ≤ callsFar many es (ordR many es) := by
  unfold callsFar
  rw [if_pos ⟨h, ordR_len h, ordR_all h⟩]
  refine (farS_bd es (fun e he => ?_)).1
  have hb : ∀ n : Int, 0 ≤ n ∧ n < many.toNat → 0 ≤ plc (ordR many es) n ∧ plc (ordR many es) n < (ordR many es).length := fun n hn => plc_bd (by
    unfold ordR
    rw [if_pos h, (ordV_perm h).mem_iff]
    exact List.mem_map.2 ⟨n.toNat, by simp; omega, by omega⟩)
  have h1 := edges_in h e he
  have h2 := hb _ h1.1
  have h3 := hb _ h1.2.1
  have h4 := ordR_small many es
  omega
theorem edgesOk_one {many : Int} {es : List Edg} {e : Edg} (h : edgesOk many es = true) (he : e ∈ es) : edgesOk many [e] = true := by
  unfold edgesOk at h ⊢
  rw [Bool.and_eq_true, Bool.and_eq_true] at h ⊢
  refine ⟨⟨h.1.1, by simp⟩, ?_⟩
  have := List.all_eq_true.1 h.2 e he
  simpa using this
theorem sortE_one (e : Edg) : sortE [e] = [e] := by
  unfold sortE sortT
  simp
theorem idxC_zero {many k : Nat} (hk : k < many) : idxC (chains0 many) (k : Int) = k := by
  unfold idxC
  have hl : (chains0 many).length = many := by simp [chains0]
  rw [List.findIdx_eq (by omega)]
  refine ⟨by simp [chains0], fun j hj => ?_⟩
  simp [chains0]
  omega
/-- With one edge alone its sections stand beside each other. -/
theorem one_beside {many : Nat} {e : Edg} (h1 : 0 ≤ e.from_ ∧ e.from_ < many) (h2 : 0 ≤ e.to_ ∧ e.to_ < many) (hne : e.from_ ≠ e.to_) : ∃ pre post, ordV many [e] = pre ++ (e.from_ :: e.to_ :: post) := by
  obtain ⟨f, hf⟩ := Int.eq_ofNat_of_zero_le h1.1
  obtain ⟨t, ht⟩ := Int.eq_ofNat_of_zero_le h2.1
  rw [hf] at h1
  rw [ht] at h2
  have hfm : f < many := by omega
  have htm : t < many := by omega
  have hft : f ≠ t := by omega
  have hl : (chains0 many).length = many := by simp [chains0]
  unfold ordV
  rw [sortE_one]
  simp only [List.foldl_cons, List.foldl_nil]
  unfold joinE
  rw [hf, ht]
  rw [idxC_zero hfm, idxC_zero htm, if_neg hft]
  unfold joinC
  rw [List.getD_eq_getElem?_getD, List.getD_eq_getElem?_getD, List.getElem?_eq_getElem (by omega), List.getElem?_eq_getElem (by omega)]
  simp only [Option.getD_some]
  have ef : (chains0 many)[f]'(by omega) = [(f : Int)] := by simp [chains0]
  have et : (chains0 many)[t]'(by omega) = [(t : Int)] := by simp [chains0]
  rw [ef, et]
  clear ef et
  generalize chains0 many = cs at hl ⊢
  rw [List.eraseIdx_eq_take_drop_succ, List.flatten_append]
  by_cases hlt : f < t
  · have hx : ((cs.set f ([(f : Int)] ++ [(t : Int)])).take t) = cs.take f ++ ([(f : Int), (t : Int)] :: (cs.drop (f + 1)).take (t - f - 1)) := by
      rw [List.set_eq_take_append_cons_drop, if_pos (by omega), List.take_append]
      rw [List.length_take, Nat.min_eq_left (by omega), List.take_of_length_le (by simp; omega)]
      obtain ⟨d, hd⟩ : ∃ d, t - f = d + 1 := ⟨t - f - 1, by omega⟩
      rw [hd, List.take_succ_cons]
      congr 2
    rw [hx]
    refine ⟨(cs.take f).flatten, (List.take (t - f - 1) (cs.drop (f + 1))).flatten ++ (List.drop (t + 1) (cs.set f ([(f : Int)] ++ [(t : Int)]))).flatten, ?_⟩
    simp
  · have hx : ((cs.set f ([(f : Int)] ++ [(t : Int)])).drop (t + 1)) = (cs.drop (t + 1)).take (f - t - 1) ++ ([(f : Int), (t : Int)] :: cs.drop (f + 1)) := by
      rw [List.drop_set, if_neg (by omega), List.set_eq_take_append_cons_drop, if_pos (by rw [List.length_drop]; omega), List.drop_drop]
      rw [show f - (t + 1) = f - t - 1 from by omega, show t + 1 + (f - t - 1 + 1) = f + 1 from by omega]
      rfl
    rw [hx]
    refine ⟨(List.take t (cs.set f ([(f : Int)] ++ [(t : Int)]))).flatten ++ ((cs.drop (t + 1)).take (f - t - 1)).flatten, (cs.drop (f + 1)).flatten, ?_⟩
    simp
theorem one_far {many : Int} {es : List Edg} {e : Edg} (h : edgesOk many es = true) (he : e ∈ es) : callsFar many [e] (ordR many [e]) = e.count := by
  have h1 := edgesOk_one h he
  have hin := edges_in h e he
  have hn : (ordR many [e]).Nodup := by
    unfold ordR
    rw [if_pos h1, (ordV_perm h1).nodup_iff]
    rw [List.nodup_iff_pairwise_ne, List.pairwise_map]
    exact (List.nodup_iff_pairwise_ne.1 List.nodup_range).imp (fun {a b} hab => by omega)
  unfold callsFar
  rw [if_pos ⟨h1, ordR_len h1, ordR_all h1⟩]
  obtain ⟨pre, post, hpp⟩ := one_beside (many := many.toNat) hin.1 hin.2.1 hin.2.2.1
  have e1 : ordR many [e] = pre ++ (e.from_ :: e.to_ :: post) := by unfold ordR; rw [if_pos h1, hpp]
  rw [e1] at hn ⊢
  have hfn : ¬ e.from_ ∈ pre := fun hm => (List.nodup_append.1 hn).2.2 _ hm _ (by simp) rfl
  have htn : ¬ e.to_ ∈ pre := fun hm => (List.nodup_append.1 hn).2.2 _ hm _ (by simp) rfl
  have p1 : plc (pre ++ (e.from_ :: e.to_ :: post)) e.from_ = pre.length := by
    have := plc_at (l := pre ++ (e.from_ :: e.to_ :: post)) (k := pre.length) (by simp) (by simpa using hfn)
    simpa using this
  have p2 : plc (pre ++ (e.from_ :: e.to_ :: post)) e.to_ = (pre.length + 1 : Nat) := by
    have := plc_at (l := pre ++ (e.from_ :: e.to_ :: post)) (k := pre.length + 1) (by simp) (by
      have e2 : (pre ++ (e.from_ :: e.to_ :: post)).take (pre.length + 1) = pre ++ [e.from_] := by
        rw [List.take_append, List.take_of_length_le (by omega)]; simp
      rw [e2]
      simp only [List.getElem_append_right (Nat.le_succ _)]
      simp
      exact ⟨htn, fun h => hin.2.2.1 h.symm⟩)
    simpa using this
  simp only [farS]
  rw [p1, p2]
  have : max ((pre.length : Int) - ((pre.length + 1 : Nat) : Int)) (-((pre.length : Int) - ((pre.length + 1 : Nat) : Int))) = 1 := by omega
  rw [this]
  omega
end Go.Proofs.Ytgibmbjdnppiaaa
