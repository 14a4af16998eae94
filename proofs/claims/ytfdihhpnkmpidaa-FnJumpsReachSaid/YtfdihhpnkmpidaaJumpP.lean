/- Plain words on the widths of jumps: the short ones that do not reach, a round, the rounds' end. No program, no condition. -/
import Derived.Test.YtfdihhpnkmpidaaJumpS
namespace Go.Proofs.Ytfdihhpnkmpidaa
open Go Go.RowKit

/-- Jump k, short, reaches its target t. -/
def nearB (xs ys : List Int) (k : Nat) (t : Int) : Bool := inB (stAt xs ys t.toNat - stAt xs ys (k + 1)) (-128) 127
def farAt (xs ts ys : List Int) (k : Nat) : Bool := decide (ys.getD k 0 = 2) && !nearB xs ys k (ts.getD k 0)
/-- The short jumps among the first n that do not reach. -/
def farL (xs ts ys : List Int) (n : Nat) : List Int := ((List.range n).filter (farAt xs ts ys)).map fun (k : Nat) => (k : Int)
theorem farL_len (xs ts ys : List Int) (n : Nat) : (farL xs ts ys n).length ≤ n := by
  unfold farL
  rw [List.length_map]
  have := List.length_filter_le (farAt xs ts ys) (List.range n)
  simpa using this
theorem farL_yes {xs ts ys : List Int} {n : Nat} (h : farAt xs ts ys n = true) : farL xs ts ys (n + 1) = farL xs ts ys n ++ [(n : Int)] := by
  unfold farL
  rw [List.range_succ, List.filter_append, List.map_append]
  simp [h]
theorem farL_no {xs ts ys : List Int} {n : Nat} (h : farAt xs ts ys n = false) : farL xs ts ys (n + 1) = farL xs ts ys n := by
  unfold farL
  rw [List.range_succ, List.filter_append, List.map_append]
  simp [h]
theorem farL_get {xs ts ys : List Int} {n j : Nat} (h : j < (farL xs ts ys n).length) : ∃ k, k < n ∧ (farL xs ts ys n)[j] = (k : Int) ∧ farAt xs ts ys k = true := by
  have hm := List.getElem_mem h
  have he : (farL xs ts ys n)[j] = (farL xs ts ys n)[j] := rfl
  generalize (farL xs ts ys n)[j] = z at *
  unfold farL at hm
  rw [List.mem_map] at hm
  obtain ⟨k, hk, rfl⟩ := hm
  rw [List.mem_filter, List.mem_range] at hk
  exact ⟨k, hk.1, rfl, hk.2⟩
theorem farL_mem {xs ts ys : List Int} {n k : Nat} : (k : Int) ∈ farL xs ts ys n ↔ k < n ∧ farAt xs ts ys k = true := by
  unfold farL
  rw [List.mem_map]
  constructor
  · rintro ⟨j, hj, he⟩
    have : j = k := by omega
    subst this
    rwa [List.mem_filter, List.mem_range] at hj
  · rintro h
    exact ⟨k, by rwa [List.mem_filter, List.mem_range], rfl⟩
theorem farL_nil {xs ts ys : List Int} {n : Nat} : farL xs ts ys n = [] ↔ ∀ k, k < n → farAt xs ts ys k = false := by
  constructor
  · intro h k hk
    cases hf : farAt xs ts ys k
    · rfl
    · have := (farL_mem (n := n)).2 ⟨hk, hf⟩
      rw [h] at this
      cases this
  · intro h
    unfold farL
    have : (List.range n).filter (farAt xs ts ys) = [] := by
      rw [List.filter_eq_nil_iff]
      intro k hk
      rw [h k (List.mem_range.1 hk)]
      simp
    rw [this]
    rfl

/-- Widths are 2 or 4. -/
def wid24 (ys : List Int) : Bool := ys.all fun n => decide (n = 2 ∨ n = 4)
theorem wid24_at {ys : List Int} (h : wid24 ys = true) {k : Nat} (hk : k < ys.length) : ys[k] = 2 ∨ ys[k] = 4 := by
  unfold wid24 at h
  rw [List.all_eq_true] at h
  simpa using h _ (List.getElem_mem hk)
theorem wid24_getD {ys : List Int} (h : wid24 ys = true) {k : Nat} (hk : k < ys.length) : ys.getD k 0 = 2 ∨ ys.getD k 0 = 4 := by
  rw [getD_eq hk]; exact wid24_at h hk
theorem wid24_vals {ys : List Int} (h : wid24 ys = true) : valsOk ys = true := by
  unfold valsOk
  rw [List.all_eq_true]
  intro x hx
  unfold wid24 at h
  rw [List.all_eq_true] at h
  have := h x hx
  refine inB_true ?_ ?_ <;> (simp at this; omega)
theorem wid24_rep (n : Nat) : wid24 (List.replicate n 2) = true := by
  unfold wid24
  rw [List.all_eq_true]
  intro x hx
  rw [List.eq_of_mem_replicate hx]
  rfl

/-- One round. -/
def stepW (xs ts ys : List Int) : List Int := (List.range ys.length).map fun k => if nearB xs ys k (ts.getD k 0) = true then ys.getD k 0 else 4
theorem stepW_len (xs ts ys : List Int) : (stepW xs ts ys).length = ys.length := by simp [stepW]
theorem stepW_at {xs ts ys : List Int} {k : Nat} (hk : k < ys.length) : (stepW xs ts ys)[k]'(by rw [stepW_len]; exact hk) = if nearB xs ys k (ts.getD k 0) = true then ys.getD k 0 else 4 := by
  simp [stepW]
theorem stepW_24 {xs ts ys : List Int} (h : wid24 ys = true) : wid24 (stepW xs ts ys) = true := by
  unfold wid24
  rw [List.all_eq_true]
  intro x hx
  obtain ⟨k, hk, rfl⟩ := List.getElem_of_mem hx
  rw [stepW_len] at hk
  rw [stepW_at hk]
  have := wid24_getD h hk
  split
  · exact decide_eq_true this
  · rfl
def twos (ys : List Int) : Nat := ys.countP fun n => decide (n = 2)
theorem twos_le (ys : List Int) : twos ys ≤ ys.length := List.countP_le_length
theorem stepW_fix {xs ts ys : List Int} (h : wid24 ys = true) (hf : farL xs ts ys ys.length = []) : stepW xs ts ys = ys := by
  refine List.ext_getElem (stepW_len xs ts ys) fun k h1 h2 => ?_
  rw [stepW_at h2]
  have := farL_nil.1 hf k h2
  split
  · exact getD_eq h2
  · rename_i hn
    unfold farAt at this
    rcases wid24_getD h h2 with h0 | h0
    · rw [h0] at this; simp at this; exact absurd this hn
    · rw [← h0, getD_eq h2]
theorem twos_set : ∀ (ys : List Int) (k : Nat) (hk : k < ys.length), ys[k] = 2 → twos (ys.set k 4) + 1 = twos ys
  | y :: ys, 0, _, h => by
    simp at h
    subst h
    simp [twos]
  | y :: ys, k + 1, hk, h => by
    have ih := twos_set ys k (by simpa using hk) (by simpa using h)
    unfold twos at ih ⊢
    rw [List.set_cons_succ, List.countP_cons, List.countP_cons]
    omega
theorem twos_le_of {ys zs : List Int} (hl : zs.length = ys.length) (h : ∀ k, (h1 : k < zs.length) → (h2 : k < ys.length) → zs[k] = 2 → ys[k] = 2) : twos zs ≤ twos ys := by
  induction ys generalizing zs with
  | nil =>
    have : zs = [] := List.eq_nil_of_length_eq_zero (by simpa using hl)
    subst this
    exact Nat.le_refl _
  | cons y ys ih =>
    match zs, hl with
    | z :: zs, hl =>
      have h0 := h 0 (by simp) (by simp)
      have ih' := ih (zs := zs) (by simpa using hl) (fun k h1 h2 he => by
        have := h (k + 1) (by simpa using h1) (by simpa using h2) (by simpa using he)
        simpa using this)
      unfold twos at ih' ⊢
      rw [List.countP_cons, List.countP_cons]
      simp at h0
      by_cases hz : z = 2
      · rw [h0 hz, hz]; omega
      · simp [hz]; omega
theorem stepW_less {xs ts ys : List Int} (hf : farL xs ts ys ys.length ≠ []) : twos (stepW xs ts ys) < twos ys := by
  have : ∃ k, k < ys.length ∧ farAt xs ts ys k = true := by
    refine Classical.byContradiction fun hn => hf (farL_nil.2 fun k hk => ?_)
    cases hq : farAt xs ts ys k
    · rfl
    · exact absurd ⟨k, hk, hq⟩ hn
  obtain ⟨k, hk, hq⟩ := this
  unfold farAt at hq
  rw [Bool.and_eq_true] at hq
  have h2 : ys[k] = 2 := by rw [← getD_eq hk]; exact of_decide_eq_true hq.1
  have hn : nearB xs ys k (ts.getD k 0) = false := by simpa using hq.2
  have e := twos_set ys k hk h2
  have le : twos (stepW xs ts ys) ≤ twos (ys.set k 4) := by
    refine twos_le_of (by rw [stepW_len, List.length_set]) fun j h1 hj he => ?_
    rw [stepW_len] at h1
    rw [stepW_at h1] at he
    rw [List.getElem_set]
    by_cases hkj : k = j
    · subst hkj
      rw [hn] at he
      simp at he
    · rw [if_neg hkj]
      split at he
      · rw [getD_eq h1] at he; exact he
      · simp at he
  omega
def iterW (xs ts : List Int) : Nat → List Int → List Int
  | 0, ys => ys
  | n + 1, ys => iterW xs ts n (stepW xs ts ys)
theorem iterW_succ (xs ts : List Int) : ∀ (n : Nat) (ys : List Int), iterW xs ts (n + 1) ys = stepW xs ts (iterW xs ts n ys)
  | 0, _ => rfl
  | n + 1, ys => by rw [iterW, iterW_succ xs ts n, iterW]
theorem iterW_len (xs ts : List Int) : ∀ (n : Nat) (ys : List Int), (iterW xs ts n ys).length = ys.length
  | 0, _ => rfl
  | n + 1, ys => by rw [iterW, iterW_len xs ts n, stepW_len]
theorem iterW_24 (xs ts : List Int) : ∀ (n : Nat) {ys : List Int}, wid24 ys = true → wid24 (iterW xs ts n ys) = true
  | 0, _, h => h
  | n + 1, _, h => iterW_24 xs ts n (stepW_24 h)
theorem iterW_fix {xs ts ys : List Int} (h : stepW xs ts ys = ys) : ∀ n, iterW xs ts n ys = ys
  | 0 => rfl
  | n + 1 => by rw [iterW, h, iterW_fix h n]
theorem iterW_twos (xs ts : List Int) : ∀ (n : Nat) (ys : List Int), wid24 ys = true → twos ys ≤ n → stepW xs ts (iterW xs ts n ys) = iterW xs ts n ys
  | n, ys, h24, hn => by
    by_cases hf : farL xs ts ys ys.length = []
    · have := stepW_fix h24 hf
      rw [iterW_fix this, this]
    · have hl := stepW_less hf
      match n with
      | 0 => omega
      | n + 1 =>
        rw [iterW]
        exact iterW_twos xs ts n _ (stepW_24 h24) (by omega)
/-- What the rounds end in. -/
def fixW (xs ts : List Int) : List Int := iterW xs ts (xs.length + 1) (List.replicate xs.length 2)
theorem iterW_add (xs ts : List Int) : ∀ (m n : Nat) (ys : List Int), iterW xs ts (m + n) ys = iterW xs ts n (iterW xs ts m ys)
  | 0, n, ys => by rw [Nat.zero_add]; rfl
  | m + 1, n, ys => by
    have : m + 1 + n = (m + n) + 1 := by omega
    rw [this, iterW, iterW_add xs ts m n, iterW]
theorem fixW_of {xs ts : List Int} {j : Nat} (h : farL xs ts (iterW xs ts j (List.replicate xs.length 2)) xs.length = []) : iterW xs ts j (List.replicate xs.length 2) = fixW xs ts := by
  have h24 := iterW_24 xs ts j (wid24_rep xs.length)
  have hl : (iterW xs ts j (List.replicate xs.length 2)).length = xs.length := by rw [iterW_len]; simp
  have hs := stepW_fix (xs := xs) (ts := ts) h24 (by rw [hl]; exact h)
  unfold fixW
  rcases Nat.le_total j (xs.length + 1) with hj | hj
  · obtain ⟨d, hd⟩ : ∃ d, xs.length + 1 = j + d := ⟨xs.length + 1 - j, by omega⟩
    rw [hd, iterW_add, iterW_fix hs]
  · obtain ⟨d, hd⟩ : ∃ d, j = (xs.length + 1) + d := ⟨j - (xs.length + 1), by omega⟩
    have := iterW_twos xs ts (xs.length + 1) (List.replicate xs.length 2) (wid24_rep _) (by have := twos_le (List.replicate xs.length 2); simp at this; omega)
    rw [hd, iterW_add, iterW_fix this]
theorem fixW_len (xs ts : List Int) : (fixW xs ts).length = xs.length := by unfold fixW; rw [iterW_len]; simp
theorem fixW_24 (xs ts : List Int) : wid24 (fixW xs ts) = true := iterW_24 xs ts _ (wid24_rep _)
theorem fixW_fix (xs ts : List Int) : stepW xs ts (fixW xs ts) = fixW xs ts :=
  iterW_twos xs ts _ _ (wid24_rep _) (by have := twos_le (List.replicate xs.length 2); simp at this; omega)
/-- What JumpWidths returns. -/
def jwd (xs ts : List Int) : List Int := if jumpsOk xs ts = true then fixW xs ts else []
/-- What JumpsReach returns. -/
def reachB (xs ts ys : List Int) : Bool := (jumpsOk xs ts && decide (ys.length = xs.length)) && (wid24 ys && decide (farL xs ts ys xs.length = []))
theorem jumpsOk_parts {s t : List Int} (h : jumpsOk s t = true) : s.length ≤ 8 ∧ t.length = s.length ∧ valsOk s = true ∧ ∀ k, (hk : k < t.length) → 0 ≤ t[k] ∧ t[k] ≤ s.length := by
  unfold jumpsOk at h
  rw [Bool.and_eq_true, Bool.and_eq_true, Bool.and_eq_true] at h
  obtain ⟨⟨⟨h1, h2⟩, h3⟩, h4⟩ := h
  refine ⟨of_decide_eq_true h1, of_decide_eq_true h2, h3, fun k hk => ?_⟩
  rw [List.all_eq_true] at h4
  exact inB_iff.1 (h4 _ (List.getElem_mem hk))
/-- Rounds in place: the first k of the new, the rest of the old. -/
def halfW (xs ts ys : List Int) (k : Nat) : List Int := (stepW xs ts ys).take k ++ ys.drop k
theorem halfW_len (xs ts ys : List Int) (k : Nat) : (halfW xs ts ys k).length = ys.length := by
  unfold halfW
  rw [List.length_append, List.length_take, List.length_drop, stepW_len]; omega
/-- Setting the first jumps on a list to 4. -/
def setL (ys : List Int) : List Int → List Int
  | [] => ys
  | i :: l => setL (ys.set i.toNat 4) l
theorem setL_len : ∀ (l ys : List Int), (setL ys l).length = ys.length
  | [], _ => rfl
  | i :: l, ys => by rw [setL, setL_len l, List.length_set]
theorem setL_snoc : ∀ (l ys : List Int) (i : Int), setL ys (l ++ [i]) = (setL ys l).set i.toNat 4
  | [], _, _ => rfl
  | j :: l, ys, i => by rw [List.cons_append, setL, setL_snoc l, setL]
theorem setL_get : ∀ (l ys : List Int) (k : Nat) (hk : k < ys.length), (∀ i ∈ l, 0 ≤ i) → (setL ys l)[k]'(by rw [setL_len]; exact hk) = if (k : Int) ∈ l then 4 else ys[k]
  | [], _, _, _, _ => by simp [setL]
  | i :: l, ys, k, hk, h0 => by
    have h1 := h0 i (by simp)
    have ih := setL_get l (ys.set i.toNat 4) k (by rw [List.length_set]; exact hk) (fun j hj => h0 j (by simp [hj]))
    simp only [setL]
    rw [ih, List.getElem_set]
    by_cases hm : (k : Int) ∈ l
    · simp [hm]
    · by_cases he : i.toNat = k
      · have : i = (k : Int) := by omega
        simp [this]
      · have : ¬ (k : Int) = i := by omega
        simp [he, hm, this]
theorem setL_step {xs ts ys : List Int} (h : wid24 ys = true) : setL ys (farL xs ts ys ys.length) = stepW xs ts ys := by
  refine List.ext_getElem (by rw [setL_len, stepW_len]) fun k h1 h2 => ?_
  have hk : k < ys.length := by rwa [setL_len] at h1
  rw [setL_get _ _ _ hk (fun i hi => by
    unfold farL at hi
    rw [List.mem_map] at hi
    obtain ⟨j, _, rfl⟩ := hi
    omega), stepW_at hk, getD_eq hk]
  by_cases hm : (k : Int) ∈ farL xs ts ys ys.length
  · have := (farL_mem.1 hm).2
    unfold farAt at this
    rw [Bool.and_eq_true] at this
    have hn : nearB xs ys k (ts.getD k 0) = false := by simpa using this.2
    rw [if_pos hm, hn]
    simp
  · rw [if_neg hm]
    have hf : farAt xs ts ys k = false := by
      cases hq : farAt xs ts ys k
      · rfl
      · exact absurd (farL_mem.2 ⟨hk, hq⟩) hm
    unfold farAt at hf
    rcases wid24_at h hk with h0 | h0
    · rw [getD_eq hk, h0] at hf
      have hf' : nearB xs ys k (ts.getD k 0) = true := by simpa using hf
      rw [if_pos hf']
    · rw [h0]; split <;> rfl
theorem setL_all {xs ts ys : List Int} {n : Nat} : ∀ i ∈ farL xs ts ys n, 0 ≤ i ∧ i < n := by
  intro i hi
  unfold farL at hi
  rw [List.mem_map] at hi
  obtain ⟨j, hj, rfl⟩ := hi
  rw [List.mem_filter, List.mem_range] at hj
  omega
theorem fix_far {xs ts ys : List Int} (h : stepW xs ts ys = ys) : farL xs ts ys ys.length = [] := by
  refine Classical.byContradiction fun hn => ?_
  have := stepW_less (xs := xs) (ts := ts) hn
  rw [h] at this
  omega
theorem reach_fix {xs ts : List Int} (h : jumpsOk xs ts = true) : reachB xs ts (fixW xs ts) = true := by
  have h1 := fix_far (fixW_fix xs ts)
  rw [fixW_len] at h1
  unfold reachB
  rw [h, fixW_len, fixW_24, h1]
  simp
theorem halfW_zero (xs ts ys : List Int) : halfW xs ts ys 0 = ys := by simp [halfW]
theorem halfW_all (xs ts ys : List Int) : halfW xs ts ys ys.length = stepW xs ts ys := by
  unfold halfW
  rw [List.drop_length, List.append_nil, List.take_of_length_le (by rw [stepW_len]; exact Nat.le_refl _)]
theorem halfW_no {xs ts ys : List Int} {k : Nat} (hk : k < ys.length) (h : nearB xs ys k (ts.getD k 0) = false) : (halfW xs ts ys k).set k 4 = halfW xs ts ys (k + 1) := by
  have hs := stepW_len xs ts ys
  have h4 : (stepW xs ts ys)[k]'(by omega) = 4 := by rw [stepW_at hk, h]; simp
  unfold halfW
  have hl : ((stepW xs ts ys).take k).length = k := by simp; omega
  rw [List.set_append_right _ _ (by omega), hl, Nat.sub_self, List.drop_eq_getElem_cons hk, List.set_cons_zero, List.take_succ_eq_append_getElem (by omega), h4, List.append_assoc]
  rfl
theorem halfW_yes {xs ts ys : List Int} {k : Nat} (hk : k < ys.length) (h : nearB xs ys k (ts.getD k 0) = true) : halfW xs ts ys k = halfW xs ts ys (k + 1) := by
  have hs := stepW_len xs ts ys
  have h4 : (stepW xs ts ys)[k]'(by omega) = ys[k] := by rw [stepW_at hk, h, if_pos rfl, getD_eq hk]
  unfold halfW
  rw [List.drop_eq_getElem_cons hk, List.take_succ_eq_append_getElem (by omega), h4, List.append_assoc]
  rfl
end Go.Proofs.Ytfdihhpnkmpidaa
