/- What LoadOrder answers, in plain words. No condition. -/
import Derived.Test.YtbhndkdijbappaaRows
import Derived.Test.YtbhndkdijbappaaBase
import Derived.Test.YtbhndkdijbappaaBase2
import Derived.Test.YtbhndkdijbappaaOnly
import Derived.Test.YtbhndkdijbappaaIn
import Derived.Test.YtbhndkdijbappaaName
import Derived.Test.YtbhndkdijbappaaFindS
import Derived.Test.YtbhndkdijbappaaIdxI
import Derived.Test.YtbhndkdijbappaaIdxS
import Derived.Test.YtbhndkdijbappaaLb
import Derived.Test.YtbhndkdijbappaaFindLb
import Derived.Test.YtbhndkdijbappaaLibs
import Derived.Test.YtbhndkdijbappaaLibV
import Derived.Test.YtbhndkdijbappaaLibW
import Derived.WalkKit
import Derived.WalkSpells
import Derived.WalkLawsBesides
import Derived.Handy
import Derived.BigQuiet
import Derived.Deep.RegionHeld3
import Derived.Deep.DrawnRows
import Derived.Deep.QuietTactic
namespace Go.Proofs.Ytbhndkdijbappaa
open Go Go.RowKit

def lNeeds (vs : List LbV) (x : Int) : List ByteArray := (vs[x.toNat]?.map (fun v => v.2.1)).getD []
def lPut (vs : List LbV) (out : List Int) (nm : ByteArray) : List Int := if 0 ≤ lPlace vs nm ∧ lPlace vs nm ∉ out then out ++ [lPlace vs nm] else out
def lStep (vs : List LbV) (out : List Int) (x : Int) : List Int := (lNeeds vs x).foldl (lPut vs) out
def lRun (vs : List LbV) : Nat → Nat → List Int → List Int
  | 0, _, out => out
  | f + 1, i, out => if h : i < out.length then lRun vs f (i + 1) (lStep vs out out[i]) else out
/-- The order in which the libraries are loaded. -/
def loadL (vs : List LbV) (nm : ByteArray) : List Int := if libsOk vs = true ∧ 0 ≤ lPlace vs nm then lRun vs vs.length 0 [lPlace vs nm] else []
structure GoodL (n : Nat) (out : List Int) : Prop where
  nodup : out.Nodup
  bd : ∀ x ∈ out, 0 ≤ x ∧ x < n
theorem pigeon : ∀ (n : Nat) (l : List Nat), l.Nodup → (∀ x ∈ l, x < n) → l.length ≤ n
  | 0, l, _, h => by
    cases l with
    | nil => exact Nat.le_refl _
    | cons x l => exact absurd (h x (by simp)) (by omega)
  | n + 1, l, hd, h => by
    by_cases hn : n ∈ l
    · have h1 := pigeon n (l.erase n) (hd.erase n) (fun x hx => by
        have h2 := h x (List.mem_of_mem_erase hx)
        have h3 : x ≠ n := fun e => by subst e; exact ((List.Nodup.mem_erase_iff hd).1 hx).1 rfl
        omega)
      have h2 := List.length_erase_of_mem hn
      omega
    · have := pigeon n l hd (fun x hx => by
        have h2 := h x hx
        have h3 : x ≠ n := fun e => hn (by subst e; exact hx)
        omega)
      omega
theorem GoodL.len {n : Nat} {out : List Int} (h : GoodL n out) : out.length ≤ n := by
  have h1 : (out.map Int.toNat).Nodup := by
    unfold List.Nodup
    rw [List.pairwise_map]
    refine List.Pairwise.imp_of_mem ?_ h.nodup
    intro a b ha hb hne e
    have h2 := h.bd a ha
    have h3 := h.bd b hb
    exact hne (by omega)
  have h2 := pigeon n (out.map Int.toNat) h1 (fun x hx => by
    obtain ⟨y, hy, rfl⟩ := List.mem_map.1 hx
    have := h.bd y hy
    omega)
  simpa using h2
theorem lPlace_lt (vs : List LbV) (nm : ByteArray) : -1 ≤ lPlace vs nm ∧ lPlace vs nm < vs.length := idxOf_lt _ _
theorem GoodL.put {vs : List LbV} {out : List Int} (h : GoodL vs.length out) (nm : ByteArray) : GoodL vs.length (lPut vs out nm) := by
  unfold lPut
  split
  · rename_i hc
    have hl := lPlace_lt vs nm
    refine ⟨?_, fun x hx => ?_⟩
    · rw [List.nodup_append]
      refine ⟨h.nodup, by simp, ?_⟩
      intro a ha b hb
      rw [List.mem_singleton.1 hb]
      intro e
      exact hc.2 (e ▸ ha)
    · rcases List.mem_append.1 hx with hx | hx
      · exact h.bd x hx
      · rw [List.mem_singleton.1 hx]; exact ⟨hc.1, hl.2⟩
  · exact h
theorem GoodL.fold {vs : List LbV} {out : List Int} (h : GoodL vs.length out) (ns : List ByteArray) : GoodL vs.length (ns.foldl (lPut vs) out) := by
  induction ns generalizing out with
  | nil => exact h
  | cons x ns ih => exact ih (h.put x)
theorem lPut_len (vs : List LbV) (out : List Int) (nm : ByteArray) : out.length ≤ (lPut vs out nm).length := by
  unfold lPut
  split
  · simp
  · exact Nat.le_refl _
theorem lFold_len (vs : List LbV) (ns : List ByteArray) : ∀ (out : List Int), out.length ≤ (ns.foldl (lPut vs) out).length := by
  induction ns with
  | nil => intro out; exact Nat.le_refl _
  | cons x ns ih => intro out; exact Nat.le_trans (lPut_len vs out x) (ih _)
theorem lFold_take (vs : List LbV) (ns : List ByteArray) (out : List Int) {k : Nat} (hk : k < ns.length) : (ns.take (k + 1)).foldl (lPut vs) out = lPut vs ((ns.take k).foldl (lPut vs) out) ns[k] := by
  rw [List.take_succ_eq_append_getElem hk, List.foldl_append]
  rfl
theorem lRun_end (vs : List LbV) (f i : Nat) (out : List Int) (h : out.length ≤ i) : lRun vs f i out = out := by
  cases f with
  | zero => rfl
  | succ f => rw [lRun, dif_neg (by omega)]
theorem lRun_step {vs : List LbV} {i : Nat} {out : List Int} (hg : GoodL vs.length out) (h : i < out.length) : lRun vs (vs.length - i) i out = lRun vs (vs.length - (i + 1)) (i + 1) (lStep vs out out[i]) := by
  have := hg.len
  obtain ⟨f, hf⟩ : ∃ f, vs.length - i = f + 1 := ⟨vs.length - i - 1, by omega⟩
  have hf2 : vs.length - (i + 1) = f := by omega
  rw [hf, hf2, lRun, dif_pos h]
theorem lRun_good {vs : List LbV} : ∀ (f i : Nat) (out : List Int), GoodL vs.length out → GoodL vs.length (lRun vs f i out)
  | 0, _, _, h => h
  | f + 1, i, out, h => by
    rw [lRun]
    split
    · exact lRun_good f (i + 1) _ (h.fold _)
    · exact h
theorem loadL_good (vs : List LbV) (nm : ByteArray) : GoodL vs.length (loadL vs nm) := by
  unfold loadL
  split
  · rename_i hc
    have hl := lPlace_lt vs nm
    exact lRun_good _ _ _ ⟨by simp, fun x hx => by rw [List.mem_singleton.1 hx]; exact ⟨hc.2, hl.2⟩⟩
  · exact ⟨by simp, fun x hx => by cases hx⟩
theorem libs_len {vs : List LbV} (h : libsOk vs = true) : vs.length ≤ 6 := by
  unfold libsOk at h
  simp only [Bool.and_eq_true, decide_eq_true_eq] at h
  exact h.1
theorem loadL_len (vs : List LbV) (nm : ByteArray) : (loadL vs nm).length ≤ 6 := by
  have h := (loadL_good vs nm).len
  unfold loadL at h ⊢
  split
  · rename_i hc
    rw [if_pos hc] at h
    exact Nat.le_trans h (libs_len hc.1)
  · simp
theorem lNeeds_at {ls : List Lb} {q : Nat} (h : q < ls.length) : lNeeds (ls.map Lb.v) (q : Int) = ls[q].needs := by
  unfold lNeeds
  rw [Int.toNat_natCast, List.getElem?_map, List.getElem?_eq_getElem h]
  rfl
theorem load_no1 {vs : List LbV} (nm : ByteArray) (h : libsOk vs = false) : loadL vs nm = [] := if_neg (fun hh => by rw [h] at hh; cases hh.1)
theorem load_no2 {vs : List LbV} {nm : ByteArray} (h : ¬ 0 ≤ lPlace vs nm) : loadL vs nm = [] := if_neg (fun hh => h hh.2)
theorem load_yes {vs : List LbV} {nm : ByteArray} (h : libsOk vs = true) (h2 : 0 ≤ lPlace vs nm) : loadL vs nm = lRun vs (vs.length - 0) 0 [lPlace vs nm] := if_pos ⟨h, h2⟩
theorem lPut_yes {vs : List LbV} {out : List Int} {nm : ByteArray} (h : 0 ≤ lPlace vs nm) (h2 : lPlace vs nm ∉ out) : lPut vs out nm = out ++ [lPlace vs nm] := if_pos ⟨h, h2⟩
theorem lPut_no1 {vs : List LbV} {out : List Int} {nm : ByteArray} (h : ¬ 0 ≤ lPlace vs nm) : lPut vs out nm = out := if_neg (fun hh => h hh.1)
theorem lPut_no2 {vs : List LbV} {out : List Int} {nm : ByteArray} (h : lPlace vs nm ∈ out) : lPut vs out nm = out := if_neg (fun hh => hh.2 h)
end Go.Proofs.Ytbhndkdijbappaa
