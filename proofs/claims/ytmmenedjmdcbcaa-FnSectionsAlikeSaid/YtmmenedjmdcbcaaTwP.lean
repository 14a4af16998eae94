/- What TwinsOf answers, in plain words. No condition. -/
import Derived.Test.YtmmenedjmdcbcaaRows
import Derived.Test.YtmmenedjmdcbcaaBase
import Derived.Test.YtmmenedjmdcbcaaBase2
import Derived.Test.YtmmenedjmdcbcaaOnly
import Derived.Test.YtmmenedjmdcbcaaIn
import Derived.Test.YtmmenedjmdcbcaaName
import Derived.Test.YtmmenedjmdcbcaaByteS
import Derived.Test.YtmmenedjmdcbcaaFix
import Derived.Test.YtmmenedjmdcbcaaSec
import Derived.Test.YtmmenedjmdcbcaaObjS
import Derived.Test.YtmmenedjmdcbcaaSecV
import Derived.Test.YtmmenedjmdcbcaaSym
import Derived.Test.YtmmenedjmdcbcaaSymV
import Derived.Test.YtmmenedjmdcbcaaFindSym
import Derived.Test.YtmmenedjmdcbcaaObj
import Derived.Test.YtmmenedjmdcbcaaGlob
import Derived.Test.YtmmenedjmdcbcaaEqB
import Derived.Test.YtmmenedjmdcbcaaEqF
import Derived.Test.YtmmenedjmdcbcaaAliI
import Derived.WalkKit
import Derived.WalkSpells
import Derived.WalkLawsBesides
import Derived.Handy
import Derived.BigQuiet
import Derived.Deep.RegionHeld3
import Derived.Deep.DrawnRows
import Derived.Deep.QuietTactic
namespace Go.Proofs.Ytmmenedjmdcbcaa
open Go Go.RowKit

theorem alikeV_iff {a b : Sec} : alikeV a b = true ↔ a.kind = b.kind ∧ a.align = b.align ∧ a.size = b.size ∧ a.bytes = b.bytes ∧ a.fixups = b.fixups := by
  unfold alikeV
  simp only [Bool.and_eq_true, decide_eq_true_eq]
theorem alikeV_refl (a : Sec) : alikeV a a = true := alikeV_iff.2 ⟨rfl, rfl, rfl, rfl, rfl⟩
theorem alikeV_comm (a b : Sec) : alikeV a b = alikeV b a := by
  rw [Bool.eq_iff_iff, alikeV_iff, alikeV_iff]
  constructor
  · rintro ⟨h1, h2, h3, h4, h5⟩; exact ⟨h1.symm, h2.symm, h3.symm, h4.symm, h5.symm⟩
  · rintro ⟨h1, h2, h3, h4, h5⟩; exact ⟨h1.symm, h2.symm, h3.symm, h4.symm, h5.symm⟩
theorem alikeV_trans {a b : Sec} (h : alikeV a b = true) (c : Sec) : alikeV a c = alikeV b c := by
  obtain ⟨h1, h2, h3, h4, h5⟩ := alikeV_iff.1 h
  unfold alikeV
  rw [h1, h2, h3, h4, h5]
/-- For every section the number of the first one that it is alike. -/
def twinsV (secs : List Sec) : List Int := secs.map fun s => idxOf (fun t => alikeV s t) secs
noncomputable def twinsO (secs : List Sec) (ys : List Sym) : List Int := if objOk secs ys = true then twinsV secs else []
theorem twinsO_yes {secs : List Sec} {ys : List Sym} (h : objOk secs ys = true) : twinsO secs ys = twinsV secs := if_pos h
theorem twinsO_no {secs : List Sec} {ys : List Sym} (h : objOk secs ys = false) : twinsO secs ys = [] := if_neg (by rw [h]; exact Bool.false_ne_true)
theorem twinsV_len (secs : List Sec) : (twinsV secs).length = secs.length := by simp [twinsV]
theorem twinsV_at {secs : List Sec} {k : Nat} (h : k < secs.length) : (twinsV secs)[k]'(by rw [twinsV_len]; exact h) = idxOf (fun t => alikeV secs[k] t) secs := by simp [twinsV]
theorem idxOf_spec {α : Type} {p : α → Bool} {xs : List α} {k : Nat} (hk : k < xs.length) (hp : p xs[k] = true) : ∃ q, q ≤ k ∧ idxOf p xs = (q : Int) ∧ (∃ h : q < xs.length, p xs[q] = true) ∧ ∀ j, (h : j < xs.length) → j < q → p xs[j] = false := by
  cases h : xs.findIdx? p with
  | none =>
    rw [List.findIdx?_eq_none_iff] at h
    rw [h _ (List.getElem_mem hk)] at hp
    cases hp
  | some q =>
    obtain ⟨hq, hpq, hb⟩ := List.findIdx?_eq_some_iff_getElem.1 h
    have hqk : q ≤ k := by
      rcases Nat.lt_or_ge k q with hlt | hge
      · have := hb k hlt
        rw [hp] at this
        simp at this
      · exact hge
    refine ⟨q, hqk, by unfold idxOf; rw [h], ⟨hq, hpq⟩, fun j hj hjq => by simpa using hb j hjq⟩
/-- The first one is not behind; it is its own. -/
theorem twins_first {secs : List Sec} {k : Nat} (hk : k < secs.length) : ∃ q, q ≤ k ∧ (twinsV secs)[k]'(by rw [twinsV_len]; exact hk) = (q : Int) ∧ ∃ h : q < secs.length, alikeV secs[q] secs[k] = true ∧ (twinsV secs)[q]'(by rw [twinsV_len]; exact h) = (q : Int) := by
  obtain ⟨q, h1, h2, ⟨h3, h4⟩, _⟩ := idxOf_spec (p := fun t => alikeV secs[k] t) hk (alikeV_refl _)
  refine ⟨q, h1, (twinsV_at hk).trans h2, h3, by rw [alikeV_comm]; exact h4, ?_⟩
  rw [twinsV_at h3, ← h2]
  have : (fun t => alikeV secs[q] t) = fun t => alikeV secs[k] t := funext fun t => (alikeV_trans h4 t).symm
  rw [this]
theorem twins_same {secs : List Sec} {j k : Nat} (hj : j < secs.length) (hk : k < secs.length) : alikeV secs[j] secs[k] = decide ((twinsV secs)[j]'(by rw [twinsV_len]; exact hj) = (twinsV secs)[k]'(by rw [twinsV_len]; exact hk)) := by
  cases h : alikeV secs[j] secs[k] with
  | true =>
    rw [decide_eq_true]
    rw [twinsV_at hj, twinsV_at hk]
    have : (fun t => alikeV secs[j] t) = fun t => alikeV secs[k] t := funext fun t => alikeV_trans h t
    rw [this]
  | false =>
    rw [decide_eq_false]
    intro he
    obtain ⟨q, _, h2, h3, h4, _⟩ := twins_first hj
    obtain ⟨q2, _, g2, g3, g4, _⟩ := twins_first hk
    have hq : q = q2 := by rw [h2, g2] at he; exact Int.ofNat.inj he
    subst hq
    have := alikeV_trans (a := secs[j]) (b := secs[q]) (by rw [alikeV_comm]; exact h4) secs[k]
    rw [h, g4] at this
    cases this
theorem twins_lt {secs : List Sec} {k : Nat} (hk : k < secs.length) : 0 ≤ (twinsV secs)[k]'(by rw [twinsV_len]; exact hk) ∧ (twinsV secs)[k]'(by rw [twinsV_len]; exact hk) ≤ k := by
  obtain ⟨q, h1, h2, _⟩ := twins_first hk
  rw [h2]
  omega
/-- How many bytes the first k ones have that are alike an earlier one. -/
def twinB (secs : List Sec) : Nat → Int
  | 0 => 0
  | k + 1 => twinB secs k + (if h : k < secs.length then (if (twinsV secs)[k]'(by rw [twinsV_len]; exact h) < (k : Int) then secSize secs[k] else 0) else 0)
theorem twinB_step {secs : List Sec} {k : Nat} (h : k < secs.length) : twinB secs (k + 1) = twinB secs k + (if (twinsV secs)[k]'(by rw [twinsV_len]; exact h) < (k : Int) then secSize secs[k] else 0) := by
  rw [twinB, dif_pos h]
noncomputable def twinBO (secs : List Sec) (ys : List Sym) : Int := if objOk secs ys = true then twinB secs secs.length else -1
theorem twinBO_yes {secs : List Sec} {ys : List Sym} (h : objOk secs ys = true) : twinBO secs ys = twinB secs secs.length := if_pos h
theorem twinBO_no {secs : List Sec} {ys : List Sym} (h : objOk secs ys = false) : twinBO secs ys = -1 := if_neg (by rw [h]; exact Bool.false_ne_true)
/-- By the values alone. -/
theorem idxOf_map2 {α β : Type} (f : α → β) (p : β → Bool) (xs : List α) : idxOf (fun x => p (f x)) xs = idxOf p (xs.map f) := by
  unfold idxOf
  rw [List.findIdx?_map]
  rfl
theorem alikeV_vv {a b c d : Sec} (h : a.v = c.v) (g : b.v = d.v) : alikeV a b = alikeV c d := by
  obtain ⟨_, h1, h2, h3, h4, h5⟩ := Sec.v_eq h
  obtain ⟨_, g1, g2, g3, g4, g5⟩ := Sec.v_eq g
  unfold alikeV
  rw [h1, h2, h3, h4, h5, g1, g2, g3, g4, g5]
theorem idxOf_congr {α β : Type} {p : α → Bool} {q : β → Bool} : ∀ {xs : List α} {ys : List β}, xs.map p = ys.map q → idxOf p xs = idxOf q ys := by
  intro xs ys h
  have h1 := idxOf_map2 (α := α) (β := Bool) p id xs
  have h2 := idxOf_map2 (α := β) (β := Bool) q id ys
  have e1 : idxOf p xs = idxOf (fun x => id (p x)) xs := rfl
  have e2 : idxOf q ys = idxOf (fun x => id (q x)) ys := rfl
  rw [e1, e2, h1, h2, h]
theorem map_v_congr {β : Type} {f g : Sec → β} (hfg : ∀ a b : Sec, a.v = b.v → f a = g b) : ∀ {ls ms : List Sec}, ls.map Sec.v = ms.map Sec.v → ls.map f = ms.map g := by
  intro ls
  induction ls with
  | nil => intro ms h; cases ms with
    | nil => rfl
    | cons _ _ => simp at h
  | cons a ls ih =>
    intro ms h
    cases ms with
    | nil => simp at h
    | cons b ms =>
      simp only [List.map_cons, List.cons.injEq] at h
      simp only [List.map_cons]
      rw [hfg a b h.1, ih h.2]
theorem twinsV_v {ls ms : List Sec} (h : ls.map Sec.v = ms.map Sec.v) : twinsV ls = twinsV ms := by
  unfold twinsV
  exact map_v_congr (ls := ls) (ms := ms) (fun a b hab => idxOf_congr (map_v_congr (ls := ls) (ms := ms) (fun c d hcd => alikeV_vv hab hcd) h)) h
end Go.Proofs.Ytmmenedjmdcbcaa
