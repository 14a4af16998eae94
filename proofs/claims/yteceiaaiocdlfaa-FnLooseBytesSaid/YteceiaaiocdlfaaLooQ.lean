/- Squeezed bytes can be loosened: the plain law. No condition but the sizes. -/
import Derived.Test.YteceiaaiocdlfaaRows
import Derived.Test.YteceiaaiocdlfaaBase
import Derived.Test.YteceiaaiocdlfaaBase2
import Derived.Test.YteceiaaiocdlfaaBase3
import Derived.Test.YteceiaaiocdlfaaIn
import Derived.Test.YteceiaaiocdlfaaSqz
import Derived.Test.YteceiaaiocdlfaaRepB
import Derived.Test.YteceiaaiocdlfaaFill
import Derived.Test.YteceiaaiocdlfaaLooP
import Derived.Test.YteceiaaiocdlfaaLoo
import Derived.WalkKit
import Derived.WalkSpells
import Derived.WalkLawsBesides
import Derived.Handy
import Derived.BigQuiet
import Derived.Deep.RegionHeld3
import Derived.Deep.DrawnRows
import Derived.Deep.QuietTactic
namespace Go.Proofs.Yteceiaaiocdlfaa
open Go Go.RowKit


theorem looTo_cons (n x : Int) (t : List Int) : ∀ k, looTo (n :: x :: t) (k + 1) = List.replicate n.toNat x ++ looTo t k
  | 0 => by simp [looTo]
  | k + 1 => by
    rw [looTo, looTo_cons n x t k, looTo, List.append_assoc]
    rfl
theorem runGo_true {c : Nat → Bool} : ∀ (f n m : Nat), n ≤ m → m < runGo c f n → c m = true
  | 0, n, m, h1, h2 => by unfold runGo at h2; omega
  | f + 1, n, m, h1, h2 => by
    unfold runGo at h2
    by_cases hc : c n = true
    · rw [if_pos hc] at h2
      rcases Nat.eq_or_lt_of_le h1 with rfl | h
      · exact hc
      · exact runGo_true f (n + 1) m h h2
    · rw [if_neg hc] at h2
      omega
theorem runLen_eq_at {xs : List Int} {i m : Nat} (h0 : i < xs.length) (h : m < runLen xs i) : ∃ hm : i + m < xs.length, xs[i + m] = xs[i] := by
  rcases Nat.eq_zero_or_pos m with rfl | hp
  · exact ⟨h0, rfl⟩
  · have hc := runGo_true 255 1 m hp h
    unfold runC at hc
    simp only [decide_eq_true_eq] at hc
    obtain ⟨h1, h2, _⟩ := hc
    rw [looGetD h1, looGetD h0] at h2
    exact ⟨h1, h2⟩
theorem run_drop {xs : List Int} {i : Nat} (h : i < xs.length) : List.replicate (runLen xs i) xs[i] ++ xs.drop (i + runLen xs i) = xs.drop i := by
  have e : xs.drop i = (xs.drop i).take (runLen xs i) ++ (xs.drop i).drop (runLen xs i) := (List.take_append_drop _ _).symm
  rw [e, List.drop_drop]
  congr 1
  apply List.ext_getElem
  · have hp := runLen_pos xs i
    obtain ⟨h1, _⟩ := runLen_eq_at (m := runLen xs i - 1) h (by omega)
    rw [List.length_replicate, List.length_take, List.length_drop]
    omega
  · intro j h1 h2
    rw [List.length_replicate] at h1
    obtain ⟨h3, h4⟩ := runLen_eq_at h h1
    rw [List.getElem_replicate, List.getElem_take, List.getElem_drop]
    exact h4.symm
theorem loo_sq (xs : List Int) : ∀ (f i : Nat), xs.length - i ≤ f → looTo (sqGo xs f i) ((sqGo xs f i).length / 2) = xs.drop i
  | 0, i, h => by rw [List.drop_eq_nil_of_le (by omega)]; simp [sqGo, looTo]
  | f + 1, i, h => by
    unfold sqGo
    by_cases hi : i < xs.length
    · have hp := runLen_pos xs i
      rw [if_pos hi, looGetD hi]
      have e : ((runLen xs i : Int) :: xs[i] :: sqGo xs f (i + runLen xs i)).length / 2 = (sqGo xs f (i + runLen xs i)).length / 2 + 1 := by simp only [List.length_cons]; omega
      rw [e, looTo_cons, loo_sq xs f _ (by omega)]
      simpa using run_drop hi
    · rw [if_neg hi, List.drop_eq_nil_of_le (by omega)]
      simp [looTo]
theorem loo_squeeze {xs : List Int} (h : xs.length ≤ 600) : looAll (squeeze xs) = xs := by
  unfold squeeze looAll
  rw [if_pos h]
  have := loo_sq xs (xs.length - 0) 0 (Nat.le_refl _)
  simpa [sqFrom] using this
theorem loo_squeeze_ok {xs : List Int} (h : xs.length ≤ 600) : looOk (squeeze xs) = true := decide_eq_true ⟨squeeze_even xs, by rw [loo_squeeze h]; exact h, by rw [loo_squeeze h]⟩
theorem looL_squeeze {xs : List Int} (h : xs.length ≤ 600) : looL (squeeze xs) = xs := by rw [loo_yes (loo_squeeze_ok h), loo_squeeze h]
theorem squeeze_len2 {xs : List Int} : (squeeze xs).length ≤ 2 * xs.length := by
  unfold squeeze
  split
  · exact sqGo_len xs (xs.length - 0) 0
  · simp
theorem squeeze_big {xs : List Int} (h : 600 < xs.length) : squeeze xs = [] := if_neg (by omega)
theorem looL_cap (bs : List Int) : (looL bs).length ≤ 600 := by
  cases h : looOk bs
  · rw [loo_no h]; simp
  · rw [loo_yes h]
    unfold looOk at h
    exact (of_decide_eq_true h).2.1
theorem squeeze_loo {bs : List Int} (h : looOk bs = true) : squeeze (looL bs) = bs := by
  rw [loo_yes h]
  unfold looOk at h
  exact (of_decide_eq_true h).2.2
theorem loo_more {bs : List Int} (h : looOk bs = true) : looOk (bs ++ [1]) = false := by
  refine loo_odd ?_
  unfold looOk at h
  have := (of_decide_eq_true h).1
  rw [List.length_append, List.length_singleton]
  omega
theorem looL_isB {bs : List Int} (h : isB bs) : isB (looL bs) := by
  cases hk : looOk bs
  · rw [loo_no hk]; intro x hx; cases hx
  · rw [loo_yes hk]
    exact looTo_isB h _ (by omega)
end Go.Proofs.Yteceiaaiocdlfaa
