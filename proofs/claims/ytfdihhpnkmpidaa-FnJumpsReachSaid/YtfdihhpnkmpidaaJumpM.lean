/- Plain words: the widths found are at most any widths with which all jumps reach. No program, no condition. -/
import Derived.Test.YtfdihhpnkmpidaaJumpP
namespace Go.Proofs.Ytfdihhpnkmpidaa
open Go Go.RowKit

/-- Less wide, jump by jump. -/
def leW (zs ys : List Int) : Prop := zs.length = ys.length ∧ ∀ k, (h1 : k < zs.length) → (h2 : k < ys.length) → zs[k] ≤ ys[k]
theorem getD_out {xs : List Int} {k : Nat} (h : xs.length ≤ k) : xs.getD k 0 = 0 := by rw [List.getD_eq_getElem?_getD, List.getElem?_eq_none h]; rfl
theorem leW_getD {zs ys : List Int} (h : leW zs ys) (k : Nat) : zs.getD k 0 ≤ ys.getD k 0 := by
  by_cases hk : k < zs.length
  · have hk2 : k < ys.length := by rw [← h.1]; exact hk
    rw [getD_eq hk, getD_eq hk2]
    exact h.2 k hk hk2
  · rw [getD_out (by omega), getD_out (by have := h.1; omega)]
    exact Int.le_refl _
theorem vals_getD {xs : List Int} (h : valsOk xs = true) (k : Nat) : 0 ≤ xs.getD k 0 := by
  by_cases hk : k < xs.length
  · rw [getD_eq hk]; exact (valsOk_at h hk).1
  · rw [getD_out (by omega)]; exact Int.le_refl _
theorem stAt_gap {xs zs ys : List Int} (hx : valsOk xs = true) (hz : valsOk zs = true) (h : leW zs ys) (a : Nat) : ∀ b, a ≤ b → 0 ≤ stAt xs zs b - stAt xs zs a ∧ stAt xs zs b - stAt xs zs a ≤ stAt xs ys b - stAt xs ys a
  | 0, hb => by
    obtain rfl : a = 0 := by omega
    simp
  | b + 1, hb => by
    by_cases he : a = b + 1
    · subst he; simp
    · have ih := stAt_gap hx hz h a b (by omega)
      have h1 := leW_getD h b
      have h2 := vals_getD hx b
      have h3 := vals_getD hz b
      rw [stAt, stAt]
      omega
theorem near_mono {xs zs ys : List Int} (hx : valsOk xs = true) (hz : valsOk zs = true) (h : leW zs ys) {k : Nat} {t : Int} (hn : nearB xs ys k t = true) : nearB xs zs k t = true := by
  unfold nearB at hn ⊢
  have hb := inB_iff.1 hn
  rcases Nat.le_total (k + 1) t.toNat with hc | hc
  · have := stAt_gap hx hz h (k + 1) t.toNat hc
    exact inB_true (by omega) (by omega)
  · have := stAt_gap hx hz h t.toNat (k + 1) hc
    exact inB_true (by omega) (by omega)
theorem stepW_leW {xs ts zs ys : List Int} (hx : valsOk xs = true) (hz : wid24 zs = true) (hy : wid24 ys = true) (h : leW zs ys) (hf : farL xs ts ys ys.length = []) : leW (stepW xs ts zs) ys := by
  refine ⟨by rw [stepW_len]; exact h.1, fun k h1 h2 => ?_⟩
  rw [stepW_len] at h1
  rw [stepW_at h1]
  have hle := h.2 k h1 h2
  have hfar := farL_nil.1 hf k h2
  unfold farAt at hfar
  rw [getD_eq h2] at hfar
  split
  · rw [getD_eq h1]; exact hle
  · rename_i hn
    rcases wid24_at hy h2 with h0 | h0
    · rw [h0] at hfar
      simp at hfar
      exact absurd (near_mono hx (wid24_vals hz) h hfar) hn
    · rw [h0]; exact Int.le_refl _
theorem iterW_leW {xs ts ys : List Int} (hx : valsOk xs = true) (hy : wid24 ys = true) (hf : farL xs ts ys ys.length = []) : ∀ (n : Nat) (zs : List Int), wid24 zs = true → leW zs ys → leW (iterW xs ts n zs) ys
  | 0, _, _, h => h
  | n + 1, _, hz, h => iterW_leW hx hy hf n _ (stepW_24 hz) (stepW_leW hx hz hy h hf)
theorem reach_parts {xs ts ys : List Int} (h : reachB xs ts ys = true) : jumpsOk xs ts = true ∧ ys.length = xs.length ∧ wid24 ys = true ∧ farL xs ts ys xs.length = [] := by
  unfold reachB at h
  rw [Bool.and_eq_true, Bool.and_eq_true, Bool.and_eq_true] at h
  exact ⟨h.1.1, of_decide_eq_true h.1.2, h.2.1, of_decide_eq_true h.2.2⟩
theorem least_le {xs ts ys : List Int} (h : reachB xs ts ys = true) : leW (fixW xs ts) ys := by
  obtain ⟨h1, h2, h3, h4⟩ := reach_parts h
  unfold fixW
  refine iterW_leW (jumpsOk_parts h1).2.2.1 h3 (by rw [h2]; exact h4) _ _ (wid24_rep _) ⟨by simp [h2], fun k h5 h6 => ?_⟩
  rw [List.getElem_replicate]
  rcases wid24_at h3 h6 with h0 | h0 <;> omega
end Go.Proofs.Ytfdihhpnkmpidaa
