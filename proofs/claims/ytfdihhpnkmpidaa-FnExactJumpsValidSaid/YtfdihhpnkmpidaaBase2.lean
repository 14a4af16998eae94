/- More plain words on memory: rows that are made one behind the other; a frame for a law's walk. No condition. -/
import Derived.Test.YtfdihhpnkmpidaaBase
namespace Go.Proofs.Ytfdihhpnkmpidaa
open Go Go.RowKit

theorem own_up {w : World} {base : Nat} {t : TypeId} {size : Nat} {A : Option Addr} {n c : Nat} {xs : List Value} (h : w.ownsRow base t size (.slice A n c) n xs) : ∀ a, A = some a → base ≤ a.block ∧ a.block < w.heap.size := by
  rintro a rfl
  exact h.lt a.block rfl

theorem own_other {w w' : World} {base : Nat} {t : TypeId} {size : Nat} {A A2 : Option Addr} {n c : Nat} {xs : List Value} (h : w.ownsRow base t size (.slice A n c) n xs) (hg : w.grownBy w' (A2.map (·.block)))
    (hd : ∀ a a2, A = some a → A2 = some a2 → a.block ≠ a2.block) : w'.ownsRow base t size (.slice A n c) n xs := by
  refine h.kept hg ?_
  cases A with
  | none => exact .inl rfl
  | some a =>
    refine .inr ?_
    cases A2 with
    | none => simp [Value.ownBlock]
    | some a2 => simpa [Value.ownBlock] using hd a a2 rfl rfl

theorem below_marks {W w w' : World} {base : Nat} {t : TypeId} {size : Nat} {A : Option Addr} {n c : Nat} {xs : List Value} (hb : Below W.heap.size W w) (h : w.ownsRow base t size (.slice A n c) n xs) (hW : W.heap.size ≤ base)
    (hg : w.grownBy w' (A.map (·.block))) : Below W.heap.size W w' := by
  refine hb.grown hg hb.size ?_
  intro k hk
  cases A with
  | none => cases hk
  | some a =>
    have := own_up h a rfl
    have hk' : a.block = k := by simpa using hk
    omega

/-- The size that is left, as the laws' counting functions tell it. -/
def szRes (left total : Int) : Int := if left < total then -1 else left - total
theorem szRes_neg {left total : Int} (h : left < total) : szRes left total = -1 := if_pos h
theorem szRes_pos {left total : Int} (h : total ≤ left) : szRes left total = left - total := if_neg (by omega)

end Go.Proofs.Ytfdihhpnkmpidaa
