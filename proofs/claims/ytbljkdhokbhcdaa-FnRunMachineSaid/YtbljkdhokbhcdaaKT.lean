/- What is kept by the types of the blocks. No condition. -/
import Derived.Test.YtbljkdhokbhcdaaRows
import Derived.Test.YtbljkdhokbhcdaaBase
import Derived.Test.YtbljkdhokbhcdaaBase2
import Derived.Test.YtbljkdhokbhcdaaBase3
import Derived.Test.YtbljkdhokbhcdaaPick
import Derived.Test.YtbljkdhokbhcdaaPick2
import Derived.WalkKit
import Derived.WalkSpells
import Derived.WalkLawsBesides
import Derived.Handy
import Derived.BigQuiet
import Derived.Deep.RegionHeld3
import Derived.Deep.DrawnRows
import Derived.Deep.QuietTactic
namespace Go.Proofs.Ytbljkdhokbhcdaa
open Go Go.RowKit

/-- The blocks of some types are as they were. -/
structure KeepT (T : TypeId → Prop) (w w' : World) : Prop where
  size : w.heap.size ≤ w'.heap.size
  block : ∀ (b : Nat) (cs : Array Value) (t : TypeId), w.heap[b]? = some (.cells cs t (0, 0)) → T t → w'.heap[b]? = w.heap[b]?
section
variable {T : TypeId → Prop} {w w' w'' : World}
theorem heap_lt {w : World} {b : Nat} {o : Obj} (h : w.heap[b]? = some o) : b < w.heap.size := (Array.getElem?_eq_some_iff.1 h).1
theorem KeepT.refl (T : TypeId → Prop) (w : World) : KeepT T w w := ⟨Nat.le_refl _, fun _ _ _ _ _ => rfl⟩
theorem KeepT.trans (h : KeepT T w w') (g : KeepT T w' w'') : KeepT T w w'' := ⟨Nat.le_trans h.size g.size, fun b cs t hb ht => (g.block b cs t ((h.block b cs t hb ht).trans hb) ht).trans (h.block b cs t hb ht)⟩
theorem KeepT.of_alloc (T : TypeId → Prop) (w : World) (o : Obj) : KeepT T w (w.alloc o) := ⟨by simp, fun b _ _ hb _ => Below.heap_alloc w o b (heap_lt hb)⟩
theorem KeepT.of_below (h : Below w.heap.size w w') : KeepT T w w' := ⟨h.size, fun b _ _ hb _ => h.block b (heap_lt hb)⟩
theorem KeepT.of_grown {row : Option Nat} (h : w.grownBy w' row) (hr : ∀ g, row = some g → ∃ cs t, w.heap[g]? = some (.cells cs t (0, 0)) ∧ ¬ T t) : KeepT T w w' := ⟨h.size, fun b cs t hb ht => h.block b (heap_lt hb) (fun e => by
  obtain ⟨cs', t', h1, h2⟩ := hr b e.symm
  rw [hb] at h1
  injection h1 with h1
  injection h1 with _ h1
  subst h1
  exact h2 ht)⟩
theorem KeepT.of_pick {r P : Nat} (hr : Rdr w r P) (hg : w.grownBy w' (some r)) (hT : ¬ T 62) : KeepT T w w' := .of_grown hg (fun g e => by
  injection e with e
  subst e
  obtain ⟨A, n, c, p, bs, _, _, _, _, _, h⟩ := hr
  exact ⟨_, _, h, hT⟩)
theorem KeepT.of_set {g : Nat} {t : TypeId} {cs : Array Value} (h : Blk w g t cs) (hT : ¬ T t) (i : Nat) (u : Value) : KeepT T w (w.setCell ⟨g, i, none⟩ u) := ⟨by simp, fun b cs' t' hb ht => Below.heap_setCell w _ u b (fun e => by
  have e' : b = g := e
  subst e'
  unfold Blk at h
  rw [hb] at h
  injection h with h
  injection h with _ h
  subst h
  exact hT ht)⟩
theorem KeepT.of_row {base size n c : Nat} {e : TypeId} {A : Option Addr} {xs : List Value} (h : w.ownsRow base e size (.slice A n c) n xs) (hg : w.grownBy w' (A.map (·.block))) (hT : ¬ T e) : KeepT T w w' := .of_grown hg (fun g hA => by
  rcases h.2 with ⟨hv, _⟩ | ⟨g', cap, cur, hv, _, hh, _⟩
  · injection hv with hv
    subst hv
    cases hA
  · injection hv with hv
    subst hv
    have e' : g' = g := by simpa using hA
    subst e'
    exact ⟨_, _, hh, hT⟩)
theorem KeepT.own {base size n : Nat} {t : TypeId} {v : Value} {xs : List Value} (k : KeepT T w w') (h : w.ownsRow base t size v n xs) (ht : T t) : w'.ownsRow base t size v n xs := by
  refine ⟨h.1, ?_⟩
  rcases h.2 with h0 | ⟨g, cap, cur, rfl, hbg, hh, rest⟩
  · exact .inl h0
  · exact .inr ⟨g, cap, cur, rfl, hbg, (k.block g _ _ hh ht).trans hh, rest⟩
theorem KeepT.blk {g : Nat} {t : TypeId} {cs : Array Value} (k : KeepT T w w') (h : Blk w g t cs) (ht : T t) : Blk w' g t cs := (k.block g _ _ h ht).trans h
theorem KeepT.drew (w : World) : KeepT T w w.drew := ⟨Nat.le_refl _, fun _ _ _ _ _ => rfl⟩
end
/-- Two rows, or a row and a block, of different types lie apart. -/
theorem blk_row_ne {w : World} {g base size n c : Nat} {t e : TypeId} {cs : Array Value} {A : Option Addr} {xs : List Value} (h : Blk w g t cs) (ho : w.ownsRow base e size (.slice A n c) n xs) (hne : e ≠ t) : some g ≠ A.map (·.block) := by
  have h2 := own_blk_ne ho h hne
  cases A with
  | none => simp
  | some a => simpa [Value.ownBlock, eq_comm] using h2
end Go.Proofs.Ytbljkdhokbhcdaa
