/- Plain words beside the drawing reader: rows kept over a draw, worlds in which only the reader has turned. No condition. -/
import Derived.Test.YtgibmbjdnppiaaaBase
import Derived.Test.YtgibmbjdnppiaaaBase2
import Derived.Test.YtgibmbjdnppiaaaPick
namespace Go.Proofs.Ytgibmbjdnppiaaa
open Go Go.RowKit

theorem own_pick {w w' : World} {base r : Nat} {t : TypeId} {size : Nat} {A : Option Addr} {n c : Nat} {xs : List Value} (h : w.ownsRow base t size (.slice A n c) n xs) (hg : w.grownBy w' (some r)) (hr : r < base) : w'.ownsRow base t size (.slice A n c) n xs :=
  own_other (A2 := some ⟨r, 0, none⟩) h hg (fun a a2 h1 h2 => by
    injection h2 with h2
    subst h2
    have := (own_up h a h1).1
    simp only [ne_eq]
    omega)
theorem gr_trans {a b c : World} {row : Option Nat} (h : a.grownBy b row) (k : b.grownBy c row) : a.grownBy c row :=
  ⟨k.os.trans h.os, k.tape.trans h.tape, k.output.trans h.output, Nat.le_trans h.size k.size, fun i hi hn => (k.block i (Nat.lt_of_lt_of_le hi h.size) hn).trans (h.block i hi hn)⟩
theorem gr_new {a b c : World} {row row' : Option Nat} (h : a.grownBy b row) (k : b.grownBy c row') (hr : ∀ i, row' = some i → a.heap.size ≤ i) : a.grownBy c row :=
  ⟨k.os.trans h.os, k.tape.trans h.tape, k.output.trans h.output, Nat.le_trans h.size k.size, fun i hi hn => (k.block i (Nat.lt_of_lt_of_le hi h.size) (fun e => by have := hr i e.symm; omega)).trans (h.block i hi hn)⟩
theorem gr_alloc {a b : World} {row : Option Nat} (h : a.grownBy b row) (o : Obj) : a.grownBy (b.alloc o) row := gr_new h (World.grownBy_alloc b o none) (fun i e => by cases e)
theorem gr_below {a b c : World} {row : Option Nat} (h : a.grownBy b row) (k : Below b.heap.size b c) : a.grownBy c row :=
  gr_new (row' := none) h ⟨k.os, k.tape, k.output, k.size, fun i hi _ => k.block i hi⟩ (fun i e => by cases e)
theorem gr_drewN {a b : World} {row : Option Nat} (h : a.grownBy b row) (n : Nat) : a.grownBy (b.drewN n) row := ⟨h.os, h.tape, h.output, h.size, h.block⟩
theorem gr_row {a b c : World} {row : Option Nat} {base : Nat} {t : TypeId} {size : Nat} {A : Option Addr} {n cc : Nat} {xs : List Value} (h : a.grownBy b row) (k : b.grownBy c (A.map (·.block))) (ho : b.ownsRow base t size (.slice A n cc) n xs) (hb : a.heap.size ≤ base) : a.grownBy c row :=
  gr_new h k (fun i e => by
    cases A with
    | none => cases e
    | some x =>
      have := own_up ho x rfl
      have e' : x.block = i := by simpa using e
      omega)
theorem Rdr.alloc {w : World} {r P : Nat} (h : Rdr w r P) (o : Obj) : Rdr (w.alloc o) r P := h.below ((Below.refl _ _).alloc (Nat.le_refl _) _)
theorem Rdr.row {w w' : World} {r P : Nat} {base : Nat} {t : TypeId} {size : Nat} {A : Option Addr} {n cc : Nat} {xs : List Value} (h : Rdr w r P) (k : w.grownBy w' (A.map (·.block))) (ho : w.ownsRow base t size (.slice A n cc) n xs) (hb : r < base) : Rdr w' r P :=
  h.grown k (fun i e => by
    cases A with
    | none => cases e
    | some x =>
      have := own_up ho x rfl
      have e' : x.block = i := by simpa using e
      omega)
theorem below_gr {W a b : World} {r : Nat} (hb : Below W.heap.size W a) (h : a.grownBy b (some r)) (hr : W.heap.size ≤ r) : Below W.heap.size W b := hb.grown h hb.size (fun k e => by injection e with e; omega)
theorem gr_setCell {a b : World} {row : Option Nat} (h : a.grownBy b row) {p : Addr} (hp : a.heap.size ≤ p.block) (u : Value) : a.grownBy (b.setCell p u) row :=
  gr_new (row' := some p.block) h ⟨rfl, rfl, rfl, by simp [World.setCell], fun k _ hne => Below.heap_setCell b p u k (fun e => hne (by rw [e]))⟩ (fun i e => by injection e with e; omega)
theorem Rdr.setCell {w : World} {r P : Nat} (h : Rdr w r P) {p : Addr} (hp : r < p.block) (u : Value) : Rdr (w.setCell p u) r P :=
  h.grown (row := some p.block) ⟨rfl, rfl, rfl, by simp [World.setCell], fun k _ hne => Below.heap_setCell w p u k (fun e => hne (by rw [e]))⟩ (fun i e => by injection e with e; omega)
/-- Two rows lie apart. -/
def Apart (A B : Option Addr) : Prop := ∀ a b, A = some a → B = some b → a.block ≠ b.block
theorem Apart.symm {A B : Option Addr} (h : Apart A B) : Apart B A := fun a b h1 h2 => (h b a h2 h1).symm
theorem own_apart {w w' : World} {base : Nat} {t : TypeId} {size : Nat} {A A2 : Option Addr} {n c : Nat} {xs : List Value} (h : w.ownsRow base t size (.slice A n c) n xs) (hg : w.grownBy w' (A2.map (·.block))) (hd : Apart A A2) : w'.ownsRow base t size (.slice A n c) n xs := own_other h hg hd
/-- Behind an append onto the row at A: the row at B, which was there, lies apart from where the new one is. -/
theorem apart_push {w : World} {base : Nat} {t : TypeId} {size : Nat} {A A' B : Option Addr} {n c : Nat} {xs : List Value} {H : Nat} (h : Apart A B) (hB : w.ownsRow base t size (.slice B n c) n xs) (hH : w.heap.size ≤ H)
    (hat : ∀ b, A' = some b → (∃ b0, A = some b0 ∧ b0.block = b.block) ∨ H ≤ b.block) : Apart A' B := fun a b h1 h2 => by
  have := (own_up hB b h2).2
  rcases hat a h1 with ⟨b0, h3, h4⟩ | h3
  · rw [← h4]; exact h b0 b h3 h2
  · omega
theorem apart_new {w : World} {base : Nat} {t : TypeId} {size : Nat} {A B : Option Addr} {n c : Nat} {xs : List Value} (hB : w.ownsRow base t size (.slice B n c) n xs) (hA : ∀ a, A = some a → w.heap.size ≤ a.block) : Apart A B := fun a b h1 h2 => by
  have := (own_up hB b h2).2
  have := hA a h1
  omega
theorem apart_lit {w : World} {base : Nat} {t : TypeId} {size : Nat} {A' B : Option Addr} {n c g H : Nat} {xs : List Value} (hB : w.ownsRow base t size (.slice B n c) n xs) (hg : w.heap.size ≤ g) (hH : w.heap.size ≤ H)
    (ha : ∀ b, A' = some b → (∃ b0, some (⟨g, 0, none⟩ : Addr) = some b0 ∧ b0.block = b.block) ∨ H ≤ b.block) : Apart A' B := fun a b h1 h2 => by
  have := (own_up hB b h2).2
  rcases ha a h1 with ⟨b0, h0, h3⟩ | h3
  · injection h0 with h0
    subst h0
    simp only at h3
    omega
  · omega
theorem below_lit {w w' : World} {o : Obj} {g : Nat} (hg : (w.alloc o).grownBy w' ((some (⟨g, 0, none⟩ : Addr)).map (·.block))) (h : w.heap.size ≤ g) : Below w.heap.size w w' :=
  ((Below.refl _ _).alloc (Nat.le_refl _) _).grown hg (by simp) (fun i e => by
    have e' : g = i := by simpa using e
    omega)
/-- One of the numbers of a literal. -/
theorem lit_at {w : World} {g : Nat} {t : TypeId} {l : List Int} {v : Int} (h : Blk w g t (nums .i64 l).toArray) (h0 : 0 ≤ v) (h1 : v < l.length) : ∃ x, x ∈ l ∧ w.cell? ⟨g, v.toNat, none⟩ = some (.int .i64 x) := by
  have hk : v.toNat < l.length := by omega
  refine ⟨l[v.toNat], List.getElem_mem hk, ?_⟩
  rw [h.cell]
  simp [nums, hk]
theorem lits_at {w : World} {g : Nat} {t : TypeId} {l : List ByteArray} {v : Int} (h : Blk w g t (texts l).toArray) (h0 : 0 ≤ v) (h1 : v < l.length) : ∃ x, x ∈ l ∧ w.cell? ⟨g, v.toNat, none⟩ = some (.string x) := by
  have hk : v.toNat < l.length := by omega
  refine ⟨l[v.toNat], List.getElem_mem hk, ?_⟩
  rw [h.cell]
  simp [texts, hk]
end Go.Proofs.Ytgibmbjdnppiaaa
