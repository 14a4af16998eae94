/- Plain words on memory: a call that changed only blocks within an interval. No condition. -/
import Derived.Test.YtbljkdhokbhcdaaBase
import Derived.Test.YtbljkdhokbhcdaaBase2
namespace Go.Proofs.Ytbljkdhokbhcdaa
open Go Go.RowKit

/-- Of the blocks that were there, only those from lo to hi (hi not among them) were changed. -/
structure Only (lo hi : Nat) (w w' : World) : Prop where
  os : w'.os = w.os
  tape : w'.tape = w.tape
  output : w'.output = w.output
  size : w.heap.size ≤ w'.heap.size
  block : ∀ k, k < w.heap.size → (k < lo ∨ hi ≤ k) → w'.heap[k]? = w.heap[k]?

section
variable {lo hi : Nat} {w w' w'' : World}
theorem Only.refl (lo hi : Nat) (w : World) : Only lo hi w w := ⟨rfl, rfl, rfl, Nat.le_refl _, fun _ _ _ => rfl⟩
theorem Only.trans (h : Only lo hi w w') (g : Only lo hi w' w'') : Only lo hi w w'' :=
  ⟨g.os.trans h.os, g.tape.trans h.tape, g.output.trans h.output, Nat.le_trans h.size g.size, fun k hk hb => (g.block k (Nat.lt_of_lt_of_le hk h.size) hb).trans (h.block k hk hb)⟩
theorem Only.of_below (h : Below w.heap.size w w') : Only lo hi w w' := ⟨h.os, h.tape, h.output, h.size, fun k hk _ => h.block k hk⟩
theorem Only.of_grown {row : Option Nat} (h : w.grownBy w' row) (hr : ∀ k, row = some k → lo ≤ k ∧ k < hi) : Only lo hi w w' :=
  ⟨h.os, h.tape, h.output, h.size, fun k hk hb => h.block k hk (fun e => by have := hr k e.symm; omega)⟩
theorem Only.wider {lo' hi' : Nat} (h : Only lo hi w w') (h1 : lo' ≤ lo) (h2 : hi ≤ hi') : Only lo' hi' w w' := ⟨h.os, h.tape, h.output, h.size, fun k hk hb => h.block k hk (by omega)⟩
theorem below_only {B : Nat} {W : World} (hb : Below B W w) (h : Only lo hi w w') (h1 : B ≤ lo) (h2 : B ≤ w.heap.size) : Below B W w' :=
  ⟨h.os.trans hb.os, h.tape.trans hb.tape, h.output.trans hb.output, Nat.le_trans hb.size h.size, fun k hk => (h.block k (by omega) (by omega)).trans (hb.block k hk)⟩
theorem own_only {base : Nat} {t : TypeId} {size : Nat} {A : Option Addr} {n c : Nat} {xs : List Value} (h : w.ownsRow base t size (.slice A n c) n xs) (ho : Only lo hi w w')
    (hd : ∀ a, A = some a → a.block < lo ∨ hi ≤ a.block) : w'.ownsRow base t size (.slice A n c) n xs := by
  refine ⟨h.1, ?_⟩
  rcases h.2 with h0 | ⟨g, cap, cur, hv, hbg, hg, rest⟩
  · exact .inl h0
  · injection hv with h1 h2 h3
    subst h1 h3
    exact .inr ⟨g, c, cur, rfl, hbg, (ho.block g (Array.getElem?_eq_some_iff.1 hg).1 (hd _ rfl)).trans hg, rest⟩
theorem Only.set_ {p : Addr} (h : Only lo hi w w') (u : Value) (h1 : lo ≤ p.block) (h2 : p.block < hi) : Only lo hi w (w'.setCell p u) :=
  ⟨h.os, h.tape, h.output, by simpa using h.size, fun k hk hb => (Below.heap_setCell w' p u k (by omega)).trans (h.block k hk hb)⟩
theorem blk_only {g : Nat} {t : TypeId} {cs : Array Value} (h : Blk w g t cs) (ho : Only lo hi w w') (hd : g < lo ∨ hi ≤ g) : Blk w' g t cs := (ho.block g h.lt hd).trans h
theorem Only.of_marks {t : TypeId} {size : Nat} {A : Option Addr} {n c : Nat} {xs : List Value} (h : w.ownsRow lo t size (.slice A n c) n xs) (hu : ∀ a, A = some a → a.block < hi) (s : w.grownBy w' (A.map (·.block))) : Only lo hi w w' := by
  refine Only.of_grown s ?_
  intro k hk
  cases A with
  | none => cases hk
  | some a =>
    have h1 := own_up h a rfl
    have h2 := hu a rfl
    have h4 : a.block = k := by simpa using hk
    omega
theorem blk_new1 (w : World) (t : TypeId) (cs : Array Value) (o o' : Obj) : Blk (((w.alloc (.cells cs t)).alloc o).alloc o') w.heap.size t cs := ((Blk.new w _ _).alloc _).alloc _
theorem blk_new2 (w : World) (t : TypeId) (cs : Array Value) (o o' : Obj) : Blk (((w.alloc o).alloc (.cells cs t)).alloc o') (w.heap.size + 1) t cs := by
  have h := (Blk.new (w.alloc o) t cs).alloc o'
  rwa [World.size_alloc] at h
theorem blk_new3 (w : World) (t : TypeId) (cs : Array Value) (o o' : Obj) : Blk (((w.alloc o).alloc o').alloc (.cells cs t)) (w.heap.size + 1 + 1) t cs := by
  have h := Blk.new ((w.alloc o).alloc o') t cs
  rwa [World.size_alloc, World.size_alloc] at h
theorem below_new3 (w : World) (o o' o'' : Obj) : Below w.heap.size w (((w.alloc o).alloc o').alloc o'') := (((Below.refl _ _).alloc (Nat.le_refl _) _).alloc (by simp) _).alloc (by simp; omega) _
theorem to_step {H : Nat} {u u' : World} (b : Below w.heap.size w u) (z : H + 3 ≤ u.heap.size) (hH : w.heap.size = H) (h : Only (H + 2) (H + 3) u w') (hs : w'.heap.size = u.heap.size) (s : Below w'.heap.size w' u') :
    Below w.heap.size w u' ∧ H + 3 ≤ u'.heap.size ∧ Only (H + 2) (H + 3) u u' := by
  subst hH
  refine ⟨below_only b (h.trans (Only.of_below s)) (by omega) (by omega), ?_, h.trans (Only.of_below s)⟩
  have := s.size
  omega
theorem own_hi {base H : Nat} {t : TypeId} {size : Nat} {A : Option Addr} {n c : Nat} {xs : List Value} {u u' : World} (h : u.ownsRow base t size (.slice A n c) n xs) (hb : H + 3 ≤ base) (ho : Only (H + 2) (H + 3) u u') : u'.ownsRow base t size (.slice A n c) n xs :=
  own_only h ho (fun a ha => Or.inr (Nat.le_trans hb (own_up h a ha).1))
theorem apart_hi {base base' : Nat} {t t' : TypeId} {size size' : Nat} {A A' : Option Addr} {n c n' c' : Nat} {xs xs' : List Value} {u u' : World} (h : u.ownsRow base t size (.slice A n c) n xs) (h' : u'.ownsRow base' t' size' (.slice A' n' c') n' xs') (hb : u.heap.size ≤ base') :
    ∀ a b, A = some a → A' = some b → a.block ≠ b.block := by
  intro a b ha hb
  have := own_up h a ha
  have := own_up h' b hb
  omega
end
end Go.Proofs.Ytbljkdhokbhcdaa
