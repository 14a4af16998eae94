/- Steps of a region that draws its order: words on what is kept; single operations. No condition. -/
import Derived.Orders
import Derived.Handy
import Derived.WalkKit
import Derived.Test.YtgibmbjdnppiaaaBase
import Derived.Test.YtgibmbjdnppiaaaBase2
import Derived.Test.YtgibmbjdnppiaaaReg
namespace Go.Proofs.Ytgibmbjdnppiaaa
open Go Go.RowKit

/-- The blocks that are spared are as they were. -/
structure Keeps (ok : Nat → Prop) (w w' : World) : Prop where
  size : w.heap.size ≤ w'.heap.size
  block : ∀ b, b < w.heap.size → ok b → w'.heap[b]? = w.heap[b]?
section
variable {ok : Nat → Prop} {w w' w'' : World}
theorem Keeps.refl (ok : Nat → Prop) (w : World) : Keeps ok w w := ⟨Nat.le_refl _, fun _ _ _ => rfl⟩
theorem Keeps.trans (h : Keeps ok w w') (g : Keeps ok w' w'') : Keeps ok w w'' := ⟨Nat.le_trans h.size g.size, fun b hb ho => (g.block b (Nat.lt_of_lt_of_le hb h.size) ho).trans (h.block b hb ho)⟩
theorem Keeps.grown {row : Option Nat} (h : w.grownBy w' row) (hr : ∀ k, row = some k → ¬ ok k) : Keeps ok w w' := ⟨h.size, fun b hb ho => h.block b hb (fun e => hr b e.symm ho)⟩
theorem Keeps.alloc (ok : Nat → Prop) (w : World) (o : Obj) : Keeps ok w (w.alloc o) := ⟨by simp, fun b hb _ => Below.heap_alloc w o b hb⟩
theorem Keeps.set_ {p : Addr} (h : ¬ ok p.block) (u : Value) : Keeps ok w (w.setCell p u) := ⟨by simp, fun b _ ho => Below.heap_setCell w p u b (fun e => h (e ▸ ho))⟩
theorem Keeps.below (h : Below w.heap.size w w') : Keeps ok w w' := ⟨h.size, fun b hb _ => h.block b hb⟩
theorem Blk.keeps {g : Nat} {t : TypeId} {cs : Array Value} (h : Blk w g t cs) (k : Keeps ok w w') (ho : ok g) : Blk w' g t cs := (k.block g h.lt ho).trans h
theorem Keeps.cell {p : Addr} {v : Value} (k : Keeps ok w w') (h : w.cell? p = some v) (ho : ok p.block) : w'.cell? p = some v := (World.cell?_of_block (k.block p.block (World.block_lt_of_cell? w p h) ho)).trans h
theorem Keeps.own {base size n : Nat} {t : TypeId} {v : Value} {xs : List Value} (k : Keeps ok w w') (h : w.ownsRow base t size v n xs) (ho : ∀ g, v.ownBlock = some g → ok g) : w'.ownsRow base t size v n xs := by
  refine ⟨h.1, ?_⟩
  rcases h.2 with h0 | ⟨g, cap, cur, rfl, hbg, hh, rest⟩
  · exact .inl h0
  · have hlt : g < w.heap.size := by
      rcases Nat.lt_or_ge g w.heap.size with h1 | h1
      · exact h1
      · rw [Array.getElem?_eq_none h1] at hh; cases hh
    exact .inr ⟨g, cap, cur, rfl, hbg, (k.block g hlt (ho g rfl)).trans hh, rest⟩
end

section
variable {P : Program} {o : Oper} {a : Act} {w : World} {K : Act → World → Prop} {Q : Exit → Act → World → Prop}
theorem op_move {x : Operand} (ho : o.op = .move x) (h : K (a.put o.dst (a.eval x)) w) : o.wp P a w K Q := by
  unfold Oper.wp execOp
  simp only [ho]
  exact h
theorem op_assign {x : Operand} (ho : o.op = .assign x) (h : K (a.put o.dst (a.eval x)) w) : o.wp P a w K Q := by
  unfold Oper.wp execOp
  simp only [ho]
  exact h
theorem op_val {v : Value} {w' : World} (hr : (execOp a.eval o).run P w = .ok (.value v) w') (h : K (a.put o.dst v) w') : o.wp P a w K Q := by
  unfold Oper.wp
  rw [hr]
  exact h
theorem op_call {f : FuncId} {args : Array Operand} {ts : Array TypeId} {vs : Array Value} (ho : o.op = .call { callee := .value (.func f), args := args, argTypes := ts }) (hv : args.map a.eval = vs)
    (hc : (callFunc f vs).run P w = .ok (.enter f vs) w) {R : Ending → World → Prop} (hf : Calls P f vs w R) (h : ∀ e w', R e w' → ∃ v, e = .returned v ∧ K (a.put o.dst v) w') : o.wp P a w K Q := by
  unfold Oper.wp execOp
  simp only [ho, resolve, hv]
  simp only [Act.eval, Deferred.ofValue, Sem.run_bind, Sem.run_pure, Result.andThen_ok, invoke, Array.append_empty, Array.empty_append, hc, Oper.upon]
  exact hf.mono fun e w' he => by
    obtain ⟨v, rfl, hk⟩ := h e w' he
    exact hk
theorem op_push (s x : Operand) (t : TypeId)
    (ho : o.op = .call { callee := .builtin .append, args := #[s, x], argTypes := #[t, t] })
    (base : Nat) (e : TypeId) (i : TypeInfo) (z : Value) (size bytes : Nat) (ht : P.underlying t = some (.slice e)) (hi : P.info? e = some i) (hz : i.zero = some z)
    (hsize : i.size = size) (hby : i.bytes = bytes) (hzs : z.cells.size = size) (hsz : 0 < size) (hbs : bytes ≤ 64)
    (A : Option Addr) (n c m c2 : Nat) (xs us : List Value) (hown : w.ownsRow base e size (.slice A n c) n xs) (hs : a.eval s = .slice A n c)
    (ad : Addr) (hx : a.eval x = .slice (some ad) m c2) (hus : us.length = m * size) (hnews : ∀ j u, us[j]? = some u → w.cell? (ad.add j) = some u) (h1 : ∀ u ∈ us, u.oneCell' = true) (hm : 0 < m) (hnm : n + m ≤ 1099511627776) (hbase : base ≤ w.heap.size)
    (h : ∀ A' c' w', w'.ownsRow base e size (.slice A' (n + m) c') (n + m) (xs ++ us) → w.grownBy w' (A.map (·.block)) → (∀ b, A' = some b → (∃ b0, A = some b0 ∧ b0.block = b.block) ∨ w.heap.size ≤ b.block) →
      (∀ q v, w.cell? q = some v → (∀ b0, A = some b0 → b0.block = q.block → q.off < n * size) → w'.cell? q = some v) → K (a.put o.dst (.slice A' (n + m) c')) w') : o.wp P a w K Q := by
  obtain ⟨A', c', w', hr, h2, h3, h4, h5⟩ := run_push (P := P) w base t o.type e i z size bytes ht hi hz hsize hby hzs hsz hbs A n c m c2 xs us hown ad hus hnews h1 hm hnm hbase
  unfold Oper.wp execOp
  simp only [ho, resolve, invoke, builtin, Sem.run_bind, Sem.run_pure, Result.andThen_ok, List.map_toArray, List.map_cons, List.map_nil, hs, hx, hr]
  exact h A' c' w' h2 h3 h4 h5
end
end Go.Proofs.Ytgibmbjdnppiaaa
