/- Append at a guarded step of a region that draws its order; cells kept over an allocation. No condition. -/
import Derived.Test.YthjjbgpeajeneaaBase
import Derived.Test.YthjjbgpeajeneaaBase2
namespace Go.Proofs.Ythjjbgpeajeneaa
open Go Go.RowKit

/-- The law at a step of a region that draws its order, the operation guarded. -/
theorem step_pushG {P : Program} {ops : Array Oper} {o : Oper} {a : Act} {K : Act → World → Prop} {Q : Exit → Act → World → Prop} {E : Prop} (w : World) (hw : Region.wanted o (yielded ops a.tmps) = true) (s x : Operand) (t : TypeId)
    (ho : o.op = .call { callee := .builtin .append, args := #[s, x], argTypes := #[t, t] })
    (base : Nat) (e : TypeId) (i : TypeInfo) (z : Value) (size bytes : Nat) (ht : P.underlying t = some (.slice e)) (hi : P.info? e = some i) (hz : i.zero = some z)
    (hsize : i.size = size) (hby : i.bytes = bytes) (hzs : z.cells.size = size) (hsz : 0 < size) (hbs : bytes ≤ 64)
    (A : Option Addr) (n c m c2 : Nat) (xs us : List Value) (hown : w.ownsRow base e size (.slice A n c) n xs) (hs : a.eval s = .slice A n c)
    (ad : Addr) (hx : a.eval x = .slice (some ad) m c2) (hus : us.length = m * size) (hnews : ∀ j u, us[j]? = some u → w.cell? (ad.add j) = some u) (h1 : ∀ u ∈ us, u.oneCell' = true) (hm : 0 < m) (hnm : n + m ≤ 1099511627776) (hbase : base ≤ w.heap.size)
    (h : ∀ A' c' w', w'.ownsRow base e size (.slice A' (n + m) c') (n + m) (xs ++ us) → w.grownBy w' (A.map (·.block)) → (∀ b, A' = some b → (∃ b0, A = some b0 ∧ b0.block = b.block) ∨ w.heap.size ≤ b.block) →
      (∀ q v, w.cell? q = some v → (∀ b0, A = some b0 → b0.block = q.block → q.off < n * size) → w'.cell? q = some v) → K (a.put o.dst (.slice A' (n + m) c')) w') :
    if Region.wanted o (yielded ops a.tmps) = true then Oper.wp P o a w K Q else E := by
  rw [if_pos hw]
  obtain ⟨A', c', w', hr, h2, h3, h4, h5⟩ := run_push (P := P) w base t o.type e i z size bytes ht hi hz hsize hby hzs hsz hbs A n c m c2 xs us hown ad hus hnews h1 hm hnm hbase
  unfold Oper.wp execOp
  simp only [ho, resolve, invoke, builtin, Sem.run_bind, Sem.run_pure, Result.andThen_ok, List.map_toArray, List.map_cons, List.map_nil, hs, hx, hr]
  exact h A' c' w' h2 h3 h4 h5

theorem news_alloc {w : World} {ad : Addr} {us : List Value} (h : ∀ j u, us[j]? = some u → w.cell? (ad.add j) = some u) (o : Obj) : ∀ j u, us[j]? = some u → (w.alloc o).cell? (ad.add j) = some u :=
  fun j u hu => (World.cell?_alloc_lt w o _ (World.block_lt_of_cell? w _ (h j u hu))).trans (h j u hu)
theorem cell_alloc {w : World} {q : Addr} {v : Value} (h : w.cell? q = some v) (o : Obj) : (w.alloc o).cell? q = some v := (World.cell?_alloc_lt w o q (World.block_lt_of_cell? w q h)).trans h
end Go.Proofs.Ythjjbgpeajeneaa
