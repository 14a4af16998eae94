/- More plain words on memory: rows that are made one behind the other; a frame for a law's walk. No condition. -/
import Derived.Test.YtgibmbjdnppiaaaBase
namespace Go.Proofs.Ytgibmbjdnppiaaa
open Go Go.RowKit

theorem own_up {w : World} {base : Nat} {t : TypeId} {size : Nat} {A : Option Addr} {n c : Nat} {xs : List Value} (h : w.ownsRow base t size (.slice A n c) n xs) : ∀ a, A = some a → base ≤ a.block ∧ a.block < w.heap.size := by
  rintro a rfl
  exact h.lt a.block rfl

theorem own_other {w w' : World} {base : Nat} {t : TypeId} {size : Nat} {A A2 : Option Addr} {n c : Nat} {xs : List Value} (h : w.ownsRow base t size (.slice A n c) n xs) (hg : w.grownBy w' (A2.map (·.block)))
    (hd : ∀ a a2, A = some a → A2 = some a2 → a.block ≠ a2.block) : w'.ownsRow base t size (.slice A n c) n xs := by
  refine h.kept hg ?_
  cases A with
  | none => exact .inl rfl
  | some a =>
    refine .inr ?_
    cases A2 with
    | none => simp [Value.ownBlock]
    | some a2 => simpa [Value.ownBlock] using hd a a2 rfl rfl

theorem below_marks {W w w' : World} {base : Nat} {t : TypeId} {size : Nat} {A : Option Addr} {n c : Nat} {xs : List Value} (hb : Below W.heap.size W w) (h : w.ownsRow base t size (.slice A n c) n xs) (hW : W.heap.size ≤ base)
    (hg : w.grownBy w' (A.map (·.block))) : Below W.heap.size W w' := by
  refine hb.grown hg hb.size ?_
  intro k hk
  cases A with
  | none => cases hk
  | some a =>
    have := own_up h a rfl
    have hk' : a.block = k := by simpa using hk
    omega

/-- The size that is left, as the laws' counting functions tell it. -/
def szRes (left total : Int) : Int := if left < total then -1 else left - total
theorem szRes_neg {left total : Int} (h : left < total) : szRes left total = -1 := if_pos h
theorem szRes_pos {left total : Int} (h : total ≤ left) : szRes left total = left - total := if_neg (by omega)

/-- append onto a row of the call's own, the new elements at a known place: what becomes of the row, where it lies, and that every cell that lay within the row's length, or in another block, is as it was. -/
theorem run_push {P : Program} (w : World) (base : Nat) (t ty e : TypeId) (i : TypeInfo) (z : Value) (size bytes : Nat) (ht : P.underlying t = some (.slice e)) (hi : P.info? e = some i) (hz : i.zero = some z)
    (hsize : i.size = size) (hby : i.bytes = bytes) (hzs : z.cells.size = size) (hsz : 0 < size) (hbs : bytes ≤ 64)
    (A : Option Addr) (n c m c2 : Nat) (xs us : List Value) (hown : w.ownsRow base e size (.slice A n c) n xs)
    (ad : Addr) (hus : us.length = m * size) (hnews : ∀ j u, us[j]? = some u → w.cell? (ad.add j) = some u) (h1 : ∀ u ∈ us, u.oneCell' = true) (hm : 0 < m) (hnm : n + m ≤ 1099511627776) (hbase : base ≤ w.heap.size) :
    ∃ A' c' w', (Builtin.append_ #[t, t] ty #[.slice A n c, .slice (some ad) m c2]).run P w = .ok (.slice A' (n + m) c') w' ∧ w'.ownsRow base e size (.slice A' (n + m) c') (n + m) (xs ++ us) ∧ w.grownBy w' (A.map (·.block)) ∧
      (∀ b, A' = some b → (∃ b0, A = some b0 ∧ b0.block = b.block) ∨ w.heap.size ≤ b.block) ∧
      (∀ q v, w.cell? q = some v → (∀ b0, A = some b0 → b0.block = q.block → q.off < n * size) → w'.cell? q = some v) := by
  have hlen : n + m ≤ 9223372036854775807 := by omega
  have hbb : (n + m) * bytes ≤ 140737488355328 := by
    have : (n + m) * bytes ≤ 1099511627776 * 64 := Nat.mul_le_mul hnm hbs
    omega
  obtain ⟨v', w', hr, ho, hg, _, hat⟩ := run_append_own_at (P := P) w base t ty e i z size bytes ht hi hz hsize hby hzs hsz (.slice A n c) n xs hown ad m c2 us hus hnews h1 (by unfold maxLen; omega) hbb hbase
  subst hsize
  have hob : Value.ownBlock (.slice A n c) = A.map (·.block) := by cases A <;> rfl
  rw [hob] at hg hat
  obtain ⟨A', c', hv⟩ : ∃ A' c', v' = .slice A' (n + m) c' := by
    rcases ho.2 with ⟨_, h0⟩ | ⟨g, cap, cur, hv, _⟩
    · omega
    · exact ⟨_, _, hv⟩
  subst hv
  have old : ∀ o : Obj, ∀ q v, w.cell? q = some v → (w.drew.alloc o).cell? q = some v := fun o q v hq => by
    have hlt := World.block_lt_of_cell? w q hq
    rw [World.cell?_alloc_lt w.drew o q hlt]; exact hq
  refine ⟨A', c', w', hr, ho, hg, ?_, ?_⟩
  · intro b hb
    subst hb
    rcases hat with hat | hat
    · cases A with
      | none => cases hat
      | some b0 => exact .inl ⟨b0, rfl, by simpa [Value.ownBlock] using hat.symm⟩
    · exact .inr (by have : b.block = w.heap.size := by simpa [Value.ownBlock] using hat
                     omega)
  · intro q v hq hin
    rcases hown.2 with ⟨hv, h0⟩ | ⟨g, cap, cur, hv, hbg, hgg, hnc, hcm, hcs, htake⟩
    · injection hv with h2 h3 h4
      subst h2 h0 h4
      have hr2 := run_append_nil (P := P) w t ty e i z ht hi hz ad m c2 us hus hnews hm (by omega) (by rw [hby]; simp only [Nat.zero_add] at hbb; omega)
      rw [hr2] at hr
      injection hr with _ hw
      subst hw
      exact old _ q v hq
    · injection hv with h2 h3 h4
      subst h2 h4
      by_cases hroom : n + m ≤ c
      · have hfit : n * i.size + us.length ≤ cur.size := by rw [hus, hcs, ← Nat.add_mul]; exact Nat.mul_le_mul_right _ hroom
        have hr2 := run_append_room (P := P) w t ty e i ht hi g n c cur hgg ad m c2 us hus hnews h1 hroom hfit
        rw [hr2] at hr
        injection hr with _ hw
        subst hw
        by_cases hqb : q.block = g
        · have hoff := hin ⟨g, 0, none⟩ rfl hqb.symm
          have hsp := World.cell?_spot hq
          obtain ⟨qb, qo, qs⟩ := q
          simp only at hqb hoff hsp
          subst hqb hsp
          rw [cell_of_row w qb qo cur e (0, 0) hgg] at hq
          rw [cell_of_row _ qb qo _ e (0, 0) (setRow_heap w qb cur _ e _ hgg), List.getElem?_toArray, List.append_assoc, List.getElem?_append_left (by rw [List.length_take, Array.length_toList]; omega), List.getElem?_take, if_pos hoff]
          simpa using hq
        · exact (World.cell?_of_block (setRow_other w g q.block _ (by first | exact hqb | exact fun e => hqb e.symm))).trans hq
      · have holds : ∀ j u, xs[j]? = some u → w.cell? ((⟨g, 0, none⟩ : Addr).add j) = some u := hown.cells (g := g) rfl
        have hr2 := run_append_grow (P := P) w t ty e i z ht hi hz ⟨g, 0, none⟩ n c xs hown.1 holds ad m c2 us hus hnews (by omega) (by omega) (growslice_fits (by omega) (by rw [hby]; exact hbb))
        rw [hr2] at hr
        injection hr with _ hw
        subst hw
        exact old _ q v hq

/-- The law at a plain list of operations. -/
theorem wpList_push {P : Program} {ops : Array Oper} {rest : List Oper} {o : Oper} {a : Act} {Q : Exit → Act → World → Prop} (w : World) (hgd : o.guard = none) (s x : Operand) (t : TypeId)
    (ho : o.op = .call { callee := .builtin .append, args := #[s, x], argTypes := #[t, t] })
    (base : Nat) (e : TypeId) (i : TypeInfo) (z : Value) (size bytes : Nat) (ht : P.underlying t = some (.slice e)) (hi : P.info? e = some i) (hz : i.zero = some z)
    (hsize : i.size = size) (hby : i.bytes = bytes) (hzs : z.cells.size = size) (hsz : 0 < size) (hbs : bytes ≤ 64)
    (A : Option Addr) (n c m c2 : Nat) (xs us : List Value) (hown : w.ownsRow base e size (.slice A n c) n xs) (hs : a.eval s = .slice A n c)
    (ad : Addr) (hx : a.eval x = .slice (some ad) m c2) (hus : us.length = m * size) (hnews : ∀ j u, us[j]? = some u → w.cell? (ad.add j) = some u) (h1 : ∀ u ∈ us, u.oneCell' = true) (hm : 0 < m) (hnm : n + m ≤ 1099511627776) (hbase : base ≤ w.heap.size)
    (h : ∀ A' c' w', w'.ownsRow base e size (.slice A' (n + m) c') (n + m) (xs ++ us) → w.grownBy w' (A.map (·.block)) → (∀ b, A' = some b → (∃ b0, A = some b0 ∧ b0.block = b.block) ∨ w.heap.size ≤ b.block) →
      (∀ q v, w.cell? q = some v → (∀ b0, A = some b0 → b0.block = q.block → q.off < n * size) → w'.cell? q = some v) → wpList P ops Q rest (a.put o.dst (.slice A' (n + m) c')) w') : wpList P ops Q (o :: rest) a w := by
  refine wpList_plain hgd fun K hK => ?_
  obtain ⟨A', c', w', hr, h2, h3, h4, h5⟩ := run_push (P := P) w base t o.type e i z size bytes ht hi hz hsize hby hzs hsz hbs A n c m c2 xs us hown ad hus hnews h1 hm hnm hbase
  unfold Oper.wp execOp
  simp only [ho, resolve, invoke, builtin, Sem.run_bind, Sem.run_pure, Result.andThen_ok, List.map_toArray, List.map_cons, List.map_nil, hs, hx, hr]
  exact hK _ _ (h A' c' w' h2 h3 h4 h5)

/-- The law at a step of a region that draws its order. -/
theorem step_push {P : Program} {ops : Array Oper} {o : Oper} {a : Act} {K : Act → World → Prop} {Q : Exit → Act → World → Prop} {E : Prop} (w : World) (hgd : o.guard = none) (s x : Operand) (t : TypeId)
    (ho : o.op = .call { callee := .builtin .append, args := #[s, x], argTypes := #[t, t] })
    (base : Nat) (e : TypeId) (i : TypeInfo) (z : Value) (size bytes : Nat) (ht : P.underlying t = some (.slice e)) (hi : P.info? e = some i) (hz : i.zero = some z)
    (hsize : i.size = size) (hby : i.bytes = bytes) (hzs : z.cells.size = size) (hsz : 0 < size) (hbs : bytes ≤ 64)
    (A : Option Addr) (n c m c2 : Nat) (xs us : List Value) (hown : w.ownsRow base e size (.slice A n c) n xs) (hs : a.eval s = .slice A n c)
    (ad : Addr) (hx : a.eval x = .slice (some ad) m c2) (hus : us.length = m * size) (hnews : ∀ j u, us[j]? = some u → w.cell? (ad.add j) = some u) (h1 : ∀ u ∈ us, u.oneCell' = true) (hm : 0 < m) (hnm : n + m ≤ 1099511627776) (hbase : base ≤ w.heap.size)
    (h : ∀ A' c' w', w'.ownsRow base e size (.slice A' (n + m) c') (n + m) (xs ++ us) → w.grownBy w' (A.map (·.block)) → (∀ b, A' = some b → (∃ b0, A = some b0 ∧ b0.block = b.block) ∨ w.heap.size ≤ b.block) →
      (∀ q v, w.cell? q = some v → (∀ b0, A = some b0 → b0.block = q.block → q.off < n * size) → w'.cell? q = some v) → K (a.put o.dst (.slice A' (n + m) c')) w') :
    if Region.wanted o (yielded ops a.tmps) = true then Oper.wp P o a w K Q else E := by
  have hw : Region.wanted o (yielded ops a.tmps) = true := by simp [Region.wanted, hgd]
  rw [if_pos hw]
  obtain ⟨A', c', w', hr, h2, h3, h4, h5⟩ := run_push (P := P) w base t o.type e i z size bytes ht hi hz hsize hby hzs hsz hbs A n c m c2 xs us hown ad hus hnews h1 hm hnm hbase
  unfold Oper.wp execOp
  simp only [ho, resolve, invoke, builtin, Sem.run_bind, Sem.run_pure, Result.andThen_ok, List.map_toArray, List.map_cons, List.map_nil, hs, hx, hr]
  exact h A' c' w' h2 h3 h4 h5

/-- Behind an append: old memory below the row's base is as it was. -/
theorem below_push {W w w' : World} {base : Nat} {t : TypeId} {size : Nat} {A : Option Addr} {n c : Nat} {xs : List Value} {B : Nat} (hb : Below B W w) (h : w.ownsRow base t size (.slice A n c) n xs) (hB : B ≤ base) (hw : B ≤ w.heap.size)
    (hg : w.grownBy w' (A.map (·.block))) : Below B W w' := by
  refine hb.grown hg hw ?_
  intro k hk
  cases A with
  | none => cases hk
  | some a =>
    have := own_up h a rfl
    have hk' : a.block = k := by simpa using hk
    omega

/-- Of the cells that an append keeps: one in another block; one of the row itself. -/
theorem kept_other {w w1 : World} {g m B : Nat} {q : Addr} {v : Value} (hkeep : ∀ q v, w.cell? q = some v → (∀ b0, some (⟨g, 0, none⟩ : Addr) = some b0 → b0.block = q.block → q.off < m) → w1.cell? q = some v)
    (h : w.cell? q = some v) (hq : q.block < B) (hB : B ≤ g) : w1.cell? q = some v :=
  hkeep q v h fun b0 h0 hb => by
    injection h0 with h0
    subst h0
    simp only at hb
    omega
theorem kept_far {w w1 : World} {g m B : Nat} {a : Addr} {k : Nat} {v : Value} (hkeep : ∀ q v, w.cell? q = some v → (∀ b0, some (⟨g, 0, none⟩ : Addr) = some b0 → b0.block = q.block → q.off < m) → w1.cell? q = some v)
    (h : w.cell? (a.add k) = some v) (hq : a.block < B) (hB : B ≤ g) : w1.cell? (a.add k) = some v := kept_other hkeep h (by rw [block_of_add]; exact hq) hB
theorem kept_in {w w1 : World} {g m j : Nat} {v : Value} (hkeep : ∀ q v, w.cell? q = some v → (∀ b0, some (⟨g, 0, none⟩ : Addr) = some b0 → b0.block = q.block → q.off < m) → w1.cell? q = some v)
    (h : w.cell? ⟨g, j, none⟩ = some v) (hj : j < m) : w1.cell? ⟨g, j, none⟩ = some v := hkeep _ v h fun _ _ _ => hj

theorem own_base {w : World} {base base' : Nat} {t : TypeId} {size : Nat} {v : Value} {n : Nat} {xs : List Value} (h : w.ownsRow base t size v n xs) (hb : base' ≤ base) : w.ownsRow base' t size v n xs := by
  refine ⟨h.1, ?_⟩
  rcases h.2 with h0 | ⟨g, cap, cur, rfl, hbg, rest⟩
  · exact .inl h0
  · exact .inr ⟨g, cap, cur, rfl, Nat.le_trans hb hbg, rest⟩

end Go.Proofs.Ytgibmbjdnppiaaa
