/- Slices of structs that came in, opened to plain lists. No condition. -/
import Derived.Test.YtgibmbjdnppiaaaOpen
import Derived.Deep.Slices
import Derived.Deep.Fields
import Derived.ChangeSame
namespace Go.Proofs.Ytgibmbjdnppiaaa
open Go Go.RowKit Go.ChangeShapes Go.WideShapes Go.ChangeAt Go.Deep

section
variable {H : Type} {enc : TypeId × Value → H} {P : Program} {w : World} {base : Nat} {spare : Nat → Bool} {held : Bool}
theorem open_slice_fields {t e : TypeId} {fs : Array Field} {fuel : Nat} {cs : List Value} {x : DataW H × List MemPlace} (ht : P.underlying t = some (.slice e)) (he : P.underlying e = some (.struct fs))
    (hone : oneCellFields P fs = true) (hC : P.cellsOf e = fs.size) (h : DataW.trod enc P w base spare held fuel t cs = some x) :
    (cs = [.slice none 0 0] ∧ x = (.nil, [])) ∨
    ∃ (a : Addr) (len cap m : Nat) (D : Nat → DataW H) (Pl : Nat → List MemPlace), cs = [.slice (some a) len cap] ∧ base ≤ a.block ∧ len ≤ cap ∧ cap ≤ maxLen ∧ m = (if spare a.block then cap else len) ∧
      x = (.slice ((List.range len).map D) ((List.range (m - len)).map fun j => D (len + j)), MemPlace.row a (m * fs.size) ++ (List.range m).flatMap Pl) ∧
      ∀ i, i < m → ∃ (ys : List (DataW H × List MemPlace)) (n : Nat), D i = .agg (ys.map (·.1)) ∧ Pl i = ys.flatMap (·.2) ∧ ys.length = fs.size ∧
        ∀ (j : Nat) (f : Field), fs[j]? = some f → ∃ (v : Value) (y : DataW H × List MemPlace), w.cell? (a.add (i * fs.size + j)) = some v ∧ ys[j]? = some y ∧ DataW.trod enc P w base spare held n f.type [v] = some y := by
  rcases open_slice ht h with h0 | ⟨a, len, cap, m, n, D, Pl, hcs, hb, hl, hm, hmm, hx, hi⟩
  · exact .inl h0
  · refine .inr ⟨a, len, cap, m, D, Pl, hcs, hb, hl, hm, hmm, by rw [hC] at hx; exact hx, fun i him => ?_⟩
    obtain ⟨cs', hc, ht'⟩ := hi i him
    rw [hC] at hc
    obtain ⟨ys, n', hn', hy, hlen, hyl, hf⟩ := DataW.trod_struct he ht'
    obtain ⟨_, hcl, hat⟩ := World.cells?_some hc
    simp only [Prod.mk.injEq] at hy
    refine ⟨ys, n', hy.1, hy.2, hyl, fun j f hj => ?_⟩
    obtain ⟨ho, hk⟩ := hone_of hone j f hj
    have hjl : j < fs.size := (Array.getElem?_eq_some_iff.1 hj).1
    have hcell := hat j hjl
    have hv : cs'[j]? = some (cs'[j]'(by omega)) := List.getElem?_eq_getElem (by omega)
    have h1 := hf j f hj
    rw [ho, hk] at h1
    have hone' : (cs'.drop j).take 1 = [cs'[j]'(by omega)] := by
      rw [List.drop_eq_getElem_cons (by omega)]
      rfl
    rw [hone'] at h1
    have hys : ys[j]? = some (ys[j]'(by omega)) := List.getElem?_eq_getElem (by omega)
    refine ⟨_, _, ?_, hys, h1.trans hys⟩
    rw [← Go.Deep.add_add, hcell, hv]
end

section
variable {H : Type} {enc : TypeId × Value → H} {P : Program} {W : World} {base : Nat} {hd : Bool}
/-- A one-cell value of a slice of structs of one-cell fields, read: each element's cells are those of a plain value x, of which Q. -/
theorem read_rows {T : Type} [Inhabited T] (cells : T → List Value) {m : Nat} (hcl : ∀ x, (cells x).length = m) (Q : T → Prop) {t e : TypeId} {fs : Array Field} {fuel : Nat} {v : Value} {x : DataW H × List MemPlace}
    (ht : P.underlying t = some (.slice e)) (he : P.underlying e = some (.struct fs)) (hone : oneCellFields P fs = true) (hC : P.cellsOf e = fs.size) (hfs : fs.size = m) (hm : 0 < m)
    (hel : ∀ (vs : List Value), vs.length = m → ∀ n, (∀ (j : Nat) (f : Field) (v : Value), fs[j]? = some f → vs[j]? = some v → ∃ y, DataW.trod enc P W base (fun _ => true) hd n f.type [v] = some y) → ∃ x : T, vs = cells x ∧ Q x)
    (h : DataW.trod enc P W base (fun _ => true) hd fuel t [v] = some x) :
    ∃ (A : Option Addr) (c : Nat) (xs : List T), v = .slice A xs.length c ∧ Reads W W.heap.size m A xs.length (xs.flatMap cells) ∧ xs.length ≤ maxLen ∧ ∀ x ∈ xs, Q x := by
  rcases open_slice_fields ht he hone hC h with ⟨hcs, _⟩ | ⟨a, len, cap, m', D, Pl, hcs, _, hl, hmx, hmm, _, hi⟩
  · simp only [List.cons.injEq, and_true] at hcs
    exact ⟨none, 0, [], hcs, Reads.none_, Nat.zero_le _, by simp⟩
  · simp only [List.cons.injEq, and_true] at hcs
    simp only [if_true] at hmm
    subst hmm
    have each : ∀ i, i < len → ∃ x : T, Q x ∧ ∀ j u, (cells x)[j]? = some u → W.cell? (a.add (i * m + j)) = some u := by
      intro i hil
      obtain ⟨ys, n, _, _, hyl, hf⟩ := hi i (by omega)
      have hj : ∀ j, j < m → ∃ v : Value, W.cell? (a.add (i * m + j)) = some v ∧ ∀ f : Field, fs[j]? = some f → ∃ y, DataW.trod enc P W base (fun _ => true) hd n f.type [v] = some y := by
        intro j hjm
        have hfj : fs[j]? = some (fs[j]'(by omega)) := Array.getElem?_eq_getElem (by omega)
        obtain ⟨v, y, hc, _, hy⟩ := hf j _ hfj
        rw [hfs] at hc
        exact ⟨v, hc, fun f hfe => ⟨y, by rw [hfj] at hfe; injection hfe with hfe; subst hfe; exact hy⟩⟩
      obtain ⟨g, hg⟩ := choose_lt hj
      have hgl : ∀ j, j < m → ((List.range m).map g)[j]? = some (g j) := fun j hjm => by rw [List.getElem?_map, List.getElem?_range hjm]; rfl
      obtain ⟨x, hx, hq⟩ := hel ((List.range m).map g) (by simp) n (fun j f v hfj hv => by
        have hjm : j < m := by
          have := (Array.getElem?_eq_some_iff.1 hfj).1
          omega
        rw [hgl j hjm] at hv
        injection hv with hv
        subst hv
        exact (hg j hjm).2 f hfj)
      refine ⟨x, hq, fun j u hu => ?_⟩
      have hjm : j < m := by
        have := (List.getElem?_eq_some_iff.1 hu).1
        rw [hcl] at this
        exact this
      rw [← hx, hgl j hjm] at hu
      injection hu with hu
      subst hu
      exact (hg j hjm).1
    obtain ⟨f, hf⟩ := choose_lt each
    have hlen : ((List.range len).map f).length = len := by simp
    have hget : ∀ i, (h : i < ((List.range len).map f).length) → ((List.range len).map f)[i] = f i := fun i h => by simp
    refine ⟨some a, m', (List.range len).map f, by rw [hlen]; exact hcs, ⟨by rw [flat_len cells m hcl], fun hn => ⟨a, rfl, ?_, ?_⟩⟩, by rw [hlen]; omega, ?_⟩
    · rw [hlen] at hn
      have h0 : (cells (f 0))[0]? = some ((cells (f 0))[0]'(by rw [hcl]; exact hm)) := List.getElem?_eq_getElem (by rw [hcl]; exact hm)
      have := World.block_lt_of_cell? W _ ((hf 0 hn).2 0 _ h0)
      rwa [block_of_add] at this
    · intro j u hu
      have hjl : j < ((List.range len).map f).length * m := by
        have := (List.getElem?_eq_some_iff.1 hu).1
        rwa [flat_len cells m hcl] at this
      have hdm : j = j / m * m + j % m := by have := Nat.div_add_mod j m; rw [Nat.mul_comm] at this; exact this.symm
      have hmod : j % m < m := Nat.mod_lt _ hm
      have hdiv : j / m < ((List.range len).map f).length := Nat.div_lt_of_lt_mul (by rw [Nat.mul_comm]; exact hjl)
      rw [hdm, flat_get cells m hcl _ _ _ hdiv hmod, hget _ hdiv] at hu
      rw [hdm]
      exact (hf _ (by rw [hlen] at hdiv; exact hdiv)).2 _ u hu
    · intro x hx
      obtain ⟨i, hi2, rfl⟩ := List.mem_map.1 hx
      exact (hf i (List.mem_range.1 hi2)).1
end
end Go.Proofs.Ytgibmbjdnppiaaa
