/- The arguments of a law, opened: a slice of numbers, of strings; and the frame by which a law's walk becomes the given statement. No condition. -/
import Derived.Test.YtgibmbjdnppiaaaBase
import Derived.ProofKit
import Derived.OpenShut
import Derived.ShutString
import Derived.ChangeOld
import Derived.SliceStrings
import Derived.Deep.Slices
import Derived.Deep.Fields
import Derived.ChangeSame
import Derived.Lib.SmallJoins
namespace Go.Proofs.Ytgibmbjdnppiaaa
open Go Go.RowKit Go.ChangeShapes Go.WideShapes Go.ChangeAt Go.Deep

/-- An int that came in. -/
def ArgInt (v : Value) : Prop := ∃ a : Int, v = .int .i64 a ∧ -9223372036854775808 ≤ a ∧ a ≤ 9223372036854775807
/-- A string that came in. -/
def ArgStr (v : Value) : Prop := ∃ s : ByteArray, v = .string s ∧ s.size ≤ maxLen
/-- A slice of numbers that came in. -/
def ArgNums (k : IntKind) (W : World) (v : Value) : Prop :=
  ∃ (A : Option Addr) (c : Nat) (xs : List Int), v = .slice A xs.length c ∧ Reads W W.heap.size 1 A xs.length (nums k xs) ∧ xs.length ≤ maxLen ∧ ∀ x ∈ xs, (Lit.int k x).wf = true
/-- A slice of strings that came in. -/
def ArgTexts (W : World) (v : Value) : Prop :=
  ∃ (A : Option Addr) (c : Nat) (xs : List ByteArray), v = .slice A xs.length c ∧ Reads W W.heap.size 1 A xs.length (texts xs) ∧ xs.length ≤ maxLen ∧ ∀ s ∈ xs, s.size ≤ maxLen

theorem wf_i64_bd {x : Int} (h : (Lit.int .i64 x).wf = true) : -9223372036854775808 ≤ x ∧ x ≤ 9223372036854775807 := by
  simpa [Lit.wf, IntKind.min, IntKind.max, IntKind.signed, IntKind.bits] using h
theorem wf_u8_bd {x : Int} (h : (Lit.int .u8 x).wf = true) : 0 ≤ x ∧ x ≤ 255 := by
  simpa [Lit.wf, IntKind.min, IntKind.max, IntKind.signed, IntKind.bits] using h

section
variable {H : Type} {enc : TypeId × Value → H} {P : Program} {W : World} {base : Nat} {b0 : Nat} {r : Reach} {sp : Nat → Bool} {hd : Bool}

theorem arg_int {t : TypeId} {v : Value} {d : DataW H} {p : List MemPlace} (ht : P.underlying t = some (.int .i64)) (hv : Value.okWide P W r b0 t v) (h : DataW.Trod enc P W base sp hd t v d p) : ArgInt v := by
  obtain ⟨x, rfl, rfl, rfl, wx⟩ := open_int ht hv h
  exact ⟨x, rfl, wf_i64_bd wx⟩

theorem arg_str {t : TypeId} {v : Value} {d : DataW H} {p : List MemPlace} (ht : P.underlying t = some .string) (hv : Value.okWide P W r b0 t v) (h : DataW.Trod enc P W base sp hd t v d p) : ArgStr v := by
  obtain ⟨x, rfl, rfl, rfl, wx⟩ := Go.ChangeMaps.open_string ht hv h
  exact ⟨x, rfl, wx⟩

/-- A one-cell value of a slice of numbers, read. -/
theorem read_nums {t e : TypeId} {k : IntKind} {fuel : Nat} {v : Value} {x : DataW H × List MemPlace} (ht : P.underlying t = some (.slice e)) (he : P.underlying e = some (.int k)) (hc : P.cellsOf e = 1)
    (h : DataW.trod enc P W base (fun _ => true) hd fuel t [v] = some x) : ArgNums k W v := by
  rcases open_ints ht he hc h with ⟨hcs, _⟩ | ⟨a, len, cap, zs, hcs, _, hl, hm, hz, _, hcell, hwz⟩
  · simp only [List.cons.injEq, and_true] at hcs
    exact ⟨none, 0, [], hcs, Reads.none_, Nat.zero_le _, by simp⟩
  · simp only [List.cons.injEq, and_true] at hcs
    simp only [if_true] at hz
    have hlen : (zs.take len).length = len := by rw [List.length_take]; omega
    refine ⟨some a, cap, zs.take len, by rw [hlen]; exact hcs, ⟨by rw [nums_len, hlen]; omega, fun hn => ⟨a, rfl, ?_, ?_⟩⟩, by rw [hlen]; omega, fun y hy => hwz y (List.mem_of_mem_take hy)⟩
    · rw [hlen] at hn
      have := World.block_lt_of_cell? W (a.add 0) (hcell 0 (by omega))
      rwa [block_of_add] at this
    · intro j u hu
      have hj : j < len := by
        rcases Nat.lt_or_ge j len with h1 | h1
        · exact h1
        · rw [List.getElem?_eq_none (by rw [nums_len, hlen]; exact h1)] at hu; cases hu
      rw [hcell j (by omega), ← hu, nums_get _ _ (by rw [hlen]; exact hj), List.getElem_take, List.getD_eq_getElem?_getD, List.getElem?_eq_getElem (by omega)]
      rfl

theorem read_texts {t e : TypeId} {fuel : Nat} {v : Value} {x : DataW H × List MemPlace} (ht : P.underlying t = some (.slice e)) (he : P.underlying e = some .string) (hc : P.cellsOf e = 1)
    (h : DataW.trod enc P W base (fun _ => true) hd fuel t [v] = some x) : ArgTexts W v := by
  rcases open_strings ht he hc h with ⟨hcs, _⟩ | ⟨a, len, cap, zs, hcs, _, hl, hm, hz, _, hcell, hwz⟩
  · simp only [List.cons.injEq, and_true] at hcs
    exact ⟨none, 0, [], hcs, Reads.none_, Nat.zero_le _, by simp⟩
  · simp only [List.cons.injEq, and_true] at hcs
    simp only [if_true] at hz
    have hlen : (zs.take len).length = len := by rw [List.length_take]; omega
    refine ⟨some a, cap, zs.take len, by rw [hlen]; exact hcs, ⟨by rw [texts_len, hlen]; omega, fun hn => ⟨a, rfl, ?_, ?_⟩⟩, by rw [hlen]; omega, fun y hy => hwz y (List.mem_of_mem_take hy)⟩
    · rw [hlen] at hn
      have := World.block_lt_of_cell? W (a.add 0) (hcell 0 (by omega))
      rwa [block_of_add] at this
    · intro j u hu
      have hj : j < len := by
        rcases Nat.lt_or_ge j len with h1 | h1
        · exact h1
        · rw [List.getElem?_eq_none (by rw [texts_len, hlen]; exact h1)] at hu; cases hu
      rw [hcell j (by omega), ← hu, texts_get _ _ (by rw [hlen]; exact hj), List.getElem_take, List.getD_eq_getElem?_getD, List.getElem?_eq_getElem (by omega)]
      rfl

theorem arg_nums {t e : TypeId} {k : IntKind} {v : Value} {d : DataW H} {p : List MemPlace} (ht : P.underlying t = some (.slice e)) (he : P.underlying e = some (.int k)) (hc : P.cellsOf e = 1)
    (hv : Value.okWide P W r b0 t v) (h : DataW.Trod enc P W base (fun _ => true) hd t v d p) : ArgNums k W v := by
  obtain ⟨a, len, cap, rfl⟩ := okWide_slice ht hv
  obtain ⟨fuel, hf⟩ := h
  exact read_nums ht he hc (by simpa [Value.cells] using hf)

theorem arg_texts {t e : TypeId} {v : Value} {d : DataW H} {p : List MemPlace} (ht : P.underlying t = some (.slice e)) (he : P.underlying e = some .string) (hc : P.cellsOf e = 1)
    (hv : Value.okWide P W r b0 t v) (h : DataW.Trod enc P W base (fun _ => true) hd t v d p) : ArgTexts W v := by
  obtain ⟨a, len, cap, rfl⟩ := okWide_slice ht hv
  obtain ⟨fuel, hf⟩ := h
  exact read_texts ht he hc (by simpa [Value.cells] using hf)
end
end Go.Proofs.Ytgibmbjdnppiaaa
