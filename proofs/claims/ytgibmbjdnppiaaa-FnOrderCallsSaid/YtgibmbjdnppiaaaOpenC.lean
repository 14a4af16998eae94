/- An argument that is a code to draw from, opened. No condition. -/
import Derived.Test.YtgibmbjdnppiaaaRows
import Derived.Test.YtgibmbjdnppiaaaBase
import Derived.Test.YtgibmbjdnppiaaaOpen
namespace Go.Proofs.Ytgibmbjdnppiaaa
open Go Go.RowKit
open Go.ChangeShapes Go.WideShapes Go.ChangeAt Go.Deep
/-- Bytes that came in. -/
def ArgCode (W : World) (v : Value) : Prop :=
  ∃ (A : Option Addr) (c : Nat) (xs : List Int), v = .slice A xs.length c ∧ Reads W W.heap.size 1 A xs.length (nums .u8 xs) ∧ xs.length ≤ c ∧ c ≤ maxLen ∧ ∀ x ∈ xs, 0 ≤ x ∧ x ≤ 255
section
variable {H : Type} {enc : TypeId × Value → H} {P : Program} {W : World} {base : Nat} {b0 : Nat} {r : Reach} {hd : Bool}
theorem arg_code {t e : TypeId} {v : Value} {d : DataW H} {p : List MemPlace} (ht : P.underlying t = some (.slice e)) (he : P.underlying e = some (.int .u8)) (hc : P.cellsOf e = 1)
    (hv : Value.okWide P W r b0 t v) (h : DataW.Trod enc P W base (fun _ => true) hd t v d p) : ArgCode W v := by
  obtain ⟨a, len, cap, rfl⟩ := okWide_slice ht hv
  obtain ⟨fuel, hf⟩ := h
  have hf' : DataW.trod enc P W base (fun _ => true) hd fuel t [.slice a len cap] = some (d, p) := by simpa [Value.cells] using hf
  obtain ⟨A, c, xs, h1, h2, h3, h4⟩ := read_nums ht he hc hf'
  injection h1 with ha hb hcc
  subst ha hb hcc
  rcases open_ints ht he hc hf' with ⟨hcs, _⟩ | ⟨a2, len2, cap2, zs, hcs, _, hl, hm, _⟩
  · simp only [List.cons.injEq, and_true] at hcs
    injection hcs with e1 e2 e3
    refine ⟨_, _, xs, rfl, h2, by omega, by rw [e3]; exact Nat.zero_le _, fun x hx => wf_u8_bd (h4 x hx)⟩
  · simp only [List.cons.injEq, and_true] at hcs
    injection hcs with e1 e2 e3
    exact ⟨_, _, xs, rfl, h2, by omega, by omega, fun x hx => wf_u8_bd (h4 x hx)⟩
end
end Go.Proofs.Ytgibmbjdnppiaaa
