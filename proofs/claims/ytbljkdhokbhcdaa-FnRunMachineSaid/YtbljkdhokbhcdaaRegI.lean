/- Facts of the operations of a drawn region: numbers, literals and places in them; single draws. No condition. -/
import Derived.Test.YtbljkdhokbhcdaaRows
import Derived.Test.YtbljkdhokbhcdaaBase
import Derived.Test.YtbljkdhokbhcdaaBase2
import Derived.Test.YtbljkdhokbhcdaaBase3
import Derived.Test.YtbljkdhokbhcdaaIn
import Derived.Test.YtbljkdhokbhcdaaPick
import Derived.Test.YtbljkdhokbhcdaaPick2
import Derived.Test.YtbljkdhokbhcdaaReg
import Derived.Test.YtbljkdhokbhcdaaRegS
import Derived.WalkKit
import Derived.WalkSpells
import Derived.WalkLawsBesides
import Derived.Handy
import Derived.BigQuiet
import Derived.Deep.RegionHeld3
import Derived.Deep.DrawnRows
import Derived.Deep.QuietTactic
namespace Go.Proofs.Ytbljkdhokbhcdaa
open Go Go.RowKit

/-- What is counted of a flag. -/
def b1 (b : Bool) (k : Nat) : Nat := match b with | true => k | false => 0
theorem b1_le (b : Bool) (k : Nat) : b1 b k ≤ k := by cases b <;> simp [b1]
theorem b1_true (k : Nat) : b1 true k = k := rfl
theorem b1_false (k : Nat) : b1 false k = 0 := rfl
theorem quo_wrap {x d : Int} (h0 : 0 ≤ x) (h1 : x ≤ 1000000) (hd : 1 ≤ d) : IntKind.i64.wrap (x.tdiv d) = x / d := by
  rw [Int.tdiv_eq_ediv_of_nonneg h0]
  have h2 : x / d ≤ x := Int.ediv_le_self d h0
  have h3 : 0 ≤ x / d := Int.ediv_nonneg h0 (by omega)
  exact IntWalk.i64_in _ (by omega)
def IsInt (lo hi : Int) (v : Value) : Prop := ∃ x : Int, v = .int .i64 x ∧ lo ≤ x ∧ x ≤ hi
def LitI (ok : Nat → Prop) (n : Nat) (lo hi : Int) (v : Value) (w : World) : Prop := ∃ (g : Nat) (xs : List Int), v = .slice (some ⟨g, 0, none⟩) n n ∧ ok g ∧ xs.length = n ∧ (∀ x ∈ xs, lo ≤ x ∧ x ≤ hi) ∧ Blk w g 3 (nums .i64 xs).toArray
def AdI (ok : Nat → Prop) (lo hi : Int) (v : Value) (w : World) : Prop := ∃ (b o : Nat) (x : Int), v = .pointer (some ⟨b, o, none⟩) ∧ ok b ∧ w.cell? ⟨b, o, none⟩ = some (.int .i64 x) ∧ lo ≤ x ∧ x ≤ hi
section
variable {ok : Nat → Prop} {n : Nat} {lo hi : Int} {v : Value} {w w' : World}
theorem LitI.keeps (h : LitI ok n lo hi v w) (k : Keeps ok w w') : LitI ok n lo hi v w' := by
  obtain ⟨g, xs, h1, h2, h3, h4, h5⟩ := h
  exact ⟨g, xs, h1, h2, h3, h4, h5.keeps k h2⟩
theorem AdI.keeps (h : AdI ok lo hi v w) (k : Keeps ok w w') : AdI ok lo hi v w' := by
  obtain ⟨b, o, x, h1, h2, h3, h4⟩ := h
  exact ⟨b, o, x, h1, h2, k.cell h3 h2, h4⟩
theorem LitI.get (h : LitI ok n lo hi v w) {x : Int} (h0 : 0 ≤ x) (h1 : x < n) : ∃ g, v = .slice (some ⟨g, 0, none⟩) n n ∧ AdI ok lo hi (.pointer (some ⟨g, x.toNat, none⟩)) w := by
  obtain ⟨g, xs, rfl, h2, h3, h4, h5⟩ := h
  obtain ⟨y, hy, hc⟩ := lit_at h5 h0 (by omega)
  exact ⟨g, rfl, g, x.toNat, y, rfl, h2, hc, h4 y hy⟩
end
section
variable {o : Oper} {a : Act} {w : World} {K : Act → World → Prop} {Q : Exit → Act → World → Prop}
theorem op_pick {x y : Operand} {ts : Array TypeId} {r P : Nat} {N : Int} (ho : o.op = .call { callee := .value (.func 34), args := #[x, y], argTypes := ts }) (hx : a.eval x = .pointer (some ⟨r, 0, none⟩)) (hy : a.eval y = .int .i64 N)
    (hr : Rdr w r P) (hP : P ≤ 1000000) (h1 : 1 ≤ N) (h2 : N ≤ 1000000)
    (h : ∀ v w', 0 ≤ v → v ≤ N - 1 → Rdr w' r (P + 1) → w.grownBy w' (some r) → K (a.put o.dst (.int .i64 v)) w') : o.wp Try.prog a w K Q := by
  refine op_call ho (vs := #[.pointer (some ⟨r, 0, none⟩), .int .i64 N]) (by simp only [List.map_toArray, List.map_cons, List.map_nil, hx, hy]) (by kernel_rfl) (pick_any r P N w hr hP h1 h2) ?_
  rintro e w' ⟨v, rfl, ⟨va, vb⟩, hr', hg'⟩
  exact ⟨_, rfl, h v w' va vb hr' hg'⟩
end
end Go.Proofs.Ytbljkdhokbhcdaa
