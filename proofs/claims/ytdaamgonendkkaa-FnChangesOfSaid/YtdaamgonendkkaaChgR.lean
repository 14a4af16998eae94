/- Three rows of names that are a call's own. No condition but the sizes. -/
import Derived.Test.YtdaamgonendkkaaRows
import Derived.Test.YtdaamgonendkkaaBase
import Derived.Test.YtdaamgonendkkaaBase2
import Derived.Test.YtdaamgonendkkaaBase3
import Derived.Test.YtdaamgonendkkaaOnly
import Derived.Test.YtdaamgonendkkaaIn
import Derived.Test.YtdaamgonendkkaaName
import Derived.Test.YtdaamgonendkkaaSec
import Derived.Test.YtdaamgonendkkaaSym
import Derived.Test.YtdaamgonendkkaaObj
import Derived.Test.YtdaamgonendkkaaObjM
import Derived.Test.YtdaamgonendkkaaReg
import Derived.Test.YtdaamgonendkkaaRegS
import Derived.Test.YtdaamgonendkkaaChA
import Derived.Test.YtdaamgonendkkaaPick2
import Derived.Test.YtdaamgonendkkaaKT
import Derived.Test.YtdaamgonendkkaaDobj
import Derived.Test.YtdaamgonendkkaaChB
import Derived.Test.YtdaamgonendkkaaMarkS
import Derived.Test.YtdaamgonendkkaaStrS
import Derived.Test.YtdaamgonendkkaaChgM
import Derived.WalkKit
import Derived.WalkSpells
import Derived.WalkLawsBesides
import Derived.Handy
import Derived.BigQuiet
import Derived.Deep.RegionHeld3
import Derived.Deep.DrawnRows
import Derived.Deep.QuietTactic
namespace Go.Proofs.Ytdaamgonendkkaa
open Go Go.RowKit

/-- Where three lists lie. -/
structure C3 where
  A1 : Option Addr
  c1 : Nat
  A2 : Option Addr
  c2 : Nat
  A3 : Option Addr
  c3 : Nat
def C3.cells (m : C3) (n1 n2 n3 : Nat) : Array Value := #[.slice m.A1 n1 m.c1, .slice m.A2 n2 m.c2, .slice m.A3 n3 m.c3]
structure C3.Own (m : C3) (a b c : List ByteArray) (lo hi : Nat) (w : World) : Prop where
  o1 : w.ownsRow lo 9 1 (.slice m.A1 a.length m.c1) a.length (texts a)
  o2 : w.ownsRow lo 9 1 (.slice m.A2 b.length m.c2) b.length (texts b)
  o3 : w.ownsRow lo 9 1 (.slice m.A3 c.length m.c3) c.length (texts c)
  p12 : ∀ x y, m.A1 = some x → m.A2 = some y → x.block ≠ y.block
  p13 : ∀ x y, m.A1 = some x → m.A3 = some y → x.block ≠ y.block
  p23 : ∀ x y, m.A2 = some x → m.A3 = some y → x.block ≠ y.block
  u1 : ∀ x, m.A1 = some x → x.block < hi
  u2 : ∀ x, m.A2 = some x → x.block < hi
  u3 : ∀ x, m.A3 = some x → x.block < hi
  uh : hi ≤ w.heap.size
  uz : a.length ≤ 4096 ∧ b.length ≤ 4096 ∧ c.length ≤ 4096
section
variable {m : C3} {a b c : List ByteArray} {lo hi : Nat} {w w' : World}
theorem C3.Own.below (h : m.Own a b c lo hi w) (hb : Below w.heap.size w w') : m.Own a b c lo hi w' :=
  ⟨own_below h.o1 hb, own_below h.o2 hb, own_below h.o3 hb, h.p12, h.p13, h.p23, h.u1, h.u2, h.u3, Nat.le_trans h.uh hb.size, h.uz⟩
theorem C3.Own.keepT {T : TypeId → Prop} (h : m.Own a b c lo hi w) (k : KeepT T w w') (ht : T 9) : m.Own a b c lo hi w' :=
  ⟨k.own h.o1 ht, k.own h.o2 ht, k.own h.o3 ht, h.p12, h.p13, h.p23, h.u1, h.u2, h.u3, Nat.le_trans h.uh k.size, h.uz⟩
theorem C3.Own.only {l u : Nat} (h : m.Own a b c lo hi w) (ho : Only l u w w') (hd : hi ≤ l ∨ u ≤ lo) : m.Own a b c lo hi w' :=
  ⟨own_only h.o1 ho (fun x hx => by have := h.u1 x hx; have := (own_up h.o1 x hx).1; omega), own_only h.o2 ho (fun x hx => by have := h.u2 x hx; have := (own_up h.o2 x hx).1; omega), own_only h.o3 ho (fun x hx => by have := h.u3 x hx; have := (own_up h.o3 x hx).1; omega),
    h.p12, h.p13, h.p23, h.u1, h.u2, h.u3, Nat.le_trans h.uh ho.size, h.uz⟩
theorem C3.Own.eq_ {m' : C3} {lo' hi' : Nat} (h : m.Own a b c lo hi w) (g : m'.Own a b c lo' hi' w) : Calls Try.prog 17 #[.agg (m.cells a.length b.length c.length), .agg (m'.cells a.length b.length c.length)] w (Gives w (.bool true)) := by
  have hz := h.uz
  exact eqChanges_same a b c w (Reads.of_own h.o1) (Nat.le_refl _) (Reads.of_own g.o1) (Nat.le_refl _) (by omega) (Reads.of_own h.o2) (Nat.le_refl _) (Reads.of_own g.o2) (Nat.le_refl _) (by omega) (Reads.of_own h.o3) (Nat.le_refl _) (Reads.of_own g.o3) (Nat.le_refl _) (by omega)
theorem C3.Own.mark_ (h : m.Own a b c lo hi w) : Calls Try.prog 18 #[.agg (m.cells a.length b.length c.length), .int .i64 1] w fun e w' => e = .returned (.int .i64 (1 + (a.length : Int) + (b.length : Int) + (c.length : Int))) ∧ Only lo hi w w' ∧ m.Own (mkS 1 a.length) (mkS (1 + (a.length : Int)) b.length) (mkS (1 + (a.length : Int) + (b.length : Int)) c.length) lo hi w' := by
  have hz := h.uz
  refine (markChanges_any a b c 1 w h.o1 h.u1 (by omega) h.o2 h.u2 (by omega) h.o3 h.u3 (by omega) h.p12 h.p13 h.p23 h.uh (by omega) (by omega)).mono ?_
  rintro e w' ⟨he, ho, o1, o2, o3⟩
  exact ⟨he, ho, by simpa [mkS] using o1, by simpa [mkS] using o2, by simpa [mkS] using o3, h.p12, h.p13, h.p23, h.u1, h.u2, h.u3, Nat.le_trans h.uh ho.size, by simpa [mkS] using hz⟩
theorem C3.Own.held_ (hz : a.length ≤ 4096 ∧ b.length ≤ 4096 ∧ c.length ≤ 4096) (h : m.Own (mkS 1 a.length) (mkS (1 + (a.length : Int)) b.length) (mkS (1 + (a.length : Int) + (b.length : Int)) c.length) lo hi w) :
    Calls Try.prog 31 #[.agg (m.cells a.length b.length c.length), .int .i64 1] w (Gives w (.int .i64 (1 + (a.length : Int) + (b.length : Int) + (c.length : Int)))) := by
  have h1 := Reads.of_own h.o1
  have h2 := Reads.of_own h.o2
  have h3 := Reads.of_own h.o3
  rw [mkS_len] at h1 h2 h3
  exact heldChanges_any a b c 1 w h1 (Nat.le_refl _) (by omega) h2 (Nat.le_refl _) (by omega) h3 (Nat.le_refl _) (by omega) (by omega) (by omega)
theorem gave_c3 {e : Ending} (h : GaveChg a b c w e w') (hz : a.length ≤ 4096 ∧ b.length ≤ 4096 ∧ c.length ≤ 4096) : ∃ m : C3, e = .returned (.agg (m.cells a.length b.length c.length)) ∧ m.Own a b c w.heap.size w'.heap.size w' ∧ Below w.heap.size w w' := by
  obtain ⟨A1, c1, A2, c2, A3, c3, rfl, o1, o2, o3, p12, p13, p23, hb⟩ := h
  exact ⟨⟨A1, c1, A2, c2, A3, c3⟩, rfl, ⟨o1, o2, o3, p12, p13, p23, fun x hx => (own_up o1 x hx).2, fun x hx => (own_up o2 x hx).2, fun x hx => (own_up o3 x hx).2, Nat.le_refl _, hz⟩, hb⟩
end
theorem chMore_len (x y : Obj) : (chMore x y).length ≤ 4096 := by
  unfold chMore
  by_cases h : bothOk x y = true
  · rw [if_pos h]
    unfold bothOk at h
    rw [Bool.and_eq_true] at h
    have h1 := (moreI_set x y).2.2
    have h2 := objOk_len h.2
    omega
  · rw [if_neg h]; simp
theorem chOther_len (x y : Obj) : (chOther x y).length ≤ 4096 := by
  unfold chOther
  by_cases h : bothOk x y = true
  · rw [if_pos h]
    unfold bothOk at h
    rw [Bool.and_eq_true] at h
    have h2 := objOk_len h.1
    unfold otherI
    rw [List.length_map]
    have h3 := Nat.le_trans (sortL_len (kept (fun s => pOther x.syms y.syms s.name) x.syms)) (kept_len _ _)
    omega
  · rw [if_neg h]; simp
theorem ch_len (x y : Obj) : (chMore x y).length ≤ 4096 ∧ (chMore y x).length ≤ 4096 ∧ (chOther x y).length ≤ 4096 := ⟨chMore_len x y, chMore_len y x, chOther_len x y⟩
theorem Obj.Own.rows {w : World} {lo hi : Nat} {x : Obj} (h : x.Own w lo hi) : ObjRows lo x w := by
  obtain ⟨g, m, hA, ⟨h1, h2, h3, h4, h5⟩, h6, h7, h8, h9⟩ := h
  refine ⟨by rw [hA]; exact h2, own_base h6 (by omega), fun s hs => (h5 s hs).1.base (by omega)⟩
theorem Obj.Own.only {w w' : World} {lo hi l u : Nat} {x : Obj} (h : x.Own w lo hi) (ho : Only l u w w') (hd : u ≤ lo) : x.Own w' lo hi := by
  obtain ⟨g, m, hA, h1, h6, h7, h8, h9⟩ := h
  refine ⟨g, m, hA, h1.only ho hd, own_only h6 ho (fun a ha => ?_), h7, h8, Nat.le_trans h9 ho.size⟩
  have := (own_up h6 a ha).1
  have := h1.1
  have := h1.2.2.1
  omega
end Go.Proofs.Ytdaamgonendkkaa
