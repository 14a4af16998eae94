/- Contracts of the readings of Go's library, where its variables hold what they should. Condition: the size. -/
import Derived.Test.YthjjbgpeajeneaaDoorRows
import Derived.Test.YthjjbgpeajeneaaDoorBase
import Derived.Test.YthjjbgpeajeneaaDoorBase2
import Derived.Test.YthjjbgpeajeneaaDoorDec
import Derived.Test.YthjjbgpeajeneaaDoorShelf
import Derived.WalkKit
import Derived.WalkSpells
import Derived.WalkLawsBesides
import Derived.Handy
import Derived.BigQuiet
import Derived.Deep.RegionHeld3
import Derived.Deep.DrawnRows
import Derived.Deep.QuietTactic
import Derived.Lib.AtoiErrMem
namespace Go.Proofs.YthjjbgpeajeneaaDoor
open Go Go.RowKit

/-- The library's variables hold what its code wants. -/
structure LibW (w : World) : Prop where
  ml : ∃ m, w.cell? ⟨1, 0, none⟩ = some (.int .i64 m)
  sy : ∃ te pe, w.cell? ⟨2, 0, none⟩ = some (.iface te pe)
  ra : ∃ te pe, w.cell? ⟨3, 0, none⟩ = some (.iface te pe)
theorem LibW.below {w w' : World} (h : LibW w) (b : Below w.heap.size w w') : LibW w' := by
  obtain ⟨⟨m, h1⟩, ⟨t1, p1, h2⟩, t2, p2, h3⟩ := h
  exact ⟨⟨m, (b.cell (block_lt_of_cell h1)).trans h1⟩, ⟨t1, p1, (b.cell (block_lt_of_cell h2)).trans h2⟩, t2, p2, (b.cell (block_lt_of_cell h3)).trans h3⟩
theorem end3 (x : Lib.NumEnd Int) : (∃ v, x = .ok v) ∨ x = Lib.atoiAll [] ∨ x = .range := by
  cases x
  all_goals first
    | exact .inl ⟨_, rfl⟩
    | exact .inr (.inl rfl)
    | exact .inr (.inr rfl)
/-- How Atoi ends. -/
def AtoiRes (s : ByteArray) (w : World) (e : Ending) (w' : World) : Prop := ∃ (n : Int) (ev : Value), e = .returned (.tuple #[.int .i64 n, ev]) ∧ Below w.heap.size w w' ∧ ((ev = .nilIface ∧ Lib.atoiAll s.data.toList = .ok n) ∨ ((∃ t a, ev = .iface t (.pointer (some a))) ∧ ∀ k, Lib.atoiAll s.data.toList ≠ .ok k))
theorem atoi_bad0 (k : Int) : Lib.atoiAll [] ≠ .ok k := fun h => by cases h
theorem atoi_range0 (k : Int) : (Lib.NumEnd.range : Lib.NumEnd Int) ≠ .ok k := fun h => by cases h
theorem atoi_any (s : ByteArray) (w : World) (hs : s.size ≤ 281474976710656) (hL : LibW w) : Calls Tryd.prog 33 #[.string s] w (AtoiRes s w) := by
  rcases end3 (Lib.atoiAll s.data.toList) with ⟨v, h⟩ | h | h
  · refine (Tryd.strconv_Atoi_ok s (by omega) v h w).mono ?_
    rintro e w' ⟨rfl, hw⟩
    refine ⟨v, .nilIface, rfl, ?_, .inl ⟨rfl, h⟩⟩
    rcases hw with hw | ⟨t, hw⟩
    · rw [hw]
      exact Below.refl _ _
    · rw [hw]
      exact Lib.bytesWorld_below _ _ _
  · obtain ⟨te, pe, hc⟩ := hL.sy
    refine (Tryd.strconv_Atoi_bad s hs h _ w hc (.inr ⟨te, pe, rfl⟩)).mono ?_
    rintro e w' ⟨N, rfl, -, -, hb⟩
    refine ⟨_, _, rfl, hb, .inr ⟨⟨_, _, rfl⟩, ?_⟩⟩
    rw [h]
    exact atoi_bad0
  · obtain ⟨te, pe, hc⟩ := hL.ra
    refine (Tryd.strconv_Atoi_range s hs h _ w hc (.inr ⟨te, pe, rfl⟩)).mono ?_
    rintro e w' ⟨N, rfl, -, -, hb⟩
    refine ⟨_, _, rfl, hb, .inr ⟨⟨_, _, rfl⟩, ?_⟩⟩
    rw [h]
    exact atoi_range0
/-- What stands before and behind the first c. -/
def cutA (s : ByteArray) (c : UInt8) : ByteArray := ⟨(Lib.cut s.data.toList [c]).1.toArray⟩
def cutB (s : ByteArray) (c : UInt8) : ByteArray := ⟨(Lib.cut s.data.toList [c]).2.1.toArray⟩
theorem cutA_size (s : ByteArray) (c : UInt8) : (cutA s c).size ≤ s.size := by
  have := (cut_len s.data.toList c).1
  show (Lib.cut s.data.toList [c]).1.toArray.size ≤ s.data.size
  rw [List.size_toArray]
  rwa [Array.length_toList] at this
theorem cutB_size (s : ByteArray) (c : UInt8) : (cutB s c).size ≤ s.size := by
  have := (cut_len s.data.toList c).2
  show (Lib.cut s.data.toList [c]).2.1.toArray.size ≤ s.data.size
  rw [List.size_toArray]
  rwa [Array.length_toList] at this
theorem cut_any (s : ByteArray) (c : UInt8) (w : World) (hs : s.size < 4294967281) (hL : LibW w) : Calls Tryd.prog 32 #[.string s, .string ⟨#[c]⟩] w fun e w' => ∃ z, e = .returned (.tuple #[.string (cutA s c), .string (cutB s c), .bool z]) ∧ Below w.heap.size w w' := by
  obtain ⟨m, hm⟩ := hL.ml
  exact (Tryd.strings_Cut s ⟨#[c]⟩ m w hs hm).mono fun e w' ⟨he, n, hw⟩ => ⟨_, he, by subst hw; exact below_drewN (Below.refl _ _) _⟩
end Go.Proofs.YthjjbgpeajeneaaDoor
