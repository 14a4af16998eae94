/- Plain words and facts for the texts of scripts. No condition. -/
import Derived.Test.YthjjbgpeajeneaaDoorRows
import Derived.Test.YthjjbgpeajeneaaDoorBase
import Derived.Test.YthjjbgpeajeneaaDoorBase2
import Derived.Test.YthjjbgpeajeneaaDoorPart
import Derived.Test.YthjjbgpeajeneaaDoorScrV
import Derived.Test.YthjjbgpeajeneaaDoorScr3
import Derived.Test.YthjjbgpeajeneaaDoorDec
import Derived.Test.YthjjbgpeajeneaaDoorDecS
import Derived.Test.YthjjbgpeajeneaaDoorStx
import Derived.WalkKit
import Derived.WalkSpells
import Derived.WalkLawsBesides
import Derived.Handy
import Derived.BigQuiet
import Derived.Deep.RegionHeld3
import Derived.Deep.DrawnRows
import Derived.Deep.QuietTactic
namespace Go.Proofs.YthjjbgpeajeneaaDoor
open Go Go.RowKit

def kwB (k : Int) : ByteArray := ⟨(kwL k).toArray⟩
theorem kwB_size {k : Int} (h1 : 1 ≤ k) (h3 : k ≤ 3) : (kwB k).size ≤ 5 := by
  have := (kw_letters h1 h3).2.2
  show (kwL k).toArray.size ≤ 5
  rwa [List.size_toArray]
theorem kw_cell {w : World} {g : Nat} {k : Int} (h : Blk w g 9 #[.string ⟨#[99, 111, 100, 101]⟩, .string ⟨#[100, 97, 116, 97]⟩, .string ⟨#[98, 108, 97, 110, 107]⟩]) (h1 : 1 ≤ k) (h3 : k ≤ 3) : w.cell? ⟨g, k.toNat - 1, none⟩ = some (.string (kwB k)) := by
  rcases (by omega : k = 1 ∨ k = 2 ∨ k = 3) with rfl | rfl | rfl
  · exact h.cell 0
  · exact h.cell 1
  · exact h.cell 2
/-- A part's text behind what stands before it. -/
def addP (o : ByteArray) (p : Prt) : ByteArray := o ++ kwB p.kind ++ ⟨#[58]⟩ ++ decS p.align.toNat
theorem addP_list (o : ByteArray) (p : Prt) : (addP o p).data.toList = o.data.toList ++ prtL p := by
  unfold addP prtL kwB decS
  simp [ByteArray.data_append]
theorem bytes_eq {a b : ByteArray} (h : a.data.toList = b.data.toList) : a = b := by
  obtain ⟨a⟩ := a
  obtain ⟨b⟩ := b
  exact congrArg ByteArray.mk (Array.ext' h)
/-- The text of the first parts. -/
def accB (xs : List Prt) : ByteArray := ⟨(Lib.join (xs.map prtL) [32]).toArray⟩
theorem join_snoc (a : List UInt8) (r : List (List UInt8)) (x : List UInt8) : Lib.join (a :: (r ++ [x])) [32] = Lib.join (a :: r) [32] ++ 32 :: x := by
  rw [Lib.join_cons, Lib.join_cons]
  simp [Lib.joinTail]
theorem accB_first (p : Prt) : accB [p] = addP ⟨#[]⟩ p := by
  apply bytes_eq
  rw [addP_list]
  simp [accB, Lib.join_one]
theorem accB_next (q : Prt) (xs : List Prt) (p : Prt) : accB ((q :: xs) ++ [p]) = addP (accB (q :: xs) ++ ⟨#[32]⟩) p := by
  apply bytes_eq
  rw [addP_list]
  unfold accB
  simp only [List.cons_append, List.map_cons, List.map_append, List.map_nil, ByteArray.data_append, Array.toList_append]
  rw [join_snoc]
  simp
theorem scrText_acc {xs : List Prt} (h : scriptOk xs = true) : scrText xs = accB xs := by
  unfold scrText accB
  rw [if_pos h]
theorem prtL_len {p : Prt} (h : prtOk p) : (prtL p).length ≤ 8 := by
  have h1 := (kw_letters h.1.1 h.1.2).2.2
  have h2 := prtOk_al h
  have h3 := (dec2_len (n := p.align.toNat) (by omega)).2
  unfold prtL
  rw [List.length_append, List.length_cons]
  omega
theorem accB_size : ∀ (xs : List Prt), (∀ p ∈ xs, prtOk p) → (accB xs).size ≤ 9 * xs.length := by
  intro xs h
  have key : ∀ (r : List Prt), (∀ p ∈ r, prtOk p) → (Lib.joinTail [32] (r.map prtL)).length ≤ 9 * r.length := by
    intro r
    induction r with
    | nil => intro _; simp [Lib.joinTail]
    | cons p r ih =>
      intro hr
      have h1 := prtL_len (hr p (by simp))
      have h2 := ih (fun q hq => hr q (by simp [hq]))
      simp only [Lib.joinTail, List.map_cons, List.flatten_cons, List.length_append, List.length_cons, List.length_nil] at h2 ⊢
      omega
  unfold accB
  show (Lib.join (xs.map prtL) [32]).toArray.size ≤ _
  rw [List.size_toArray]
  cases xs with
  | nil => simp [Lib.join_nil]
  | cons p r =>
    rw [List.map_cons, Lib.join_cons, List.length_append, List.length_cons]
    have h1 := prtL_len (h p (by simp))
    have h2 := key r (fun q hq => h q (by simp [hq]))
    omega
theorem prt_all {xs : List Prt} (h : scriptOk xs = true) : ∀ p ∈ xs, prtOk p := fun p hp => by
  obtain ⟨k, hk, e⟩ := List.getElem_of_mem hp
  have := script_at h hk
  rw [e] at this
  exact this
theorem scrText_size {xs : List Prt} : (scrText xs).size ≤ 27 := by
  cases h : scriptOk xs with
  | false =>
    rw [scrText_no h]
    decide
  | true =>
    have h1 := accB_size xs (prt_all h)
    rw [scrText_acc h]
    have := script_len h
    omega
end Go.Proofs.YthjjbgpeajeneaaDoor
