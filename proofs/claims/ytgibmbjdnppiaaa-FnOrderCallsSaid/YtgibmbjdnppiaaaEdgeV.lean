/- Contracts of the two EdgesValid. No condition but the sizes. -/
import Derived.Test.YtgibmbjdnppiaaaRows
import Derived.Test.YtgibmbjdnppiaaaBase
import Derived.Test.YtgibmbjdnppiaaaBase2
import Derived.Test.YtgibmbjdnppiaaaIn
import Derived.Test.YtgibmbjdnppiaaaEdge
import Derived.Test.YtgibmbjdnppiaaaFindEdg
import Derived.WalkKit
import Derived.WalkSpells
import Derived.WalkLawsBesides
import Derived.Handy
import Derived.BigQuiet
import Derived.Deep.RegionHeld3
import Derived.Deep.DrawnRows
import Derived.Deep.QuietTactic
namespace Go.Proofs.Ytgibmbjdnppiaaa
open Go Go.RowKit

def edgeOk (m1 : Int) (e : Edg) : Bool := inB e.from_ 0 m1 && inB e.to_ 0 m1 && !(e.from_ == e.to_) && inB e.count 1 60000
def edgesOk (many : Int) (xs : List Edg) : Bool := inB many 1 8 && decide (xs.length ≤ 12) && xs.all (edgeOk (many - 1))
theorem any_not {α : Type} (p : α → Bool) (xs : List α) : (!xs.any fun x => !p x) = xs.all p := by
  induction xs with
  | nil => rfl
  | cons x xs ih => simp [List.all_cons, ih]
theorem all_at {α : Type} {p : α → Bool} {xs : List α} (h : ∀ j, (h : j < xs.length) → p xs[j] = true) : xs.all p = true := by
  rw [List.all_eq_true]
  intro x hx
  obtain ⟨j, hj, rfl⟩ := List.getElem_of_mem hx
  exact h j hj
theorem all_not {α : Type} {p : α → Bool} {xs : List α} {k : Nat} (hk : k < xs.length) (h : p xs[k] = false) : xs.all p = false := by
  rw [List.all_eq_false]
  exact ⟨_, List.getElem_mem hk, by simp [h]⟩
theorem within_q {n lo hi : Int} {t : Bool} (h : inB n lo hi = t) (w : World) : Calls Try.prog 30 #[.int .i64 n, .int .i64 lo, .int .i64 hi] w fun e w' => e = .returned (.bool t) ∧ w' = w :=
  (within_any n lo hi w).mono fun _ _ ⟨he, hw⟩ => ⟨by rw [he, h], hw.symm⟩
theorem l1In_q {n lo hi : Int} {t : Bool} (h : inB n lo hi = t) (w : World) : Calls Try.prog 28 #[.int .i64 n, .int .i64 lo, .int .i64 hi] w fun e w' => e = .returned (.bool t) ∧ w' = w :=
  (l1In_any n lo hi w).mono fun _ _ ⟨he, hw⟩ => ⟨by rw [he, h], hw.symm⟩

set_option maxHeartbeats 2000000 in
theorem edgesValidC_any (x : Edg) (many : Int) (a : Addr) (w : World) (hc : w.cell? a = some (.int .i64 many)) (hm1 : 1 ≤ many) (hm2 : many ≤ 8) : Calls Try.prog 32 #[x.val, .pointer (some a)] w (Gives w (.bool (!edgeOk (many - 1) x))) := by
  obtain ⟨f, t, c⟩ := x
  unfold edgeOk
  simp only [Edg.val]
  have hlt := World.block_lt_of_cell? w a hc
  have hne := World.new_ne w a hc
  have hc2 : ∀ o, (w.alloc o).cell? a = some (.int .i64 many) := fun o => (World.cell?_alloc_lt w o a hlt).trans hc
  cases h1 : inB f 0 (many - 1)
  · have H1 := Lib.hid h1
    clear h1
    go_enter Try.func32, Try.ntmps32
    go_wp2_with (go_at_call 30; refine (within_q H1.out _).mono ?_; rintro e w' ⟨rfl, rfl⟩)
    go_ret
    exact ⟨by simp, by go_grown⟩
  · cases h2 : inB t 0 (many - 1)
    · have H1 := Lib.hid h1
      have H2 := Lib.hid h2
      clear h1 h2
      go_enter Try.func32, Try.ntmps32
      go_wp2_with fail
      refine (within_q H1.out _).mono ?_
      rintro e w' ⟨rfl, rfl⟩
      go_wp2_with fail
      refine (within_q H2.out _).mono ?_
      rintro e w' ⟨rfl, rfl⟩
      go_wp2
      go_ret
      exact ⟨by simp, by go_grown⟩
    · cases h3 : (f == t)
      · cases h4 : inB c 1 60000
        all_goals
          have H1 := Lib.hid h1
          have H2 := Lib.hid h2
          have H4 := Lib.hid h4
          clear h1 h2 h4
          go_enter Try.func32, Try.ntmps32
          go_wp2_with fail
          refine (within_q H1.out _).mono ?_
          rintro e w' ⟨rfl, rfl⟩
          go_wp2_with fail
          refine (within_q H2.out _).mono ?_
          rintro e w' ⟨rfl, rfl⟩
          go_wp2_with fail
          refine (within_q H4.out _).mono ?_
          rintro e w' ⟨rfl, rfl⟩
          go_wp2
          go_ret
          exact ⟨by simp, by go_grown⟩
      · have H1 := Lib.hid h1
        have H2 := Lib.hid h2
        clear h1 h2
        go_enter Try.func32, Try.ntmps32
        go_wp2_with fail
        refine (within_q H1.out _).mono ?_
        rintro e w' ⟨rfl, rfl⟩
        go_wp2_with fail
        refine (within_q H2.out _).mono ?_
        rintro e w' ⟨rfl, rfl⟩
        go_wp2
        go_ret
        exact ⟨by simp, by go_grown⟩

set_option maxHeartbeats 2000000 in
theorem implEdgesValid_any {A : Option Addr} {c B : Nat} (many : Int) (xs : List Edg) (w : World) (h1 : Reads w B 3 A xs.length (xs.flatMap Edg.cells)) (hB : B ≤ w.heap.size) (hm : xs.length ≤ maxLen) :
    Calls Try.prog 12 #[.int .i64 many, .slice A xs.length c] w (Gives w (.bool (edgesOk many xs))) := by
  have hm' := hm
  unfold maxLen at hm
  have K0 : Blk (w.alloc (.cells #[.int .i64 many] 3)) w.heap.size 3 #[.int .i64 many] := Blk.new _ _ _
  have HT := Lib.hid (h1.alloc hB (.cells #[.int .i64 many] 3))
  cases hi : inB many 1 8
  · have HJ : Hid (edgesOk many xs = false) := by unfold edgesOk; rw [hi]; simp [Hid]
    have HI := Lib.hid hi
    clear hi
    go_enter Try.func12, Try.ntmps12
    go_wp2_with fail
    refine (within_q HI.out _).mono ?_
    rintro e w' ⟨rfl, rfl⟩
    go_wp2
    go_ret
    rw [HJ.out]
    exact ⟨rfl, by go_grown⟩
  · obtain ⟨m1, m2⟩ := inB_iff.1 hi
    have HI := Lib.hid hi
    by_cases ha : xs.length ≤ 12
    · have HJ : Hid (edgesOk many xs = xs.all (edgeOk (many - 1))) := by unfold edgesOk; rw [hi, decide_eq_true ha, Bool.true_and, Bool.true_and]; exact rfl
      have HN := Lib.hid (any_not (edgeOk (many - 1)) xs)
      clear hi
      go_enter Try.func12, Try.ntmps12
      go_wp2_with fail
      refine (within_q HI.out _).mono ?_
      rintro e w' ⟨rfl, rfl⟩
      go_wp2_with fail
      refine (containsFuncEdg_any _ _ _ 32 _ (fun x => !edgeOk (many - 1) x) xs _ HT.out (by simp; omega) hm' (fun args w => by kernel_rfl) (fun x _ w' hb' => ?_)).mono ?_
      · have K2 := K0.below hb' K0.lt
        simpa using edgesValidC_any x many _ w' (K2.cell 0) m1 m2
      rintro e w2 ⟨rfl, hb2⟩
      go_wp2
      go_ret
      rw [HJ.out, ← HN.out]
      exact ⟨rfl, ((Below.refl _ _).alloc (Nat.le_refl _) _).trans (hb2.mono (by simp))⟩
    · have HJ : Hid (edgesOk many xs = false) := by unfold edgesOk; rw [decide_eq_false ha]; simp [Hid]
      clear hi
      go_enter Try.func12, Try.ntmps12
      go_wp2_with fail
      refine (within_q HI.out _).mono ?_
      rintro e w' ⟨rfl, rfl⟩
      go_wp2
      go_ret
      rw [HJ.out]
      exact ⟨rfl, by go_grown⟩
end Go.Proofs.Ytgibmbjdnppiaaa
