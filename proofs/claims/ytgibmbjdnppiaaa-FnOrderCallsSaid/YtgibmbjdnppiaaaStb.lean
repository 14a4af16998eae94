/- Contract of the library's stable sort of edges. Condition: at most 12 of them. -/
import Derived.Test.YtgibmbjdnppiaaaRows
import Derived.Test.YtgibmbjdnppiaaaBase
import Derived.Test.YtgibmbjdnppiaaaBase2
import Derived.Test.YtgibmbjdnppiaaaBase3
import Derived.Test.YtgibmbjdnppiaaaShelf
import Derived.Test.YtgibmbjdnppiaaaShelfS
import Derived.Test.YtgibmbjdnppiaaaEdge
import Derived.Test.YtgibmbjdnppiaaaOrdP
import Derived.WalkKit
import Derived.WalkSpells
import Derived.WalkLawsBesides
import Derived.Handy
import Derived.BigQuiet
import Derived.Deep.RegionHeld3
import Derived.Deep.DrawnRows
import Derived.Deep.QuietTactic
import Derived.Shelf.SlSortCmp.InsertionK
import Derived.Lib.OwnBridge
namespace Go.Proofs.Ytgibmbjdnppiaaa
open Go Go.RowKit Go.Sort Go.Lib

/-- A row of cells rewritten. -/
theorem own_putK {w : World} {base size : Nat} {e : TypeId} {g n cap q : Nat} {xs : List Value} (h : w.ownsRow base e size (.slice (some ⟨g, 0, none⟩) n cap) n xs) (F : Array Value) (hF : F.size = n * size) :
    (putRow id (Sort.ahead w q) g 0 F).ownsRow base e size (.slice (some ⟨g, 0, none⟩) n cap) n F.toList := by
  rcases h.2 with ⟨e0, _⟩ | ⟨g', cap', cur, e0, hb, hg, hn, hm, hs, ht⟩
  · cases e0
  · injection e0 with e1 _ e3
    injection e1 with e1
    injection e1 with e1
    subst e1; subst e3
    refine ⟨by simpa using hF, .inr ⟨g, cap, putCells id 0 F cur, rfl, hb, ?_, hn, hm, by simpa [putCells] using hs, ?_⟩⟩
    · simp [putRow, mapBlock, Sort.ahead, Array.getElem?_modify, hg, onCells]
    · have hle : n * size ≤ cap * size := Nat.mul_le_mul_right _ hn
      apply List.ext_getElem?
      intro j
      rw [List.getElem?_take, Array.getElem?_toList]
      by_cases hj : j < n * size
      · have hjc : j < cur.size := by omega
        have hjF : j < F.size := by omega
        simp only [if_pos hj, putCells, Array.getElem?_mapIdx, Array.getElem?_eq_getElem hjc, Option.map_some]
        rw [if_pos (by simp; omega), Array.getElem?_toList, Array.getElem?_eq_getElem hjF]
        simp [getElem!_pos, hjF]
      · rw [if_neg hj, Array.getElem?_toList, Array.getElem?_eq_none (by omega)]
theorem holds_own {w : World} {base size : Nat} {e : TypeId} {g n cap : Nat} {xs : List Value} (h : w.ownsRow base e size (.slice (some ⟨g, 0, none⟩) n cap) n xs) : Holds id w g 0 xs.toArray := by
  have hl := h.1
  intro j hj
  have hj' : j < n * size := by rw [← hl]; simpa using hj
  rcases h.2 with ⟨e0, _⟩ | ⟨g', cap', cur, e0, hb, hg, hn, hm, hs, ht⟩
  · cases e0
  · injection e0 with e1 _ e3
    injection e1 with e1
    injection e1 with e1
    subst e1; subst e3
    refine ⟨?_, by simp [World.frozen?, hg]⟩
    rw [Nat.zero_add, h.cellAt j hj', List.getElem?_eq_getElem (by omega)]
    simp [getElem!_pos, show j < xs.length by omega]
theorem below_grow {B : Nat} {w0 w : World} (h : Go.RowKit.Below B w0 w) (os : Array Obj) (hB : B ≤ w.heap.size) : Go.RowKit.Below B w0 (grow w os) :=
  ⟨h.os, h.tape, h.output, by have := h.size; simp [grow]; omega, fun k hk => by
    rw [← h.block k hk]
    simp [grow, Array.getElem?_append_left (show k < w.heap.size by omega)]⟩
/-- The cells of an edge with its place. -/
def encE (x : TE) : List Value := x.1.cells
theorem encE_len (x : TE) : (encE x).length = 3 := rfl
theorem flatK_edges (d : Array TE) : flatK encE 3 d = ((d.toList.map Prod.fst).flatMap Edg.cells).toArray := by
  apply Array.ext_getElem?
  intro t
  have hlen : ((d.toList.map Prod.fst).flatMap Edg.cells).length = d.size * 3 := by
    have : ∀ l : List Edg, (l.flatMap Edg.cells).length = l.length * 3 := fun l => by
      induction l with
      | nil => rfl
      | cons x l ih => simp [Edg.cells_len, ih]; omega
    rw [this]; simp
  by_cases ht : t < d.size * 3
  · have h1 : t / 3 < d.size := by omega
    have e1 := flat_get Edg.cells 3 Edg.cells_len (d.toList.map Prod.fst) (t / 3) (t % 3) (by simpa using h1) (by omega)
    have e2 : t / 3 * 3 + t % 3 = t := by omega
    rw [e2] at e1
    have e3 := get_flatK encE 3 d t ht
    have hsz : (flatK encE 3 d).size = d.size * 3 := size_flatK _ _ _
    rw [Array.getElem?_eq_getElem (by omega)]
    rw [getElem!_pos (flatK encE 3 d) t (by omega)] at e3
    rw [e3, List.getElem?_toArray, e1]
    rw [getElem!_pos d (t / 3) h1]
    have h3 : t % 3 < 3 := by omega
    simp only [encE, List.getElem_map, Array.getElem_toList]
    rw [getElem!_pos _ (t % 3) (by rw [Edg.cells_len]; exact h3), List.getElem?_eq_getElem (by rw [Edg.cells_len]; exact h3)]
  · rw [Array.getElem?_eq_none (by rw [size_flatK]; omega), List.getElem?_toArray, List.getElem?_eq_none (by omega)]
set_option maxHeartbeats 1000000 in
theorem cmpE_any (x y : TE) (W : World) : Calls Try.prog 44 #[.agg (encE x).toArray, .agg (encE y).toArray] W fun e w' => e = .returned (.int .i64 (Lib.compareInt y.1.count x.1.count)) ∧ ∃ q os', w' = grow (W.drewN q) os' := by
  obtain ⟨⟨f1, t1, c1⟩, i1⟩ := x
  obtain ⟨⟨f2, t2, c2⟩, i2⟩ := y
  have hcon := fun W' => Try.cmp_Compare_int c2 c1 W'
  simp only [encE, Edg.cells]
  generalize Lib.compareInt c2 c1 = r at hcon ⊢
  go_enter Try.func44, Try.ntmps44
  go_wp2_with (go_at_call 45; refine (hcon _).mono ?_; rintro e w' ⟨rfl, rfl⟩)
  go_ret
  exact ⟨rfl, 0, _, by rw [alloc_eq_grow, alloc_eq_grow, grow_grow]; rfl⟩
/-- A row of edges was sorted. -/
def Srtd (w : World) (base : Nat) (A : Option Addr) (cap : Nat) (es : List Edg) (e : Ending) (w' : World) : Prop := e = .returned (.tuple #[]) ∧ w'.ownsRow base 33 3 (.slice A es.length cap) es.length ((sortE es).flatMap Edg.cells) ∧ Go.RowKit.Below base w w'
theorem insSort_any {g cap base : Nat} (es : List Edg) (w : World) (ho : w.ownsRow base 33 3 (.slice (some ⟨g, 0, none⟩) es.length cap) es.length (es.flatMap Edg.cells)) (hm : es.length ≤ 12) :
    Calls Try.prog 57 #[.slice (some ⟨g, 0, none⟩) es.length cap, .int .i64 0, .int .i64 es.length, .func (.func 44) #[] #[]] w (Srtd w base (some ⟨g, 0, none⟩) cap es) := by
  have hup := own_up ho _ rfl
  have eg : ∀ args w, (callFunc 44 args).run Try.prog w = .ok (.enter 44 args) w := enters_of Try.func44 (by kernel_rfl) rfl
  have hsz : es.zipIdx.toArray.size = es.length := by simp
  have hfl : flatK encE 3 es.zipIdx.toArray = (es.flatMap Edg.cells).toArray := by
    rw [flatK_edges]; simp
  have hH : HoldsK encE 3 w g 0 es.zipIdx.toArray := by
    unfold HoldsK
    rw [hfl]
    exact holds_own ho
  have hcon := AnyQ.insertionSortCmpFunc Try.laysIns 3 Try.isAgg33 Try.sizeOf33 encE encE_len (fun x v hv => by simp [encE, Edg.cells] at hv; rcases hv with rfl | rfl | rfl <;> rfl) (fun x y => Lib.compareInt y.1.count x.1.count) 44 #[] g 0 cap 0 es.zipIdx.toArray.size es.zipIdx.toArray w eg (fun _ _ _ _ x y => cmpE_any x y _) hH hup.2 (Nat.zero_le _) (Nat.le_refl _) (by omega)
  change Calls Try.prog 57 _ _ _ at hcon
  rw [hsz] at hcon
  refine hcon.mono ?_
  rintro e w' ⟨rfl, n, os, rfl⟩
  have hl : (sortE es).length = es.length := sortE_len es
  have hr : flatK encE 3 (Sort.insertionSort (ltOf fun x y : TE => Lib.compareInt y.1.count x.1.count) es.zipIdx.toArray 0 es.length) = ((sortE es).flatMap Edg.cells).toArray := by
    rw [flatK_edges, ltOf_mor, sort_list]; rfl
  have hF : (((sortE es).flatMap Edg.cells).toArray).size = es.length * 3 := by
    have : ∀ l : List Edg, (l.flatMap Edg.cells).length = l.length * 3 := fun l => by
      induction l with
      | nil => rfl
      | cons x l ih => simp [Edg.cells_len, ih]; omega
    rw [List.size_toArray, this, hl]
  unfold sortWorldK putRowK
  rw [hr]
  have o1 := own_putK (q := n) ho _ hF
  have b1 : Go.RowKit.Below base w (putRow id (Sort.ahead w n) g 0 ((sortE es).flatMap Edg.cells).toArray) := Lib.below_putRow (Below.refl _ _) hup.1
  have hs : w.heap.size ≤ (putRow id (Sort.ahead w n) g 0 ((sortE es).flatMap Edg.cells).toArray).heap.size := b1.size
  refine ⟨rfl, ?_, below_grow b1 os (by omega)⟩
  exact own_below (by simpa using o1) (below_grow (Below.refl _ _) os (Nat.le_refl _))
theorem insSort_nil {A : Option Addr} {c : Nat} (v : Value) (w : World) : Calls Try.prog 57 #[.slice A 0 c, .int .i64 0, .int .i64 0, v] w fun e w' => e = .returned (.tuple #[]) ∧ w = w' := by
  go_enter Try.func57, Try.ntmps57
  go_wp2
  refine wp_loop_rounds 1 ?_
  rw [rounds_succ]
  go_wp2
  go_end0
  exact ⟨rfl, rfl⟩
theorem insSort_all {A : Option Addr} {cap base : Nat} (es : List Edg) (w : World) (ho : w.ownsRow base 33 3 (.slice A es.length cap) es.length (es.flatMap Edg.cells)) (hm : es.length ≤ 12) :
    Calls Try.prog 57 #[.slice A es.length cap, .int .i64 0, .int .i64 es.length, .func (.func 44) #[] #[]] w (Srtd w base A cap es) := by
  rcases Nat.eq_zero_or_pos es.length with h0 | h0
  · have : es = [] := List.eq_nil_of_length_eq_zero h0
    subst this
    refine (insSort_nil (A := A) (c := cap) _ w).mono ?_
    rintro e w' ⟨rfl, rfl⟩
    exact ⟨rfl, by simpa [sortE, sortT] using ho, Below.refl _ _⟩
  · rcases ho.2 with ⟨_, h1⟩ | ⟨g, cap', cur, hv, _⟩
    · omega
    · injection hv with h1
      subst h1
      exact insSort_any es w ho hm
set_option maxHeartbeats 2000000 in
theorem stable_any {A : Option Addr} {cap base : Nat} (es : List Edg) (w : World) (ho : w.ownsRow base 33 3 (.slice A es.length cap) es.length (es.flatMap Edg.cells)) (hm : es.length ≤ 12) :
    Calls Try.prog 54 #[.slice A es.length cap, .int .i64 es.length, .func (.func 44) #[] #[]] w (Srtd w base A cap es) := by
  have HI := Lib.hid (insSort_all es w ho hm)
  clear ho
  have h20 : ¬ (20 : Int) ≤ (es.length : Int) := by omega
  have h21 : ¬ (20 : Int) < (es.length : Int) := by omega
  go_enter Try.func54, Try.ntmps54
  go_wp2
  refine wp_loop_rounds 1 ?_
  rw [rounds_succ]
  go_wp2_with fail
  refine HI.out.mono ?_
  rintro e w' ⟨rfl, ho, hb⟩
  have HO := Lib.hid ho
  have HB := Lib.hid hb
  clear ho hb
  go_wp2
  refine wp_loop_rounds 1 ?_
  rw [rounds_succ]
  go_wp2
  go_end0
  exact ⟨rfl, HO.out, HB.out⟩
set_option maxHeartbeats 2000000 in
theorem sortStable_any {A : Option Addr} {cap base : Nat} (es : List Edg) (w : World) (ho : w.ownsRow base 33 3 (.slice A es.length cap) es.length (es.flatMap Edg.cells)) (hm : es.length ≤ 12) :
    Calls Try.prog 43 #[.slice A es.length cap, .func (.func 44) #[] #[]] w (Srtd w base A cap es) := by
  have HI := Lib.hid (stable_any es w ho hm)
  clear ho
  go_enter Try.func43, Try.ntmps43
  go_wp2_with fail
  refine HI.out.mono ?_
  rintro e w' ⟨rfl, ho, hb⟩
  have HO := Lib.hid ho
  have HB := Lib.hid hb
  clear ho hb
  go_wp2
  go_end0
  exact ⟨rfl, HO.out, HB.out⟩
end Go.Proofs.Ytgibmbjdnppiaaa
