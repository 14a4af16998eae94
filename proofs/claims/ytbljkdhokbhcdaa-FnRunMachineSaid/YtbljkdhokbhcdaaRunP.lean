/- Plain law of RunMachine; contract of the laws' sameMachine. Condition: the sizes. -/
import Derived.Test.YtbljkdhokbhcdaaRows
import Derived.Test.YtbljkdhokbhcdaaBase
import Derived.Test.YtbljkdhokbhcdaaBase2
import Derived.Test.YtbljkdhokbhcdaaBase3
import Derived.Test.YtbljkdhokbhcdaaOnly
import Derived.Test.YtbljkdhokbhcdaaIn
import Derived.Test.YtbljkdhokbhcdaaIn2
import Derived.Test.YtbljkdhokbhcdaaGet2IS
import Derived.Test.YtbljkdhokbhcdaaIntS
import Derived.Test.YtbljkdhokbhcdaaReg
import Derived.Test.YtbljkdhokbhcdaaRegS
import Derived.Test.YtbljkdhokbhcdaaPick2
import Derived.Test.YtbljkdhokbhcdaaKT
import Derived.Test.YtbljkdhokbhcdaaMc
import Derived.Test.YtbljkdhokbhcdaaMcy
import Derived.Test.YtbljkdhokbhcdaaCd
import Derived.Test.YtbljkdhokbhcdaaXm
import Derived.Test.YtbljkdhokbhcdaaDo
import Derived.Test.YtbljkdhokbhcdaaMStI
import Derived.Test.YtbljkdhokbhcdaaMStS
import Derived.Test.YtbljkdhokbhcdaaRun
import Derived.Test.YtbljkdhokbhcdaaSameI
import Derived.WalkKit
import Derived.WalkSpells
import Derived.WalkLawsBesides
import Derived.Handy
import Derived.BigQuiet
import Derived.Deep.RegionHeld3
import Derived.Deep.DrawnRows
import Derived.Deep.QuietTactic
namespace Go.Proofs.Ytbljkdhokbhcdaa
open Go Go.RowKit

/-- Two parts of the steps lead to the same as all. -/
theorem runV_split (bs : List Int) : ∀ (k j : Nat) (v : McV), runV bs (k + j) v = (if (runV bs k v).2 = 3 then runV bs j (runV bs k v).1 else runV bs k v)
  | 0, j, v => by rw [Nat.zero_add]; exact (if_pos rfl).symm
  | k + 1, j, v => by
    rw [show k + 1 + j = (k + j) + 1 from by omega]
    by_cases h : (stepV bs v).2 = 0
    · rw [runV_go h, runV_go h]
      exact runV_split bs k j _
    · rw [runV_end h, runV_end h, if_neg (by have := stepV_end bs v; omega)]
theorem runV_ok {bs : List Int} (hx : ∀ x ∈ bs, 0 ≤ x ∧ x ≤ 255) : ∀ (n : Nat) (v : McV), vOk v = true → vOk (runV bs n v).1 = true
  | 0, v, hv => hv
  | n + 1, v, hv => by
    unfold runV
    split
    · exact runV_ok hx n _ (stepV_ok hx hv)
    · exact stepV_ok hx hv
theorem runM_in {bs : List Int} {v : McV} {n : Nat} (hv : vOk v = true) (hn : n ≤ 100) : runM bs v (n : Int) = runV bs n v := by
  unfold runM
  rw [if_pos ⟨hv, by omega, by omega⟩, Int.toNat_natCast]
theorem runM_out {bs : List Int} {v : McV} {steps : Int} (h : ¬ (vOk v = true ∧ 0 ≤ steps ∧ steps ≤ 100)) : runM bs v steps = ((0, [], []), 2) := if_neg h
/-- The run of the first half that did not end by its steps is the whole run. -/
theorem run_first {bs : List Int} {v : McV} {n h : Nat} (hv : vOk v = true) (hn : n ≤ 100) (hh : h ≤ n) (hf : (runM bs v (h : Int)).2 ≠ 3) : runM bs v (n : Int) = runM bs v (h : Int) := by
  rw [runM_in (n := h) hv (by omega)] at hf
  rw [runM_in (n := h) hv (by omega), runM_in (n := n) hv hn]
  conv => lhs; rw [show n = h + (n - h) from by omega]
  rw [runV_split, if_neg hf]
theorem run_second {bs : List Int} (hx : ∀ x ∈ bs, 0 ≤ x ∧ x ≤ 255) {v : McV} {n h : Nat} (hv : vOk v = true) (hn : n ≤ 100) (hh : h ≤ n) (hf : (runM bs v (h : Int)).2 = 3) : runM bs v (n : Int) = runM bs (runM bs v (h : Int)).1 ((n : Int) - (h : Int)) := by
  have e : (n : Int) - (h : Int) = ((n - h : Nat) : Int) := by omega
  have hv2 : vOk (runM bs v (h : Int)).1 = true := by
    rw [runM_in hv (by omega)]
    exact runV_ok hx _ _ hv
  rw [e, runM_in hv2 (by omega)]
  rw [runM_in (n := h) hv (by omega)] at hf
  rw [runM_in (n := h) hv (by omega), runM_in (n := n) hv hn]
  conv => lhs; rw [show n = h + (n - h) from by omega]
  rw [runV_split, if_pos hf]
set_option maxRecDepth 100000 in
set_option maxHeartbeats 2000000 in
theorem sameMc_any (z y : Mc) (w : World) (hv : z.v = y.v) (h : z.At w w.heap.size) (g : y.At w w.heap.size) (hs : z.small) : Calls Try.prog 16 #[.agg #[.int .i64 z.pc, .slice z.sA z.st.length z.sc, .slice z.cA z.ca.length z.cc], .agg #[.int .i64 y.pc, .slice y.sA y.st.length y.sc, .slice y.cA y.ca.length y.cc]] w (Gives w (.bool true)) := by
  unfold Mc.v at hv
  simp only [Prod.mk.injEq] at hv
  obtain ⟨e1, e2, e3⟩ := hv
  obtain ⟨pc, st, sA, sc, ca, cA, cc⟩ := z
  obtain ⟨pc', st', sA', sc', ca', cA', cc'⟩ := y
  simp only [Mc.At, Mc.small] at e1 e2 e3 hs h g ⊢
  subst e1 e2 e3
  obtain ⟨w0, hw0⟩ : ∃ w0, w0 = (w.alloc (.cells #[.int .i64 pc, .slice sA st.length sc, .slice cA ca.length cc] 27)).alloc (.cells #[.int .i64 pc, .slice sA' st.length sc', .slice cA' ca.length cc'] 27) := ⟨_, rfl⟩
  have HG : Hid (Below w.heap.size w w0) := by rw [hw0]; exact ((Below.refl _ _).alloc (Nat.le_refl _) _).alloc (by simp) _
  have HA : Hid (Blk w0 w.heap.size 27 #[.int .i64 pc, .slice sA st.length sc, .slice cA ca.length cc]) := by rw [hw0]; exact (Blk.new _ _ _).alloc _
  have HB : Hid (Blk w0 (w.heap.size + 1) 27 #[.int .i64 pc, .slice sA' st.length sc', .slice cA' ca.length cc']) := by
    rw [hw0]
    have h := Blk.new (w.alloc (.cells #[.int .i64 pc, .slice sA st.length sc, .slice cA ca.length cc] 27)) 27 #[.int .i64 pc, .slice sA' st.length sc', .slice cA' ca.length cc']
    simpa [Hid] using h
  have H1 := Lib.hid h
  have H2 := Lib.hid g
  clear h g
  go_enter Try.func16, Try.ntmps16
  go_upto_region 1 with fail
  rw [← hw0]
  clear hw0
  have x10 : w0.cell? ⟨w.heap.size, 0, none⟩ = some (.int .i64 pc) := HA.out.cell 0
  have x11 : w0.cell? ⟨w.heap.size, 1, none⟩ = some (.slice sA st.length sc) := HA.out.cell 1
  have x12 : w0.cell? ⟨w.heap.size, 2, none⟩ = some (.slice cA ca.length cc) := HA.out.cell 2
  have y10 : w0.cell? ⟨w.heap.size + 1, 0, none⟩ = some (.int .i64 pc) := HB.out.cell 0
  have y11 : w0.cell? ⟨w.heap.size + 1, 1, none⟩ = some (.slice sA' st.length sc') := HB.out.cell 1
  have y12 : w0.cell? ⟨w.heap.size + 1, 2, none⟩ = some (.slice cA' ca.length cc') := HB.out.cell 2
  go_wp2_with fail
  refine (sameInts_any _ _ _ _ _ _ st st w0 (H1.out.1.below HG.out) (H2.out.1.below HG.out) (by omega) (by omega)).mono ?_
  rintro e w1 ⟨rfl, s9⟩
  rw [decide_eq_true rfl]
  have HG' := Lib.hid (HG.out.trans (s9.mono HG.out.size))
  have HA' := Lib.hid (HA.out.below s9 HA.out.lt)
  have HB' := Lib.hid (HB.out.below s9 HB.out.lt)
  clear HG HA HB s9 x10 x11 x12 y10 y11 y12
  have HG := HG'
  have HA := HA'
  have HB := HB'
  clear HG' HA' HB'
  have x20 : w1.cell? ⟨w.heap.size, 0, none⟩ = some (.int .i64 pc) := HA.out.cell 0
  have x21 : w1.cell? ⟨w.heap.size, 1, none⟩ = some (.slice sA st.length sc) := HA.out.cell 1
  have x22 : w1.cell? ⟨w.heap.size, 2, none⟩ = some (.slice cA ca.length cc) := HA.out.cell 2
  have y20 : w1.cell? ⟨w.heap.size + 1, 0, none⟩ = some (.int .i64 pc) := HB.out.cell 0
  have y21 : w1.cell? ⟨w.heap.size + 1, 1, none⟩ = some (.slice sA' st.length sc') := HB.out.cell 1
  have y22 : w1.cell? ⟨w.heap.size + 1, 2, none⟩ = some (.slice cA' ca.length cc') := HB.out.cell 2
  go_wp2_with fail
  refine (sameInts_any _ _ _ _ _ _ ca ca w1 (H1.out.2.below HG.out) (H2.out.2.below HG.out) (by omega) (by omega)).mono ?_
  rintro e w2 ⟨rfl, s9⟩
  rw [decide_eq_true rfl]
  have HG' := Lib.hid (HG.out.trans (s9.mono HG.out.size))
  have HA' := Lib.hid (HA.out.below s9 HA.out.lt)
  have HB' := Lib.hid (HB.out.below s9 HB.out.lt)
  clear HG HA HB s9 x20 x21 x22 y20 y21 y22
  have HG := HG'
  have HA := HA'
  have HB := HB'
  clear HG' HA' HB'
  go_wp2
  go_ret
  exact ⟨rfl, HG.out⟩
end Go.Proofs.Ytbljkdhokbhcdaa
