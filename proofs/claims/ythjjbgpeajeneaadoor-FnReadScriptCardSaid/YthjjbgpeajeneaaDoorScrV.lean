/- Contract of the impl ScriptValid. No condition but the sizes. -/
import Derived.Test.YthjjbgpeajeneaaDoorRows
import Derived.Test.YthjjbgpeajeneaaDoorBase
import Derived.Test.YthjjbgpeajeneaaDoorBase2
import Derived.Test.YthjjbgpeajeneaaDoorIn
import Derived.Test.YthjjbgpeajeneaaDoorPart
import Derived.Test.YthjjbgpeajeneaaDoorIdxI
import Derived.WalkKit
import Derived.WalkSpells
import Derived.WalkLawsBesides
import Derived.Handy
import Derived.BigQuiet
import Derived.Deep.RegionHeld3
import Derived.Deep.DrawnRows
import Derived.Deep.QuietTactic
namespace Go.Proofs.YthjjbgpeajeneaaDoor
open Go Go.RowKit

theorem blk_new_at {w : World} {t : TypeId} {cs : Array Value} {H : Nat} (hH : w.heap.size = H) : Blk (w.alloc (.cells cs t)) H t cs := by
  subst hH
  exact Blk.new _ _ _
def alOk (a : Int) : Bool := [(1 : Int), 2, 4, 8, 16, 32, 64].any fun x => decide (x = a)
theorem alOk_iff (a : Int) : alOk a = true ↔ (a = 1 ∨ a = 2 ∨ a = 4 ∨ a = 8 ∨ a = 16 ∨ a = 32 ∨ a = 64) := by
  unfold alOk
  simp only [List.any_cons, List.any_nil, Bool.or_false, Bool.or_eq_true, decide_eq_true_eq]
  omega
def scGo : List Prt → Bool → Bool → Bool → Bool
  | [], _, _, _ => true
  | p :: ps, a, b, c => inB p.kind 1 3 && !((p.kind == 1 && a) || (p.kind == 2 && b) || (p.kind == 3 && c)) && alOk p.align && scGo ps (a || p.kind == 1) (b || p.kind == 2) (c || p.kind == 3)
/-- A script is valid. -/
def scriptOk (xs : List Prt) : Bool := scGo xs false false false && decide (xs.length = 3)
theorem blk_reads {w : World} {g : Nat} {t : TypeId} (xs : List Value) (h : Blk w g t xs.toArray) : Reads w (g + 1) 1 (some ⟨g, 0, none⟩) xs.length xs :=
  ⟨by omega, fun _ => ⟨_, rfl, Nat.lt_succ_self _, fun j u hu => by
    rw [Addr.add_lit, Nat.zero_add]
    exact (h.cell j).trans (by simpa using hu)⟩⟩
theorem drop_at {xs : List Prt} {k : Nat} (hk : k < xs.length) : xs.drop k = xs[k] :: xs.drop (k + 1) := List.drop_eq_getElem_cons hk
theorem within_q {n lo hi : Int} {t : Bool} (h : inB n lo hi = t) (w : World) : Calls Tryd.prog 39 #[.int .i64 n, .int .i64 lo, .int .i64 hi] w fun e w' => e = .returned (.bool t) ∧ w = w' :=
  (within_any n lo hi w).mono fun _ _ ⟨he, hw⟩ => ⟨by rw [he, h], hw⟩
theorem l1In_q {n lo hi : Int} {t : Bool} (h : inB n lo hi = t) (w : World) : Calls Tryd.prog 29 #[.int .i64 n, .int .i64 lo, .int .i64 hi] w fun e w' => e = .returned (.bool t) ∧ w = w' :=
  (l1In_any n lo hi w).mono fun _ _ ⟨he, hw⟩ => ⟨by rw [he, h], hw⟩

theorem contains7 (g : Nat) (al : Int) (w : World) (h : Blk w g 3 #[.int .i64 1, .int .i64 2, .int .i64 4, .int .i64 8, .int .i64 16, .int .i64 32, .int .i64 64]) :
    Calls Tryd.prog 40 #[.slice (some ⟨g, 0, none⟩) 7 7, .int .i64 al] w fun e w' => e = .returned (.bool (alOk al)) ∧ w = w' :=
  containsInt_any (c := 7) al [1, 2, 4, 8, 16, 32, 64] w (blk_reads (nums .i64 [1, 2, 4, 8, 16, 32, 64]) h) (by unfold maxLen; simp)

set_option maxHeartbeats 2000000 in
theorem implScriptValid_any {A : Option Addr} {c1 B : Nat} (xs : List Prt) (w : World) (h1 : Reads w B 2 A xs.length (xs.flatMap Prt.cells)) (hB : B ≤ w.heap.size) (hm : xs.length ≤ maxLen) :
    Calls Tryd.prog 23 #[.slice A xs.length c1] w (Gives w (.bool (scriptOk xs))) := by
  unfold maxLen at hm
  go_enter Tryd.func23, Tryd.ntmps23
  go_wp2
  go_loopw [9] (fun i wr => ∃ (k : Nat) (a b c : Bool), k ≤ xs.length ∧ i = .int .i64 k ∧ Hid (scGo xs false false false = scGo (xs.drop k) a b c) ∧ Below w.heap.size w wr ∧ Blk wr w.heap.size 66 #[.bool a, .bool b, .bool c]) (fun i _ => xs.length - (intOf i).toNat)
  case atStart => exact ⟨0, false, false, false, Nat.zero_le _, rfl, rfl, by go_grown, Blk.new _ _ _⟩
  case round =>
    obtain ⟨k, a, b, c, hk, rfl, HG, hb, hblk⟩ := hrel
    by_cases hlt : k < xs.length
    · obtain ⟨bb, off, rfl, hbl, e0, e1⟩ := Prt.at_ ((h1.more hB).below hb) hlt
      have HD := Lib.hid (drop_at hlt)
      have HX : Hid (xs[k] = ⟨xs[k].kind, xs[k].align⟩) := rfl
      generalize xs[k].kind = kd at *
      generalize xs[k].align = al at *
      have c0 := hblk.cell 0
      have c1' := hblk.cell 1
      have c2 := hblk.cell 2
      have f0 := hblk.frozen 0
      have f1 := hblk.frozen 1
      have f2 := hblk.frozen 2
      have hbz := hb.size
      have hgl := hblk.lt
      have HBLK := Lib.hid hblk
      have HB := Lib.hid hb
      clear hblk hb
      have hstep : scGo xs false false false = (inB kd 1 3 && !((kd == 1 && a) || (kd == 2 && b) || (kd == 3 && c)) && alOk al && scGo (xs.drop (k + 1)) (a || kd == 1) (b || kd == 2) (c || kd == 3)) := by
        rw [HG.out, HD.out, HX.out]
        rfl
      have HS := Lib.hid hstep
      clear hstep
      cases hi : inB kd 1 3
      · have HI := Lib.hid hi
        have HR : Hid (scriptOk xs = false) := by unfold scriptOk; rw [HS.out, hi]; simp [Hid]
        clear hi
        go_wp2_with fail
        refine (within_q HI.out _).mono ?_
        rintro e w' ⟨rfl, rfl⟩
        go_wp2
        go_ret
        rw [HR.out]
        exact ⟨rfl, (HB.out.alloc HB.out.size _)⟩
      · have HI := Lib.hid hi
        have hbd := inB_iff.1 hi
        clear hi
        have hcase : kd = 1 ∨ kd = 2 ∨ kd = 3 := by omega
        clear hbd
        rcases hcase with rfl | rfl | rfl
        · cases a
          · cases hal : alOk al
            · have HR : Hid (scriptOk xs = false) := by unfold scriptOk; rw [HS.out, hal]; simp [Hid]
              have HAL := Lib.hid hal
              clear hal
              go_wp2_with fail
              refine (within_q HI.out _).mono ?_
              rintro e w' ⟨rfl, rfl⟩
              go_wp2_with fail
              refine (contains7 (wr.heap.size + 1) al _ (blk_new_at (by simp))).mono ?_
              rintro e w' ⟨rfl, rfl⟩
              rw [HAL.out]
              go_wp2
              go_ret
              rw [HR.out]
              exact ⟨rfl, ((HB.out.alloc HB.out.size _).alloc (by simp; omega) _)⟩
            · have HN : Hid (scGo xs false false false = scGo (xs.drop (k + 1)) true b c) := by
                rw [HS.out, hal]
                simp [Hid, inB]
              have HAL := Lib.hid hal
              clear hal
              go_wp2_with fail
              refine (within_q HI.out _).mono ?_
              rintro e w' ⟨rfl, rfl⟩
              go_wp2_with fail
              refine (contains7 (wr.heap.size + 1) al _ (blk_new_at (by simp))).mono ?_
              rintro e w' ⟨rfl, rfl⟩
              rw [HAL.out]
              go_wp2
              go_roundw
              case rel => exact ⟨k + 1, true, b, c, by omega, by go_num, HN.out, ((HB.out.setCell (Nat.le_refl _) _).alloc (by simp; omega) _).alloc (by simp; omega) _, ((HBLK.out.set_ 0 (.bool true)).alloc _).alloc _⟩
              case measure => simp [intOf]; omega
          · have HR : Hid (scriptOk xs = false) := by unfold scriptOk; rw [HS.out]; simp [Hid]
            go_wp2_with fail
            refine (within_q HI.out _).mono ?_
            rintro e w' ⟨rfl, rfl⟩
            go_wp2
            go_ret
            rw [HR.out]
            exact ⟨rfl, by first | exact ((HB.out.alloc HB.out.size _).alloc (by simp; omega) _) | exact (HB.out.alloc HB.out.size _)⟩
        · cases b
          · cases hal : alOk al
            · have HR : Hid (scriptOk xs = false) := by unfold scriptOk; rw [HS.out, hal]; simp [Hid]
              have HAL := Lib.hid hal
              clear hal
              go_wp2_with fail
              refine (within_q HI.out _).mono ?_
              rintro e w' ⟨rfl, rfl⟩
              go_wp2_with fail
              refine (contains7 (wr.heap.size + 1) al _ (blk_new_at (by simp))).mono ?_
              rintro e w' ⟨rfl, rfl⟩
              rw [HAL.out]
              go_wp2
              go_ret
              rw [HR.out]
              exact ⟨rfl, ((HB.out.alloc HB.out.size _).alloc (by simp; omega) _)⟩
            · have HN : Hid (scGo xs false false false = scGo (xs.drop (k + 1)) a true c) := by
                rw [HS.out, hal]
                simp [Hid, inB]
              have HAL := Lib.hid hal
              clear hal
              go_wp2_with fail
              refine (within_q HI.out _).mono ?_
              rintro e w' ⟨rfl, rfl⟩
              go_wp2_with fail
              refine (contains7 (wr.heap.size + 1) al _ (blk_new_at (by simp))).mono ?_
              rintro e w' ⟨rfl, rfl⟩
              rw [HAL.out]
              go_wp2
              go_roundw
              case rel => exact ⟨k + 1, a, true, c, by omega, by go_num, HN.out, ((HB.out.setCell (Nat.le_refl _) _).alloc (by simp; omega) _).alloc (by simp; omega) _, ((HBLK.out.set_ 1 (.bool true)).alloc _).alloc _⟩
              case measure => simp [intOf]; omega
          · have HR : Hid (scriptOk xs = false) := by unfold scriptOk; rw [HS.out]; simp [Hid]
            go_wp2_with fail
            refine (within_q HI.out _).mono ?_
            rintro e w' ⟨rfl, rfl⟩
            go_wp2
            go_ret
            rw [HR.out]
            exact ⟨rfl, by first | exact ((HB.out.alloc HB.out.size _).alloc (by simp; omega) _) | exact (HB.out.alloc HB.out.size _)⟩
        · cases c
          · cases hal : alOk al
            · have HR : Hid (scriptOk xs = false) := by unfold scriptOk; rw [HS.out, hal]; simp [Hid]
              have HAL := Lib.hid hal
              clear hal
              go_wp2_with fail
              refine (within_q HI.out _).mono ?_
              rintro e w' ⟨rfl, rfl⟩
              go_wp2_with fail
              refine (contains7 (wr.heap.size + 1) al _ (blk_new_at (by simp))).mono ?_
              rintro e w' ⟨rfl, rfl⟩
              rw [HAL.out]
              go_wp2
              go_ret
              rw [HR.out]
              exact ⟨rfl, ((HB.out.alloc HB.out.size _).alloc (by simp; omega) _)⟩
            · have HN : Hid (scGo xs false false false = scGo (xs.drop (k + 1)) a b true) := by
                rw [HS.out, hal]
                simp [Hid, inB]
              have HAL := Lib.hid hal
              clear hal
              go_wp2_with fail
              refine (within_q HI.out _).mono ?_
              rintro e w' ⟨rfl, rfl⟩
              go_wp2_with fail
              refine (contains7 (wr.heap.size + 1) al _ (blk_new_at (by simp))).mono ?_
              rintro e w' ⟨rfl, rfl⟩
              rw [HAL.out]
              go_wp2
              go_roundw
              case rel => exact ⟨k + 1, a, b, true, by omega, by go_num, HN.out, ((HB.out.setCell (Nat.le_refl _) _).alloc (by simp; omega) _).alloc (by simp; omega) _, ((HBLK.out.set_ 2 (.bool true)).alloc _).alloc _⟩
              case measure => simp [intOf]; omega
          · have HR : Hid (scriptOk xs = false) := by unfold scriptOk; rw [HS.out]; simp [Hid]
            go_wp2_with fail
            refine (within_q HI.out _).mono ?_
            rintro e w' ⟨rfl, rfl⟩
            go_wp2
            go_ret
            rw [HR.out]
            exact ⟨rfl, by first | exact ((HB.out.alloc HB.out.size _).alloc (by simp; omega) _) | exact (HB.out.alloc HB.out.size _)⟩
    · have HR : Hid (scriptOk xs = decide (xs.length = 3)) := by
        unfold scriptOk
        rw [HG.out, List.drop_eq_nil_of_le (by omega)]
        exact Bool.true_and _
      by_cases l3 : xs.length = 3
      · have L3 : Hid (decide (xs.length = 3) = true) := decide_eq_true l3
        have hl3 : ((xs.length : Int) == 3) = true := by simp; omega
        clear l3
        go_wp2
        go_ret
        rw [HR.out, L3.out]
        exact ⟨rfl, hb⟩
      · have L3 : Hid (decide (xs.length = 3) = false) := decide_eq_false l3
        have hl3 : ((xs.length : Int) == 3) = false := by simp; omega
        clear l3
        go_wp2
        go_ret
        rw [HR.out, L3.out]
        exact ⟨rfl, hb⟩
end Go.Proofs.YthjjbgpeajeneaaDoor
