/- Contract of the reference ScriptValid. No condition but the sizes. -/
import Derived.Test.YthjjbgpeajeneaaDoorRows
import Derived.Test.YthjjbgpeajeneaaDoorBase
import Derived.Test.YthjjbgpeajeneaaDoorBase2
import Derived.Test.YthjjbgpeajeneaaDoorIn
import Derived.Test.YthjjbgpeajeneaaDoorPart
import Derived.Test.YthjjbgpeajeneaaDoorIdxI
import Derived.Test.YthjjbgpeajeneaaDoorScrV
import Derived.WalkKit
import Derived.WalkSpells
import Derived.WalkLawsBesides
import Derived.Handy
import Derived.BigQuiet
import Derived.Deep.RegionHeld3
import Derived.Deep.DrawnRows
import Derived.Deep.QuietTactic
namespace Go.Proofs.YthjjbgpeajeneaaDoor
open Go Go.RowKit


theorem al64 : ∀ n : Fin 65, 1 ≤ n.val → ((64 % n.val = 0) ↔ (n.val = 1 ∨ n.val = 2 ∨ n.val = 4 ∨ n.val = 8 ∨ n.val = 16 ∨ n.val = 32 ∨ n.val = 64)) := by decide
theorem alOk_mod {a : Int} (h1 : 1 ≤ a) (h2 : a ≤ 64) : alOk a = decide ((64 : Int) % a = 0) := by
  obtain ⟨n, rfl⟩ := Int.eq_ofNat_of_zero_le (show 0 ≤ a by omega)
  have h := al64 ⟨n, by omega⟩ (by show 1 ≤ n; omega)
  have hm : ((64 : Int) % (n : Int) = 0) ↔ (64 % n = 0) := by
    have : ((64 : Int) % (n : Int)) = ((64 % n : Nat) : Int) := by simp
    rw [this]
    omega
  rw [Bool.eq_iff_iff, alOk_iff, decide_eq_true_eq, hm, h]
  simp only
  omega
theorem alOk_out {a : Int} (h : a < 1 ∨ 64 < a) : alOk a = false := by
  cases ha : alOk a
  · rfl
  · have := (alOk_iff a).1 ha
    omega
theorem bool_info : (Tryd.prog.info? 4).map (fun i => (i.zero, i.size, i.bytes)) = some (some (.bool false), 1, 1) := by kernel_rfl

set_option maxRecDepth 100000 in
set_option maxHeartbeats 4000000 in
theorem specScriptValid_any {A : Option Addr} {c1 B : Nat} (xs : List Prt) (w : World) (h1 : Reads w B 2 A xs.length (xs.flatMap Prt.cells)) (hB : B ≤ w.heap.size) (hm : xs.length ≤ maxLen) :
    Calls Tryd.prog 13 #[.slice A xs.length c1] w (Gives w (.bool (scriptOk xs))) := by
  unfold maxLen at hm
  have hmk : ∀ W : World, (Instr.makeSlice 51 (.int .i64 4) (.int .i64 4)).run Tryd.prog W = .ok (.slice (some ⟨W.heap.size, 0, none⟩) 4 4) (W.alloc (.cells #[.bool false, .bool false, .bool false, .bool false] 4)) := fun _ => by kernel_rfl
  go_enter Tryd.func13, Tryd.ntmps13
  go_wp2
  clear hmk
  go_loopw [4] (fun i wr => ∃ (k : Nat) (a b c : Bool), k ≤ xs.length ∧ i = .int .i64 k ∧ Hid (scGo xs false false false = scGo (xs.drop k) a b c) ∧ Below w.heap.size w wr ∧ Blk wr w.heap.size 4 #[.bool false, .bool a, .bool b, .bool c]) (fun i _ => xs.length - (intOf i).toNat)
  case atStart => exact ⟨0, false, false, false, Nat.zero_le _, rfl, rfl, by go_grown, Blk.new _ _ _⟩
  case round =>
    obtain ⟨k, a, b, c, hk, rfl, HG, hb, hblk⟩ := hrel
    by_cases hlt : k < xs.length
    · obtain ⟨bb, off, rfl, hbl, e0, e1⟩ := Prt.at_ ((h1.more hB).below hb) hlt
      have HD := Lib.hid (drop_at hlt)
      have HX : Hid (xs[k] = ⟨xs[k].kind, xs[k].align⟩) := rfl
      generalize xs[k].kind = kd at *
      generalize xs[k].align = al at *
      have c0 := hblk.cell 1
      have c1' := hblk.cell 2
      have c2 := hblk.cell 3
      have f0 := hblk.frozen 1
      have f1 := hblk.frozen 2
      have f2 := hblk.frozen 3
      have hbz := hb.size
      have hgl := hblk.lt
      have HBLK := Lib.hid hblk
      have HB := Lib.hid hb
      clear hblk hb
      have hstep : scGo xs false false false = (inB kd 1 3 && !((kd == 1 && a) || (kd == 2 && b) || (kd == 3 && c)) && alOk al && scGo (xs.drop (k + 1)) (a || kd == 1) (b || kd == 2) (c || kd == 3)) := by
        rw [HG.out, HD.out, HX.out]
        rfl
      have HS := Lib.hid hstep
      clear hstep
      cases hi : inB kd 1 3
      · have HI := Lib.hid hi
        have HR : Hid (scriptOk xs = false) := by unfold scriptOk; rw [HS.out, hi]; simp [Hid]
        clear hi
        go_wp2_with fail
        refine (l1In_q HI.out _).mono ?_
        rintro e w' ⟨rfl, rfl⟩
        go_wp2
        go_ret
        rw [HR.out]
        exact ⟨rfl, HB.out⟩
      · have HI := Lib.hid hi
        have hbd := inB_iff.1 hi
        clear hi
        have hcase : kd = 1 ∨ kd = 2 ∨ kd = 3 := by omega
        clear hbd
        rcases hcase with rfl | rfl | rfl
        · cases a
          · cases hj : inB al 1 64
            · have HR : Hid (scriptOk xs = false) := by unfold scriptOk; rw [HS.out, alOk_out (inB_iff'.1 hj)]; simp [Hid]
              have HJ := Lib.hid hj
              clear hj
              go_wp2_with fail
              refine (l1In_q HI.out _).mono ?_
              rintro e w' ⟨rfl, rfl⟩
              go_wp2_with fail
              refine (l1In_q HJ.out _).mono ?_
              rintro e w' ⟨rfl, rfl⟩
              go_wp2
              go_ret
              rw [HR.out]
              exact ⟨rfl, HB.out⟩
            · have HJ := Lib.hid hj
              obtain ⟨j1, j2⟩ := inB_iff.1 hj
              have HM := Lib.hid (alOk_mod j1 j2)
              clear hj
              by_cases hz : (64 : Int) % al = 0
              · have HN : Hid (scGo xs false false false = scGo (xs.drop (k + 1)) true b c) := by
                  rw [HS.out, HM.out, decide_eq_true hz]
                  simp [Hid, inB]
                have ht : ((64 : Int) % al != 0) = false := by simp [hz]
                have ht2 : ((64 : Int).tmod al != 0) = false := by rw [Int.tmod_eq_emod_of_nonneg (by omega)]; exact ht
                clear hz
                go_wp2_with fail
                refine (l1In_q HI.out _).mono ?_
                rintro e w' ⟨rfl, rfl⟩
                go_wp2_with fail
                refine (l1In_q HJ.out _).mono ?_
                rintro e w' ⟨rfl, rfl⟩
                go_wp2
                go_roundw
                case rel => exact ⟨k + 1, true, b, c, by omega, by go_num, HN.out, HB.out.setCell (Nat.le_refl _) _, HBLK.out.set_ 1 (.bool true)⟩
                case measure => simp [intOf]; omega
              · have HR : Hid (scriptOk xs = false) := by unfold scriptOk; rw [HS.out, HM.out, decide_eq_false hz]; simp [Hid]
                have ht : ((64 : Int) % al != 0) = true := by simp [hz]
                have ht2 : ((64 : Int).tmod al != 0) = true := by rw [Int.tmod_eq_emod_of_nonneg (by omega)]; exact ht
                clear hz
                go_wp2_with fail
                refine (l1In_q HI.out _).mono ?_
                rintro e w' ⟨rfl, rfl⟩
                go_wp2_with fail
                refine (l1In_q HJ.out _).mono ?_
                rintro e w' ⟨rfl, rfl⟩
                go_wp2
                go_ret
                rw [HR.out]
                exact ⟨rfl, HB.out⟩
          · have HR : Hid (scriptOk xs = false) := by unfold scriptOk; rw [HS.out]; simp [Hid]
            go_wp2_with fail
            refine (l1In_q HI.out _).mono ?_
            rintro e w' ⟨rfl, rfl⟩
            go_wp2
            go_ret
            rw [HR.out]
            exact ⟨rfl, HB.out⟩
        · cases b
          · cases hj : inB al 1 64
            · have HR : Hid (scriptOk xs = false) := by unfold scriptOk; rw [HS.out, alOk_out (inB_iff'.1 hj)]; simp [Hid]
              have HJ := Lib.hid hj
              clear hj
              go_wp2_with fail
              refine (l1In_q HI.out _).mono ?_
              rintro e w' ⟨rfl, rfl⟩
              go_wp2_with fail
              refine (l1In_q HJ.out _).mono ?_
              rintro e w' ⟨rfl, rfl⟩
              go_wp2
              go_ret
              rw [HR.out]
              exact ⟨rfl, HB.out⟩
            · have HJ := Lib.hid hj
              obtain ⟨j1, j2⟩ := inB_iff.1 hj
              have HM := Lib.hid (alOk_mod j1 j2)
              clear hj
              by_cases hz : (64 : Int) % al = 0
              · have HN : Hid (scGo xs false false false = scGo (xs.drop (k + 1)) a true c) := by
                  rw [HS.out, HM.out, decide_eq_true hz]
                  simp [Hid, inB]
                have ht : ((64 : Int) % al != 0) = false := by simp [hz]
                have ht2 : ((64 : Int).tmod al != 0) = false := by rw [Int.tmod_eq_emod_of_nonneg (by omega)]; exact ht
                clear hz
                go_wp2_with fail
                refine (l1In_q HI.out _).mono ?_
                rintro e w' ⟨rfl, rfl⟩
                go_wp2_with fail
                refine (l1In_q HJ.out _).mono ?_
                rintro e w' ⟨rfl, rfl⟩
                go_wp2
                go_roundw
                case rel => exact ⟨k + 1, a, true, c, by omega, by go_num, HN.out, HB.out.setCell (Nat.le_refl _) _, HBLK.out.set_ 2 (.bool true)⟩
                case measure => simp [intOf]; omega
              · have HR : Hid (scriptOk xs = false) := by unfold scriptOk; rw [HS.out, HM.out, decide_eq_false hz]; simp [Hid]
                have ht : ((64 : Int) % al != 0) = true := by simp [hz]
                have ht2 : ((64 : Int).tmod al != 0) = true := by rw [Int.tmod_eq_emod_of_nonneg (by omega)]; exact ht
                clear hz
                go_wp2_with fail
                refine (l1In_q HI.out _).mono ?_
                rintro e w' ⟨rfl, rfl⟩
                go_wp2_with fail
                refine (l1In_q HJ.out _).mono ?_
                rintro e w' ⟨rfl, rfl⟩
                go_wp2
                go_ret
                rw [HR.out]
                exact ⟨rfl, HB.out⟩
          · have HR : Hid (scriptOk xs = false) := by unfold scriptOk; rw [HS.out]; simp [Hid]
            go_wp2_with fail
            refine (l1In_q HI.out _).mono ?_
            rintro e w' ⟨rfl, rfl⟩
            go_wp2
            go_ret
            rw [HR.out]
            exact ⟨rfl, HB.out⟩
        · cases c
          · cases hj : inB al 1 64
            · have HR : Hid (scriptOk xs = false) := by unfold scriptOk; rw [HS.out, alOk_out (inB_iff'.1 hj)]; simp [Hid]
              have HJ := Lib.hid hj
              clear hj
              go_wp2_with fail
              refine (l1In_q HI.out _).mono ?_
              rintro e w' ⟨rfl, rfl⟩
              go_wp2_with fail
              refine (l1In_q HJ.out _).mono ?_
              rintro e w' ⟨rfl, rfl⟩
              go_wp2
              go_ret
              rw [HR.out]
              exact ⟨rfl, HB.out⟩
            · have HJ := Lib.hid hj
              obtain ⟨j1, j2⟩ := inB_iff.1 hj
              have HM := Lib.hid (alOk_mod j1 j2)
              clear hj
              by_cases hz : (64 : Int) % al = 0
              · have HN : Hid (scGo xs false false false = scGo (xs.drop (k + 1)) a b true) := by
                  rw [HS.out, HM.out, decide_eq_true hz]
                  simp [Hid, inB]
                have ht : ((64 : Int) % al != 0) = false := by simp [hz]
                have ht2 : ((64 : Int).tmod al != 0) = false := by rw [Int.tmod_eq_emod_of_nonneg (by omega)]; exact ht
                clear hz
                go_wp2_with fail
                refine (l1In_q HI.out _).mono ?_
                rintro e w' ⟨rfl, rfl⟩
                go_wp2_with fail
                refine (l1In_q HJ.out _).mono ?_
                rintro e w' ⟨rfl, rfl⟩
                go_wp2
                go_roundw
                case rel => exact ⟨k + 1, a, b, true, by omega, by go_num, HN.out, HB.out.setCell (Nat.le_refl _) _, HBLK.out.set_ 3 (.bool true)⟩
                case measure => simp [intOf]; omega
              · have HR : Hid (scriptOk xs = false) := by unfold scriptOk; rw [HS.out, HM.out, decide_eq_false hz]; simp [Hid]
                have ht : ((64 : Int) % al != 0) = true := by simp [hz]
                have ht2 : ((64 : Int).tmod al != 0) = true := by rw [Int.tmod_eq_emod_of_nonneg (by omega)]; exact ht
                clear hz
                go_wp2_with fail
                refine (l1In_q HI.out _).mono ?_
                rintro e w' ⟨rfl, rfl⟩
                go_wp2_with fail
                refine (l1In_q HJ.out _).mono ?_
                rintro e w' ⟨rfl, rfl⟩
                go_wp2
                go_ret
                rw [HR.out]
                exact ⟨rfl, HB.out⟩
          · have HR : Hid (scriptOk xs = false) := by unfold scriptOk; rw [HS.out]; simp [Hid]
            go_wp2_with fail
            refine (l1In_q HI.out _).mono ?_
            rintro e w' ⟨rfl, rfl⟩
            go_wp2
            go_ret
            rw [HR.out]
            exact ⟨rfl, HB.out⟩
    · have HR : Hid (scriptOk xs = decide (xs.length = 3)) := by
        unfold scriptOk
        rw [HG.out, List.drop_eq_nil_of_le (by omega)]
        exact Bool.true_and _
      by_cases l3 : xs.length = 3
      · have L3 : Hid (decide (xs.length = 3) = true) := decide_eq_true l3
        have hl3 : ((xs.length : Int) == 3) = true := by simp; omega
        clear l3
        go_wp2
        go_ret
        rw [HR.out, L3.out]
        exact ⟨rfl, hb⟩
      · have L3 : Hid (decide (xs.length = 3) = false) := decide_eq_false l3
        have hl3 : ((xs.length : Int) == 3) = false := by simp; omega
        clear l3
        go_wp2
        go_ret
        rw [HR.out, L3.out]
        exact ⟨rfl, hb⟩
end Go.Proofs.YthjjbgpeajeneaaDoor
