/- Contract of the reference's ScriptText. Condition: the size. -/
import Derived.Test.YthjjbgpeajeneaaDoorRows
import Derived.Test.YthjjbgpeajeneaaDoorBase
import Derived.Test.YthjjbgpeajeneaaDoorBase2
import Derived.Test.YthjjbgpeajeneaaDoorIn
import Derived.Test.YthjjbgpeajeneaaDoorPart
import Derived.Test.YthjjbgpeajeneaaDoorScrV
import Derived.Test.YthjjbgpeajeneaaDoorScrW
import Derived.Test.YthjjbgpeajeneaaDoorScr3
import Derived.Test.YthjjbgpeajeneaaDoorDec
import Derived.Test.YthjjbgpeajeneaaDoorDecS
import Derived.Test.YthjjbgpeajeneaaDoorStx
import Derived.Test.YthjjbgpeajeneaaDoorStf
import Derived.Test.YthjjbgpeajeneaaDoorReg
import Derived.Test.YthjjbgpeajeneaaDoorRegS
import Derived.WalkKit
import Derived.WalkSpells
import Derived.WalkLawsBesides
import Derived.Handy
import Derived.BigQuiet
import Derived.Deep.RegionHeld3
import Derived.Deep.DrawnRows
import Derived.Deep.QuietTactic
namespace Go.Proofs.YthjjbgpeajeneaaDoor
open Go Go.RowKit

set_option maxRecDepth 100000 in
set_option maxHeartbeats 1600000 in
theorem specScrText_any {A : Option Addr} {c1 B : Nat} (xs : List Prt) (w : World) (h1 : Reads w B 2 A xs.length (xs.flatMap Prt.cells)) (hB : B ≤ w.heap.size) (hm : xs.length ≤ maxLen) :
    Calls Tryd.prog 8 #[.slice A xs.length c1] w (Gives w (.string (scrText xs))) := by
  have HV := Lib.hid (fun wr (hb : Below w.heap.size w wr) => specScriptValid_any (c1 := c1) xs wr ((h1.more hB).below hb) (by have := hb.size; omega) hm)
  unfold maxLen at hm
  cases hok : scriptOk xs with
  | false =>
    rw [scrText_no hok]
    rw [hok] at HV
    clear hok
    by_cases h0 : xs.length = 0
    · have h0i : (xs.length : Int) = 0 := by omega
      go_enter Tryd.func8, Tryd.ntmps8
      go_wp2
      go_loopw [3, 4] (fun ov kv wr => ov = .string ⟨#[]⟩ ∧ kv = .int .i64 0 ∧ wr = w) (fun _ _ _ => 0)
      case atStart => exact ⟨rfl, rfl, rfl⟩
      case round =>
        obtain ⟨rfl, rfl, rfl⟩ := hrel
        go_wp2
        go_ret
        exact ⟨rfl, Below.refl _ _⟩
    · have h0i : (0 : Int) < (xs.length : Int) := by omega
      go_enter Tryd.func8, Tryd.ntmps8
      go_wp2
      go_loopw [3, 4] (fun ov kv wr => ov = .string ⟨#[]⟩ ∧ kv = .int .i64 0 ∧ wr = w) (fun _ _ _ => 0)
      case atStart => exact ⟨rfl, rfl, rfl⟩
      case round =>
        obtain ⟨rfl, rfl, rfl⟩ := hrel
        go_wp2_with fail
        refine (HV.out _ (Below.refl _ _)).mono ?_
        rintro e w2 ⟨rfl, hb2⟩
        go_wp2
        go_ret
        exact ⟨rfl, hb2⟩
  | true =>
    rw [scrText_acc hok]
    rw [hok] at HV
    have hl3 : xs.length ≤ 3 := by have := script_len hok; omega
    have HAT := Lib.hid (fun k (hk : k < xs.length) => script_at hok hk)
    have HALL := Lib.hid (prt_all hok)
    clear hok
    go_enter Tryd.func8, Tryd.ntmps8
    go_wp2
    go_loopw [3, 4] (fun ov kv wr => ∃ k : Nat, ov = .string (accB (xs.take k)) ∧ kv = .int .i64 (k : Int) ∧ k ≤ xs.length ∧ Hid (Below w.heap.size w wr)) (fun _ kv _ => xs.length - (intOf kv).toNat)
    case atStart => exact ⟨0, rfl, rfl, Nat.zero_le _, Below.refl _ _⟩
    case round =>
      obtain ⟨k, rfl, rfl, hk, HB⟩ := hrel
      by_cases hlt : k < xs.length
      · obtain ⟨b, off, rfl, hbB, e0, e1x⟩ := Prt.at_ h1 hlt
        have hbw : b < w.heap.size := by omega
        obtain ⟨⟨hk1, hk3⟩, ha⟩ := HAT.out k hlt
        have ha64 := alOk_bd ha
        have HS := Lib.hid (show xs.take (k + 1) = xs.take k ++ [xs[k]] from List.take_succ_eq_append_getElem hlt)
        have hsz := accB_size (xs.take k) (fun p hp => HALL.out p (List.mem_of_mem_take hp))
        have hsz2 : (accB (xs.take k)).size ≤ 27 := by
          have : (xs.take k).length ≤ 3 := by rw [List.length_take]; omega
          omega
        have HP : Hid (addP (accB (xs.take k) ++ ⟨#[32]⟩) xs[k] = accB (xs.take k) ++ ⟨#[32]⟩ ++ kwB xs[k].kind ++ ⟨#[58]⟩ ++ decS xs[k].align.toNat) := rfl
        have HP0 : Hid (addP ⟨#[]⟩ xs[k] = kwB xs[k].kind ++ ⟨#[58]⟩ ++ decS xs[k].align.toNat) := by
          apply bytes_eq
          simp [addP, ByteArray.data_append]
        generalize hkd : xs[k].kind = kd at *
        obtain ⟨al, hal0⟩ : ∃ al : Nat, xs[k].align = (al : Int) := ⟨xs[k].align.toNat, by omega⟩
        rw [hal0] at e1x ha64 HP HP0
        rw [Int.toNat_natCast] at HP HP0
        have hal : al < 100 := by omega
        have hkw := kwB_size hk1 hk3
        have hdz := decS_size hal
        clear hal0 hkd ha hsz
        by_cases hk0 : k = 0
        · subst hk0
          have HN : Hid (accB (xs.take (0 + 1)) = kwB kd ++ ⟨#[58]⟩ ++ decS al) := by
            unfold Hid
            rw [HS.out, ← HP0.out]
            exact accB_first _
          have z1 : (kwB kd).size ≤ 40 := by omega
          have z2 : (kwB kd ++ ⟨#[58]⟩ : ByteArray).size ≤ 41 := by rw [ByteArray.size_append]; show _ + 1 ≤ 41; omega
          have EA : Hid (accB (xs.take 0) = ⟨#[]⟩) := by
            unfold Hid accB
            simp [Lib.join_nil]
          rw [EA.out]
          have hk : (0 : Nat) ≤ xs.length := hk
          clear HP HP0 HS EA
          go_wp2_with fail
          refine (HV.out _ HB.out).mono ?_
          rintro e w3 ⟨rfl, hb3⟩
          have HB3 := Lib.hid (HB.out.trans (hb3.mono HB.out.size))
          clear hb3 HB
          go_wp2
          refine wp_region_facts2 (fun i v wq => match i with
            | 0 => v = .string ⟨#[]⟩
            | 1 => ∃ g, v = .slice (some ⟨g, 0, none⟩) 3 3 ∧ Blk wq g 9 #[.string ⟨#[99, 111, 100, 101]⟩, .string ⟨#[100, 97, 116, 97]⟩, .string ⟨#[98, 108, 97, 110, 107]⟩]
            | 2 => v = .slice (some ⟨b, off, none⟩) xs.length c1
            | 3 => v = .int .i64 0
            | 4 => v = .pointer (some ⟨b, off, none⟩)
            | 5 => v = .pointer (some ⟨b, off, none⟩)
            | 6 => v = .int .i64 kd
            | 7 => v = .int .i64 (kd - 1)
            | 8 => ∃ g, v = .pointer (some ⟨g, kd.toNat - 1, none⟩) ∧ wq.cell? ⟨g, kd.toNat - 1, none⟩ = some (.string (kwB kd))
            | 9 => v = .string (kwB kd)
            | 10 => v = .string (kwB kd)
            | 11 => v = .string (kwB kd ++ ⟨#[58]⟩)
            | 12 => v = .slice (some ⟨b, off, none⟩) xs.length c1
            | 13 => v = .int .i64 0
            | 14 => v = .pointer (some ⟨b, off, none⟩)
            | 15 => v = .pointer (some ⟨b, off + 1, none⟩)
            | 16 => v = .int .i64 (al : Int)
            | 17 => v = .string (decS al)
            | _ => v = .string (kwB kd ++ ⟨#[58]⟩ ++ decS al))
            (fun fl vs wq => Below w.heap.size w wq ∧ (fl 19 = false → vs 19 = .string ⟨#[]⟩)) (fun wq wz => Below wq.heap.size wq wz) (by kernel_rfl) (by kernel_rfl) ?_ ?_ ?_ ?_
          · intro i v wq wz hk h
            match i, h with
            | 0, h => exact h
            | 1, ⟨g, h1, h2⟩ => exact ⟨g, h1, h2.below hk h2.lt⟩
            | 2, h => exact h
            | 3, h => exact h
            | 4, h => exact h
            | 5, h => exact h
            | 6, h => exact h
            | 7, h => exact h
            | 8, ⟨g, h1, h2⟩ => exact ⟨g, h1, (hk.cell (block_lt_of_cell h2)).trans h2⟩
            | 9, h => exact h
            | 10, h => exact h
            | 11, h => exact h
            | 12, h => exact h
            | 13, h => exact h
            | 14, h => exact h
            | 15, h => exact h
            | 16, h => exact h
            | 17, h => exact h
            | _ + 18, h => exact h
          · intro fl vs hfl hvs
            exact ⟨HB3.out.drew, fun _ => hvs 19 3 rfl⟩
          · refine ⟨?_, ?_, ?_, ?_, ?_, ?_, ?_, ?_, ?_, ?_, ?_, ?_, ?_, ?_, ?_, ?_, ?_, ?_, ?_, ?_, trivial⟩
            all_goals intro fl vs w5 a1 hc' hG hfi hcl hp K hK
            · have n19 : fl 19 = false := by cases h : fl 19 with
                | false => rfl
                | true => have := hcl 19 0 (by kernel_rfl) h; rw [show fl 0 = false from hfi] at this; cases this
              refine op_move rfl ?_
              rw [hc'.ev 3 19 rfl, hG.2 n19]
              exact hK _ _ (Below.refl _ _) rfl (by simpa [upd] using hG)
            · unfold Oper.wp execOp
              go_simp
              exact hK _ _ ((Below.refl _ _).alloc (Nat.le_refl _) _) ⟨_, rfl, Blk.new _ _ _⟩ ⟨hG.1.alloc hG.1.size _, by simpa [upd] using hG.2⟩
            · refine op_move rfl ?_
              rw [hc'.ev0 _ rfl]
              exact hK _ _ (Below.refl _ _) rfl (by simpa [upd] using hG)
            · refine op_move rfl ?_
              rw [hc'.ev0 _ rfl]
              exact hK _ _ (Below.refl _ _) rfl (by simpa [upd] using hG)
            · have h2 : vs 2 = _ := (hp 2 (by kernel_rfl)).2
              have e2 := hc'.ev 21 2 rfl
              rw [h2] at e2
              have h3 : vs 3 = _ := (hp 3 (by kernel_rfl)).2
              have e3 := hc'.ev 22 3 rfl
              rw [h3] at e3
              unfold Oper.wp execOp
              simp only [e2, e3]
              have y1 : (0 : Int) < (xs.length : Int) := by omega
              go_simp
              exact hK _ _ (Below.refl _ _) (rfl) (by simpa [upd] using hG)
            · have h4 : vs 4 = _ := (hp 4 (by kernel_rfl)).2
              have e4 := hc'.ev 23 4 rfl
              rw [h4] at e4
              unfold Oper.wp execOp
              simp only [e4]
              go_simp
              exact hK _ _ (Below.refl _ _) (rfl) (by simpa [upd] using hG)
            · have h5 : vs 5 = _ := (hp 5 (by kernel_rfl)).2
              have e5 := hc'.ev 24 5 rfl
              rw [h5] at e5
              unfold Oper.wp execOp
              simp only [e5]
              have hcell := (hG.1.cell (p := ⟨b, off, none⟩) hbw).trans e0
              go_simp
              exact hK _ _ (Below.refl _ _) (rfl) (by simpa [upd] using hG)
            · have h6 : vs 6 = _ := (hp 6 (by kernel_rfl)).2
              have e6 := hc'.ev 25 6 rfl
              rw [h6] at e6
              unfold Oper.wp execOp
              simp only [e6]
              go_simp
              exact hK _ _ (Below.refl _ _) (by show Value.int _ _ = Value.int _ _; first | rfl | (congr 1; omega) | (rw [IntWalk.i64_in _ (by omega)] <;> first | rfl | (congr 1; omega))) (by simpa [upd] using hG)
            · have h7 : vs 7 = _ := (hp 7 (by kernel_rfl)).2
              obtain ⟨g, h1, hB1⟩ := (hp 1 (by kernel_rfl)).2
              have e7 := hc'.ev 26 7 rfl
              have e1 := hc'.ev 20 1 rfl
              rw [h7] at e7
              rw [h1] at e1
              unfold Oper.wp execOp
              simp only [e7, e1]
              have y0 : (0 : Int) ≤ kd - 1 := by omega
              have y1 : kd - 1 < 3 := by omega
              go_simp
              exact hK _ _ (Below.refl _ _) ⟨g, rfl, kw_cell hB1 hk1 hk3⟩ (by simpa [upd] using hG)
            · obtain ⟨g, h8, hc8⟩ := (hp 8 (by kernel_rfl)).2
              have e8 := hc'.ev 27 8 rfl
              rw [h8] at e8
              unfold Oper.wp execOp
              simp only [e8]
              go_simp
              exact hK _ _ (Below.refl _ _) rfl (by simpa [upd] using hG)
            · have h0 : vs 0 = _ := (hp 0 (by kernel_rfl)).2
              have e0 := hc'.ev 19 0 rfl
              rw [h0] at e0
              have h9 : vs 9 = _ := (hp 9 (by kernel_rfl)).2
              have e9 := hc'.ev 28 9 rfl
              rw [h9] at e9
              unfold Oper.wp execOp
              simp only [e0, e9]
              have y0 : ¬ 9223372036854775807 < (kwB kd).size := by omega
              go_simp
              exact hK _ _ (Below.refl _ _) (rfl) (by simpa [upd] using hG)
            · have h10 : vs 10 = _ := (hp 10 (by kernel_rfl)).2
              have e10 := hc'.ev 29 10 rfl
              rw [h10] at e10
              unfold Oper.wp execOp
              simp only [e10]
              have y0 : ¬ 9223372036854775807 < (kwB kd).size + 1 := by omega
              go_simp
              exact hK _ _ (Below.refl _ _) (rfl) (by simpa [upd] using hG)
            · refine op_move rfl ?_
              rw [hc'.ev0 _ rfl]
              exact hK _ _ (Below.refl _ _) rfl (by simpa [upd] using hG)
            · refine op_move rfl ?_
              rw [hc'.ev0 _ rfl]
              exact hK _ _ (Below.refl _ _) rfl (by simpa [upd] using hG)
            · have h12 : vs 12 = _ := (hp 12 (by kernel_rfl)).2
              have e12 := hc'.ev 31 12 rfl
              rw [h12] at e12
              have h13 : vs 13 = _ := (hp 13 (by kernel_rfl)).2
              have e13 := hc'.ev 32 13 rfl
              rw [h13] at e13
              unfold Oper.wp execOp
              simp only [e12, e13]
              have y1 : (0 : Int) < (xs.length : Int) := by omega
              go_simp
              exact hK _ _ (Below.refl _ _) (rfl) (by simpa [upd] using hG)
            · have h14 : vs 14 = _ := (hp 14 (by kernel_rfl)).2
              have e14 := hc'.ev 33 14 rfl
              rw [h14] at e14
              unfold Oper.wp execOp
              simp only [e14]
              go_simp
              exact hK _ _ (Below.refl _ _) (rfl) (by simpa [upd] using hG)
            · have h15 : vs 15 = _ := (hp 15 (by kernel_rfl)).2
              have e15 := hc'.ev 34 15 rfl
              rw [h15] at e15
              unfold Oper.wp execOp
              simp only [e15]
              have hcell := (hG.1.cell (p := ⟨b, off + 1, none⟩) hbw).trans e1x
              go_simp
              exact hK _ _ (Below.refl _ _) (rfl) (by simpa [upd] using hG)
            · have h16 : vs 16 = _ := (hp 16 (by kernel_rfl)).2
              have e16 := hc'.ev 35 16 rfl
              rw [h16] at e16
              refine op_call rfl (by simp only [List.map_toArray, List.map_cons, List.map_nil, e16]) (by kernel_rfl) (l8Number_small al _ hal) ?_
              rintro e w' ⟨rfl, hb⟩
              exact ⟨_, rfl, hK _ _ hb rfl ⟨hG.1.trans (hb.mono hG.1.size), by simpa [upd] using hG.2⟩⟩
            · have h11 : vs 11 = _ := (hp 11 (by kernel_rfl)).2
              have e11 := hc'.ev 30 11 rfl
              rw [h11] at e11
              have h17 : vs 17 = _ := (hp 17 (by kernel_rfl)).2
              have e17 := hc'.ev 36 17 rfl
              rw [h17] at e17
              unfold Oper.wp execOp
              simp only [e11, e17]
              have y0 : ¬ 9223372036854775807 < (kwB kd).size + 1 + (decS al).size := by omega
              go_simp
              exact hK _ _ (Below.refl _ _) (rfl) (by simpa [upd] using hG)
            · have h18 : vs 18 = _ := (hp 18 (by kernel_rfl)).2
              refine op_assign rfl ?_
              rw [hc'.ev 37 18 rfl, h18]
              exact hK _ _ (Below.refl _ _) rfl ⟨hG.1, fun h => by simp [upd] at h⟩
          · intro fl vs w5 hfl hG hF
            have h19 : vs 19 = _ := hF 19 (by simp)
            have HB5 := Lib.hid hG.1
            clear hG hF hfl
            simp only [fill]
            go_simp
            try rw [h19]
            clear h19
            go_wp2
            go_roundw
            case rel => exact ⟨0 + 1, by rw [HN.out], by go_num, by omega, HB5⟩
            case measure => simp [intOf]; omega
        · have HN : Hid (accB (xs.take (k + 1)) = accB (xs.take k) ++ ⟨#[32]⟩ ++ kwB kd ++ ⟨#[58]⟩ ++ decS al) := by
            unfold Hid
            rw [HS.out, ← HP.out]
            obtain ⟨q, r, hqr⟩ : ∃ q r, xs.take k = q :: r := by
              cases hq : xs.take k with
              | nil =>
                have := congrArg List.length hq
                rw [List.length_take, List.length_nil] at this
                omega
              | cons q r => exact ⟨q, r, rfl⟩
            rw [hqr]
            exact accB_next q r _
          have hkpos : (0 : Int) < (k : Int) := by omega
          generalize ho : accB (xs.take k) = o at *
          have z0 : (o ++ ⟨#[32]⟩ : ByteArray).size ≤ 28 := by rw [ByteArray.size_append]; show o.size + 1 ≤ 28; omega
          have z1 : (o ++ ⟨#[32]⟩ ++ kwB kd : ByteArray).size ≤ 40 := by rw [ByteArray.size_append]; omega
          have z2 : (o ++ ⟨#[32]⟩ ++ kwB kd ++ ⟨#[58]⟩ : ByteArray).size ≤ 41 := by rw [ByteArray.size_append]; show _ + 1 ≤ 41; omega
          clear HP HP0 HS ho
          go_wp2_with fail
          refine (HV.out _ HB.out).mono ?_
          rintro e w3 ⟨rfl, hb3⟩
          have HB3 := Lib.hid (HB.out.trans (hb3.mono HB.out.size))
          clear hb3 HB
          go_wp2
          refine wp_region_facts2 (fun i v wq => match i with
            | 0 => v = .string (o ++ ⟨#[32]⟩)
            | 1 => ∃ g, v = .slice (some ⟨g, 0, none⟩) 3 3 ∧ Blk wq g 9 #[.string ⟨#[99, 111, 100, 101]⟩, .string ⟨#[100, 97, 116, 97]⟩, .string ⟨#[98, 108, 97, 110, 107]⟩]
            | 2 => v = .slice (some ⟨b, off, none⟩) xs.length c1
            | 3 => v = .int .i64 (k : Int)
            | 4 => v = .pointer (some ⟨b, off + k * 2, none⟩)
            | 5 => v = .pointer (some ⟨b, off + k * 2, none⟩)
            | 6 => v = .int .i64 kd
            | 7 => v = .int .i64 (kd - 1)
            | 8 => ∃ g, v = .pointer (some ⟨g, kd.toNat - 1, none⟩) ∧ wq.cell? ⟨g, kd.toNat - 1, none⟩ = some (.string (kwB kd))
            | 9 => v = .string (kwB kd)
            | 10 => v = .string ((o ++ ⟨#[32]⟩) ++ kwB kd)
            | 11 => v = .string ((o ++ ⟨#[32]⟩) ++ kwB kd ++ ⟨#[58]⟩)
            | 12 => v = .slice (some ⟨b, off, none⟩) xs.length c1
            | 13 => v = .int .i64 (k : Int)
            | 14 => v = .pointer (some ⟨b, off + k * 2, none⟩)
            | 15 => v = .pointer (some ⟨b, off + k * 2 + 1, none⟩)
            | 16 => v = .int .i64 (al : Int)
            | 17 => v = .string (decS al)
            | _ => v = .string ((o ++ ⟨#[32]⟩) ++ kwB kd ++ ⟨#[58]⟩ ++ decS al))
            (fun fl vs wq => Below w.heap.size w wq ∧ (fl 19 = false → vs 19 = .string (o ++ ⟨#[32]⟩))) (fun wq wz => Below wq.heap.size wq wz) (by kernel_rfl) (by kernel_rfl) ?_ ?_ ?_ ?_
          · intro i v wq wz hk h
            match i, h with
            | 0, h => exact h
            | 1, ⟨g, h1, h2⟩ => exact ⟨g, h1, h2.below hk h2.lt⟩
            | 2, h => exact h
            | 3, h => exact h
            | 4, h => exact h
            | 5, h => exact h
            | 6, h => exact h
            | 7, h => exact h
            | 8, ⟨g, h1, h2⟩ => exact ⟨g, h1, (hk.cell (block_lt_of_cell h2)).trans h2⟩
            | 9, h => exact h
            | 10, h => exact h
            | 11, h => exact h
            | 12, h => exact h
            | 13, h => exact h
            | 14, h => exact h
            | 15, h => exact h
            | 16, h => exact h
            | 17, h => exact h
            | _ + 18, h => exact h
          · intro fl vs hfl hvs
            exact ⟨HB3.out.drew, fun _ => hvs 19 3 rfl⟩
          · refine ⟨?_, ?_, ?_, ?_, ?_, ?_, ?_, ?_, ?_, ?_, ?_, ?_, ?_, ?_, ?_, ?_, ?_, ?_, ?_, ?_, trivial⟩
            all_goals intro fl vs w5 a1 hc' hG hfi hcl hp K hK
            · have n19 : fl 19 = false := by cases h : fl 19 with
                | false => rfl
                | true => have := hcl 19 0 (by kernel_rfl) h; rw [show fl 0 = false from hfi] at this; cases this
              refine op_move rfl ?_
              rw [hc'.ev 3 19 rfl, hG.2 n19]
              exact hK _ _ (Below.refl _ _) rfl (by simpa [upd] using hG)
            · unfold Oper.wp execOp
              go_simp
              exact hK _ _ ((Below.refl _ _).alloc (Nat.le_refl _) _) ⟨_, rfl, Blk.new _ _ _⟩ ⟨hG.1.alloc hG.1.size _, by simpa [upd] using hG.2⟩
            · refine op_move rfl ?_
              rw [hc'.ev0 _ rfl]
              exact hK _ _ (Below.refl _ _) rfl (by simpa [upd] using hG)
            · refine op_move rfl ?_
              rw [hc'.ev0 _ rfl]
              exact hK _ _ (Below.refl _ _) rfl (by simpa [upd] using hG)
            · have h2 : vs 2 = _ := (hp 2 (by kernel_rfl)).2
              have e2 := hc'.ev 21 2 rfl
              rw [h2] at e2
              have h3 : vs 3 = _ := (hp 3 (by kernel_rfl)).2
              have e3 := hc'.ev 22 3 rfl
              rw [h3] at e3
              unfold Oper.wp execOp
              simp only [e2, e3]
              have y0 : (0 : Int) ≤ (k : Int) := by omega
              have y1 : (k : Int) < (xs.length : Int) := by omega
              go_simp
              exact hK _ _ (Below.refl _ _) (rfl) (by simpa [upd] using hG)
            · have h4 : vs 4 = _ := (hp 4 (by kernel_rfl)).2
              have e4 := hc'.ev 23 4 rfl
              rw [h4] at e4
              unfold Oper.wp execOp
              simp only [e4]
              go_simp
              exact hK _ _ (Below.refl _ _) (rfl) (by simpa [upd] using hG)
            · have h5 : vs 5 = _ := (hp 5 (by kernel_rfl)).2
              have e5 := hc'.ev 24 5 rfl
              rw [h5] at e5
              unfold Oper.wp execOp
              simp only [e5]
              have hcell := (hG.1.cell (p := ⟨b, off + k * 2, none⟩) hbw).trans e0
              go_simp
              exact hK _ _ (Below.refl _ _) (rfl) (by simpa [upd] using hG)
            · have h6 : vs 6 = _ := (hp 6 (by kernel_rfl)).2
              have e6 := hc'.ev 25 6 rfl
              rw [h6] at e6
              unfold Oper.wp execOp
              simp only [e6]
              go_simp
              exact hK _ _ (Below.refl _ _) (by show Value.int _ _ = Value.int _ _; first | rfl | (congr 1; omega) | (rw [IntWalk.i64_in _ (by omega)] <;> first | rfl | (congr 1; omega))) (by simpa [upd] using hG)
            · have h7 : vs 7 = _ := (hp 7 (by kernel_rfl)).2
              obtain ⟨g, h1, hB1⟩ := (hp 1 (by kernel_rfl)).2
              have e7 := hc'.ev 26 7 rfl
              have e1 := hc'.ev 20 1 rfl
              rw [h7] at e7
              rw [h1] at e1
              unfold Oper.wp execOp
              simp only [e7, e1]
              have y0 : (0 : Int) ≤ kd - 1 := by omega
              have y1 : kd - 1 < 3 := by omega
              go_simp
              exact hK _ _ (Below.refl _ _) ⟨g, rfl, kw_cell hB1 hk1 hk3⟩ (by simpa [upd] using hG)
            · obtain ⟨g, h8, hc8⟩ := (hp 8 (by kernel_rfl)).2
              have e8 := hc'.ev 27 8 rfl
              rw [h8] at e8
              unfold Oper.wp execOp
              simp only [e8]
              go_simp
              exact hK _ _ (Below.refl _ _) rfl (by simpa [upd] using hG)
            · have h0 : vs 0 = _ := (hp 0 (by kernel_rfl)).2
              have e0 := hc'.ev 19 0 rfl
              rw [h0] at e0
              have h9 : vs 9 = _ := (hp 9 (by kernel_rfl)).2
              have e9 := hc'.ev 28 9 rfl
              rw [h9] at e9
              unfold Oper.wp execOp
              simp only [e0, e9]
              have y0 : ¬ 9223372036854775807 < o.size + 1 + (kwB kd).size := by omega
              go_simp
              exact hK _ _ (Below.refl _ _) (rfl) (by simpa [upd] using hG)
            · have h10 : vs 10 = _ := (hp 10 (by kernel_rfl)).2
              have e10 := hc'.ev 29 10 rfl
              rw [h10] at e10
              unfold Oper.wp execOp
              simp only [e10]
              have y0 : ¬ 9223372036854775807 < o.size + 1 + (kwB kd).size + 1 := by omega
              go_simp
              exact hK _ _ (Below.refl _ _) (rfl) (by simpa [upd] using hG)
            · refine op_move rfl ?_
              rw [hc'.ev0 _ rfl]
              exact hK _ _ (Below.refl _ _) rfl (by simpa [upd] using hG)
            · refine op_move rfl ?_
              rw [hc'.ev0 _ rfl]
              exact hK _ _ (Below.refl _ _) rfl (by simpa [upd] using hG)
            · have h12 : vs 12 = _ := (hp 12 (by kernel_rfl)).2
              have e12 := hc'.ev 31 12 rfl
              rw [h12] at e12
              have h13 : vs 13 = _ := (hp 13 (by kernel_rfl)).2
              have e13 := hc'.ev 32 13 rfl
              rw [h13] at e13
              unfold Oper.wp execOp
              simp only [e12, e13]
              have y0 : (0 : Int) ≤ (k : Int) := by omega
              have y1 : (k : Int) < (xs.length : Int) := by omega
              go_simp
              exact hK _ _ (Below.refl _ _) (rfl) (by simpa [upd] using hG)
            · have h14 : vs 14 = _ := (hp 14 (by kernel_rfl)).2
              have e14 := hc'.ev 33 14 rfl
              rw [h14] at e14
              unfold Oper.wp execOp
              simp only [e14]
              go_simp
              exact hK _ _ (Below.refl _ _) (rfl) (by simpa [upd] using hG)
            · have h15 : vs 15 = _ := (hp 15 (by kernel_rfl)).2
              have e15 := hc'.ev 34 15 rfl
              rw [h15] at e15
              unfold Oper.wp execOp
              simp only [e15]
              have hcell := (hG.1.cell (p := ⟨b, off + k * 2 + 1, none⟩) hbw).trans e1x
              go_simp
              exact hK _ _ (Below.refl _ _) (rfl) (by simpa [upd] using hG)
            · have h16 : vs 16 = _ := (hp 16 (by kernel_rfl)).2
              have e16 := hc'.ev 35 16 rfl
              rw [h16] at e16
              refine op_call rfl (by simp only [List.map_toArray, List.map_cons, List.map_nil, e16]) (by kernel_rfl) (l8Number_small al _ hal) ?_
              rintro e w' ⟨rfl, hb⟩
              exact ⟨_, rfl, hK _ _ hb rfl ⟨hG.1.trans (hb.mono hG.1.size), by simpa [upd] using hG.2⟩⟩
            · have h11 : vs 11 = _ := (hp 11 (by kernel_rfl)).2
              have e11 := hc'.ev 30 11 rfl
              rw [h11] at e11
              have h17 : vs 17 = _ := (hp 17 (by kernel_rfl)).2
              have e17 := hc'.ev 36 17 rfl
              rw [h17] at e17
              unfold Oper.wp execOp
              simp only [e11, e17]
              have y0 : ¬ 9223372036854775807 < o.size + 1 + (kwB kd).size + 1 + (decS al).size := by omega
              go_simp
              exact hK _ _ (Below.refl _ _) (rfl) (by simpa [upd] using hG)
            · have h18 : vs 18 = _ := (hp 18 (by kernel_rfl)).2
              refine op_assign rfl ?_
              rw [hc'.ev 37 18 rfl, h18]
              exact hK _ _ (Below.refl _ _) rfl ⟨hG.1, fun h => by simp [upd] at h⟩
          · intro fl vs w5 hfl hG hF
            have h19 : vs 19 = _ := hF 19 (by simp)
            have HB5 := Lib.hid hG.1
            clear hG hF hfl
            simp only [fill]
            go_simp
            try rw [h19]
            clear h19
            go_wp2
            go_roundw
            case rel => exact ⟨k + 1, by rw [HN.out], by go_num, by omega, HB5⟩
            case measure => simp [intOf]; omega
      · obtain rfl : k = xs.length := by omega
        have hfull : xs.take xs.length = xs := List.take_of_length_le (Nat.le_refl _)
        rw [hfull]
        clear hfull
        go_wp2
        go_ret
        exact ⟨rfl, HB.out⟩
end Go.Proofs.YthjjbgpeajeneaaDoor
