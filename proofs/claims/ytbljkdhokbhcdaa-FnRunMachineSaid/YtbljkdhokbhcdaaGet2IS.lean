/- Contracts of GetNumber at two bytes. Condition: the sizes. -/
import Derived.Test.YtbljkdhokbhcdaaRows
import Derived.Test.YtbljkdhokbhcdaaBase
import Derived.Test.YtbljkdhokbhcdaaBase2
import Derived.Test.YtbljkdhokbhcdaaBase3
import Derived.Test.YtbljkdhokbhcdaaIn
import Derived.Test.YtbljkdhokbhcdaaIn2
import Derived.WalkKit
import Derived.WalkSpells
import Derived.WalkLawsBesides
import Derived.Handy
import Derived.BigQuiet
import Derived.Deep.RegionHeld3
import Derived.Deep.DrawnRows
import Derived.Deep.QuietTactic
namespace Go.Proofs.Ytbljkdhokbhcdaa
open Go Go.RowKit

/-- The number of the two bytes from a place on. -/
def get2 (bs : List Int) (at_ : Int) : Int := if 0 ≤ at_ ∧ at_ + 2 ≤ bs.length then 256 * bs.getD (at_.toNat + 1) 0 + bs.getD at_.toNat 0 else -1
theorem get2_at {bs : List Int} {a : Nat} (h : a + 2 ≤ bs.length) : get2 bs (a : Int) = 256 * bs[a + 1] + bs[a] := by
  unfold get2
  rw [if_pos (by omega)]
  simp only [Int.toNat_natCast]
  rw [List.getD_eq_getElem?_getD, List.getD_eq_getElem?_getD, List.getElem?_eq_getElem (by omega), List.getElem?_eq_getElem (by omega)]
  rfl
set_option maxRecDepth 100000 in
set_option maxHeartbeats 4000000 in
theorem implGet2_any {A : Option Addr} {c B : Nat} (bs : List Int) (at_ : Int) (w : World) (h1 : Reads w B 1 A bs.length (nums .u8 bs)) (hm : bs.length ≤ 1099511627776) (hx : ∀ x ∈ bs, 0 ≤ x ∧ x ≤ 255) (ha : -1 ≤ at_) (ha2 : at_ ≤ 1099511627776) :
    Calls Try.prog 54 #[.slice A bs.length c, .int .i64 at_, .int .i64 2] w fun e w' => e = .returned (.int .i64 (get2 bs at_)) ∧ w = w' := by
  have H1 := Lib.hid (inB_true (n := 2) (lo := 1) (hi := 4) (by omega) (by omega))
  have y1 : IntKind.i64.wrap ((bs.length : Int) - 2) = (bs.length : Int) - 2 := IntWalk.i64_in _ (by omega)
  by_cases hin : 0 ≤ at_ ∧ at_ + 2 ≤ bs.length
  · obtain ⟨a, rfl⟩ := Int.eq_ofNat_of_zero_le hin.1
    have ha3 : a + 2 ≤ bs.length := by omega
    have H2 := Lib.hid (inB_true (n := (a : Int)) (lo := 0) (hi := (bs.length : Int) - 2) (by omega) (by omega))
    obtain ⟨b, off, rfl, hbl, hcs⟩ := h1.row_ (by omega) (by omega)
    have hc1 := hcs a _ (nums_get _ _ (by omega))
    have hc2 := hcs (a + 1) _ (nums_get _ _ (by omega))
    clear hcs
    have HG : Hid (get2 bs (a : Int) = 256 * bs[a + 1] + bs[a]) := get2_at ha3
    have hb1 := hx _ (List.getElem_mem (show a < bs.length by omega))
    have hb2 := hx _ (List.getElem_mem (show a + 1 < bs.length by omega))
    generalize bs[a]'(by omega) = x at *
    generalize bs[a + 1]'(by omega) = y at *
    have i1 : (a : Int) < (bs.length : Int) := by omega
    have i2 : (a : Int) + 1 < (bs.length : Int) := by omega
    have i3 : (0 : Int) ≤ (a : Int) := Int.natCast_nonneg _
    have i4 : (a : Int) ≤ (bs.length : Int) - 2 := by omega
    have i5 : ¬ (bs.length : Int) - 2 < (a : Int) := by omega
    have y2 : IntKind.i64.wrap ((a : Int) + 1) = (a : Int) + 1 := IntWalk.i64_in _ (by omega)
    have y4 : IntKind.i64.wrap (256 * y) = 256 * y := IntWalk.i64_in _ (by omega)
    have y5 : IntKind.i64.wrap (256 * y + x) = 256 * y + x := IntWalk.i64_in _ (by omega)
    have H3 := Lib.hid h1
    have HX := Lib.hid hx
    clear hin h1 hx hm
    rw [HG.out]
    go_enter Try.func54, Try.ntmps54
    go_wp2_with (first | (go_at_call 25; refine (within_any _ _ _ _).mono ?_; rintro e w' ⟨rfl, rfl⟩; first | rw [H1.out] | rw [H2.out]) | fail)
    go_loop [7, 8] (fun nv iv => ∃ z n : Int, nv = .int .i64 n ∧ iv = .int .i64 z ∧ ((z = 1 ∧ n = 0) ∨ (z = 0 ∧ n = y) ∨ (z = -1 ∧ n = 256 * y + x))) (fun _ iv => (intOf iv + 1).toNat)
    case atStart => exact ⟨1, 0, rfl, rfl, .inl ⟨rfl, rfl⟩⟩
    case round =>
      obtain ⟨z, n, rfl, rfl, hz⟩ := hrel
      rcases hz with ⟨rfl, rfl⟩ | ⟨rfl, rfl⟩ | ⟨rfl, rfl⟩
      · go_wp2
        go_round
        case rel => exact ⟨0, y, by go_num, rfl, .inr (.inl ⟨rfl, rfl⟩)⟩
        case measure => simp [intOf]
      · go_wp2
        go_round
        case rel => exact ⟨-1, _, rfl, rfl, .inr (.inr ⟨rfl, rfl⟩)⟩
        case measure => simp [intOf]
      · go_wp2
        go_ret
        exact ⟨rfl, rfl⟩
  · have HG : Hid (get2 bs at_ = -1) := if_neg hin
    have hout : at_ < 0 ∨ (bs.length : Int) - 2 < at_ := by omega
    have H2 := Lib.hid (inB_false (n := at_) (lo := 0) (hi := (bs.length : Int) - 2) hout)
    rw [HG.out]
    clear hout hin h1 hx
    go_enter Try.func54, Try.ntmps54
    go_wp2_with (first | (go_at_call 25; refine (within_any _ _ _ _).mono ?_; rintro e w' ⟨rfl, rfl⟩; first | rw [H1.out] | rw [H2.out]) | fail)
    go_ret
    exact ⟨rfl, rfl⟩
set_option maxRecDepth 100000 in
set_option maxHeartbeats 4000000 in
theorem specGet2_any {A : Option Addr} {c B : Nat} (bs : List Int) (at_ : Int) (w : World) (h1 : Reads w B 1 A bs.length (nums .u8 bs)) (hm : bs.length ≤ 1099511627776) (hx : ∀ x ∈ bs, 0 ≤ x ∧ x ≤ 255) (ha : -1 ≤ at_) (ha2 : at_ ≤ 1099511627776) :
    Calls Try.prog 51 #[.slice A bs.length c, .int .i64 at_, .int .i64 2] w fun e w' => e = .returned (.int .i64 (get2 bs at_)) ∧ w = w' := by
  have H1 := Lib.hid (inB_true (n := 2) (lo := 1) (hi := 4) (by omega) (by omega))
  have y1 : IntKind.i64.wrap ((bs.length : Int) - 2) = (bs.length : Int) - 2 := IntWalk.i64_in _ (by omega)
  by_cases hin : 0 ≤ at_ ∧ at_ + 2 ≤ bs.length
  · obtain ⟨a, rfl⟩ := Int.eq_ofNat_of_zero_le hin.1
    have ha3 : a + 2 ≤ bs.length := by omega
    have H2 := Lib.hid (inB_true (n := (a : Int)) (lo := 0) (hi := (bs.length : Int) - 2) (by omega) (by omega))
    obtain ⟨b, off, rfl, hbl, hcs⟩ := h1.row_ (by omega) (by omega)
    have hc1 := hcs a _ (nums_get _ _ (by omega))
    have hc2 := hcs (a + 1) _ (nums_get _ _ (by omega))
    clear hcs
    have HG : Hid (get2 bs (a : Int) = 256 * bs[a + 1] + bs[a]) := get2_at ha3
    have hb1 := hx _ (List.getElem_mem (show a < bs.length by omega))
    have hb2 := hx _ (List.getElem_mem (show a + 1 < bs.length by omega))
    generalize bs[a]'(by omega) = x at *
    generalize bs[a + 1]'(by omega) = y at *
    have i1 : (a : Int) < (bs.length : Int) := by omega
    have i2 : (a : Int) + 1 < (bs.length : Int) := by omega
    have i3 : (0 : Int) ≤ (a : Int) := Int.natCast_nonneg _
    have i4 : (a : Int) ≤ (bs.length : Int) - 2 := by omega
    have i5 : ¬ (bs.length : Int) - 2 < (a : Int) := by omega
    have y2 : IntKind.i64.wrap ((a : Int) + 1) = (a : Int) + 1 := IntWalk.i64_in _ (by omega)
    have y4 : IntKind.i64.wrap (256 * y) = 256 * y := IntWalk.i64_in _ (by omega)
    have y5 : IntKind.i64.wrap (256 * y + x) = 256 * y + x := IntWalk.i64_in _ (by omega)
    have H3 := Lib.hid h1
    have HX := Lib.hid hx
    clear hin h1 hx hm
    rw [HG.out]
    go_enter Try.func51, Try.ntmps51
    go_wp2_with (first | (go_at_call 21; refine (l1In_any _ _ _ _).mono ?_; rintro e w' ⟨rfl, rfl⟩; first | rw [H1.out] | rw [H2.out]) | fail)
    go_loop [7, 8] (fun nv iv => ∃ z n : Int, nv = .int .i64 n ∧ iv = .int .i64 z ∧ ((z = 1 ∧ n = 0) ∨ (z = 0 ∧ n = y) ∨ (z = -1 ∧ n = 256 * y + x))) (fun _ iv => (intOf iv + 1).toNat)
    case atStart => exact ⟨1, 0, rfl, rfl, .inl ⟨rfl, rfl⟩⟩
    case round =>
      obtain ⟨z, n, rfl, rfl, hz⟩ := hrel
      rcases hz with ⟨rfl, rfl⟩ | ⟨rfl, rfl⟩ | ⟨rfl, rfl⟩
      · go_wp2
        go_round
        case rel => exact ⟨0, y, by go_num, rfl, .inr (.inl ⟨rfl, rfl⟩)⟩
        case measure => simp [intOf]
      · go_wp2
        go_round
        case rel => exact ⟨-1, _, rfl, rfl, .inr (.inr ⟨rfl, rfl⟩)⟩
        case measure => simp [intOf]
      · go_wp2
        go_ret
        exact ⟨rfl, rfl⟩
  · have HG : Hid (get2 bs at_ = -1) := if_neg hin
    have hout : at_ < 0 ∨ (bs.length : Int) - 2 < at_ := by omega
    have H2 := Lib.hid (inB_false (n := at_) (lo := 0) (hi := (bs.length : Int) - 2) hout)
    rw [HG.out]
    have y3 : (decide (at_ < 0) = true) ∨ (decide (at_ < 0) = false ∧ decide ((bs.length : Int) - 2 < at_) = true) := by
      rcases hout with h | h
      · exact .inl (decide_eq_true h)
      · by_cases h0 : at_ < 0
        · exact .inl (decide_eq_true h0)
        · exact .inr ⟨decide_eq_false h0, decide_eq_true h⟩
    clear hout hin h1 hx
    rcases y3 with h | ⟨h, h'⟩
    all_goals
      go_enter Try.func51, Try.ntmps51
      go_wp2_with (first | (go_at_call 21; refine (l1In_any _ _ _ _).mono ?_; rintro e w' ⟨rfl, rfl⟩; first | rw [H1.out] | rw [H2.out]) | fail)
      go_ret
      exact ⟨rfl, rfl⟩
end Go.Proofs.Ytbljkdhokbhcdaa
