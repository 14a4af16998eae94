/- Contracts of the two PutNumber at two bytes. Condition: the number fits. -/
import Derived.Test.YtbljkdhokbhcdaaRows
import Derived.Test.YtbljkdhokbhcdaaBase
import Derived.Test.YtbljkdhokbhcdaaBase2
import Derived.Test.YtbljkdhokbhcdaaIn
import Derived.Test.YtbljkdhokbhcdaaIn2
import Derived.WalkKit
import Derived.WalkSpells
import Derived.WalkLawsBesides
import Derived.Handy
import Derived.BigQuiet
import Derived.Deep.RegionHeld3
import Derived.Deep.DrawnRows
import Derived.Deep.QuietTactic
namespace Go.Proofs.Ytbljkdhokbhcdaa
open Go Go.RowKit

theorem u8_info : (Try.prog.info? 5).map (fun i => (i.zero, i.size, i.bytes)) = some (some (.int .u8 0), 1, 1) := by kernel_rfl
/-- The two bytes of a number, after k rounds. -/
def put2 (n : Int) (k : Nat) : List Int := [n % 256, n / 256].take k
def put2M (n : Int) : Nat → Int
  | 0 => n
  | 1 => n / 256
  | _ => 0
theorem put2_len (n : Int) {k : Nat} (h : k ≤ 2) : (put2 n k).length = k := by simp [put2]; omega

set_option maxHeartbeats 1000000 in
theorem power2_any (w : World) : Calls Try.prog 57 #[.int .i64 2] w fun e w' => e = .returned (.int .i64 65536) ∧ w = w' := by
  go_enter Try.func57, Try.ntmps57
  go_wp2
  go_loop [3, 4] (fun n i => (i = .int .i64 0 ∧ n = .int .i64 1) ∨ (i = .int .i64 1 ∧ n = .int .i64 256) ∨ (i = .int .i64 2 ∧ n = .int .i64 65536)) (fun _ i => 2 - (intOf i).toNat)
  case atStart => exact .inl ⟨rfl, rfl⟩
  case round =>
    rcases hrel with ⟨rfl, rfl⟩ | ⟨rfl, rfl⟩ | ⟨rfl, rfl⟩
    · go_wp2
      go_round
      case rel => exact .inr (.inl ⟨rfl, rfl⟩)
      case measure => simp [intOf]
    · go_wp2
      go_round
      case rel => exact .inr (.inr ⟨rfl, rfl⟩)
      case measure => simp [intOf]
    · go_wp2
      go_ret
      exact ⟨rfl, rfl⟩

set_option maxRecDepth 100000 in
set_option maxHeartbeats 4000000 in
theorem specPut2_any (n : Int) (w : World) (h0 : 0 ≤ n) (h1 : n ≤ 65535) :
    Calls Try.prog 56 #[.int .i64 n, .int .i64 2] w (Fresh 5 1 w 2 (nums .u8 [n % 256, n / 256])) := by
  obtain ⟨i0, hi0, hz0, hz1, hz2⟩ := info_parts u8_info
  have H1 := Lib.hid (inB_true (n := 2) (lo := 1) (hi := 4) (by omega) (by omega))
  have H2 := Lib.hid (inB_true h0 h1)
  go_enter Try.func56, Try.ntmps56
  go_wp2_with fail
  refine (l1In_any _ _ _ _).mono ?_
  rintro e w' ⟨rfl, rfl⟩
  rw [H1.out]
  go_wp2_with fail
  refine (power2_any _).mono ?_
  rintro e w' ⟨rfl, rfl⟩
  go_wp2_with fail
  refine (l1In_any _ _ _ _).mono ?_
  rintro e w' ⟨rfl, rfl⟩
  rw [H2.out]
  go_wp2
  go_loopw [0, 5, 6] (fun mv v i wr => ∃ (k : Nat) (A : Option Addr) (c : Nat), k ≤ 2 ∧ i = .int .i64 k ∧ mv = .int .i64 (put2M n k) ∧ v = .slice A k c ∧ Below w.heap.size w wr ∧ wr.ownsRow w.heap.size 5 1 (.slice A k c) k (nums .u8 (put2 n k))) (fun _ _ i _ => 2 - (intOf i).toNat)
  case atStart => exact ⟨0, _, _, by omega, rfl, rfl, rfl, (Below.refl _ _).alloc (Nat.le_refl _) _, World.ownsRow_lit (base := w.heap.size) (e := 5) (size := 1) w #[] 0 (Nat.le_refl _) (by unfold maxLen; omega) rfl⟩
  case round =>
    obtain ⟨k, A, c, hk, rfl, rfl, rfl, hb, ho⟩ := hrel
    by_cases hlt : k < 2
    · have HP : Hid (put2 n (k + 1) = put2 n k ++ [put2M n k % 256]) := by
        rcases (by omega : k = 0 ∨ k = 1) with rfl | rfl
        · exact rfl
        · have : n / 256 % 256 = n / 256 := by omega
          simp [Hid, put2, put2M, this]
      have HM : Hid (put2M n (k + 1) = put2M n k / 256) := by
        rcases (by omega : k = 0 ∨ k = 1) with rfl | rfl
        · exact rfl
        · show (0 : Int) = n / 256 / 256
          omega
      have hm : 0 ≤ put2M n k ∧ put2M n k ≤ 65535 := by
        rcases (by omega : k = 0 ∨ k = 1) with rfl | rfl
        · exact ⟨h0, h1⟩
        · simp only [put2M]; omega
      obtain ⟨hm0, hm1⟩ := hm
      generalize put2M n k = m at *
      have HO := Lib.hid ho
      have HB := Lib.hid hb
      have hbz := hb.size
      clear ho hb
      go_wp2_with (at_builtin; refine wpList_push _ rfl (.tmp 25) (.tmp 29) _ rfl w.heap.size 5 i0 _ 1 1 Try.underlying25 hi0 hz0 hz1 hz2 rfl (by omega) (by omega) A k c 1 1 (nums .u8 (put2 n k)) [.int .u8 (m % 256)] (by exact HO.out.alloc _) rfl ⟨wr.heap.size, 0, none⟩ rfl rfl (World.news_of_block (cs := #[.int .u8 (m % 256)]) (t := 5) (fr := (0, 0)) (by exact heap_alloc_new wr _)) (by simp [Value.oneCell']) (by omega) (by omega) (by simp; omega) ?_; intro A' c' w1 hown1 hgrow hat hkeep)
      go_roundw
      case rel =>
        refine ⟨k + 1, A', c', by omega, by go_num, by rw [HM.out], rfl, ?_, ?_⟩
        · have hb1 : Below w.heap.size w (wr.alloc (Obj.cells #[.int .u8 (m % 256)] 5)) := HB.out.alloc HB.out.size _
          exact below_push (w := wr.alloc (Obj.cells #[.int .u8 (m % 256)] 5)) hb1 (HO.out.alloc _) (Nat.le_refl _) hb1.size (by exact ⟨hgrow.os, hgrow.tape, hgrow.output, hgrow.size, hgrow.block⟩)
        · have e : nums .u8 (put2 n k ++ [m % 256]) = nums .u8 (put2 n k) ++ [.int .u8 (m % 256)] := by simp [nums]
          rw [HP.out, e]
          exact hown1
      case measure => simp [intOf]; omega
    · obtain rfl : k = 2 := by omega
      go_wp2
      go_ret
      exact ⟨A, c, rfl, ho, hb⟩

end Go.Proofs.Ytbljkdhokbhcdaa
