/- Contracts of the laws' marking and looking functions on slices of byte. No condition but the sizes. -/
import Derived.Test.YtbljkdhokbhcdaaRows
import Derived.Test.YtbljkdhokbhcdaaBase
import Derived.WalkKit
import Derived.WalkSpells
import Derived.WalkLawsBesides
import Derived.Handy
namespace Go.Proofs.Ytbljkdhokbhcdaa
open Go Go.RowKit


set_option maxHeartbeats 400000 in
theorem markByteS_any (A : Option Addr) (n c base : Nat) (k0 : Int) (xs : List Value) (w : World) (h : w.ownsRow base 5 1 (.slice A n c) n xs) (hn : n ≤ 4194304) (hk0 : 0 ≤ k0) (hk1 : k0 ≤ 16777216) :
    Calls Try.prog 13 #[.slice A n c, .int .i64 k0] w (Marks w base 5 A n c (.int .i64 (k0 + (n : Int))) (nums .u8 (mkB k0 n))) := by
  have h2 : w.ownsRow base 5 1 (.slice A n c) n ((nums .u8 (mkB k0 n)).take 0 ++ xs.drop 0) := by simpa using h
  have hsz := h.lt
  clear h
  go_enter Try.func13, Try.ntmps13
  go_wp2
  go_loopw [1, 5] (fun kv i wr => ∃ j : Nat, j ≤ n ∧ i = .int .i64 j ∧ kv = .int .i64 (k0 + (j : Int)) ∧ w.grownBy wr (A.map (·.block)) ∧ wr.ownsRow base 5 1 (.slice A n c) n ((nums .u8 (mkB k0 n)).take j ++ xs.drop j)) (fun _ i _ => n - (intOf i).toNat)
  case atStart => exact ⟨0, Nat.zero_le _, rfl, by simp, grown_refl _ _, h2⟩
  case round =>
    obtain ⟨j, hj, rfl, rfl, hg, ho⟩ := hrel
    clear h2 hsz
    by_cases hlt : j < n
    · obtain ⟨g, rfl, hbg, hgs⟩ := own_addr ho (by omega)
      have hst := ho.stored j (.int .u8 ((k0 + (j : Int)) % 256))
      have hz : wr.frozen? ⟨g, j, none⟩ = false := ho.frozenAt j
      obtain ⟨u, hcu⟩ : ∃ u, wr.cell? ⟨g, j, none⟩ = some u := ⟨_, (ho.cellAt j (by omega)).trans (List.getElem?_eq_getElem (by have := ho.1; omega))⟩
      have HO := Lib.hid ho
      have HST := Lib.hid hst
      clear ho hst
      go_wp2
      go_roundw
      case rel => exact ⟨j + 1, by omega, by go_num, by go_num, hg.trans HST.out.2, own_take_step HST.out.1 hlt (mkB_get _ hlt)⟩
      case measure => simp [intOf]; omega
    · obtain rfl : j = n := by omega
      go_wp2
      go_ret
      refine ⟨rfl, ?_, hg⟩
      have hd : xs.drop j = [] := List.drop_eq_nil_of_le (by have := ho.1; simp [nums_len, mkB_len] at this; omega)
      have ht : (nums .u8 (mkB k0 j)).take j = nums .u8 (mkB k0 j) := List.take_of_length_le (by simp [nums_len, mkB_len])
      rw [hd, ht, List.append_nil] at ho
      exact ho


end Go.Proofs.Ytbljkdhokbhcdaa
