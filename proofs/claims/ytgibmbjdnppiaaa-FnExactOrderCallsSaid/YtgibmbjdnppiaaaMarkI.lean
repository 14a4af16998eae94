/- Contracts of the laws' marking and looking functions on slices of int. No condition but the sizes. -/
import Derived.Test.YtgibmbjdnppiaaaRows
import Derived.Test.YtgibmbjdnppiaaaBase
import Derived.WalkKit
import Derived.WalkSpells
import Derived.WalkLawsBesides
import Derived.Handy
namespace Go.Proofs.Ytgibmbjdnppiaaa
open Go Go.RowKit


set_option maxHeartbeats 400000 in
theorem markIntS_any (A : Option Addr) (n c base : Nat) (k0 : Int) (xs : List Value) (w : World) (h : w.ownsRow base 3 1 (.slice A n c) n xs) (hn : n ≤ 4194304) (hk0 : 0 ≤ k0) (hk1 : k0 ≤ 16777216) :
    Calls Try.prog 24 #[.slice A n c, .int .i64 k0] w (Marks w base 3 A n c (.int .i64 (k0 + (n : Int))) (nums .i64 (mkI k0 n))) := by
  have h2 : w.ownsRow base 3 1 (.slice A n c) n ((nums .i64 (mkI k0 n)).take 0 ++ xs.drop 0) := by simpa using h
  have hsz := h.lt
  clear h
  go_enter Try.func24, Try.ntmps24
  go_wp2
  go_loopw [1, 5] (fun kv i wr => ∃ j : Nat, j ≤ n ∧ i = .int .i64 j ∧ kv = .int .i64 (k0 + (j : Int)) ∧ w.grownBy wr (A.map (·.block)) ∧ wr.ownsRow base 3 1 (.slice A n c) n ((nums .i64 (mkI k0 n)).take j ++ xs.drop j)) (fun _ i _ => n - (intOf i).toNat)
  case atStart => exact ⟨0, Nat.zero_le _, rfl, by simp, grown_refl _ _, h2⟩
  case round =>
    obtain ⟨j, hj, rfl, rfl, hg, ho⟩ := hrel
    clear h2 hsz
    by_cases hlt : j < n
    · obtain ⟨g, rfl, hbg, hgs⟩ := own_addr ho (by omega)
      have hst := ho.stored j (.int .i64 (k0 + (j : Int)))
      have hz : wr.frozen? ⟨g, j, none⟩ = false := ho.frozenAt j
      obtain ⟨u, hcu⟩ : ∃ u, wr.cell? ⟨g, j, none⟩ = some u := ⟨_, (ho.cellAt j (by omega)).trans (List.getElem?_eq_getElem (by have := ho.1; omega))⟩
      have HO := Lib.hid ho
      have HST := Lib.hid hst
      clear ho hst
      go_wp2
      go_roundw
      case rel => exact ⟨j + 1, by omega, by go_num, by go_num, hg.trans HST.out.2, own_take_step HST.out.1 hlt (mkI_get _ hlt)⟩
      case measure => simp [intOf]; omega
    · obtain rfl : j = n := by omega
      go_wp2
      go_ret
      refine ⟨rfl, ?_, hg⟩
      have hd : xs.drop j = [] := List.drop_eq_nil_of_le (by have := ho.1; simp [nums_len, mkI_len] at this; omega)
      have ht : (nums .i64 (mkI k0 j)).take j = nums .i64 (mkI k0 j) := List.take_of_length_le (by simp [nums_len, mkI_len])
      rw [hd, ht, List.append_nil] at ho
      exact ho

set_option maxHeartbeats 400000 in
theorem heldIntS_any (A : Option Addr) (n c B : Nat) (k0 : Int) (w : World) (h : Reads w B 1 A n (nums .i64 (mkI k0 n))) (hn : n ≤ 4194304) (hk0 : 0 ≤ k0) (hk1 : k0 ≤ 16777216) :
    Calls Try.prog 25 #[.slice A n c, .int .i64 k0] w (Gives w (.int .i64 (k0 + (n : Int)))) := by
  go_enter Try.func25, Try.ntmps25
  go_wp2
  go_loop [1, 5] (fun kv i => ∃ j : Nat, j ≤ n ∧ i = .int .i64 j ∧ kv = .int .i64 (k0 + (j : Int))) (fun _ i => n - (intOf i).toNat)
  case atStart => exact ⟨0, Nat.zero_le _, rfl, by simp⟩
  case round =>
    obtain ⟨j, hj, rfl, rfl⟩ := hrel
    by_cases hlt : j < n
    · obtain ⟨ad, u1, rfl, _, hx1, hc1⟩ := h.at_ hlt
      rw [mkI_get _ hlt] at hx1
      injection hx1 with hx1
      subst hx1
      go_wp2
      go_round
      case rel => exact ⟨j + 1, by omega, by go_num, by go_num⟩
      case measure => simp [intOf]; omega
    · obtain rfl : j = n := by omega
      go_wp2
      go_ret
      exact ⟨rfl, Below.refl _ _⟩

end Go.Proofs.Ytgibmbjdnppiaaa
