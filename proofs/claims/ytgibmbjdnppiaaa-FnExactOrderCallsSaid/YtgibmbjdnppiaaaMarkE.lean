/- Contract of the laws' markEdgeS. No condition but the sizes. -/
import Derived.Test.YtgibmbjdnppiaaaRows
import Derived.Test.YtgibmbjdnppiaaaBase
import Derived.Test.YtgibmbjdnppiaaaBase2
import Derived.Test.YtgibmbjdnppiaaaEdge
import Derived.WalkKit
import Derived.WalkSpells
import Derived.WalkLawsBesides
import Derived.Handy
namespace Go.Proofs.Ytgibmbjdnppiaaa
open Go Go.RowKit

def MarksN (size : Nat) (w : World) (base : Nat) (t : TypeId) (A : Option Addr) (n c : Nat) (v : Value) (xs : List Value) (e : Ending) (w' : World) : Prop :=
  e = .returned v ∧ w'.ownsRow base t size (.slice A n c) n xs ∧ w.grownBy w' (A.map (·.block))
theorem own_addrN {w : World} {base size : Nat} {t : TypeId} {A : Option Addr} {n c : Nat} {xs : List Value} (h : w.ownsRow base t size (.slice A n c) n xs) (hn : 0 < n) : ∃ g, A = some ⟨g, 0, none⟩ ∧ base ≤ g ∧ g < w.heap.size := by
  obtain ⟨g, cap, hv, hb, hlt⟩ := h.form hn
  injection hv with hA
  exact ⟨g, hA, hb, hlt⟩

set_option maxHeartbeats 1000000 in
theorem markEdgeS_any (A : Option Addr) (n c base : Nat) (k0 : Int) (xs : List Value) (w : World) (h : w.ownsRow base 33 3 (.slice A n c) n xs) (hn : n ≤ 4194304) (hk0 : 0 ≤ k0) (hk1 : k0 ≤ 67108864) :
    Calls Try.prog 23 #[.slice A n c, .int .i64 k0] w (MarksN 3 w base 33 A n c (.int .i64 (k0 + (n : Int) * 3)) (nums .i64 (mkI k0 (n * 3)))) := by
  have h2 : w.ownsRow base 33 3 (.slice A n c) n ((nums .i64 (mkI k0 (n * 3))).take (0 * 3) ++ xs.drop (0 * 3)) := by simpa using h
  have hsz := h.lt
  clear h
  go_enter Try.func23, Try.ntmps23
  go_wp2
  go_loopw [1, 5] (fun kv i wr => ∃ j : Nat, j ≤ n ∧ i = .int .i64 j ∧ kv = .int .i64 (k0 + (j : Int) * 3) ∧ w.grownBy wr (A.map (·.block)) ∧ wr.ownsRow base 33 3 (.slice A n c) n ((nums .i64 (mkI k0 (n * 3))).take (j * 3) ++ xs.drop (j * 3))) (fun _ i _ => n - (intOf i).toNat)
  case atStart => exact ⟨0, Nat.zero_le _, rfl, by simp, grown_refl _ _, h2⟩
  case round =>
    obtain ⟨j, hj, rfl, rfl, hg, ho⟩ := hrel
    clear h2 hsz
    by_cases hlt : j < n
    · obtain ⟨g, rfl, hbg, hgs⟩ := own_addrN ho (by omega)
      obtain ⟨o0, g0, z0, v0, q0⟩ := own_next (xs := (nums .i64 (mkI k0 (n * 3)))) (k := j * 3) (u := .int .i64 (k0 + (j : Int) * 3)) ho (by omega) ((mkI_get k0 (by omega)).trans (congrArg (fun z => some (Value.int .i64 z)) (by omega)))
      obtain ⟨o1, g1, z1, v1, q1⟩ := own_next (xs := (nums .i64 (mkI k0 (n * 3)))) (k := j * 3 + 1) (u := .int .i64 (k0 + (j : Int) * 3 + 1)) o0 (by omega) ((mkI_get k0 (by omega)).trans (congrArg (fun z => some (Value.int .i64 z)) (by omega)))
      obtain ⟨o2, g2, z2, v2, q2⟩ := own_next (xs := (nums .i64 (mkI k0 (n * 3)))) (k := j * 3 + 2) (u := .int .i64 (k0 + (j : Int) * 3 + 1 + 1)) o1 (by omega) ((mkI_get k0 (by omega)).trans (congrArg (fun z => some (Value.int .i64 z)) (by omega)))
      have O := Lib.hid o2
      have HG := Lib.hid ((g0.trans g1).trans g2)
      clear ho o0 g0 o1 g1 o2 g2
      go_wp2
      go_roundw
      case rel => exact ⟨j + 1, by omega, by go_num, by go_num, hg.trans HG.out, by have h := O.out; rw [Nat.add_mul]; exact h⟩
      case measure => simp [intOf]; omega
    · obtain rfl : j = n := by omega
      go_wp2
      go_ret
      refine ⟨rfl, ?_, hg⟩
      have hd : xs.drop (j * 3) = [] := List.drop_eq_nil_of_le (by have := ho.1; simp [nums_len, mkI_len] at this; omega)
      have ht : (nums .i64 (mkI k0 (j * 3))).take (j * 3) = (nums .i64 (mkI k0 (j * 3))) := List.take_of_length_le (by simp [nums_len, mkI_len])
      rw [hd, ht, List.append_nil] at ho
      exact ho

end Go.Proofs.Ytgibmbjdnppiaaa
