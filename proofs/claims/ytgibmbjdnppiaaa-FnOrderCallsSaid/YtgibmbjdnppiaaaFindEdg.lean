/- Contracts of slices.IndexFunc and slices.ContainsFunc at Edge. Condition: the function that is handed over answers by a plain p. -/
import Derived.Test.YtgibmbjdnppiaaaRows
import Derived.Test.YtgibmbjdnppiaaaBase
import Derived.Test.YtgibmbjdnppiaaaEdge
import Derived.WalkKit
import Derived.WalkSpells
import Derived.WalkLawsBesides
import Derived.Handy
import Derived.BigQuiet
import Derived.Deep.RegionHeld3
import Derived.Deep.DrawnRows
import Derived.Deep.QuietTactic
namespace Go.Proofs.Ytgibmbjdnppiaaa
open Go Go.RowKit


set_option maxHeartbeats 1000000 in
theorem indexFuncEdg_any (A : Option Addr) (c B f : Nat) (cap : Array Value) (p : Edg → Bool) (xs : List Edg) (w : World) (h1 : Reads w B 3 A xs.length (xs.flatMap Edg.cells)) (hB : B ≤ w.heap.size) (hm : xs.length ≤ maxLen)
    (hcall : ∀ args w, (callFunc f args).run Try.prog w = .ok (.enter f args) w) (hf : ∀ x ∈ xs, ∀ w', Below w.heap.size w w' → Calls Try.prog f (#[x.val] ++ cap) w' (Gives w' (.bool (p x)))) :
    Calls Try.prog 51 #[.slice A xs.length c, .func (.func f) #[] cap] w (Gives w (.int .i64 (idxOf p xs))) := by
  unfold maxLen at hm
  have HF := Lib.hid hf
  clear hf
  go_enter Try.func51, Try.ntmps51
  go_wp2
  go_loopw [8, 5] (fun i _ wr => ∃ k : Nat, k ≤ xs.length ∧ i = .int .i64 k ∧ Hid (∀ j, (h : j < xs.length) → j < k → p xs[j] = false) ∧ Below w.heap.size w wr) (fun i _ _ => xs.length - (intOf i).toNat)
  case atStart => exact ⟨0, Nat.zero_le _, rfl, fun j _ hj => by omega, Below.refl _ _⟩
  case round =>
    obtain ⟨k, hk, rfl, HA, hb⟩ := hrel
    by_cases hlt : k < xs.length
    · have hC := HF.out xs[k] (List.getElem_mem hlt)
      have HC := Lib.hid hC
      clear hC
      obtain ⟨b, off, rfl, hbl, e0, e1, e2⟩ := Edg.at_ ((h1.more hB).below hb) hlt
      by_cases hp : p xs[k] = true
      · have HI := Lib.hid (idxOf_at hlt hp (fun j h hj => HA.out j h hj))
        have HP := Lib.hid hp
        clear hp
        go_wp2_with fail
        refine (HC.out _ hb).mono ?_
        rintro e w2 ⟨rfl, hb2⟩
        have hP := HP.out
        go_wp2
        go_ret
        rw [HI.out]
        exact ⟨rfl, hb.trans (hb2.mono hb.size)⟩
      · have hp' : p xs[k] = false := by simpa using hp
        have HP := Lib.hid hp'
        clear hp hp'
        go_wp2_with fail
        refine (HC.out _ hb).mono ?_
        rintro e w2 ⟨rfl, hb2⟩
        have hP := HP.out
        go_wp2
        go_roundw
        case rel => exact ⟨k + 1, by omega, by go_num, Lib.hid (fun j h hj => by
          by_cases hjk : j < k
          · exact HA.out j h hjk
          · obtain rfl : j = k := by omega
            exact HP.out), hb.trans (hb2.mono hb.size)⟩
        case measure => simp [intOf]; omega
    · have HI := Lib.hid (idxOf_none (p := p) (xs := xs) (fun j h => HA.out j h (by omega)))
      go_wp2
      go_ret
      rw [HI.out]
      exact ⟨rfl, hb⟩

set_option maxHeartbeats 1000000 in
theorem containsFuncEdg_any (A : Option Addr) (c B f : Nat) (cap : Array Value) (p : Edg → Bool) (xs : List Edg) (w : World) (h1 : Reads w B 3 A xs.length (xs.flatMap Edg.cells)) (hB : B ≤ w.heap.size) (hm : xs.length ≤ maxLen)
    (hcall : ∀ args w, (callFunc f args).run Try.prog w = .ok (.enter f args) w) (hf : ∀ x ∈ xs, ∀ w', Below w.heap.size w w' → Calls Try.prog f (#[x.val] ++ cap) w' (Gives w' (.bool (p x)))) :
    Calls Try.prog 31 #[.slice A xs.length c, .func (.func f) #[] cap] w (Gives w (.bool (xs.any p))) := by
  have HF := Lib.hid hf
  have HA := Lib.hid (idxOf_any p xs)
  clear hf
  by_cases hi : 0 ≤ idxOf p xs
  all_goals
    go_enter Try.func31, Try.ntmps31
    go_wp2_with (go_at_call 51; refine (indexFuncEdg_any A c B f cap p xs _ h1 hB hm hcall HF.out).mono ?_; rintro e w' ⟨rfl, hb⟩)
    go_ret
    rw [← HA.out]
    exact ⟨by simp [hi], hb⟩
end Go.Proofs.Ytgibmbjdnppiaaa
