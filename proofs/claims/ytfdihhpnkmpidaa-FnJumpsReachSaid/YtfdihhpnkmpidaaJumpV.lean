/- Contracts of areValues and of the two JumpsValid. No condition but the sizes. -/
import Derived.Test.YtfdihhpnkmpidaaRows
import Derived.Test.YtfdihhpnkmpidaaBase
import Derived.Test.YtfdihhpnkmpidaaBase2
import Derived.Test.YtfdihhpnkmpidaaIn
import Derived.Test.YtfdihhpnkmpidaaFindI
import Derived.WalkKit
import Derived.WalkSpells
import Derived.WalkLawsBesides
import Derived.Handy
import Derived.BigQuiet
import Derived.Deep.QuietTactic
namespace Go.Proofs.Ytfdihhpnkmpidaa
open Go Go.RowKit

def valsOk (xs : List Int) : Bool := xs.all fun n => inB n 0 60000
def jumpsOk (s t : List Int) : Bool := decide (s.length ≤ 8) && decide (t.length = s.length) && valsOk s && t.all fun n => inB n 0 s.length
theorem any_not {α : Type} (p : α → Bool) (xs : List α) : (!xs.any fun x => !p x) = xs.all p := by
  induction xs with
  | nil => rfl
  | cons x xs ih => simp [List.all_cons, ih]
theorem all_at {α : Type} {p : α → Bool} {xs : List α} (h : ∀ j, (h : j < xs.length) → p xs[j] = true) : xs.all p = true := by
  rw [List.all_eq_true]
  intro x hx
  obtain ⟨j, hj, rfl⟩ := List.getElem_of_mem hx
  exact h j hj
theorem all_not {α : Type} {p : α → Bool} {xs : List α} {k : Nat} (hk : k < xs.length) (h : p xs[k] = false) : xs.all p = false := by
  rw [List.all_eq_false]
  exact ⟨_, List.getElem_mem hk, by simp [h]⟩

set_option maxHeartbeats 1000000 in
theorem areValuesC_any (n : Int) (w : World) : Calls Try.prog 43 #[.int .i64 n] w (Gives w (.bool (!inB n 0 60000))) := by
  go_enter Try.func43, Try.ntmps43
  go_wp2_with (go_at_call 33; refine (within_any _ _ _ _).mono ?_; rintro e w' ⟨rfl, rfl⟩)
  go_ret
  exact ⟨rfl, Below.refl _ _⟩

set_option maxHeartbeats 1000000 in
theorem areValues_any {A1 : Option Addr} {c1 B1 : Nat} (xs : List Int) (w : World) (h1 : Reads w B1 1 A1 xs.length (nums .i64 xs)) (hB : B1 ≤ w.heap.size) (hm : xs.length ≤ maxLen) :
    Calls Try.prog 30 #[.slice A1 xs.length c1] w (Gives w (.bool (valsOk xs))) := by
  have HF := Lib.hid (fun h => containsFuncInt_any A1 c1 B1 43 #[] (fun n => !inB n 0 60000) xs w h1 hB hm (fun args w => by kernel_rfl) h)
  have HA := Lib.hid (any_not (fun n => inB n 0 60000) xs)
  go_enter Try.func30, Try.ntmps30
  go_wp2_with fail
  refine (HF.out (fun x _ w' _ => by simpa using areValuesC_any x w')).mono ?_
  rintro e w1 ⟨rfl, hb⟩
  go_wp2
  go_ret
  unfold valsOk
  rw [← HA.out]
  exact ⟨rfl, hb⟩

set_option maxHeartbeats 1000000 in
theorem jumpsValidC_any (n : Int) (a : Addr) (A : Option Addr) (m c : Nat) (w : World) (hc : w.cell? a = some (.slice A m c)) (_hm : m ≤ maxLen) : Calls Try.prog 32 #[.int .i64 n, .pointer (some a)] w (Gives w (.bool (!inB n 0 m))) := by
  unfold maxLen at _hm
  go_enter Try.func32, Try.ntmps32
  go_wp2_with (go_at_call 33; refine (within_any _ _ _ _).mono ?_; rintro e w' ⟨rfl, rfl⟩)
  go_ret
  exact ⟨rfl, Below.refl _ _⟩

set_option maxHeartbeats 2000000 in
theorem implJumpsValid_any {A1 A2 : Option Addr} {c1 c2 B1 B2 : Nat} (xs ys : List Int) (w : World) (h1 : Reads w B1 1 A1 xs.length (nums .i64 xs)) (hB1 : B1 ≤ w.heap.size) (h2 : Reads w B2 1 A2 ys.length (nums .i64 ys)) (hB2 : B2 ≤ w.heap.size) (hm1 : xs.length ≤ maxLen) (hm2 : ys.length ≤ maxLen) :
    Calls Try.prog 13 #[.slice A1 xs.length c1, .slice A2 ys.length c2] w (Gives w (.bool (jumpsOk xs ys))) := by
  have hm1' := hm1
  unfold maxLen at hm1
  by_cases ha : xs.length ≤ 8
  · by_cases hb : ys.length = xs.length
    · have HB := Lib.hid hb
      have hb' : ((ys.length : Int) == xs.length) = true := by simp [hb]
      have K0 : Blk (w.alloc (.cells #[.slice A1 xs.length c1] 22)) w.heap.size 22 #[.slice A1 xs.length c1] := Blk.new _ _ _
      have HV := Lib.hid (fun w' h hB => areValues_any (A1 := A1) (c1 := c1) (B1 := B1) xs w' h hB hm1')
      have HR := Lib.hid (h1.alloc hB1 (.cells #[.slice A1 xs.length c1] 22))
      have HT := Lib.hid (h2.alloc hB2 (.cells #[.slice A1 xs.length c1] 22))
      have HJ : Hid (jumpsOk xs ys = (valsOk xs && ys.all fun n => inB n 0 xs.length)) := by
        have h1 : decide (xs.length ≤ 8) = true := decide_eq_true ha
        have h2 : decide (ys.length = xs.length) = true := decide_eq_true hb
        unfold jumpsOk
        rw [h1, h2, Bool.true_and, Bool.true_and]; exact rfl
      have HN := Lib.hid (any_not (fun n => inB n 0 xs.length) ys)
      clear hb
      cases hv : valsOk xs
      · have HV2 := Lib.hid hv
        clear hv
        go_enter Try.func13, Try.ntmps13
        go_wp2_with fail
        refine (HV.out _ HR.out (by simp; omega)).mono ?_
        rintro e w1 ⟨rfl, hb1⟩
        rw [HV2.out]
        go_wp2
        go_ret
        rw [HJ.out, HV2.out]
        exact ⟨rfl, ((Below.refl _ _).alloc (Nat.le_refl _) _).trans (hb1.mono (by simp))⟩
      · have HV2 := Lib.hid hv
        clear hv
        go_enter Try.func13, Try.ntmps13
        go_wp2_with fail
        refine (HV.out _ HR.out (by simp; omega)).mono ?_
        rintro e w1 ⟨rfl, hb1⟩
        rw [HV2.out]
        have K1 := K0.below hb1 (by simp)
        have hz1 := hb1.size
        go_wp2_with fail
        refine (containsFuncInt_any _ _ _ 32 _ (fun n => !inB n 0 xs.length) ys _ (HT.out.below (hb1.mono (by simp; omega))) (by simp at hz1; omega) hm2 (fun args w => by kernel_rfl) (fun x _ w' hb' => ?_)).mono ?_
        · have K2 := K1.below hb' K1.lt
          simpa using jumpsValidC_any x _ A1 xs.length c1 w' (K2.cell 0) hm1'
        rintro e w2 ⟨rfl, hb2⟩
        go_wp2
        go_ret
        rw [HJ.out, HV2.out, ← HN.out]
        exact ⟨rfl, ((Below.refl _ _).alloc (Nat.le_refl _) _).trans ((hb1.trans (hb2.mono hb1.size)).mono (by simp))⟩
    · have hb' : ((ys.length : Int) == xs.length) = false := by simp; omega
      have HJ : Hid (jumpsOk xs ys = false) := by unfold jumpsOk; rw [decide_eq_false hb]; simp [Hid]
      clear hb
      go_enter Try.func13, Try.ntmps13
      go_wp2_with fail
      go_ret
      rw [HJ.out]
      exact ⟨rfl, (Below.refl _ _).alloc (Nat.le_refl _) _⟩
  · have HJ : Hid (jumpsOk xs ys = false) := by unfold jumpsOk; rw [decide_eq_false ha]; simp [Hid]
    go_enter Try.func13, Try.ntmps13
    go_wp2_with fail
    go_ret
    rw [HJ.out]
    exact ⟨rfl, (Below.refl _ _).alloc (Nat.le_refl _) _⟩

set_option maxHeartbeats 2000000 in
theorem specJumpsValid_any {A1 A2 : Option Addr} {c1 c2 B1 B2 : Nat} (xs ys : List Int) (w : World) (h1 : Reads w B1 1 A1 xs.length (nums .i64 xs)) (h2 : Reads w B2 1 A2 ys.length (nums .i64 ys)) (hm1 : xs.length ≤ maxLen) (hm2 : ys.length ≤ maxLen) :
    Calls Try.prog 11 #[.slice A1 xs.length c1, .slice A2 ys.length c2] w (Gives w (.bool (jumpsOk xs ys))) := by
  unfold maxLen at hm1 hm2
  go_enter Try.func11, Try.ntmps11
  go_wp2
  go_loop [5] (fun i => ∃ k : Nat, k ≤ xs.length ∧ i = .int .i64 k ∧ Hid (∀ j, (h : j < xs.length) → j < k → inB xs[j] 0 60000 = true)) (fun i => xs.length - (intOf i).toNat)
  case atStart => exact ⟨0, Nat.zero_le _, rfl, fun j _ hj => by omega⟩
  case round =>
    obtain ⟨k, hk, rfl, HA⟩ := hrel
    by_cases hlt : k < xs.length
    · obtain ⟨ad, u1, rfl, hbl, hx1, hc1⟩ := h1.at_ hlt
      rw [nums_get _ _ hlt] at hx1
      injection hx1 with hx1
      subst hx1
      cases hp : inB xs[k] 0 60000
      · have HP := Lib.hid hp
        clear hp
        go_wp2_with (go_at_call 29; refine (l1In_any _ _ _ _).mono ?_; rintro e w' ⟨rfl, rfl⟩; rw [HP.out])
        go_ret
        have : jumpsOk xs ys = false := by unfold jumpsOk valsOk; rw [all_not hlt HP.out]; simp
        rw [this]
        exact ⟨rfl, Below.refl _ _⟩
      · have HP := Lib.hid hp
        clear hp
        go_wp2_with (go_at_call 29; refine (l1In_any _ _ _ _).mono ?_; rintro e w' ⟨rfl, rfl⟩; rw [HP.out])
        go_round
        case rel => exact ⟨k + 1, by omega, by go_num, Lib.hid (fun j h hj => by
          by_cases hjk : j < k
          · exact HA.out j h hjk
          · obtain rfl : j = k := by omega
            exact HP.out)⟩
        case measure => simp [intOf]; omega
    · have HV : Hid (valsOk xs = true) := all_at (fun j h => HA.out j h (by omega))
      clear HA
      go_wp2
      go_loop [6] (fun i => ∃ k : Nat, k ≤ ys.length ∧ i = .int .i64 k ∧ Hid (∀ j, (h : j < ys.length) → j < k → inB ys[j] 0 xs.length = true)) (fun i => ys.length - (intOf i).toNat)
      case atStart => exact ⟨0, Nat.zero_le _, rfl, fun j _ hj => by omega⟩
      case round =>
        obtain ⟨k', hk', rfl, HA⟩ := hrel
        by_cases hlt' : k' < ys.length
        · obtain ⟨ad, u1, rfl, hbl, hx1, hc1⟩ := h2.at_ hlt'
          rw [nums_get _ _ hlt'] at hx1
          injection hx1 with hx1
          subst hx1
          cases hp : inB ys[k'] 0 xs.length
          · have HP := Lib.hid hp
            clear hp
            go_wp2_with (go_at_call 29; refine (l1In_any _ _ _ _).mono ?_; rintro e w' ⟨rfl, rfl⟩; rw [HP.out])
            go_ret
            have : jumpsOk xs ys = false := by unfold jumpsOk; rw [all_not (p := fun n => inB n 0 xs.length) hlt' HP.out]; simp
            rw [this]
            exact ⟨rfl, Below.refl _ _⟩
          · have HP := Lib.hid hp
            clear hp
            go_wp2_with (go_at_call 29; refine (l1In_any _ _ _ _).mono ?_; rintro e w' ⟨rfl, rfl⟩; rw [HP.out])
            go_round
            case rel => exact ⟨k' + 1, by omega, by go_num, Lib.hid (fun j h hj => by
              by_cases hjk : j < k'
              · exact HA.out j h hjk
              · obtain rfl : j = k' := by omega
                exact HP.out)⟩
            case measure => simp [intOf]; omega
        · have HT : Hid ((ys.all fun n => inB n 0 xs.length) = true) := all_at (p := fun n => inB n 0 xs.length) (fun j h => HA.out j h (by omega))
          clear HA
          by_cases ha : xs.length ≤ 8
          · by_cases hb : ys.length = xs.length
            · have hb' : ((ys.length : Int) == xs.length) = true := by simp [hb]
              have HJ : Hid (jumpsOk xs ys = true) := by
                unfold jumpsOk; rw [HV.out, HT.out, decide_eq_true ha, decide_eq_true hb]; exact rfl
              have HB := Lib.hid hb
              clear hb
              go_wp2
              go_ret
              rw [HJ.out]
              exact ⟨by simp, Below.refl _ _⟩
            · have hb' : ((ys.length : Int) == xs.length) = false := by simp; omega
              have HJ : Hid (jumpsOk xs ys = false) := by unfold jumpsOk; rw [decide_eq_false hb]; simp [Hid]
              clear hb
              go_wp2
              go_ret
              rw [HJ.out]
              exact ⟨by simp, Below.refl _ _⟩
          · have HJ : Hid (jumpsOk xs ys = false) := by unfold jumpsOk; rw [decide_eq_false ha]; simp [Hid]
            go_wp2
            go_ret
            rw [HJ.out]
            exact ⟨rfl, Below.refl _ _⟩
end Go.Proofs.Ytfdihhpnkmpidaa
