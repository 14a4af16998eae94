/- Contract of sameInts. No condition but the sizes. -/
import Derived.Test.YtgibmbjdnppiaaaRows
import Derived.Test.YtgibmbjdnppiaaaBase
import Derived.Test.YtgibmbjdnppiaaaIn
import Derived.WalkKit
import Derived.WalkSpells
import Derived.WalkLawsBesides
import Derived.Handy
import Derived.BigQuiet
import Derived.Deep.RegionHeld3
import Derived.Deep.DrawnRows
import Derived.Deep.QuietTactic
namespace Go.Proofs.Ytgibmbjdnppiaaa
open Go Go.RowKit

set_option maxHeartbeats 400000 in
theorem sameInts_any (A1 A2 : Option Addr) (c1 c2 B1 B2 : Nat) (xs ys : List Int) (w : World) (h1 : Reads w B1 1 A1 xs.length (nums .i64 xs)) (h2 : Reads w B2 1 A2 ys.length (nums .i64 ys)) (hm1 : xs.length ≤ 1048576) (hm2 : ys.length ≤ 1048576) :
    Calls Try.prog 27 #[.slice A1 xs.length c1, .slice A2 ys.length c2] w (Gives w (.bool (decide (xs = ys)))) := by
  by_cases hl : xs.length = ys.length
  · have HL := Lib.hid hl
    have hb : ((xs.length : Int) != ys.length) = false := by simp [hl]
    clear hl
    go_enter Try.func27, Try.ntmps27
    go_wp2
    go_loopw [5] (fun i wr => ∃ k : Nat, k ≤ xs.length ∧ i = .int .i64 k ∧ Hid (∀ j < k, xs[j]? = ys[j]?) ∧ ∃ m, wr = w.drewN m) (fun i _ => xs.length - (intOf i).toNat)
    case atStart => exact ⟨0, Nat.zero_le _, rfl, fun j hj => by omega, 0, rfl⟩
    case round =>
      obtain ⟨k, hk, rfl, HA, m, rfl⟩ := hrel
      by_cases hlt : k < xs.length
      · have hlt2 : k < ys.length := by rw [← HL.out]; exact hlt
        obtain ⟨a1, u1, rfl, _, hx1, hc1⟩ := h1.at_ hlt
        obtain ⟨a2, u2, rfl, _, hx2, hc2⟩ := h2.at_ hlt2
        rw [nums_get _ _ hlt] at hx1
        rw [nums_get _ _ hlt2] at hx2
        injection hx1 with hx1
        injection hx2 with hx2
        subst hx1 hx2
        by_cases he : xs[k] = ys[k]
        · have HE := Lib.hid he
          have hne : (xs[k] != ys[k]) = false := by simp [he]
          clear he
          go_wp2
          go_quiet (fail)
          go_wp2
          go_roundw
          case rel => exact ⟨k + 1, by omega, by go_num, Lib.hid (fun j hj => by
            by_cases hjk : j < k
            · exact HA.out j hjk
            · obtain rfl : j = k := by omega
              rw [List.getElem?_eq_getElem hlt, List.getElem?_eq_getElem hlt2, HE.out]), _, rfl⟩
          case measure => simp [intOf]; omega
        · have hne : (xs[k] != ys[k]) = true := by simp [he]
          have hxy : decide (xs = ys) = false := decide_eq_false (by rintro rfl; exact he rfl)
          have HE := Lib.hid he
          have HXY := Lib.hid hxy
          clear he hxy
          go_wp2
          go_quiet (fail)
          go_wp2
          go_ret
          rw [HXY.out]
          exact ⟨rfl, by repeat (first | exact Below.refl _ _ | apply below_drewN)⟩
      · obtain rfl : k = xs.length := by omega
        go_wp2
        go_ret
        have hxy : xs = ys := by
          apply List.ext_getElem?
          intro j
          by_cases hj : j < xs.length
          · exact HA.out j hj
          · rw [List.getElem?_eq_none (by omega), List.getElem?_eq_none (by rw [← HL.out]; omega)]
        rw [decide_eq_true hxy]
        exact ⟨rfl, by repeat (first | exact Below.refl _ _ | apply below_drewN)⟩
  · have hb : ((xs.length : Int) != ys.length) = true := by simp [bne_iff_ne]; omega
    have HXY : Hid (decide (xs = ys) = false) := decide_eq_false (by rintro rfl; exact hl rfl)
    clear hl
    go_enter Try.func27, Try.ntmps27
    go_wp2
    go_ret
    rw [HXY.out]
    exact ⟨rfl, Below.refl _ _⟩

end Go.Proofs.Ytgibmbjdnppiaaa
