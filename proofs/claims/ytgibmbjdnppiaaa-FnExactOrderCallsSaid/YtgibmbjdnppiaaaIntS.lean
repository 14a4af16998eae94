/- Contracts of the laws' copying and comparing functions on slices of int. No condition but the sizes. -/
import Derived.Test.YtgibmbjdnppiaaaRows
import Derived.Test.YtgibmbjdnppiaaaBase
import Derived.WalkKit
import Derived.WalkSpells
import Derived.WalkLawsBesides
import Derived.Handy
import Derived.BigQuiet
import Derived.Deep.QuietTactic
namespace Go.Proofs.Ytgibmbjdnppiaaa
open Go Go.RowKit


theorem toIntS_info : (Try.prog.info? 3).map (fun i => (i.zero, i.size, i.bytes)) = some (some (.int .i64 0), 1, 8) := by kernel_rfl
set_option maxHeartbeats 400000 in
theorem toIntS_any (A1 : Option Addr) (c1 B1 : Nat) (xs : List Int) (w : World) (h1 : Reads w B1 1 A1 xs.length (nums .i64 xs)) (hB : B1 ≤ w.heap.size) (hm : xs.length ≤ 1048576) :
    Calls Try.prog 17 #[.slice A1 xs.length c1] w (Fresh 3 1 w xs.length (nums .i64 xs)) := by
  obtain ⟨i0, hi0, hz0, hz1, hz2⟩ := info_parts toIntS_info
  obtain ⟨w1, hmk, hown, hgr⟩ := run_make_full (P := Try.prog) w w.heap.size 36 3 i0 _ 1 Try.underlying36 hi0 hz0 hz1 .i64 .i64 xs.length (by rw [hz2]; omega) (by unfold maxLen; omega) (Nat.le_refl _)
  have hb1 : Below w.heap.size w w1 := (Below.refl _ _).grown hgr (Nat.le_refl _) (by simp)
  have hlen : xs.length ≤ 9223372036854775807 := by omega
  have hsz := hown.lt _ rfl
  go_enter Try.func17, Try.ntmps17
  go_wp2
  clear hmk
  have hown2 : w1.ownsRow w.heap.size 3 1 (.slice (some ⟨w.heap.size, 0, none⟩) xs.length xs.length) xs.length ((nums .i64 xs).take 0 ++ ((madeCells (Value.int .i64 0).cells (xs.length * 1)).toList).drop 0) := by simpa using hown
  clear hown
  go_loopw [4] (fun i wr => ∃ k : Nat, k ≤ xs.length ∧ i = .int .i64 k ∧ Below w.heap.size w wr ∧ wr.ownsRow w.heap.size 3 1 (.slice (some ⟨w.heap.size, 0, none⟩) xs.length xs.length) xs.length ((nums .i64 xs).take k ++ ((madeCells (Value.int .i64 0).cells (xs.length * 1)).toList).drop k)) (fun i _ => xs.length - (intOf i).toNat)
  case atStart => exact ⟨0, Nat.zero_le _, rfl, hb1, hown2⟩
  case round =>
    obtain ⟨k, hk, rfl, hb, ho⟩ := hrel
    clear hown2 hb1 hgr hsz
    by_cases hlt : k < xs.length
    · obtain ⟨a1, u1, rfl, hbl, hx1, hc1⟩ := (h1.more hB).at_ hlt
      rw [nums_get _ _ hlt] at hx1
      injection hx1 with hx1
      subst hx1
      have hc1' := (hb.cell (p := a1.add k) (by rw [block_of_add]; exact hbl)).trans hc1
      clear hc1
      have hst := ho.stored k (.int .i64 xs[k])
      have hz : wr.frozen? ⟨w.heap.size, k, none⟩ = false := ho.frozenAt k
      obtain ⟨u, hcu⟩ : ∃ u, wr.cell? ⟨w.heap.size, k, none⟩ = some u := ⟨_, (ho.cellAt k (by omega)).trans (List.getElem?_eq_getElem (by have := ho.1; omega))⟩
      have HO := Lib.hid ho
      have HST := Lib.hid hst
      clear ho hst
      go_wp2
      go_roundw
      case rel => exact ⟨k + 1, by omega, by go_num, hb.grown HST.out.2 hb.size (by simp), own_take_step HST.out.1 hlt (nums_get _ _ hlt)⟩
      case measure => simp [intOf]; omega
    · obtain rfl : k = xs.length := by omega
      go_wp2
      go_ret
      refine ⟨_, _, rfl, ?_, hb⟩
      have h := ho
      have hd : ((madeCells (Value.int .i64 0).cells (xs.length * 1)).toList).drop xs.length = [] := List.drop_eq_nil_of_le (by simp [size_madeCells])
      have ht : (nums .i64 xs).take xs.length = nums .i64 xs := List.take_of_length_le (by simp [nums])
      rw [hd, ht, List.append_nil] at h
      exact h

set_option maxHeartbeats 400000 in
theorem eqIntS_any (A1 A2 : Option Addr) (c1 c2 B1 B2 : Nat) (xs ys : List Int) (w : World) (h1 : Reads w B1 1 A1 xs.length (nums .i64 xs)) (h2 : Reads w B2 1 A2 ys.length (nums .i64 ys)) (hm1 : xs.length ≤ 1048576) (hm2 : ys.length ≤ 1048576) :
    Calls Try.prog 19 #[.slice A1 xs.length c1, .slice A2 ys.length c2] w (Gives w (.bool (decide (xs = ys)))) := by
  by_cases hl : xs.length = ys.length
  · have HL := Lib.hid hl
    have hb : ((xs.length : Int) != ys.length) = false := by simp [hl]
    clear hl
    go_enter Try.func19, Try.ntmps19
    go_wp2
    go_loopw [5] (fun i wr => ∃ k : Nat, k ≤ xs.length ∧ i = .int .i64 k ∧ Hid (∀ j < k, xs[j]? = ys[j]?) ∧ ∃ m, wr = w.drewN m) (fun i _ => xs.length - (intOf i).toNat)
    case atStart => exact ⟨0, Nat.zero_le _, rfl, fun j hj => by omega, 0, rfl⟩
    case round =>
      obtain ⟨k, hk, rfl, HA, m, rfl⟩ := hrel
      by_cases hlt : k < xs.length
      · have hlt2 : k < ys.length := by rw [← HL.out]; exact hlt
        obtain ⟨a1, u1, rfl, _, hx1, hc1⟩ := h1.at_ hlt
        obtain ⟨a2, u2, rfl, _, hx2, hc2⟩ := h2.at_ hlt2
        rw [nums_get _ _ hlt] at hx1
        rw [nums_get _ _ hlt2] at hx2
        injection hx1 with hx1
        injection hx2 with hx2
        subst hx1 hx2
        by_cases he : xs[k] = ys[k]
        · have HE := Lib.hid he
          have hne : (xs[k] != ys[k]) = false := by simp [he]
          clear he
          go_wp2
          go_quiet (fail)
          go_wp2
          go_roundw
          case rel => exact ⟨k + 1, by omega, by go_num, Lib.hid (fun j hj => by
            by_cases hjk : j < k
            · exact HA.out j hjk
            · obtain rfl : j = k := by omega
              rw [List.getElem?_eq_getElem hlt, List.getElem?_eq_getElem hlt2, HE.out]), _, rfl⟩
          case measure => simp [intOf]; omega
        · have hne : (xs[k] != ys[k]) = true := by simp [he]
          have hxy : decide (xs = ys) = false := decide_eq_false (by rintro rfl; exact he rfl)
          have HE := Lib.hid he
          have HXY := Lib.hid hxy
          clear he hxy
          go_wp2
          go_quiet (fail)
          go_wp2
          go_ret
          rw [HXY.out]
          exact ⟨rfl, by repeat (first | exact Below.refl _ _ | apply below_drewN)⟩
      · obtain rfl : k = xs.length := by omega
        go_wp2
        go_ret
        have hxy : xs = ys := by
          apply List.ext_getElem?
          intro j
          by_cases hj : j < xs.length
          · exact HA.out j hj
          · rw [List.getElem?_eq_none (by omega), List.getElem?_eq_none (by rw [← HL.out]; omega)]
        rw [decide_eq_true hxy]
        exact ⟨rfl, by repeat (first | exact Below.refl _ _ | apply below_drewN)⟩
  · have hb : ((xs.length : Int) != ys.length) = true := by simp [bne_iff_ne]; omega
    have HXY : Hid (decide (xs = ys) = false) := decide_eq_false (by rintro rfl; exact hl rfl)
    clear hl
    go_enter Try.func19, Try.ntmps19
    go_wp2
    go_ret
    rw [HXY.out]
    exact ⟨rfl, Below.refl _ _⟩

end Go.Proofs.Ytgibmbjdnppiaaa
