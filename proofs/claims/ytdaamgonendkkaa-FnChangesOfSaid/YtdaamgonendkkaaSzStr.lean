/- Contract of the laws counting function on slices of strings. No condition but the sizes. -/
import Derived.Test.YtdaamgonendkkaaRows
import Derived.Test.YtdaamgonendkkaaBase
import Derived.Test.YtdaamgonendkkaaBase2
import Derived.Test.YtdaamgonendkkaaBulk
import Derived.WalkKit
import Derived.WalkSpells
import Derived.WalkLawsBesides
import Derived.Handy
import Derived.BigQuiet
import Derived.Deep.RegionHeld3
import Derived.Deep.DrawnRows
import Derived.Deep.QuietTactic
namespace Go.Proofs.Ytdaamgonendkkaa
open Go Go.RowKit

set_option maxHeartbeats 1000000 in
theorem szStringS_any {A : Option Addr} {c B : Nat} (xs : List ByteArray) (left : Int) (w : World) (h1 : Reads w B 1 A xs.length (texts xs)) (hm : xs.length ≤ maxLen) (hs : ∀ s ∈ xs, s.size ≤ maxLen) (h0 : -1 ≤ left) (hl : left ≤ 1048576) :
    Calls Try.prog 37 #[.slice A xs.length c, .int .i64 left] w (Gives w (.int .i64 (szRes left (xs.length + bulk xs)))) := by
  have HS := Lib.hid hs
  clear hs
  have hb0 := bulk_nonneg xs
  unfold maxLen at hm
  by_cases hn : left - (xs.length : Int) < 0
  · have HR : Hid (szRes left (xs.length + bulk xs) = -1) := szRes_neg (by omega)
    go_enter Try.func37, Try.ntmps37
    go_wp2
    go_ret
    rw [HR.out]
    exact ⟨rfl, Below.refl _ _⟩
  · go_enter Try.func37, Try.ntmps37
    go_wp2
    go_loop [1, 5] (fun l i => ∃ (k : Nat) (z : Int), k ≤ xs.length ∧ i = .int .i64 k ∧ l = .int .i64 z ∧ Hid (z = left - xs.length - bulk (xs.take k)) ∧ 0 ≤ z ∧ z ≤ left) (fun _ i => xs.length - (intOf i).toNat)
    case atStart => exact ⟨0, _, Nat.zero_le _, rfl, rfl, by simp [bulk, Hid], by omega, by omega⟩
    case round =>
      obtain ⟨k, z, hk, rfl, rfl, HZ, hz0, hz1⟩ := hrel
      by_cases hlt : k < xs.length
      · obtain ⟨ad, u1, rfl, hbl, hx1, hc1⟩ := h1.at_ hlt
        rw [texts_get _ _ hlt] at hx1
        injection hx1 with hx1
        subst hx1
        have hsk := HS.out _ (List.getElem_mem hlt)
        unfold maxLen at hsk
        have HT := Lib.hid (bulk_take xs hlt)
        by_cases hneg : z - (xs[k].size : Int) < 0
        · have HR : Hid (szRes left (xs.length + bulk xs) = -1) := szRes_neg (by have h1 := HZ.out; have h2 := HT.out; have h3 := bulk_le xs (k + 1); omega)
          go_wp2
          go_ret
          rw [HR.out]
          exact ⟨rfl, Below.refl _ _⟩
        · go_wp2
          go_round
          case rel => exact ⟨k + 1, _, by omega, by go_num, rfl, Lib.hid (by have h1 := HZ.out; have h2 := HT.out; omega), by omega, by omega⟩
          case measure => simp [intOf]; omega
      · have HR : Hid (szRes left (xs.length + bulk xs) = z) := by
          have h1 := HZ.out
          have h2 : xs.take k = xs := List.take_of_length_le (by omega)
          rw [h2] at h1
          rw [szRes_pos (by omega)]
          show _ = _
          omega
        go_wp2
        go_ret
        rw [HR.out]
        exact ⟨rfl, Below.refl _ _⟩
end Go.Proofs.Ytdaamgonendkkaa
