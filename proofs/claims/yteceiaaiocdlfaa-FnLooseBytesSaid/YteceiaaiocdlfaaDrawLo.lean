/- Contract of the drawing of bytes with runs. Condition: not too many draws. -/
import Derived.Test.YteceiaaiocdlfaaRows
import Derived.Test.YteceiaaiocdlfaaBase
import Derived.Test.YteceiaaiocdlfaaBase2
import Derived.Test.YteceiaaiocdlfaaBase3
import Derived.Test.YteceiaaiocdlfaaIn
import Derived.Test.YteceiaaiocdlfaaSqz
import Derived.Test.YteceiaaiocdlfaaRepB
import Derived.Test.YteceiaaiocdlfaaFill
import Derived.Test.YteceiaaiocdlfaaLooP
import Derived.Test.YteceiaaiocdlfaaLoo
import Derived.Test.YteceiaaiocdlfaaPick
import Derived.Test.YteceiaaiocdlfaaPick2
import Derived.WalkKit
import Derived.WalkSpells
import Derived.WalkLawsBesides
import Derived.Handy
import Derived.BigQuiet
import Derived.Deep.RegionHeld3
import Derived.Deep.DrawnRows
import Derived.Deep.QuietTactic
namespace Go.Proofs.Yteceiaaiocdlfaa
open Go Go.RowKit

/-- Bytes with runs were drawn. -/
def DrewLoose (w : World) (r P : Nat) (e : Ending) (w' : World) : Prop :=
  ∃ (A : Option Addr) (c : Nat) (bs : List Int), e = .returned (.slice A bs.length c) ∧ w'.ownsRow w.heap.size 5 1 (.slice A bs.length c) bs.length (nums .u8 bs) ∧ bs.length ≤ 1020 ∧ isB bs ∧ Rdr w' r (P + 20) ∧ w.grownBy w' (some r)
set_option maxRecDepth 100000 in
set_option maxHeartbeats 8000000 in
theorem l20Loose_any (r P : Nat) (w : World) (hr : Rdr w r P) (hP : P ≤ 100000) : Calls Try.prog 58 #[.pointer (some ⟨r, 0, none⟩)] w (DrewLoose w r P) := by
  obtain ⟨i0, hi0, hz0, hz1, hz2⟩ := info_parts byte_info
  have hrl := hr.lt
  have HR := Lib.hid hr
  clear hr
  go_enter Try.func58, Try.ntmps58
  go_wp2_with fail
  refine (pick_any r P 5 _ (HR.out.alloc _) (by omega) (by omega) (by omega)).mono ?_
  rintro e w1 ⟨v1, rfl, ⟨v1a, v1b⟩, hr1, hg1⟩
  have o1 : w1.ownsRow w.heap.size 5 1 (.slice (some ⟨w.heap.size, 0, none⟩) 0 0) 0 (nums .u8 []) :=
    own_pick (World.ownsRow_lit (base := w.heap.size) (e := 5) (size := 1) w #[] 0 (Nat.le_refl _) (by unfold maxLen; omega) rfl) hg1 hrl
  have HG1 := Lib.hid (gr_trans (gr_alloc (grown_refl w (some r)) _) hg1)
  have HR1 := Lib.hid hr1
  clear hr1 hg1 HR
  obtain ⟨m1, hm1⟩ : ∃ m : Nat, v1 = m := ⟨v1.toNat, by omega⟩
  subst hm1
  go_wp2
  go_loopw [3, 4, 5, 6] (fun v i _ _ wr => ∃ (k j n : Nat) (A1 : Option Addr) (c1 : Nat) (bs : List Int), k + j = m1 ∧ i = .int .i64 j ∧ v = .slice A1 n c1 ∧ n ≤ 255 * k ∧ Hid (bs.length = n ∧ isB bs) ∧ Hid (wr.ownsRow w.heap.size 5 1 (.slice A1 n c1) n (nums .u8 bs)) ∧ Hid (Rdr wr r (P + 1 + 4 * k)) ∧ Hid (w.grownBy wr (some r))) (fun _ i _ _ _ => (intOf i).toNat)
  case atStart => exact ⟨0, m1, 0, _, _, [], by omega, rfl, rfl, by omega, ⟨rfl, fun x hx => by cases hx⟩, o1, HR1, HG1⟩
  case round =>
    obtain ⟨k, j, n, A1, c1, bs, hkj, rfl, rfl, hn, HE, Ha, HRk, HGk⟩ := hrel
    clear o1 HR1 HG1
    have hgz := HGk.out.size
    have hkm : k ≤ 4 := by omega
    by_cases hj : 0 < j
    · have hj7 : j ≤ 4 := by omega
      have HKJ := Lib.hid hkj
      have hk3 : k ≤ 3 := by omega
      clear hkj
      go_wp2_with fail
      refine (pick_any r _ 3 _ HRk.out (by omega) (by omega) (by omega)).mono ?_
      rintro e w2 ⟨f, rfl, ⟨fa, fb⟩, hr2, hg2⟩
      replace Ha := Lib.hid (own_pick Ha.out hg2 hrl)
      have HG2 := Lib.hid (gr_trans HGk.out hg2)
      have HR2 := Lib.hid hr2
      have zz2 := HG2.out.size
      clear HGk HRk hr2 hg2
      go_wp2_with fail
      refine (pick_any r _ 5 _ HR2.out (by omega) (by omega) (by omega)).mono ?_
      rintro e w3 ⟨g, rfl, ⟨ga, gb⟩, hr3, hg3⟩
      replace Ha := Lib.hid (own_pick Ha.out hg3 hrl)
      have HG3 := Lib.hid (gr_trans HG2.out hg3)
      have HR3 := Lib.hid hr3
      have zz3 := HG3.out.size
      clear HG2 HR2 hr3 hg3
      go_wp2_with fail
      refine (pick_any r _ 14 _ (HR3.out.alloc _) (by omega) (by omega) (by omega)).mono ?_
      rintro e w4 ⟨u, rfl, ⟨ua, ub⟩, hr4, hg4⟩
      have hK4 := (Blk.new w3 3 #[.int .i64 (1 + g), .int .i64 255, .int .i64 200]).grown hg4 (by simp; omega)
      replace Ha := Lib.hid (own_pick (Ha.out.alloc _) hg4 hrl)
      have HG4 := Lib.hid (gr_trans (gr_alloc HG3.out _) hg4)
      have HR4 := Lib.hid hr4
      have zz4 := HG4.out.size
      clear HG3 HR3 hr4 hg4
      have HK4 := Lib.hid hK4
      clear hK4
      go_wp2_with fail
      refine (pick_any r _ 14 _ HR4.out (by omega) (by omega) (by omega)).mono ?_
      rintro e w5 ⟨v, rfl, ⟨va, vb⟩, hr5, hg5⟩
      have hK5 : Blk w5 w3.heap.size 3 (nums .i64 [1 + g, 255, 200]).toArray := HK4.out.grown hg5 (by simp; omega)
      replace Ha := Lib.hid (own_pick Ha.out hg5 hrl)
      have HG5 := Lib.hid (gr_trans HG4.out hg5)
      have HR5 := Lib.hid hr5
      have zz5 := HG5.out.size
      clear HG4 HR4 hr5 hg5 HK4
      obtain ⟨x, hx, hcx⟩ := lit_at (v := u / 12 + v / 13) hK5 (by omega) (by simp; omega)
      have hxb : 1 ≤ x ∧ x ≤ 255 := by simp at hx; omega
      obtain ⟨hxa, hxb⟩ := hxb
      obtain ⟨xn, rfl⟩ := Int.eq_ofNat_of_zero_le (show 0 ≤ x by omega)
      clear hK5 hx
      have hidx : 0 ≤ u / 12 + v / 13 ∧ u / 12 + v / 13 < 3 := by omega
      obtain ⟨hidx1, hidx2⟩ := hidx
      go_wp2
      clear hcx
      obtain ⟨wo, hwo⟩ : ∃ wo : World, wo = w5 := ⟨_, rfl⟩
      rw [← hwo] at Ha HG5 HR5 zz5 ⊢
      clear hwo
      go_loopw [3, 6] (fun v i wr => ∃ (a b m : Nat) (A1 : Option Addr) (c1 : Nat) (bs : List Int), a + b = xn ∧ m ≤ 255 * k + a ∧ i = .int .i64 b ∧ v = .slice A1 m c1 ∧ Hid (bs.length = m ∧ isB bs) ∧ Hid (wr.ownsRow w.heap.size 5 1 (.slice A1 m c1) m (nums .u8 bs)) ∧ Hid (Rdr wr r (P + 1 + 4 * k + 4)) ∧ Hid (w.grownBy wr (some r))) (fun _ i _ => (intOf i).toNat)
      case atStart => exact ⟨0, xn, n, A1, c1, bs, by omega, by omega, rfl, rfl, HE, Ha, HR5, HG5⟩
      case round =>
        clear Ha HR5 HG5 HE
        obtain ⟨a, b, m, A1, c1, bs, hab, hm, rfl, rfl, HE, Ha, HRq, HGq⟩ := hrel
        have hgz2 := HGq.out.size
        by_cases hb0 : 0 < b
        · have HAB := Lib.hid hab
          have hm2 : m ≤ 2000 := by omega
          have hb255 : b ≤ 255 := by omega
          clear hab
          go_wp2_with (at_builtin; refine wpList_push _ rfl (.tmp 34) (.tmp 36) _ rfl w.heap.size 5 i0 _ 1 1 Try.underlying28 hi0 hz0 hz1 hz2 rfl (by omega) (by omega) A1 m c1 1 1 _ [.int .u8 f] (by exact Ha.out.alloc _) rfl ⟨wr.heap.size, 0, none⟩ rfl rfl (World.news_of_block (cs := #[.int .u8 f]) (t := 5) (fr := (0, 0)) (by exact heap_alloc_new wr _)) (by simp [Value.oneCell']) (by omega) (by omega) (by simp; omega) ?_; intro A' c' w7 ho7 hg7 ha7 hk7; have HR7 := Lib.hid ((HRq.out.alloc _).row hg7 (Ha.out.alloc _) hrl); have HG7 := Lib.hid (gr_row (gr_alloc HGq.out _) hg7 (Ha.out.alloc _) (Nat.le_refl _)); have HO7 := Lib.hid ho7; clear ho7 hg7 ha7 hk7)
          go_roundw
          case rel =>
            have hab := HAB.out
            refine ⟨a + 1, b - 1, m + 1, A', c', bs ++ [f], by omega, by omega, by go_num, rfl, Lib.hid ⟨by have := HE.out.1; simp; omega, ?_⟩, ?_, HR7, HG7⟩
            · intro y hy
              rcases List.mem_append.1 hy with hy | hy
              · exact HE.out.2 y hy
              · rw [List.mem_singleton.1 hy]; omega
            · have e : nums .u8 (bs ++ [f]) = nums .u8 bs ++ [.int .u8 f] := by simp [nums]
              rw [e]
              exact HO7
          case measure => simp [intOf]; omega
        · obtain rfl : b = 0 := by omega
          have hkj := HKJ.out
          go_wp2
          go_roundw
          case rel => exact ⟨k + 1, j - 1, m, A1, c1, bs, by omega, by go_num, rfl, by omega, HE, Ha, Lib.hid (HRq.out.more (by omega)), HGq⟩
          case measure => simp [intOf]; omega
    · obtain rfl : j = 0 := by omega
      go_wp2
      go_ret
      obtain ⟨hE1, hE2⟩ := HE.out
      clear HE
      subst hE1
      exact ⟨A1, c1, bs, rfl, Ha.out, by omega, hE2, HRk.out.more (by omega), HGk.out⟩
end Go.Proofs.Yteceiaaiocdlfaa
