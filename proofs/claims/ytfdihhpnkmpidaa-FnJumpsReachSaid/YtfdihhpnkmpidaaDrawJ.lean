/- Contract of the drawing of jumps. Condition: not too many draws. -/
import Derived.Test.YtfdihhpnkmpidaaRows
import Derived.Test.YtfdihhpnkmpidaaBase
import Derived.Test.YtfdihhpnkmpidaaBase2
import Derived.Test.YtfdihhpnkmpidaaIn
import Derived.Test.YtfdihhpnkmpidaaIn2
import Derived.Test.YtfdihhpnkmpidaaFindI
import Derived.Test.YtfdihhpnkmpidaaJumpV
import Derived.Test.YtfdihhpnkmpidaaPick
import Derived.Test.YtfdihhpnkmpidaaPick2
import Derived.WalkKit
import Derived.WalkSpells
import Derived.WalkLawsBesides
import Derived.Handy
import Derived.BigQuiet
import Derived.Deep.RegionHeld3
import Derived.Deep.DrawnRows
import Derived.Deep.QuietTactic
namespace Go.Proofs.Ytfdihhpnkmpidaa
open Go Go.RowKit

theorem dj_info : (Try.prog.info? 3).map (fun i => (i.zero, i.size, i.bytes)) = some (some (.int .i64 0), 1, 8) := by kernel_rfl
/-- Sizes and targets were drawn. -/
def DrewJumps (w : World) (r P : Nat) (n : Int) (e : Ending) (w' : World) : Prop :=
  ∃ (A1 : Option Addr) (c1 : Nat) (xs : List Int) (A2 : Option Addr) (c2 : Nat) (ts : List Int), e = .returned (.tuple #[.slice A1 xs.length c1, .slice A2 ts.length c2]) ∧
    w'.ownsRow w.heap.size 3 1 (.slice A1 xs.length c1) xs.length (nums .i64 xs) ∧ w'.ownsRow w.heap.size 3 1 (.slice A2 ts.length c2) ts.length (nums .i64 ts) ∧ Apart A1 A2 ∧
    (xs.length ≤ 7 ∧ ts.length ≤ 7) ∧ (n = 0 → jumpsOk xs ts = true) ∧ Rdr w' r (P + 60) ∧ w.grownBy w' (some r)
/-- As far as k of them go. -/
def JumpsTo (many : Int) (k : Nat) (xs ts : List Int) : Prop := (xs.length = k ∧ ts.length = k) ∧ (∀ x ∈ xs, 0 ≤ x ∧ x ≤ 300) ∧ (∀ x ∈ ts, 0 ≤ x ∧ x ≤ many)
theorem JumpsTo.ok {k : Nat} {xs ts : List Int} (h : JumpsTo k k xs ts) (hk : k ≤ 8) : jumpsOk xs ts = true := by
  obtain ⟨⟨h1, h2⟩, h3, h4⟩ := h
  unfold jumpsOk valsOk
  rw [decide_eq_true (by omega), decide_eq_true (by omega), Bool.true_and, Bool.true_and, List.all_eq_true.2 (fun x hx => by have := h3 x hx; exact inB_true (by omega) (by omega)), Bool.true_and, List.all_eq_true.2 (fun x hx => by have := h4 x hx; exact inB_true (by omega) (by omega))]
theorem JumpsTo.snoc {many : Int} {k : Nat} {xs ts : List Int} (h : JumpsTo many k xs ts) {x t : Int} (hx : 0 ≤ x ∧ x ≤ 300) (ht : 0 ≤ t ∧ t ≤ many) : JumpsTo many (k + 1) (xs ++ [x]) (ts ++ [t]) := by
  obtain ⟨⟨h1, h2⟩, h3, h4⟩ := h
  refine ⟨⟨by simp [h1], by simp [h2]⟩, fun y hy => ?_, fun y hy => ?_⟩
  · rcases List.mem_append.1 hy with hy | hy
    · exact h3 y hy
    · rw [List.mem_singleton.1 hy]; exact hx
  · rcases List.mem_append.1 hy with hy | hy
    · exact h4 y hy
    · rw [List.mem_singleton.1 hy]; exact ht

set_option maxRecDepth 100000 in
set_option maxHeartbeats 8000000 in
theorem l20Jumps_any (r P : Nat) (n : Int) (w : World) (hr : Rdr w r P) (hP : P ≤ 100000) (hn : 0 ≤ n) (hn2 : n ≤ 1000) : Calls Try.prog 34 #[.pointer (some ⟨r, 0, none⟩), .int .i64 n] w (DrewJumps w r P n) := by
  obtain ⟨i0, hi0, hz0, hz1, hz2⟩ := info_parts dj_info
  have hrl := hr.lt
  have HR := Lib.hid hr
  clear hr
  go_enter Try.func34, Try.ntmps34
  go_wp2_with fail
  refine (pick_any r P 7 _ ((HR.out.alloc _).alloc _) (by omega) (by omega) (by omega)).mono ?_
  rintro e w1 ⟨many, rfl, ⟨hm0, hm1⟩, hr1, hg1⟩
  have hg0 : w.grownBy w1 (some r) := gr_trans (gr_alloc (gr_alloc (grown_refl w (some r)) _) _) hg1
  have hz1' : w.heap.size + 2 ≤ w1.heap.size := by have := hg1.size; simpa using this
  have o1 : w1.ownsRow w.heap.size 3 1 (.slice (some ⟨w.heap.size, 0, none⟩) 0 0) 0 (nums .i64 []) :=
    own_pick ((World.ownsRow_lit (base := w.heap.size) (e := 3) (size := 1) w #[] 0 (Nat.le_refl _) (by unfold maxLen; omega) rfl).alloc _) hg1 hrl
  have o2 : w1.ownsRow w.heap.size 3 1 (.slice (some ⟨w.heap.size + 1, 0, none⟩) 0 0) 0 (nums .i64 []) :=
    own_pick (by have h := World.ownsRow_lit (base := w.heap.size) (e := 3) (size := 1) (w.alloc (.cells #[] 3)) #[] 0 (by simp) (by unfold maxLen; omega) rfl; simpa [nums] using h) hg1 hrl
  obtain ⟨mn, rfl⟩ := Int.eq_ofNat_of_zero_le hm0
  clear hg1
  have HG0 := Lib.hid hg0
  have HR1 := Lib.hid hr1
  clear hg0 hr1 HR
  go_wp2
  go_loopw [6, 7, 9] (fun v1 v2 i wr => ∃ (k : Nat) (A1 A2 : Option Addr) (c1 c2 : Nat) (xs ts : List Int), k ≤ mn ∧ i = .int .i64 k ∧ v1 = .slice A1 k c1 ∧ v2 = .slice A2 k c2 ∧
    wr.ownsRow w.heap.size 3 1 (.slice A1 k c1) k (nums .i64 xs) ∧ wr.ownsRow w.heap.size 3 1 (.slice A2 k c2) k (nums .i64 ts) ∧ Hid (Apart A1 A2) ∧ Hid (JumpsTo mn k xs ts) ∧ Hid (Rdr wr r (P + 1 + 5 * k)) ∧ Hid (w.grownBy wr (some r))) (fun _ _ i _ => mn - (intOf i).toNat)
  case atStart => exact ⟨0, _, _, _, _, [], [], Nat.zero_le _, rfl, rfl, rfl, o1, o2, Lib.hid (fun a b h1 h2 => by injection h1 with h1; injection h2 with h2; subst h1 h2; simp), ⟨⟨rfl, rfl⟩, by simp, by simp⟩, HR1, HG0⟩
  case round =>
    obtain ⟨k, A1, A2, c1, c2, xs, ts, hk, rfl, rfl, rfl, oa, ob, HA, HJ, HRk, HGk⟩ := hrel
    clear o1 o2 HR1 HG0
    by_cases hlt : k < mn
    · have hgz := HGk.out.size
      go_wp2_with fail
      refine (pick_any r _ 9 _ HRk.out (by omega) (by omega) (by omega)).mono ?_
      rintro e w2 ⟨v1, rfl, ⟨a1, b1⟩, hr2, hg2⟩
      replace oa := own_pick oa hg2 hrl
      replace ob := own_pick ob hg2 hrl
      have HG2 := Lib.hid (gr_trans HGk.out hg2)
      clear HGk HRk hg2
      go_wp2_with fail
      refine (pick_any r _ 30 _ hr2 (by omega) (by omega) (by omega)).mono ?_
      rintro e w3 ⟨v2, rfl, ⟨a2, b2⟩, hr3, hg3⟩
      replace oa := own_pick oa hg3 hrl
      replace ob := own_pick ob hg3 hrl
      have HG3 := Lib.hid (gr_trans HG2.out hg3)
      clear HG2 hr2 hg3
      go_wp2_with fail
      refine (pick_any r _ 256 _ hr3 (by omega) (by omega) (by omega)).mono ?_
      rintro e w4 ⟨v3, rfl, ⟨a3, b3⟩, hr4, hg4⟩
      replace oa := own_pick oa hg4 hrl
      replace ob := own_pick ob hg4 hrl
      have HG4 := Lib.hid (gr_trans HG3.out hg4)
      clear HG3 hr3 hg4
      go_wp2_with fail
      refine (pick_any r _ 3 _ (hr4.alloc _) (by omega) (by omega) (by omega)).mono ?_
      rintro e w5 ⟨v4, rfl, ⟨a4, b4⟩, hr5, hg5⟩
      have hK : Blk w5 w4.heap.size 3 (nums .i64 [v1, 100 + v2, v3]).toArray := (Blk.new w4 3 #[.int .i64 v1, .int .i64 (100 + v2), .int .i64 v3]).grown hg5 (by have := HG4.out.size; simp; omega)
      obtain ⟨x, hx, hcx⟩ := lit_at hK a4 (by simp; omega)
      have hxb : 0 ≤ x ∧ x ≤ 300 := by simp at hx; omega
      replace oa := own_pick (oa.alloc _) hg5 hrl
      replace ob := own_pick (ob.alloc _) hg5 hrl
      have HG5 := Lib.hid (gr_trans (gr_alloc HG4.out _) hg5)
      clear HG4 hr4 hg5 hK hx
      have HR5 := Lib.hid hr5
      have HOA := Lib.hid oa
      have HOB := Lib.hid ob
      have hz5 := HG5.out.size
      clear hr5 oa ob
      go_wp2_with (at_builtin; refine wpList_push _ rfl (.tmp 19) (.tmp 32) _ rfl w.heap.size 3 i0 _ 1 8 Try.underlying22 hi0 hz0 hz1 hz2 rfl (by omega) (by omega) A1 k c1 1 1 (nums .i64 xs) [.int .i64 x] (by exact HOA.out.alloc _) rfl ⟨w5.heap.size, 0, none⟩ rfl rfl (World.news_of_block (cs := #[.int .i64 x]) (t := 3) (fr := (0, 0)) (by exact heap_alloc_new w5 _)) (by simp [Value.oneCell']) (by omega) (by omega) (by simp; omega) ?_; intro A1' c1' w6 hown6 hgrow6 hat6 hkeep6)
      have hown6' := hown6
      have hB6 : w6.ownsRow w.heap.size 3 1 (.slice A2 k c2) k (nums .i64 ts) := own_apart (HOB.out.alloc _) hgrow6 HA.out.symm
      have hR6 : Rdr w6 r (P + 1 + 5 * k + 4) := (HR5.out.alloc _).row hgrow6 (HOA.out.alloc _) hrl
      have HG6 := Lib.hid (gr_row (gr_alloc HG5.out _) hgrow6 (HOA.out.alloc _) (Nat.le_refl _))
      have HA6 : Hid (Apart A1' A2) := apart_push HA.out HOB.out (by simp) hat6
      have hz6 := HG6.out.size
      clear hown6 hgrow6 hat6 hkeep6 HR5 HOA HOB HA HG5 hcx hz5
      refine (pick_any r _ ((mn : Int) + 1) _ hR6 (by omega) (by omega) (by omega)).mono ?_
      rintro e w7 ⟨v5, rfl, ⟨a5, b5⟩, hr7, hg7⟩
      have HOA7 := Lib.hid (own_pick hown6' hg7 hrl)
      have HOB7 := Lib.hid (own_pick hB6 hg7 hrl)
      have HG7 := Lib.hid (gr_trans HG6.out hg7)
      have HR7 := Lib.hid hr7
      have hz7 := HG7.out.size
      clear hown6' hB6 HG6 hR6 hr7 hg7
      go_wp2_with (at_builtin; refine wpList_push _ rfl (.tmp 34) (.tmp 39) _ rfl w.heap.size 3 i0 _ 1 8 Try.underlying22 hi0 hz0 hz1 hz2 rfl (by omega) (by omega) A2 k c2 1 1 (nums .i64 ts) [.int .i64 v5] (by exact HOB7.out.alloc _) rfl ⟨w7.heap.size, 0, none⟩ rfl rfl (World.news_of_block (cs := #[.int .i64 v5]) (t := 3) (fr := (0, 0)) (by exact heap_alloc_new w7 _)) (by simp [Value.oneCell']) (by omega) (by omega) (by simp; omega) ?_; intro A2' c2' w8 hown8 hgrow8 hat8 hkeep8)
      go_roundw
      case rel =>
        have e1 : nums .i64 (xs ++ [x]) = nums .i64 xs ++ [.int .i64 x] := by simp [nums]
        have e2 : nums .i64 (ts ++ [v5]) = nums .i64 ts ++ [.int .i64 v5] := by simp [nums]
        refine ⟨k + 1, A1', A2', c1', c2', xs ++ [x], ts ++ [v5], by omega, by go_num, rfl, rfl, ?_, ?_, ?_, ?_, ?_, ?_⟩
        · rw [e1]
          exact own_apart (HOA7.out.alloc _) hgrow8 HA6.out
        · rw [e2]
          exact hown8
        · exact (apart_push HA6.out.symm HOA7.out (by simp) hat8).symm
        · exact HJ.out.snoc hxb ⟨a5, by omega⟩
        · exact ((HR7.out.alloc _).row hgrow8 (HOB7.out.alloc _) hrl).more (by omega)
        · exact gr_row (gr_alloc HG7.out _) hgrow8 (HOB7.out.alloc _) (Nat.le_refl _)
      case measure => simp [intOf]; omega
    · obtain rfl : k = mn := by omega
      have HOK := Lib.hid (HJ.out.ok (by omega))
      have hgz := HGk.out.size
      by_cases hn0 : n = 0
      · subst hn0
        go_wp2_with fail
        refine (odd_zero r _).mono ?_
        rintro e w2 ⟨rfl, rfl⟩
        go_wp2
        refine bodyPost_ret (v := .tuple #[.slice A1 k c1, .slice A2 k c2]) (by simp [results, Try.results34, go_sem]) rfl ?_
        have hl1 := HJ.out.1.1
        have hl2 := HJ.out.1.2
        refine ⟨A1, c1, xs, A2, c2, ts, by rw [hl1, hl2], by rw [hl1]; exact oa, by rw [hl2]; exact ob, HA.out, by omega, fun _ => HOK.out, HRk.out.more (by omega), HGk.out⟩
      · have Ha := Lib.hid oa
        have Hb := Lib.hid ob
        clear oa ob
        go_wp2_with fail
        refine (odd_any r _ n _ HRk.out (by omega) (by omega) (by omega)).mono ?_
        rintro e w2 ⟨b, rfl, hr2, hg2⟩
        replace Ha := Lib.hid (own_pick Ha.out hg2 hrl)
        replace Hb := Lib.hid (own_pick Hb.out hg2 hrl)
        have HG2 := Lib.hid (gr_trans HGk.out hg2)
        have HR2 := Lib.hid hr2
        have zz2 := HG2.out.size
        clear HGk HRk hr2 hg2
        cases b
        · obtain ⟨w3, hw3⟩ : ∃ w3, w3 = w2 := ⟨_, rfl⟩
          have HG3 := HG2
          have HR3 := HR2
          rw [← hw3] at HG3 HR3 Ha Hb ⊢
          clear HG2 HR2 hw3
          go_wp2
          refine bodyPost_ret (v := .tuple #[.slice A1 k c1, .slice A2 k c2]) (by simp [results, Try.results34, go_sem]) rfl ?_
          have hl1 : (xs).length = k := by first | exact HJ.out.1.1 | (have := HJ.out.1.1; simp; omega)
          have hl2 : (ts).length = k := by first | exact HJ.out.1.2 | (have := HJ.out.1.2; simp; omega)
          have e1 : nums .i64 (xs) = nums .i64 xs := by simp [nums]
          have e2 : nums .i64 (ts) = nums .i64 ts := by simp [nums]
          refine ⟨A1, c1, xs, A2, c2, ts, by rw [hl1, hl2], by rw [hl1, e1]; exact Ha.out, by rw [hl2, e2]; exact Hb.out, HA.out, by omega, fun h => absurd h hn0, HR3.out.more (by omega), HG3.out⟩
        · go_wp2_with fail
          refine (pick_any r _ 3 _ HR2.out (by omega) (by omega) (by omega)).mono ?_
          rintro e w3 ⟨v, rfl, ⟨va, vb⟩, hr3, hg3⟩
          replace Ha := Lib.hid (own_pick Ha.out hg3 hrl)
          replace Hb := Lib.hid (own_pick Hb.out hg3 hrl)
          have HG3 := Lib.hid (gr_trans HG2.out hg3)
          have HR3 := Lib.hid hr3
          have zz3 := HG3.out.size
          clear HG2 HR2 hr3 hg3
          rcases (by omega : v = 0 ∨ v = 1 ∨ v = 2) with rfl | rfl | rfl
          · skip
            go_wp2_with fail
            refine (pick_any r _ 2 _ (HR3.out.alloc _) (by omega) (by omega) (by omega)).mono ?_
            rintro e w4 ⟨u, rfl, ⟨ua, ub⟩, hr4, hg4⟩
            have hK := (Blk.new w3 3 #[.int .i64 (-1), .int .i64 60001]).grown hg4 (by have := HG3.out.size; simp; omega)
            replace Ha := Lib.hid (own_pick (Ha.out.alloc _) hg4 hrl)
            replace Hb := Lib.hid (own_pick (Hb.out.alloc _) hg4 hrl)
            have HG4 := Lib.hid (gr_trans (gr_alloc HG3.out _) hg4)
            have HR4 := Lib.hid hr4
            have zz4 := HG4.out.size
            clear HG3 HR3 hr4 hg4
            have hK' : Blk w4 w3.heap.size 3 (nums .i64 [-1, 60001]).toArray := hK
            obtain ⟨x, hx, hcx⟩ := lit_at hK' ua (by simp; omega)
            clear hK hK' hx
            go_wp2_with (first | (at_builtin; refine wpList_push _ rfl (.tmp 51) (.tmp 57) _ rfl w.heap.size 3 i0 _ 1 8 Try.underlying22 hi0 hz0 hz1 hz2 rfl (by omega) (by omega) A1 k c1 1 1 (nums .i64 xs) [.int .i64 x] (by exact Ha.out.alloc _) rfl ⟨w4.heap.size, 0, none⟩ rfl rfl (World.news_of_block (cs := #[.int .i64 x]) (t := 3) (fr := (0, 0)) (by exact heap_alloc_new w4 _)) (by simp [Value.oneCell']) (by omega) (by omega) (by simp; omega) ?_; intro A1' c1' w5 hown5 hgrow5 hat5 hkeep5; have Hbn := Lib.hid (own_apart (Hb.out.alloc _) hgrow5 HA.out.symm); have HAn := Lib.hid (apart_push HA.out Hb.out (by simp) hat5); have HR5 := Lib.hid ((HR4.out.alloc _).row hgrow5 (Ha.out.alloc _) hrl); have HG5 := Lib.hid (gr_row (gr_alloc HG4.out _) hgrow5 (Ha.out.alloc _) (Nat.le_refl _)); have Han := Lib.hid hown5; have zz5 := HG5.out.size; clear hown5 hgrow5 hat5 hkeep5 HR4 HG4 Ha Hb HA; have Ha := Lib.hid Han.out; clear Han; have Hb := Lib.hid Hbn.out; clear Hbn; have HA := Lib.hid HAn.out; clear HAn) | (at_builtin; refine wpList_push _ rfl (.tmp 59) (.tmp 60) _ rfl w.heap.size 3 i0 _ 1 8 Try.underlying22 hi0 hz0 hz1 hz2 rfl (by omega) (by omega) A2 k c2 1 1 (nums .i64 ts) [.int .i64 0] (by exact Hb.out.alloc _) rfl ⟨w5.heap.size, 0, none⟩ rfl rfl (World.news_of_block (cs := #[.int .i64 0]) (t := 3) (fr := (0, 0)) (by exact heap_alloc_new w5 _)) (by simp [Value.oneCell']) (by omega) (by omega) (by simp; omega) ?_; intro A2' c2' w6 hown6 hgrow6 hat6 hkeep6; have Han := Lib.hid (own_apart (Ha.out.alloc _) hgrow6 HA.out); have HAn := Lib.hid (apart_push HA.out.symm Ha.out (by simp) hat6).symm; have HR6 := Lib.hid ((HR5.out.alloc _).row hgrow6 (Hb.out.alloc _) hrl); have HG6 := Lib.hid (gr_row (gr_alloc HG5.out _) hgrow6 (Hb.out.alloc _) (Nat.le_refl _)); have Hbn := Lib.hid hown6; have zz6 := HG6.out.size; clear hown6 hgrow6 hat6 hkeep6 HR5 HG5 Ha Hb HA; have Ha := Lib.hid Han.out; clear Han; have Hb := Lib.hid Hbn.out; clear Hbn; have HA := Lib.hid HAn.out; clear HAn))
            refine bodyPost_ret (v := .tuple #[.slice A1' (k + 1) c1', .slice A2' (k + 1) c2']) (by simp [results, Try.results34, go_sem]) rfl ?_
            have hl1 : (xs ++ [x]).length = (k + 1) := by first | exact HJ.out.1.1 | (have := HJ.out.1.1; simp; omega)
            have hl2 : (ts ++ [0]).length = (k + 1) := by first | exact HJ.out.1.2 | (have := HJ.out.1.2; simp; omega)
            have e1 : nums .i64 (xs ++ [x]) = (nums .i64 xs) ++ [.int .i64 x] := by simp [nums]
            have e2 : nums .i64 (ts ++ [0]) = (nums .i64 ts) ++ [.int .i64 0] := by simp [nums]
            refine ⟨A1', c1', xs ++ [x], A2', c2', ts ++ [0], by rw [hl1, hl2], by rw [hl1, e1]; exact Ha.out, by rw [hl2, e2]; exact Hb.out, HA.out, by omega, fun h => absurd h hn0, HR6.out.more (by omega), HG6.out⟩
          · skip
            go_wp2_with (at_builtin; refine wpList_push _ rfl (.tmp 64) (.tmp 65) _ rfl w.heap.size 3 i0 _ 1 8 Try.underlying22 hi0 hz0 hz1 hz2 rfl (by omega) (by omega) A1 k c1 1 1 (nums .i64 xs) [.int .i64 1] (by exact Ha.out.alloc _) rfl ⟨w3.heap.size, 0, none⟩ rfl rfl (World.news_of_block (cs := #[.int .i64 1]) (t := 3) (fr := (0, 0)) (by exact heap_alloc_new w3 _)) (by simp [Value.oneCell']) (by omega) (by omega) (by simp; omega) ?_; intro A1' c1' w4 hown4 hgrow4 hat4 hkeep4; have Hbn := Lib.hid (own_apart (Hb.out.alloc _) hgrow4 HA.out.symm); have HAn := Lib.hid (apart_push HA.out Hb.out (by simp) hat4); have HR4 := Lib.hid ((HR3.out.alloc _).row hgrow4 (Ha.out.alloc _) hrl); have HG4 := Lib.hid (gr_row (gr_alloc HG3.out _) hgrow4 (Ha.out.alloc _) (Nat.le_refl _)); have Han := Lib.hid hown4; have zz4 := HG4.out.size; clear hown4 hgrow4 hat4 hkeep4 HR3 HG3 Ha Hb HA; have Ha := Lib.hid Han.out; clear Han; have Hb := Lib.hid Hbn.out; clear Hbn; have HA := Lib.hid HAn.out; clear HAn)
            go_wp2_with fail
            refine (pick_any r _ 2 _ (HR4.out.alloc _) (by omega) (by omega) (by omega)).mono ?_
            rintro e w5 ⟨u, rfl, ⟨ua, ub⟩, hr5, hg5⟩
            have hK := (Blk.new w4 3 #[.int .i64 (-1), .int .i64 ((k : Int) + 2)]).grown hg5 (by have := HG4.out.size; simp; omega)
            replace Ha := Lib.hid (own_pick (Ha.out.alloc _) hg5 hrl)
            replace Hb := Lib.hid (own_pick (Hb.out.alloc _) hg5 hrl)
            have HG5 := Lib.hid (gr_trans (gr_alloc HG4.out _) hg5)
            have HR5 := Lib.hid hr5
            have zz5 := HG5.out.size
            clear HG4 HR4 hr5 hg5
            have hK' : Blk w5 w4.heap.size 3 (nums .i64 [-1, (k : Int) + 2]).toArray := hK
            obtain ⟨x, hx, hcx⟩ := lit_at hK' ua (by simp; omega)
            clear hK hK' hx
            go_wp2_with (at_builtin; refine wpList_push _ rfl (.tmp 67) (.tmp 75) _ rfl w.heap.size 3 i0 _ 1 8 Try.underlying22 hi0 hz0 hz1 hz2 rfl (by omega) (by omega) A2 k c2 1 1 (nums .i64 ts) [.int .i64 x] (by exact Hb.out.alloc _) rfl ⟨w5.heap.size, 0, none⟩ rfl rfl (World.news_of_block (cs := #[.int .i64 x]) (t := 3) (fr := (0, 0)) (by exact heap_alloc_new w5 _)) (by simp [Value.oneCell']) (by omega) (by omega) (by simp; omega) ?_; intro A2' c2' w6 hown6 hgrow6 hat6 hkeep6; have Han := Lib.hid (own_apart (Ha.out.alloc _) hgrow6 HA.out); have HAn := Lib.hid (apart_push HA.out.symm Ha.out (by simp) hat6).symm; have HR6 := Lib.hid ((HR5.out.alloc _).row hgrow6 (Hb.out.alloc _) hrl); have HG6 := Lib.hid (gr_row (gr_alloc HG5.out _) hgrow6 (Hb.out.alloc _) (Nat.le_refl _)); have Hbn := Lib.hid hown6; have zz6 := HG6.out.size; clear hown6 hgrow6 hat6 hkeep6 HR5 HG5 Ha Hb HA; have Ha := Lib.hid Han.out; clear Han; have Hb := Lib.hid Hbn.out; clear Hbn; have HA := Lib.hid HAn.out; clear HAn)
            refine bodyPost_ret (v := .tuple #[.slice A1' (k + 1) c1', .slice A2' (k + 1) c2']) (by simp [results, Try.results34, go_sem]) rfl ?_
            have hl1 : (xs ++ [1]).length = (k + 1) := by first | exact HJ.out.1.1 | (have := HJ.out.1.1; simp; omega)
            have hl2 : (ts ++ [x]).length = (k + 1) := by first | exact HJ.out.1.2 | (have := HJ.out.1.2; simp; omega)
            have e1 : nums .i64 (xs ++ [1]) = (nums .i64 xs) ++ [.int .i64 1] := by simp [nums]
            have e2 : nums .i64 (ts ++ [x]) = (nums .i64 ts) ++ [.int .i64 x] := by simp [nums]
            refine ⟨A1', c1', xs ++ [1], A2', c2', ts ++ [x], by rw [hl1, hl2], by rw [hl1, e1]; exact Ha.out, by rw [hl2, e2]; exact Hb.out, HA.out, by omega, fun h => absurd h hn0, HR6.out.more (by omega), HG6.out⟩
          · skip
            go_wp2_with (at_builtin; refine wpList_push _ rfl (.tmp 46) (.tmp 47) _ rfl w.heap.size 3 i0 _ 1 8 Try.underlying22 hi0 hz0 hz1 hz2 rfl (by omega) (by omega) A1 k c1 1 1 (nums .i64 xs) [.int .i64 1] (by exact Ha.out.alloc _) rfl ⟨w3.heap.size, 0, none⟩ rfl rfl (World.news_of_block (cs := #[.int .i64 1]) (t := 3) (fr := (0, 0)) (by exact heap_alloc_new w3 _)) (by simp [Value.oneCell']) (by omega) (by omega) (by simp; omega) ?_; intro A1' c1' w4 hown4 hgrow4 hat4 hkeep4; have Hbn := Lib.hid (own_apart (Hb.out.alloc _) hgrow4 HA.out.symm); have HAn := Lib.hid (apart_push HA.out Hb.out (by simp) hat4); have HR4 := Lib.hid ((HR3.out.alloc _).row hgrow4 (Ha.out.alloc _) hrl); have HG4 := Lib.hid (gr_row (gr_alloc HG3.out _) hgrow4 (Ha.out.alloc _) (Nat.le_refl _)); have Han := Lib.hid hown4; have zz4 := HG4.out.size; clear hown4 hgrow4 hat4 hkeep4 HR3 HG3 Ha Hb HA; have Ha := Lib.hid Han.out; clear Han; have Hb := Lib.hid Hbn.out; clear Hbn; have HA := Lib.hid HAn.out; clear HAn)
            refine bodyPost_ret (v := .tuple #[.slice A1' (k + 1) c1', .slice A2 k c2]) (by simp [results, Try.results34, go_sem]) rfl ?_
            have hl1 : (xs ++ [1]).length = (k + 1) := by first | exact HJ.out.1.1 | (have := HJ.out.1.1; simp; omega)
            have hl2 : (ts).length = k := by first | exact HJ.out.1.2 | (have := HJ.out.1.2; simp; omega)
            have e1 : nums .i64 (xs ++ [1]) = (nums .i64 xs) ++ [.int .i64 1] := by simp [nums]
            have e2 : nums .i64 (ts) = nums .i64 ts := by simp [nums]
            refine ⟨A1', c1', xs ++ [1], A2, c2, ts, by rw [hl1, hl2], by rw [hl1, e1]; exact Ha.out, by rw [hl2, e2]; exact Hb.out, HA.out, by omega, fun h => absurd h hn0, HR4.out.more (by omega), HG4.out⟩
end Go.Proofs.Ytfdihhpnkmpidaa
