/- Contract of the drawing of a program. Condition: the reader. -/
import Derived.Test.YtbljkdhokbhcdaaRows
import Derived.Test.YtbljkdhokbhcdaaBase
import Derived.Test.YtbljkdhokbhcdaaBase2
import Derived.Test.YtbljkdhokbhcdaaBase3
import Derived.Test.YtbljkdhokbhcdaaOnly
import Derived.Test.YtbljkdhokbhcdaaIn
import Derived.Test.YtbljkdhokbhcdaaIn2
import Derived.Test.YtbljkdhokbhcdaaGet2IS
import Derived.Test.YtbljkdhokbhcdaaPutS
import Derived.Test.YtbljkdhokbhcdaaPick
import Derived.Test.YtbljkdhokbhcdaaPick2
import Derived.Test.YtbljkdhokbhcdaaKT
import Derived.Test.YtbljkdhokbhcdaaMc
import Derived.Test.YtbljkdhokbhcdaaMcy
import Derived.Test.YtbljkdhokbhcdaaCd
import Derived.Test.YtbljkdhokbhcdaaPutC
import Derived.Test.YtbljkdhokbhcdaaDcd
import Derived.WalkKit
import Derived.WalkSpells
import Derived.WalkLawsBesides
import Derived.Handy
import Derived.BigQuiet
import Derived.Deep.RegionHeld3
import Derived.Deep.DrawnRows
import Derived.Deep.QuietTactic
import Derived.Deep.CutBlock
namespace Go.Proofs.Ytbljkdhokbhcdaa
open Go Go.RowKit

set_option maxRecDepth 100000 in
set_option maxHeartbeats 4000000 in
theorem l20Program_any (r P : Nat) (w : World) (hr : Rdr w r P) (hP : P ≤ 1000) : Calls Try.prog 33 #[.pointer (some ⟨r, 0, none⟩)] w (fun e w' => ∃ (A : Option Addr) (c : Nat) (bs : List Int), e = .returned (.slice A bs.length c) ∧ w'.ownsRow w.heap.size 5 1 (.slice A bs.length c) bs.length (nums .u8 bs) ∧ bs.length ≤ 21 ∧ (∀ x ∈ bs, 0 ≤ x ∧ x ≤ 255) ∧ Rdr w' r (P + 100) ∧ w.grownBy w' (some r)) := by
  obtain ⟨i0, hi0, hz0, hz1, hz2⟩ := info_parts u8_info
  have hrl := hr.lt
  have HR0 : Hid (Rdr (w.alloc (.cells #[] 5)) r P) := hr.alloc _
  have HO0 := Lib.hid (World.ownsRow_lit (base := w.heap.size) (e := 5) (size := 1) w #[] 0 (Nat.le_refl _) (by unfold maxLen; omega) rfl)
  have HG0 : Hid (w.grownBy (w.alloc (.cells #[] 5)) (some r)) := gr_alloc (grown_refl w (some r)) _
  clear hr
  go_enter Try.func33, Try.ntmps33
  go_wp2_with fail
  refine (pick_any r P 8 _ HR0.out (by omega) (by omega) (by omega)).mono ?_
  rintro e w1 ⟨v, rfl, ⟨va, vb⟩, hr1, hg1⟩
  obtain ⟨n, rfl⟩ := Int.eq_ofNat_of_zero_le va
  have HR1 := Lib.hid hr1
  have HO1 := Lib.hid (own_pick HO0.out hg1 hrl)
  have HG1 := Lib.hid (gr_trans HG0.out hg1)
  have hn : n ≤ 7 := by omega
  clear HR0 HO0 HG0 hr1 hg1 va vb
  go_wp2
  go_loopw [3, 4] (fun bv kv wr => ∃ (j : Nat) (A : Option Addr) (c : Nat) (bs : List Int), bv = .slice A bs.length c ∧ kv = .int .i64 (j : Int) ∧ j ≤ 7 ∧ Hid (wr.ownsRow w.heap.size 5 1 (.slice A bs.length c) bs.length (nums .u8 bs)) ∧ Hid (∀ x ∈ bs, 0 ≤ x ∧ x ≤ 255) ∧ bs.length + 3 * j ≤ 21 ∧ Hid (Rdr wr r (P + 1 + 11 * (7 - j))) ∧ Hid (w.grownBy wr (some r))) (fun _ kv _ => (intOf kv).toNat)
  case atStart => exact ⟨n, _, 0, [], rfl, rfl, hn, HO1, Lib.hid (by simp), by simp; omega, HR1.out.more (by omega), HG1⟩
  case round =>
    obtain ⟨j, A, c, bs, rfl, rfl, hj, HO, HX, hlen, HR, HGR⟩ := hrel
    clear HO1 HR1 HG1
    by_cases hj0 : 0 < j
    · have hji : (0 : Int) < (j : Int) := by omega
      have hws := HGR.out.size
      go_wp2_with fail
      refine (l20Code0_any r (P + 1 + 11 * (7 - j)) wr HR.out (by omega)).mono ?_
      rintro e w2 ⟨d, a, rfl, hr2, hg2⟩
      obtain ⟨g5, hg5⟩ : ∃ g5, g5 = w2.heap.size := ⟨_, rfl⟩
      have HO2 := Lib.hid ((own_pick HO.out hg2 hrl).alloc (.cells #[.int .i64 d, .int .i64 a] 57))
      have HR2 : Hid (Rdr (w2.alloc (.cells #[.int .i64 d, .int .i64 a] 57)) r (P + 1 + 11 * (7 - j) + 10)) := hr2.alloc _
      have HGR2 := Lib.hid (gr_alloc (gr_trans HGR.out hg2) (.cells #[.int .i64 d, .int .i64 a] 57))
      have H52 : Hid (Blk (w2.alloc (.cells #[.int .i64 d, .int .i64 a] 57)) w2.heap.size 57 #[.int .i64 d, .int .i64 a]) := Blk.new _ _ _
      have hws2 : w.heap.size ≤ w2.heap.size := Nat.le_trans hws hg2.size
      clear hr2 hg2 HO HR HGR
      go_upto_region 6 with fail
      rw [← hg5] at H52 ⊢
      obtain ⟨w3, hw3⟩ : ∃ w3, w3 = w2.alloc (.cells #[.int .i64 d, .int .i64 a] 57) := ⟨_, rfl⟩
      rw [← hw3] at HO2 HR2 HGR2 H52 ⊢
      have hg5w : w.heap.size ≤ g5 := by omega
      clear hw3 hg5 hws2
      have HO := HO2
      have HR := HR2
      have HGR := HGR2
      have H5 := H52
      clear HO2 HR2 HGR2 H52
      have k0 : w3.cell? ⟨g5, 0, none⟩ = some (.int .i64 d) := H5.out.cell 0
      go_wp2_with fail
      clear k0
      refine (l1In_any _ _ _ _).mono ?_
      rintro e w' ⟨rfl, rfl⟩
      cases hI : inB d 4 6
      · have u0 : w3.cell? ⟨g5, 0, none⟩ = some (.int .i64 d) := H5.out.cell 0
        have u1 : w3.cell? ⟨g5, 1, none⟩ = some (.int .i64 a) := H5.out.cell 1
        go_wp2_with fail
        clear u0 u1
        refine (putCode_any d a w3).mono ?_
        rintro e w8 ⟨A8, c8, ps, rfl, o8, pl, px, s9⟩
        have HO8 := Lib.hid (own_below HO.out s9)
        have HR8 : Hid (Rdr w8 r (P + 1 + 11 * (7 - j) + 10)) := HR.out.below s9
        have HG8 := Lib.hid (gr_below HGR.out s9)
        have HRD := Lib.hid (Reads.of_own o8)
        have HPX := Lib.hid px
        clear s9 o8 px HO HR HGR H5
        go_wp2_with (at_builtin; refine wpList_append_any _ rfl (.tmp 21) (.tmp 23) _ rfl w.heap.size 5 i0 _ 1 1 Try.underlying25 hi0 hz0 hz1 hz2 rfl (by omega) (.slice A bs.length c) bs.length (nums .u8 bs) rfl (by exact HO8.out) w8.heap.size A8 ps.length c8 (nums .u8 ps) rfl (by exact HRD.out) (nums_one _ _) (by unfold maxLen; omega) (by omega) (by exact HG8.out.size) ?_; intro v' w9 ho hg hat; obtain ⟨A9, c9, rfl⟩ := own_sliceM ho; have hlo := own_blkM HO8.out; have HO9 := Lib.hid ho; have HR9 : Hid (Rdr w9 r (P + 1 + 11 * (7 - j) + 10)) := HR8.out.grown hg (fun k hk => by have := (hlo k hk).1; omega); have HG9 := Lib.hid (gr_new HG8.out hg (fun k hk => (hlo k hk).1)); clear ho hg hat hlo)
        have HB9 : Hid (∀ x ∈ bs ++ ps, 0 ≤ x ∧ x ≤ 255) := fun x hx => by
          rcases List.mem_append.1 hx with hx | hx
          · exact HX.out x hx
          · exact HPX.out x hx
        have HO9' : Hid (w9.ownsRow w.heap.size 5 1 (.slice A9 (bs ++ ps).length c9) (bs ++ ps).length (nums .u8 (bs ++ ps))) := by
          have h := HO9.out
          rw [List.length_append, show nums .u8 (bs ++ ps) = nums .u8 bs ++ nums .u8 ps from by simp [nums]]
          exact h
        go_roundw
        case rel => exact ⟨j - 1, A9, c9, bs ++ ps, by simp, by go_num, by omega, HO9', HB9, by simp; omega, HR9.out.more (by omega), HG9⟩
        case measure => simp [intOf]; omega
      · go_wp2_with fail
        refine (pick_any r (P + 1 + 11 * (7 - j) + 10) 16 w3 HR.out (by omega) (by omega) (by omega)).mono ?_
        rintro e w5 ⟨p, rfl, ⟨pa, pb⟩, hr5, hg5'⟩
        have HO5 := Lib.hid (own_pick HO.out hg5' hrl)
        have H55 := Lib.hid (H5.out.grown hg5' (by simp; omega))
        have HGR5 := Lib.hid (gr_trans HGR.out hg5')
        have HR5 := Lib.hid hr5
        clear HO H5 HGR HR hr5 hg5'
        have b1 : w5.cell? ⟨g5, 1, none⟩ = some (.int .i64 a) := H55.out.cell 1
        have bf : w5.frozen? ⟨g5, 1, none⟩ = false := H55.out.frozen 1
        have H5 : Hid (Blk (w5.setCell ⟨g5, 1, none⟩ (.int .i64 p)) g5 57 #[.int .i64 d, .int .i64 p]) := H55.out.set_ 1 _
        have HO : Hid ((w5.setCell ⟨g5, 1, none⟩ (.int .i64 p)).ownsRow w.heap.size 5 1 (.slice A bs.length c) bs.length (nums .u8 bs)) := (KeepT.of_set (T := fun t => t = 5) H55.out (by decide) 1 _).own HO5.out rfl
        have HR : Hid (Rdr (w5.setCell ⟨g5, 1, none⟩ (.int .i64 p)) r (P + 1 + 11 * (7 - j) + 10 + 1)) := HR5.out.setCell (by simp only; omega) _
        have HGR : Hid (w.grownBy (w5.setCell ⟨g5, 1, none⟩ (.int .i64 p)) (some r)) := gr_setCell HGR5.out (by simp only; omega) _
        go_upto_region 8 with fail
        generalize (w5.setCell ⟨g5, 1, none⟩ (.int .i64 p)) = w7 at *
        clear HO5 H55 HGR5 HR5 b1 bf
        have u0 : w7.cell? ⟨g5, 0, none⟩ = some (.int .i64 d) := H5.out.cell 0
        have u1 : w7.cell? ⟨g5, 1, none⟩ = some (.int .i64 p) := H5.out.cell 1
        go_wp2_with fail
        clear u0 u1
        refine (putCode_any d p w7).mono ?_
        rintro e w8 ⟨A8, c8, ps, rfl, o8, pl, px, s9⟩
        have HO8 := Lib.hid (own_below HO.out s9)
        have HR8 : Hid (Rdr w8 r (P + 1 + 11 * (7 - j) + 10 + 1)) := HR.out.below s9
        have HG8 := Lib.hid (gr_below HGR.out s9)
        have HRD := Lib.hid (Reads.of_own o8)
        have HPX := Lib.hid px
        clear s9 o8 px HO HR HGR H5
        go_wp2_with (at_builtin; refine wpList_append_any _ rfl (.tmp 21) (.tmp 23) _ rfl w.heap.size 5 i0 _ 1 1 Try.underlying25 hi0 hz0 hz1 hz2 rfl (by omega) (.slice A bs.length c) bs.length (nums .u8 bs) rfl (by exact HO8.out) w8.heap.size A8 ps.length c8 (nums .u8 ps) rfl (by exact HRD.out) (nums_one _ _) (by unfold maxLen; omega) (by omega) (by exact HG8.out.size) ?_; intro v' w9 ho hg hat; obtain ⟨A9, c9, rfl⟩ := own_sliceM ho; have hlo := own_blkM HO8.out; have HO9 := Lib.hid ho; have HR9 : Hid (Rdr w9 r (P + 1 + 11 * (7 - j) + 10 + 1)) := HR8.out.grown hg (fun k hk => by have := (hlo k hk).1; omega); have HG9 := Lib.hid (gr_new HG8.out hg (fun k hk => (hlo k hk).1)); clear ho hg hat hlo)
        have HB9 : Hid (∀ x ∈ bs ++ ps, 0 ≤ x ∧ x ≤ 255) := fun x hx => by
          rcases List.mem_append.1 hx with hx | hx
          · exact HX.out x hx
          · exact HPX.out x hx
        have HO9' : Hid (w9.ownsRow w.heap.size 5 1 (.slice A9 (bs ++ ps).length c9) (bs ++ ps).length (nums .u8 (bs ++ ps))) := by
          have h := HO9.out
          rw [List.length_append, show nums .u8 (bs ++ ps) = nums .u8 bs ++ nums .u8 ps from by simp [nums]]
          exact h
        go_roundw
        case rel => exact ⟨j - 1, A9, c9, bs ++ ps, by simp, by go_num, by omega, HO9', HB9, by simp; omega, HR9.out.more (by omega), HG9⟩
        case measure => simp [intOf]; omega
    · have hji : ¬ (0 : Int) < (j : Int) := by omega
      go_wp2
      go_ret
      exact ⟨A, c, bs, rfl, HO.out, by omega, HX.out, HR.out.more (by omega), HGR.out⟩
end Go.Proofs.Ytbljkdhokbhcdaa
