/- Contract of the drawing of a script. No condition but the sizes. -/
import Derived.Test.YthjjbgpeajeneaaDoorRows
import Derived.Test.YthjjbgpeajeneaaDoorBase
import Derived.Test.YthjjbgpeajeneaaDoorBase2
import Derived.Test.YthjjbgpeajeneaaDoorBase3
import Derived.Test.YthjjbgpeajeneaaDoorIn
import Derived.Test.YthjjbgpeajeneaaDoorPart

import Derived.Test.YthjjbgpeajeneaaDoorScrV
import Derived.Test.YthjjbgpeajeneaaDoorMarkP
import Derived.Test.YthjjbgpeajeneaaDoorPick
import Derived.Test.YthjjbgpeajeneaaDoorPick2
import Derived.Test.YthjjbgpeajeneaaDoorOpenC
import Derived.WalkKit
import Derived.WalkSpells
import Derived.WalkLawsBesides
import Derived.Handy
import Derived.BigQuiet
import Derived.Deep.RegionHeld3
import Derived.Deep.DrawnRows
import Derived.Deep.RegionLaw
import Derived.Deep.QuietTactic
namespace Go.Proofs.YthjjbgpeajeneaaDoor
open Go Go.RowKit

theorem odd_both (r P : Nat) (N : Int) (w : World) (h : Rdr w r P) (hP : P ≤ 1000000) (hN : 0 ≤ N) (hN2 : N ≤ 1000000) : Calls Tryd.prog 37 #[.pointer (some ⟨r, 0, none⟩), .int .i64 N] w fun e w' => ∃ b : Bool, e = .returned (.bool b) ∧ (N = 0 → b = false) ∧ Rdr w' r (P + 1) ∧ w.grownBy w' (some r) := by
  by_cases h0 : N = 0
  · subst h0
    exact (odd_zero r w).mono fun e w' ⟨h1, h2⟩ => ⟨false, h1, fun _ => rfl, by subst h2; exact h.more (by omega), by subst h2; exact grown_refl _ _⟩
  · exact (odd_any r P N w h hP hN hN2).mono fun e w' ⟨b, h1, h2⟩ => ⟨b, h1, fun h => absurd h h0, h2⟩
set_option maxRecDepth 100000 in
set_option maxHeartbeats 8000000 in
theorem part_info : (Tryd.prog.info? 41).map (fun i => (i.zero, i.size, i.bytes)) = some (some (.agg #[Value.int .i64 0, Value.int .i64 0]), 2, 16) := by kernel_rfl
theorem own_cap {w : World} {base : Nat} {t : TypeId} {size : Nat} {A : Option Addr} {n c : Nat} {xs : List Value} (h : w.ownsRow base t size (.slice A n c) n xs) (hn : 0 < n) : n ≤ c ∧ c ≤ maxLen := by
  rcases h.2 with ⟨_, h0⟩ | ⟨g, cap, cur, hv, _, _, hnc, hcm, _⟩
  · omega
  · injection hv with h1 h2 h3
    subst h3
    exact ⟨hnc, hcm⟩
theorem three_cells (p0 p1 p2 : Prt) : [p0, p1, p2].flatMap Prt.cells = [.int .i64 p0.kind, .int .i64 p0.align, .int .i64 p1.kind, .int .i64 p1.align, .int .i64 p2.kind, .int .i64 p2.align] := by simp [Prt.cells]
/-- A script was drawn. -/
def DrewScript (w : World) (r P : Nat) (e : Ending) (w' : World) : Prop :=
  ∃ (A : Option Addr) (c : Nat) (xs : List Prt), e = .returned (.slice A xs.length c) ∧ Reads w' w'.heap.size 2 A xs.length (xs.flatMap Prt.cells) ∧ (∀ a, A = some a → w.heap.size ≤ a.block) ∧ xs.length ≤ 3 ∧ xs.length ≤ c ∧ c ≤ maxLen ∧ Rdr w' r (P + 8) ∧ w.grownBy w' (some r)
set_option maxRecDepth 100000 in
set_option maxHeartbeats 8000000 in
theorem l20Script_any (r P : Nat) (n : Int) (w : World) (hr : Rdr w r P) (hP : P ≤ 700000) (hn : 0 ≤ n) (hn2 : n ≤ 1000) : Calls Tryd.prog 27 #[.pointer (some ⟨r, 0, none⟩), .int .i64 n] w (DrewScript w r P) := by
  obtain ⟨i0, hi0, hz0, hz1, hz2⟩ := info_parts part_info
  have hrl := hr.lt
  have HR := Lib.hid hr
  clear hr
  go_enter Tryd.func27, Tryd.ntmps27
  go_wp2_with fail
  refine (pick_any r _ 5 _ ((((((HR.out.alloc _).alloc _).alloc _).alloc _).alloc _).alloc _) (by omega) (by omega) (by omega)).mono ?_
  rintro e w1 ⟨v, rfl, ⟨va, vb⟩, hr1, hg1⟩
  have HG1 : Hid (w.grownBy w1 (some r)) := gr_trans (gr_alloc (gr_alloc (gr_alloc (gr_alloc (gr_alloc (gr_alloc (grown_refl w (some r)) _) _) _) _) _) _) hg1
  have K5 := (Blk.new _ _ _).grown hg1 (by simp; omega)
  have R0 := own_pick ((((((World.ownsRow_lit (base := w.heap.size) (e := 3) (size := 1) w #[.int .i64 1, .int .i64 2, .int .i64 3] 3 (by first | exact Nat.le_refl _ | (simp; done) | (simp; omega)) (by unfold maxLen; omega) rfl).alloc _).alloc _).alloc _).alloc _).alloc _) hg1 hrl
  have R1 := own_pick (((((World.ownsRow_lit (base := w.heap.size) (e := 3) (size := 1) (w.alloc (.cells #[.int .i64 1, .int .i64 2, .int .i64 3] 3)) #[.int .i64 2, .int .i64 1, .int .i64 3] 3 (by first | exact Nat.le_refl _ | (simp; done) | (simp; omega)) (by unfold maxLen; omega) rfl).alloc _).alloc _).alloc _).alloc _) hg1 hrl
  have R2 := own_pick ((((World.ownsRow_lit (base := w.heap.size) (e := 3) (size := 1) ((w.alloc (.cells #[.int .i64 1, .int .i64 2, .int .i64 3] 3)).alloc (.cells #[.int .i64 2, .int .i64 1, .int .i64 3] 3)) #[.int .i64 3, .int .i64 2, .int .i64 1] 3 (by first | exact Nat.le_refl _ | (simp; done) | (simp; omega)) (by unfold maxLen; omega) rfl).alloc _).alloc _).alloc _) hg1 hrl
  have R3 := own_pick (((World.ownsRow_lit (base := w.heap.size) (e := 3) (size := 1) (((w.alloc (.cells #[.int .i64 1, .int .i64 2, .int .i64 3] 3)).alloc (.cells #[.int .i64 2, .int .i64 1, .int .i64 3] 3)).alloc (.cells #[.int .i64 3, .int .i64 2, .int .i64 1] 3)) #[.int .i64 1, .int .i64 3, .int .i64 2] 3 (by first | exact Nat.le_refl _ | (simp; done) | (simp; omega)) (by unfold maxLen; omega) rfl).alloc _).alloc _) hg1 hrl
  have R4 := own_pick ((World.ownsRow_lit (base := w.heap.size) (e := 3) (size := 1) ((((w.alloc (.cells #[.int .i64 1, .int .i64 2, .int .i64 3] 3)).alloc (.cells #[.int .i64 2, .int .i64 1, .int .i64 3] 3)).alloc (.cells #[.int .i64 3, .int .i64 2, .int .i64 1] 3)).alloc (.cells #[.int .i64 1, .int .i64 3, .int .i64 2] 3)) #[.int .i64 2, .int .i64 3, .int .i64 1] 3 (by first | exact Nat.le_refl _ | (simp; done) | (simp; omega)) (by unfold maxLen; omega) rfl).alloc _) hg1 hrl
  simp only [World.size_alloc] at K5 R0 R1 R2 R3 R4
  obtain ⟨b, x0, x1, x2, hcb, hord⟩ : ∃ (b : Nat) (x0 x1 x2 : Int), w1.cell? ⟨w.heap.size + 1 + 1 + 1 + 1 + 1, v.toNat, none⟩ = some (.slice (some ⟨b, 0, none⟩) 3 3) ∧ w1.ownsRow w.heap.size 3 1 (.slice (some ⟨b, 0, none⟩) 3 3) 3 (nums .i64 [x0, x1, x2]) := by
    have hv : v = 0 ∨ v = 1 ∨ v = 2 ∨ v = 3 ∨ v = 4 := by omega
    rcases hv with rfl | rfl | rfl | rfl | rfl
    · exact ⟨_, 1, 2, 3, K5.cell 0, R0⟩
    · exact ⟨_, 2, 1, 3, K5.cell 1, R1⟩
    · exact ⟨_, 3, 2, 1, K5.cell 2, R2⟩
    · exact ⟨_, 1, 3, 2, K5.cell 3, R3⟩
    · exact ⟨_, 2, 3, 1, K5.cell 4, R4⟩
  have hzz1 := hg1.size
  simp only [World.size_alloc] at hzz1
  have HR1 := Lib.hid hr1
  have HORD := Lib.hid hord
  clear K5 R0 R1 R2 R3 R4 hord hr1 hg1 HR
  have k5 : v < 5 := by omega
  go_wp2
  have O0 : Hid ((w1.alloc (.cells #[] 41)).ownsRow w.heap.size 41 2 (.slice (some ⟨w1.heap.size, 0, none⟩) 0 0) 0 (([] : List Prt).flatMap Prt.cells)) := World.ownsRow_lit (base := w.heap.size) (e := 41) (size := 2) w1 #[] 0 (by omega) (by unfold maxLen; omega) rfl
  have P0 : Hid (Apart (some ⟨w1.heap.size, 0, none⟩) (some ⟨b, 0, none⟩)) := apart_new HORD.out (fun a h => by injection h with h; subst h; exact Nat.le_refl _)
  have V0 := Lib.hid (HORD.out.alloc (.cells #[] 41))
  have HG2 := Lib.hid (gr_alloc HG1.out (.cells #[] 41))
  have HR2 : Hid (Rdr (w1.alloc (.cells #[] 41)) r (P + 1 + 0)) := HR1.out.alloc _
  clear HORD HG1 HR1 hcb
  go_loopw [6, 7] (fun v i wr => ∃ (k : Nat) (A : Option Addr) (c : Nat) (ps : List Prt), k ≤ 3 ∧ i = .int .i64 k ∧ v = .slice A k c ∧ Hid (ps.length = k) ∧ Hid (wr.ownsRow w.heap.size 41 2 (.slice A k c) k (ps.flatMap Prt.cells)) ∧ Hid (wr.ownsRow w.heap.size 3 1 (.slice (some ⟨b, 0, none⟩) 3 3) 3 (nums .i64 [x0, x1, x2])) ∧ Hid (Apart A (some ⟨b, 0, none⟩)) ∧ Hid (Rdr wr r (P + 1 + k)) ∧ Hid (w.grownBy wr (some r))) (fun _ i _ => 3 - (intOf i).toNat)
  case atStart => exact ⟨0, _, _, [], Nat.zero_le _, rfl, rfl, rfl, O0, V0, P0, HR2, HG2⟩
  case round =>
    obtain ⟨k, A, c, ps, hk, rfl, rfl, HW, Ho, Hv, Hp, HRk, HGk⟩ := hrel
    clear O0 V0 P0 HR2 HG2
    have hgz := HGk.out.size
    by_cases hlt : k < 3
    · have k1 : (k : Int) < 3 := by omega
      obtain ⟨x, hx⟩ : ∃ x : Int, ∀ w' : World, w'.ownsRow w.heap.size 3 1 (.slice (some ⟨b, 0, none⟩) 3 3) 3 (nums .i64 [x0, x1, x2]) → w'.cell? ⟨b, k, none⟩ = some (.int .i64 x) := by
        refine ⟨[x0, x1, x2][k]'(by simpa using hlt), fun w' h => ?_⟩
        rw [h.cellAt k (by omega), nums_get _ _ (by simpa using hlt)]
      have HX := Lib.hid hx
      clear hx
      have e0 := HX.out _ Hv.out
      have e1 := HX.out _ (Hv.out.alloc (.cells #[.int .i64 1, .int .i64 2, .int .i64 4, .int .i64 8, .int .i64 16, .int .i64 32, .int .i64 64] 3))
      have e2 := HX.out _ (Hv.out.drew)
      have e3 := HX.out _ (Hv.out.drew.alloc (.cells #[.int .i64 1, .int .i64 2, .int .i64 4, .int .i64 8, .int .i64 16, .int .i64 32, .int .i64 64] 3))
      have HRd : Hid (Rdr (wr.alloc (.cells #[.int .i64 1, .int .i64 2, .int .i64 4, .int .i64 8, .int .i64 16, .int .i64 32, .int .i64 64] 3)).drew r (P + 1 + k)) := HRk.out.alloc _
      have HRe : Hid (Rdr wr.drew r (P + 1 + k)) := HRk.out
      have hP2 : P + 1 + k ≤ 1000000 := by omega
      have q1 : (1 : Int) ≤ 7 := by omega
      have q2 : (7 : Int) ≤ 1000000 := by omega
      go_wp2
      go_region_law (first | (refine step_push _ (by rfl) _ _ _ (by rfl) w.heap.size 41 i0 _ 2 16 Tryd.underlying25 hi0 hz0 hz1 hz2 rfl (by omega) (by omega) A k c 1 1 (ps.flatMap Prt.cells) [.int .i64 x, .int .i64 y] (by exact Ho4.out.alloc _) (by rfl) ⟨w4.heap.size, 0, none⟩ (by rfl) (by rfl) (World.news_of_block (cs := #[.int .i64 x, .int .i64 y]) (t := 41) (fr := (0, 0)) (heap_alloc_new w4 _)) (by simp [Value.oneCell']) (by omega) (by omega) (by simp; omega) ?_; intro A' c' w5 hown5 hgrow5 hat5 hkeep5; clear hkeep5; replace hown5 := Lib.hid hown5; replace hgrow5 := Lib.hid hgrow5; replace hat5 := Lib.hid hat5) | (refine step_push _ (by rfl) _ _ _ (by rfl) w.heap.size 41 i0 _ 2 16 Tryd.underlying25 hi0 hz0 hz1 hz2 rfl (by omega) (by omega) A k c 1 1 (ps.flatMap Prt.cells) [.int .i64 x, .int .i64 y] (by exact Ho4.out.alloc _) (by rfl) ⟨w4.heap.size + 1, 0, none⟩ (by rfl) (by rfl) (World.news_of_block (cs := #[.int .i64 x, .int .i64 y]) (t := 41) (fr := (0, 0)) (by exact blk_new_at (w := w4.alloc (.cells #[.int .i64 1, .int .i64 2, .int .i64 4, .int .i64 8, .int .i64 16, .int .i64 32, .int .i64 64] 3)) (by simp))) (by simp [Value.oneCell']) (by omega) (by omega) (by simp; omega) ?_; intro A' c' w5 hown5 hgrow5 hat5 hkeep5; clear hkeep5; replace hown5 := Lib.hid hown5; replace hgrow5 := Lib.hid hgrow5; replace hat5 := Lib.hid hat5) | (go_simp; go_at_call 38; (with_reducible refine (pick_any r _ 7 _ HRd.out hP2 q1 q2).mono ?_); rintro e w4 ⟨u, rfl, ⟨ua, ub⟩, hr4, hg4⟩; have HR4 := Lib.hid hr4; have hg34 : (wr.alloc (.cells #[.int .i64 1, .int .i64 2, .int .i64 4, .int .i64 8, .int .i64 16, .int .i64 32, .int .i64 64] 3)).grownBy w4 (some r) := ⟨hg4.os, hg4.tape, hg4.output, hg4.size, hg4.block⟩; have Ho4 := Lib.hid (own_pick (Ho.out.alloc _) hg34 hrl); have Hv4 := Lib.hid (own_pick (Hv.out.alloc _) hg34 hrl); have HG4 := Lib.hid (gr_trans (gr_alloc HGk.out _) hg34); have zz4 : w.heap.size ≤ w4.heap.size := HG4.out.size; have f0 := HX.out _ Hv4.out; have hK4 : Blk w4 wr.heap.size 3 (nums .i64 [1, 2, 4, 8, 16, 32, 64]).toArray := (Blk.new wr 3 #[.int .i64 1, .int .i64 2, .int .i64 4, .int .i64 8, .int .i64 16, .int .i64 32, .int .i64 64]).grown hg34 (by simp; omega); obtain ⟨y, hy, hcy⟩ := lit_at hK4 ua (by simp; omega); clear hK4 hy; have ub2 : u < 7 := (by omega)) | (go_simp; go_at_call 38; (with_reducible refine (pick_any r _ 7 _ HRe.out hP2 q1 q2).mono ?_); rintro e w4 ⟨u, rfl, ⟨ua, ub⟩, hr4, hg4⟩; have HR4 : Hid (Rdr (w4.alloc (.cells #[.int .i64 1, .int .i64 2, .int .i64 4, .int .i64 8, .int .i64 16, .int .i64 32, .int .i64 64] 3)) r (P + 1 + k + 1)) := hr4.alloc _; have hg34 : wr.grownBy w4 (some r) := ⟨hg4.os, hg4.tape, hg4.output, hg4.size, hg4.block⟩; have Hv3 := own_pick Hv.out hg34 hrl; have f0 := HX.out _ Hv3; have Ho4 := Lib.hid ((own_pick Ho.out hg34 hrl).alloc (.cells #[.int .i64 1, .int .i64 2, .int .i64 4, .int .i64 8, .int .i64 16, .int .i64 32, .int .i64 64] 3)); have Hv4 := Lib.hid (Hv3.alloc (.cells #[.int .i64 1, .int .i64 2, .int .i64 4, .int .i64 8, .int .i64 16, .int .i64 32, .int .i64 64] 3)); have HG4 := Lib.hid (gr_alloc (gr_trans HGk.out hg34) (.cells #[.int .i64 1, .int .i64 2, .int .i64 4, .int .i64 8, .int .i64 16, .int .i64 32, .int .i64 64] 3)); have zz4 : w.heap.size ≤ w4.heap.size := (gr_trans HGk.out hg34).size; have f1 := HX.out _ Hv4.out; clear Hv3; have hK4 : Blk (w4.alloc (.cells #[.int .i64 1, .int .i64 2, .int .i64 4, .int .i64 8, .int .i64 16, .int .i64 32, .int .i64 64] 3)) w4.heap.size 3 (nums .i64 [1, 2, 4, 8, 16, 32, 64]).toArray := Blk.new w4 3 #[.int .i64 1, .int .i64 2, .int .i64 4, .int .i64 8, .int .i64 16, .int .i64 32, .int .i64 64]; obtain ⟨y, hy, hcy⟩ := lit_at hK4 ua (by simp; omega); clear hK4 hy; have ub2 : u < 7 := (by omega)))
      all_goals
        go_wp2
        go_roundw
        case rel =>
          have ee : (ps ++ [(⟨x, y⟩ : Prt)]).flatMap Prt.cells = ps.flatMap Prt.cells ++ [.int .i64 x, .int .i64 y] := by simp [Prt.cells]
          refine ⟨k + 1, A', c', ps ++ [(⟨x, y⟩ : Prt)], by omega, by go_num, rfl, Lib.hid (by have := HW.out; simp; omega), Lib.hid (by rw [ee]; exact hown5.out), Lib.hid (own_apart (Hv4.out.alloc (.cells #[.int .i64 x, .int .i64 y] 41)) hgrow5.out Hp.out.symm), Lib.hid (apart_push Hp.out (Hv4.out.alloc (.cells #[.int .i64 x, .int .i64 y] 41)) (by simp) hat5.out), Lib.hid ?_, Lib.hid ?_⟩
          · exact ((HR4.out.alloc _).row hgrow5.out (Ho4.out.alloc _) hrl).more (by omega)
          · exact gr_row (gr_alloc HG4.out _) hgrow5.out (Ho4.out.alloc _) (Nat.le_refl _)
        case measure => simp [intOf]; omega
    · obtain rfl : k = 3 := by omega
      clear Hv Hp
      go_wp2_with fail
      refine (odd_both r _ n _ HRk.out (by omega) hn (by omega)).mono ?_
      rintro e w3 ⟨bb, rfl, _, hr3, hg3⟩
      replace Ho := Lib.hid (own_pick Ho.out hg3 hrl)
      have HG3 := Lib.hid (gr_trans HGk.out hg3)
      have HR3 := Lib.hid hr3
      clear hr3 hg3 HGk HRk
      obtain ⟨g, rfl, hbg, hgl⟩ := own_addrN Ho.out (by omega)
      have hcap := own_cap Ho.out (by omega)
      obtain ⟨p0, p1, p2, rfl⟩ : ∃ p0 p1 p2, ps = [p0, p1, p2] := by
        have h := HW.out
        match ps, h with
        | [a, b, c], _ => exact ⟨a, b, c, rfl⟩
      clear HW
      cases bb
      · go_wp2
        go_ret
        exact ⟨_, c, [p0, p1, p2], rfl, Reads.of_own Ho.out, fun a h => by injection h with h; subst h; exact hbg, by simp, hcap.1, hcap.2, HR3.out.more (by omega), HG3.out⟩
      · go_wp2_with fail
        refine (pick_any r _ 4 _ HR3.out (by omega) (by omega) (by omega)).mono ?_
        rintro e w4 ⟨v2, rfl, ⟨vc, vd⟩, hr4, hg4⟩
        replace Ho := Lib.hid (own_pick Ho.out hg4 hrl)
        have HG4 := Lib.hid (gr_trans HG3.out hg4)
        have HR4 := Lib.hid hr4
        have zz4 := HG4.out.size
        clear hr4 hg4 HG3 HR3 hgl
        have h4 : v2 = 0 ∨ v2 = 1 ∨ v2 = 2 ∨ v2 = 3 := by omega
        clear vc vd
        rcases h4 with rfl | rfl | rfl | rfl
        · skip
          go_wp2_with fail
          refine (pick_any r _ 3 _ (HR4.out.alloc _) (by omega) (by omega) (by omega)).mono ?_
          rintro e w5 ⟨u, rfl, ⟨ua, ub⟩, hr5, hg5⟩
          have hK : Blk w5 w4.heap.size 3 (nums .i64 [0, 3, 128]).toArray := (Blk.new w4 3 #[.int .i64 0, .int .i64 3, .int .i64 128]).grown hg5 (by simp; omega)
          replace Ho := Lib.hid (own_pick (Ho.out.alloc _) hg5 hrl)
          have HG5 := Lib.hid (gr_trans (gr_alloc HG4.out _) hg5)
          have HR5 := Lib.hid hr5
          clear hr5 hg5 HG4 HR4
          obtain ⟨x, hx, hcx⟩ := lit_at hK ua (by simp; omega)
          have ub2 : u < 3 := by omega
          clear hK hx
          have hst := Ho.out.stored 1 (.int .i64 x)
          have hfz : w5.frozen? ⟨g, 1, none⟩ = false := Ho.out.frozenAt 1
          obtain ⟨u0, hcu⟩ : ∃ u0, w5.cell? ⟨g, 1, none⟩ = some u0 := ⟨_, (Ho.out.cellAt 1 (by omega)).trans (List.getElem?_eq_getElem (by simp [Prt.cells]))⟩
          have HST : Hid ((w5.setCell ⟨g, 1, none⟩ (.int .i64 x)).ownsRow w.heap.size 41 2 (.slice (some ⟨g, 0, none⟩) 3 c) 3 ([(⟨p0.kind, x⟩ : Prt), p1, p2].flatMap Prt.cells)) := by
            have h := hst.1
            rw [three_cells] at h
            rw [Hid, three_cells]
            exact h
          clear hst
          go_wp2
          go_ret
          exact ⟨_, c, [(⟨p0.kind, x⟩ : Prt), p1, p2], rfl, Reads.of_own HST.out, fun a h => by injection h with h; subst h; exact hbg, by simp, hcap.1, hcap.2, (HR5.out.setCell (by simp only; omega) _).more (by omega), gr_setCell HG5.out (by simp only; omega) _⟩
        · have hc2 : w4.cell? ⟨g, 2, none⟩ = some (.int .i64 p1.kind) := by
            rw [Ho.out.cellAt 2 (by omega), three_cells]; rfl
          have hst := Ho.out.stored 0 (.int .i64 p1.kind)
          have hfz : w4.frozen? ⟨g, 0, none⟩ = false := Ho.out.frozenAt 0
          obtain ⟨u0, hcu⟩ : ∃ u0, w4.cell? ⟨g, 0, none⟩ = some u0 := ⟨_, (Ho.out.cellAt 0 (by omega)).trans (List.getElem?_eq_getElem (by simp [Prt.cells]))⟩
          have HST : Hid ((w4.setCell ⟨g, 0, none⟩ (.int .i64 p1.kind)).ownsRow w.heap.size 41 2 (.slice (some ⟨g, 0, none⟩) 3 c) 3 ([(⟨p1.kind, p0.align⟩ : Prt), p1, p2].flatMap Prt.cells)) := by
            have h := hst.1
            rw [three_cells] at h
            rw [Hid, three_cells]
            exact h
          clear hst
          go_wp2
          go_ret
          exact ⟨_, c, [(⟨p1.kind, p0.align⟩ : Prt), p1, p2], rfl, Reads.of_own HST.out, fun a h => by injection h with h; subst h; exact hbg, by simp, hcap.1, hcap.2, (HR4.out.setCell (by simp only; omega) _).more (by omega), gr_setCell HG4.out (by simp only; omega) _⟩
        · skip
          go_wp2_with fail
          refine (pick_any r _ 2 _ (HR4.out.alloc _) (by omega) (by omega) (by omega)).mono ?_
          rintro e w5 ⟨u, rfl, ⟨ua, ub⟩, hr5, hg5⟩
          have hK : Blk w5 w4.heap.size 3 (nums .i64 [0, 4]).toArray := (Blk.new w4 3 #[.int .i64 0, .int .i64 4]).grown hg5 (by simp; omega)
          replace Ho := Lib.hid (own_pick (Ho.out.alloc _) hg5 hrl)
          have HG5 := Lib.hid (gr_trans (gr_alloc HG4.out _) hg5)
          have HR5 := Lib.hid hr5
          clear hr5 hg5 HG4 HR4
          obtain ⟨x, hx, hcx⟩ := lit_at hK ua (by simp; omega)
          have ub2 : u < 2 := by omega
          clear hK hx
          have hst := Ho.out.stored 0 (.int .i64 x)
          have hfz : w5.frozen? ⟨g, 0, none⟩ = false := Ho.out.frozenAt 0
          obtain ⟨u0, hcu⟩ : ∃ u0, w5.cell? ⟨g, 0, none⟩ = some u0 := ⟨_, (Ho.out.cellAt 0 (by omega)).trans (List.getElem?_eq_getElem (by simp [Prt.cells]))⟩
          have HST : Hid ((w5.setCell ⟨g, 0, none⟩ (.int .i64 x)).ownsRow w.heap.size 41 2 (.slice (some ⟨g, 0, none⟩) 3 c) 3 ([(⟨x, p0.align⟩ : Prt), p1, p2].flatMap Prt.cells)) := by
            have h := hst.1
            rw [three_cells] at h
            rw [Hid, three_cells]
            exact h
          clear hst
          go_wp2
          go_ret
          exact ⟨_, c, [(⟨x, p0.align⟩ : Prt), p1, p2], rfl, Reads.of_own HST.out, fun a h => by injection h with h; subst h; exact hbg, by simp, hcap.1, hcap.2, (HR5.out.setCell (by simp only; omega) _).more (by omega), gr_setCell HG5.out (by simp only; omega) _⟩
        · have hc3 := hcap.1
          have hc4 : ¬ c = 1 := by omega
          have HC := Lib.hid ((Reads.of_own Ho.out).cut (k := 1) (cap := c) (by omega) hc3)
          rw [if_neg hc4] at HC
          have h13 : (1 : Int) ≤ (c : Int) := by omega
          have h33 : (3 : Int) ≤ (c : Int) := by omega
          have HCM := Lib.hid hcap.2
          clear hcap
          go_wp2
          go_ret
          exact ⟨_, c - 1, [p1, p2], rfl, by have h := HC.out; rw [three_cells] at h; simpa [Prt.cells, Addr.add] using h, fun a h => by have h := Option.some.inj h; subst h; exact hbg, by simp, by simp; omega, by have := HCM.out; omega, HR4.out.more (by omega), HG4.out⟩
end Go.Proofs.YthjjbgpeajeneaaDoor
