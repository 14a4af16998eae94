/- Contracts of the drawing of versions. Condition: not too many draws. -/
import Derived.Test.YtogdeekjfgbneaaDoorRows
import Derived.Test.YtogdeekjfgbneaaDoorBase
import Derived.Test.YtogdeekjfgbneaaDoorBase2
import Derived.Test.YtogdeekjfgbneaaDoorIn
import Derived.Test.YtogdeekjfgbneaaDoorName
import Derived.Test.YtogdeekjfgbneaaDoorVer
import Derived.Test.YtogdeekjfgbneaaDoorVerP
import Derived.Test.YtogdeekjfgbneaaDoorPick
import Derived.Test.YtogdeekjfgbneaaDoorPick2
import Derived.Test.YtogdeekjfgbneaaDoorDrawN
import Derived.WalkKit
import Derived.WalkSpells
import Derived.WalkLawsBesides
import Derived.Handy
import Derived.BigQuiet
import Derived.Deep.RegionHeld3
import Derived.Deep.DrawnRows
import Derived.Deep.QuietTactic
namespace Go.Proofs.YtogdeekjfgbneaaDoor
open Go Go.RowKit

/-- A version was drawn. -/
def DrewVer (w : World) (r P : Nat) (n : Int) (e : Ending) (w' : World) : Prop := ∃ v : Ver, e = .returned v.val ∧ (v.name.size ≤ 9 ∧ 0 ≤ v.number ∧ v.number ≤ 100 ∧ (n = 0 → verOk v = true)) ∧ Rdr w' r (P + 6) ∧ w.grownBy w' (some r)

theorem odd_both (r P : Nat) (N : Int) (w : World) (h : Rdr w r P) (hP : P ≤ 1000000) (hN : 0 ≤ N) (hN2 : N ≤ 1000000) : Calls Tryd.prog 29 #[.pointer (some ⟨r, 0, none⟩), .int .i64 N] w fun e w' => ∃ b : Bool, e = .returned (.bool b) ∧ (N = 0 → b = false) ∧ Rdr w' r (P + 1) ∧ w.grownBy w' (some r) := by
  by_cases h0 : N = 0
  · subst h0
    exact (odd_zero r w).mono fun e w' ⟨h1, h2⟩ => ⟨false, h1, fun _ => rfl, by subst h2; exact h.more (by omega), by subst h2; exact grown_refl _ _⟩
  · exact (odd_any r P N w h hP hN hN2).mono fun e w' ⟨b, h1, h2⟩ => ⟨b, h1, fun h => absurd h h0, h2⟩
set_option maxRecDepth 100000 in
set_option maxHeartbeats 8000000 in
theorem l20Version_any (r P : Nat) (n : Int) (w : World) (hr : Rdr w r P) (hP : P ≤ 800000) (hn : 0 ≤ n) (hn2 : n ≤ 1000) : Calls Tryd.prog 21 #[.pointer (some ⟨r, 0, none⟩), .int .i64 n] w (DrewVer w r P n) := by
  have hrl := hr.lt
  have HR := Lib.hid hr
  clear hr
  go_enter Tryd.func21, Tryd.ntmps21
  go_wp2_with fail
  refine (l20Name_any r P 0 _ (HR.out.alloc _) (by omega) (by omega) (by omega)).mono ?_
  rintro e w1 ⟨s, rfl, ⟨hs9, hsk⟩, hr1, hg1⟩
  have HSK := Lib.hid (hsk rfl)
  have K0 := Lib.hid ((Blk.new w 26 #[.string ⟨#[]⟩, .int .i64 0]).grown hg1 (by simp; omega))
  have HG1 := Lib.hid (gr_trans (gr_alloc (grown_refl w (some r)) _) hg1)
  have HR1 := Lib.hid hr1
  have zz1 := HG1.out.size
  clear hsk hr1 hg1 HR
  go_wp2_with fail
  refine (pick_any r _ 5 _ HR1.out (by omega) (by omega) (by omega)).mono ?_
  rintro e w2 ⟨a, rfl, ⟨aa, ab⟩, hr2, hg2⟩
  replace K0 := Lib.hid (K0.out.grown hg2 (by simp; omega))
  have HG2 := Lib.hid (gr_trans HG1.out hg2)
  have HR2 := Lib.hid hr2
  clear HG1 HR1 hr2 hg2
  go_wp2_with fail
  refine (pick_any r _ 6 _ HR2.out (by omega) (by omega) (by omega)).mono ?_
  rintro e w3 ⟨b, rfl, ⟨ba, bb⟩, hr3, hg3⟩
  replace K0 := Lib.hid (K0.out.grown hg3 (by simp; omega))
  have HG3 := Lib.hid (gr_trans HG2.out hg3)
  have HR3 := Lib.hid hr3
  have zz3 := HG3.out.size
  clear HG2 HR2 hr3 hg3
  have hw0 := K0.out.lt
  go_wp2_with fail
  have HB5 : 0 ≤ b / 5 ∧ b / 5 ≤ 1 := by omega
  obtain ⟨m, hm⟩ : ∃ m, m = 1 + a + b / 5 * 90 := ⟨_, rfl⟩
  have hm1 : 1 ≤ m ∧ m ≤ 99 := by omega
  rw [← hm]
  clear hm HB5
  refine (odd_both r _ n _ (HR3.out.alloc _) (by omega) hn (by omega)).mono ?_
  rintro e w4 ⟨od, rfl, hod, hr4, hg4⟩
  have K1 := Lib.hid ((Blk.new w3 26 #[.string s, .int .i64 m]).grown hg4 (by simp; omega))
  replace K0 := Lib.hid ((K0.out.alloc _).grown hg4 (by simp; omega))
  have HG4 := Lib.hid (gr_trans (gr_alloc HG3.out _) hg4)
  have HR4 := Lib.hid hr4
  have zz4 := HG4.out.size
  have hw3 := K1.out.lt
  have HOD := Lib.hid hod
  clear HG3 HR3 hr4 hg4 hod
  cases od
  · have HGZ := HG4
    have HRZ := HR4
    have c00 := K0.out.cell 0
    have c01 := K0.out.cell 1
    have f00 := K0.out.frozen 0
    have f01 := K0.out.frozen 1
    have c10 := K1.out.cell 0
    have c11 := K1.out.cell 1
    go_wp2
    refine bodyPost_ret (v := (⟨s, m⟩ : Ver).val) (by simp [results, Tryd.results21, go_sem, Ver.val, c00, c01]) rfl ?_
    refine ⟨(⟨s, m⟩ : Ver), rfl, ⟨hs9, by show 0 ≤ m; omega, by show m ≤ 100; omega, fun _ => by show (nameOk s && inB m 1 99) = true; rw [HSK.out, inB_true hm1.1 hm1.2]; rfl⟩, ?_, ?_⟩
    · exact (((HRZ.out).setCell (p := ⟨w.heap.size, 0, none⟩) hrl _).setCell (p := ⟨w.heap.size, 1, none⟩) hrl _).more (by omega)
    · exact gr_setCell (p := ⟨w.heap.size, 1, none⟩) (gr_setCell (p := ⟨w.heap.size, 0, none⟩) HGZ.out (Nat.le_refl _) _) (Nat.le_refl _) _
  · have hn0 : ¬ n = 0 := fun h => by cases HOD.out h
    have HN0 := Lib.hid hn0
    clear hn0
    go_wp2_with fail
    refine (pick_any r _ 4 _ (HR4.out.alloc _) (by omega) (by omega) (by omega)).mono ?_
    rintro e w5 ⟨u, rfl, ⟨ua, ub⟩, hr5, hg5⟩
    have K2 := Lib.hid ((Blk.new w4 26 #[.string ⟨#[]⟩, .int .i64 0, .string ⟨#[97]⟩, .int .i64 0, .string ⟨#[97]⟩, .int .i64 100, .string ⟨#[65]⟩, .int .i64 1]).grown hg5 (by simp; omega))
    replace K0 := Lib.hid ((K0.out.alloc _).grown hg5 (by simp; omega))
    have HGZ := Lib.hid (gr_trans (gr_alloc HG4.out _) hg5)
    have HRZ := Lib.hid hr5
    clear HG4 HR4 hr5 hg5 K1
    rcases (by omega : u = 0 ∨ u = 1 ∨ u = 2 ∨ u = 3) with rfl | rfl | rfl | rfl
    · have c00 := K0.out.cell 0
      have c01 := K0.out.cell 1
      have f00 := K0.out.frozen 0
      have f01 := K0.out.frozen 1
      have c10 := K2.out.cell 0
      have c11 := K2.out.cell 1
      go_wp2
      refine bodyPost_ret (v := (⟨⟨#[]⟩, 0⟩ : Ver).val) (by simp [results, Tryd.results21, go_sem, Ver.val, c00, c01]) rfl ?_
      refine ⟨(⟨⟨#[]⟩, 0⟩ : Ver), rfl, ⟨by decide, by decide, by decide, fun h => absurd h HN0.out⟩, ?_, ?_⟩
      · exact (((HRZ.out).setCell (p := ⟨w.heap.size, 0, none⟩) hrl _).setCell (p := ⟨w.heap.size, 1, none⟩) hrl _).more (by omega)
      · exact gr_setCell (p := ⟨w.heap.size, 1, none⟩) (gr_setCell (p := ⟨w.heap.size, 0, none⟩) HGZ.out (Nat.le_refl _) _) (Nat.le_refl _) _
    · have c00 := K0.out.cell 0
      have c01 := K0.out.cell 1
      have f00 := K0.out.frozen 0
      have f01 := K0.out.frozen 1
      have c10 := K2.out.cell 2
      have c11 := K2.out.cell 3
      go_wp2
      refine bodyPost_ret (v := (⟨⟨#[97]⟩, 0⟩ : Ver).val) (by simp [results, Tryd.results21, go_sem, Ver.val, c00, c01]) rfl ?_
      refine ⟨(⟨⟨#[97]⟩, 0⟩ : Ver), rfl, ⟨by decide, by decide, by decide, fun h => absurd h HN0.out⟩, ?_, ?_⟩
      · exact (((HRZ.out).setCell (p := ⟨w.heap.size, 0, none⟩) hrl _).setCell (p := ⟨w.heap.size, 1, none⟩) hrl _).more (by omega)
      · exact gr_setCell (p := ⟨w.heap.size, 1, none⟩) (gr_setCell (p := ⟨w.heap.size, 0, none⟩) HGZ.out (Nat.le_refl _) _) (Nat.le_refl _) _
    · have c00 := K0.out.cell 0
      have c01 := K0.out.cell 1
      have f00 := K0.out.frozen 0
      have f01 := K0.out.frozen 1
      have c10 := K2.out.cell 4
      have c11 := K2.out.cell 5
      go_wp2
      refine bodyPost_ret (v := (⟨⟨#[97]⟩, 100⟩ : Ver).val) (by simp [results, Tryd.results21, go_sem, Ver.val, c00, c01]) rfl ?_
      refine ⟨(⟨⟨#[97]⟩, 100⟩ : Ver), rfl, ⟨by decide, by decide, by decide, fun h => absurd h HN0.out⟩, ?_, ?_⟩
      · exact (((HRZ.out).setCell (p := ⟨w.heap.size, 0, none⟩) hrl _).setCell (p := ⟨w.heap.size, 1, none⟩) hrl _).more (by omega)
      · exact gr_setCell (p := ⟨w.heap.size, 1, none⟩) (gr_setCell (p := ⟨w.heap.size, 0, none⟩) HGZ.out (Nat.le_refl _) _) (Nat.le_refl _) _
    · have c00 := K0.out.cell 0
      have c01 := K0.out.cell 1
      have f00 := K0.out.frozen 0
      have f01 := K0.out.frozen 1
      have c10 := K2.out.cell 6
      have c11 := K2.out.cell 7
      go_wp2
      refine bodyPost_ret (v := (⟨⟨#[65]⟩, 1⟩ : Ver).val) (by simp [results, Tryd.results21, go_sem, Ver.val, c00, c01]) rfl ?_
      refine ⟨(⟨⟨#[65]⟩, 1⟩ : Ver), rfl, ⟨by decide, by decide, by decide, fun h => absurd h HN0.out⟩, ?_, ?_⟩
      · exact (((HRZ.out).setCell (p := ⟨w.heap.size, 0, none⟩) hrl _).setCell (p := ⟨w.heap.size, 1, none⟩) hrl _).more (by omega)
      · exact gr_setCell (p := ⟨w.heap.size, 1, none⟩) (gr_setCell (p := ⟨w.heap.size, 0, none⟩) HGZ.out (Nat.le_refl _) _) (Nat.le_refl _) _
end Go.Proofs.YtogdeekjfgbneaaDoor
