/- The walk of FnJumpsValid. No condition. -/
import Derived.Test.YtfdihhpnkmpidaaRows
import Derived.Test.YtfdihhpnkmpidaaBase
import Derived.Test.YtfdihhpnkmpidaaBase2
import Derived.Test.YtfdihhpnkmpidaaBase3
import Derived.Test.YtfdihhpnkmpidaaIn
import Derived.Test.YtfdihhpnkmpidaaIn2
import Derived.Test.YtfdihhpnkmpidaaFindI
import Derived.Test.YtfdihhpnkmpidaaJumpV
import Derived.Test.YtfdihhpnkmpidaaJumpP
import Derived.Test.YtfdihhpnkmpidaaAlive
import Derived.Test.YtfdihhpnkmpidaaPick
import Derived.Test.YtfdihhpnkmpidaaPick2
import Derived.Test.YtfdihhpnkmpidaaOpenC
import Derived.Test.YtfdihhpnkmpidaaDrawJ
import Derived.Test.YtfdihhpnkmpidaaDrawJ2
import Derived.WalkKit
import Derived.WalkSpells
import Derived.WalkLawsBesides
import Derived.Handy
import Derived.BigQuiet
import Derived.Deep.RegionHeld3
import Derived.Deep.DrawnRows
import Derived.Deep.QuietTactic
namespace Go.Proofs.Ytfdihhpnkmpidaa
open Go Go.RowKit

theorem jumpsOk_far (xs ts : List Int) : jumpsOk (xs ++ [1]) (ts ++ [(xs.length : Int) + 2]) = false := by
  unfold jumpsOk
  have : ((ts ++ [(xs.length : Int) + 2]).all fun n => inB n 0 (xs ++ [1]).length) = false := by
    rw [List.all_eq_false]
    refine ⟨(xs.length : Int) + 2, by simp, ?_⟩
    have h := inB_false (n := (xs.length : Int) + 2) (lo := 0) (hi := (xs ++ [1]).length) (by right; simp)
    rw [h]
    simp
  rw [this, Bool.and_false]
theorem jumpsOk_zero {xs ts : List Int} (h : jumpsOk xs ts = true) : jumpsOk xs (List.replicate xs.length 0) = true := by
  obtain ⟨h1, _, h3, _⟩ := jumpsOk_parts h
  unfold jumpsOk
  rw [decide_eq_true h1, decide_eq_true (by simp), h3, Bool.true_and, Bool.true_and, Bool.true_and, List.all_eq_true]
  intro x hx
  rw [List.eq_of_mem_replicate hx]
  exact inB_true (by omega) (by omega)

set_option maxRecDepth 100000 in
set_option maxHeartbeats 8000000 in
theorem FnJumpsValid_walk (W : World) (v0 : Value) (a0 : ArgCode W v0) : Calls Try.prog 4 #[v0] W (Gives W (.bool true)) := by
  obtain ⟨i0, hi0, hz0, hz1, hz2⟩ := info_parts dj_info
  obtain ⟨A, c, cs, rfl, hr, hc1, hc2, hcb⟩ := a0
  by_cases hl : cs.length ≤ 1048576
  · have HD := Lib.hid (DrawJumpsValid_any cs W hr hcb hl hc1 hc2)
    clear hcb hr
    unfold maxLen at hc2
    go_enter Try.func4, Try.ntmps4
    go_wp2_with fail
    refine HD.out.mono ?_
    rintro e w1 ⟨A1, c1, xs, A2, c2, ts, rfl, oa, ob, hap, ⟨hl1, hl2⟩, _, b1⟩
    clear HD
    go_wp2_with fail
    refine (implJumpsValid_any xs ts _ (Reads.of_own oa) (Nat.le_refl _) (Reads.of_own ob) (Nat.le_refl _) (by unfold maxLen; omega) (by unfold maxLen; omega)).mono ?_
    rintro e w2 ⟨rfl, s2⟩
    replace oa := own_below oa s2
    replace ob := own_below ob s2
    have b2 := b1.trans (s2.mono b1.size)
    clear s2
    go_wp2_with fail
    refine (specJumpsValid_any xs ts _ (Reads.of_own oa) (Reads.of_own ob) (by unfold maxLen; omega) (by unfold maxLen; omega)).mono ?_
    rintro e w3 ⟨rfl, s3⟩
    have HA := Lib.hid (own_below oa s3)
    have HB := Lib.hid (own_below ob s3)
    have HBel := Lib.hid (b2.trans (s3.mono b2.size))
    clear s3 oa ob b1 b2
    have zz := HBel.out.size
    have HF := Lib.hid (jumpsOk_far xs ts)
    have HAP := Lib.hid hap
    clear hap
    cases hj : jumpsOk xs ts
    · clear hj
      have HG3 := HBel
      clear HBel
      go_wp2_with (first | (at_builtin; refine wpList_appendS _ rfl (.tmp 22) (.tmp 23) _ rfl W.heap.size 3 i0 _ 1 8 Try.underlying22 hi0 hz0 hz1 hz2 rfl (by omega) (by omega) (some ⟨w3.heap.size, 0, none⟩) 0 0 [] rfl (by exact World.ownsRow_lit (base := W.heap.size) (e := 3) (size := 1) w3 #[] 0 (by omega) (by unfold maxLen; omega) rfl) w3.heap.size A1 xs.length c1 (nums .i64 xs) rfl (by exact (Reads.of_own HA.out).alloc (Nat.le_refl _) _) (nums_one _ _) (by omega) (by simp; omega) ?_; intro Ax cx w4 ho4 hg4 ha4; simp only [Nat.zero_add, List.nil_append] at ho4; have s4 : Below w3.heap.size w3 w4 := below_lit hg4 (Nat.le_refl _); have PxA := Lib.hid (apart_lit HA.out (Nat.le_refl _) (by simp) ha4); have PxB := Lib.hid (apart_lit HB.out (Nat.le_refl _) (by simp) ha4); have Hx := Lib.hid ho4; replace HA := Lib.hid (own_below HA.out s4); replace HB := Lib.hid (own_below HB.out s4); have HG4 := Lib.hid (HG3.out.trans (s4.mono HG3.out.size)); have zz4 := HG4.out.size; clear HG3; clear s4 ho4 hg4 ha4) | (at_builtin; refine wpList_push _ rfl (.tmp 24) (.tmp 25) _ rfl W.heap.size 3 i0 _ 1 8 Try.underlying22 hi0 hz0 hz1 hz2 rfl (by omega) (by omega) Ax xs.length cx 1 1 (nums .i64 xs) [.int .i64 1] (by exact Hx.out.alloc _) rfl ⟨w4.heap.size, 0, none⟩ rfl rfl (World.news_of_block (cs := #[.int .i64 1]) (t := 3) (fr := (0, 0)) (by exact heap_alloc_new w4 _)) (by simp [Value.oneCell']) (by omega) (by omega) (by simp; omega) ?_; intro Ax' cx' w5 ho5 hg5 ha5 hk5; have HAn := Lib.hid (own_apart (HA.out.alloc _) hg5 PxA.out.symm); have PxAn := Lib.hid (apart_push PxA.out HA.out (by simp) ha5); have HBn := Lib.hid (own_apart (HB.out.alloc _) hg5 PxB.out.symm); have PxBn := Lib.hid (apart_push PxB.out HB.out (by simp) ha5); have HG5 := Lib.hid (below_push (HG4.out.alloc HG4.out.size _) (Hx.out.alloc _) (Nat.le_refl _) (by simp; omega) hg5); have Hxn := Lib.hid ho5; have zz5 := HG5.out.size; clear ho5 hg5 ha5 hk5 HG4 HA HB Hx PxA PxB; have HA := Lib.hid HAn.out; clear HAn; have HB := Lib.hid HBn.out; clear HBn; have Hx := Lib.hid Hxn.out; clear Hxn; have PxA := Lib.hid PxAn.out; clear PxAn; have PxB := Lib.hid PxBn.out; clear PxBn) | (at_builtin; refine wpList_appendS _ rfl (.tmp 27) (.tmp 28) _ rfl W.heap.size 3 i0 _ 1 8 Try.underlying22 hi0 hz0 hz1 hz2 rfl (by omega) (by omega) (some ⟨w5.heap.size, 0, none⟩) 0 0 [] rfl (by exact World.ownsRow_lit (base := W.heap.size) (e := 3) (size := 1) w5 #[] 0 (by omega) (by unfold maxLen; omega) rfl) w5.heap.size A2 ts.length c2 (nums .i64 ts) rfl (by exact (Reads.of_own HB.out).alloc (Nat.le_refl _) _) (nums_one _ _) (by omega) (by simp; omega) ?_; intro Ay cy w6 ho6 hg6 ha6; simp only [Nat.zero_add, List.nil_append] at ho6; have s6 : Below w5.heap.size w5 w6 := below_lit hg6 (Nat.le_refl _); have PyA := Lib.hid (apart_lit HA.out (Nat.le_refl _) (by simp) ha6); have PyB := Lib.hid (apart_lit HB.out (Nat.le_refl _) (by simp) ha6); have Pyx := Lib.hid (apart_lit Hx.out (Nat.le_refl _) (by simp) ha6); have Hy := Lib.hid ho6; replace HA := Lib.hid (own_below HA.out s6); replace HB := Lib.hid (own_below HB.out s6); replace Hx := Lib.hid (own_below Hx.out s6); have HG6 := Lib.hid (HG5.out.trans (s6.mono HG5.out.size)); have zz6 := HG6.out.size; clear HG5; clear s6 ho6 hg6 ha6) | (at_builtin; refine wpList_push _ rfl (.tmp 29) (.tmp 33) _ rfl W.heap.size 3 i0 _ 1 8 Try.underlying22 hi0 hz0 hz1 hz2 rfl (by omega) (by omega) Ay ts.length cy 1 1 (nums .i64 ts) [.int .i64 ((xs.length : Int) + 2)] (by exact Hy.out.alloc _) rfl ⟨w6.heap.size, 0, none⟩ rfl rfl (World.news_of_block (cs := #[.int .i64 ((xs.length : Int) + 2)]) (t := 3) (fr := (0, 0)) (by exact heap_alloc_new w6 _)) (by simp [Value.oneCell']) (by omega) (by omega) (by simp; omega) ?_; intro Ay' cy' w7 ho7 hg7 ha7 hk7; have HAn := Lib.hid (own_apart (HA.out.alloc _) hg7 PyA.out.symm); have PyAn := Lib.hid (apart_push PyA.out HA.out (by simp) ha7); have HBn := Lib.hid (own_apart (HB.out.alloc _) hg7 PyB.out.symm); have PyBn := Lib.hid (apart_push PyB.out HB.out (by simp) ha7); have Hxn := Lib.hid (own_apart (Hx.out.alloc _) hg7 Pyx.out.symm); have Pyxn := Lib.hid (apart_push Pyx.out Hx.out (by simp) ha7); have HG7 := Lib.hid (below_push (HG6.out.alloc HG6.out.size _) (Hy.out.alloc _) (Nat.le_refl _) (by simp; omega) hg7); have Hyn := Lib.hid ho7; have zz7 := HG7.out.size; clear ho7 hg7 ha7 hk7 HG6 HA HB Hx Hy PyA PyB Pyx; have HA := Lib.hid HAn.out; clear HAn; have HB := Lib.hid HBn.out; clear HBn; have Hx := Lib.hid Hxn.out; clear Hxn; have Hy := Lib.hid Hyn.out; clear Hyn; have PyA := Lib.hid PyAn.out; clear PyAn; have PyB := Lib.hid PyBn.out; clear PyBn; have Pyx := Lib.hid Pyxn.out; clear Pyxn))
      have e1 : nums .i64 xs ++ [.int .i64 1] = nums .i64 (xs ++ [1]) := by simp [nums]
      have e2 : nums .i64 ts ++ [.int .i64 ((xs.length : Int) + 2)] = nums .i64 (ts ++ [(xs.length : Int) + 2]) := by simp [nums]
      have R1 := Reads.of_own Hx.out
      have R2 := Reads.of_own Hy.out
      rw [e1] at R1
      rw [e2] at R2
      have HV := Lib.hid (implJumpsValid_any (A1 := Ax') (A2 := Ay') (c1 := cx') (c2 := cy') (xs ++ [1]) (ts ++ [(xs.length : Int) + 2]) w7 (by simpa using R1) (Nat.le_refl _) (by simpa using R2) (Nat.le_refl _) (by simp; unfold maxLen; omega) (by simp; unfold maxLen; omega))
      rw [HF.out] at HV
      simp only [List.length_append, List.length_cons, List.length_nil, Nat.zero_add] at HV
      clear R1 R2 e1 e2
      refine (HV.out).mono ?_
      rintro e w8 ⟨rfl, s8⟩
      replace HA := Lib.hid (own_below HA.out s8)
      replace HB := Lib.hid (own_below HB.out s8)
      replace Hx := Lib.hid (own_below Hx.out s8)
      replace Hy := Lib.hid (own_below Hy.out s8)
      have HG8 := Lib.hid (HG7.out.trans (s8.mono HG7.out.size))
      have zz8 := HG8.out.size
      clear HG7
      clear s8
      go_wp2_with fail
      refine (alive_any _).mono ?_
      rintro e w' ⟨rfl, rfl⟩
      go_wp2
      go_ret
      exact ⟨rfl, HG8.out⟩
    · have HZ := Lib.hid (jumpsOk_zero hj)
      clear hj
      have HG3 := HBel
      clear HBel
      go_wp2_with (first | (at_builtin; refine wpList_appendS _ rfl (.tmp 22) (.tmp 23) _ rfl W.heap.size 3 i0 _ 1 8 Try.underlying22 hi0 hz0 hz1 hz2 rfl (by omega) (by omega) (some ⟨w3.heap.size, 0, none⟩) 0 0 [] rfl (by exact World.ownsRow_lit (base := W.heap.size) (e := 3) (size := 1) w3 #[] 0 (by omega) (by unfold maxLen; omega) rfl) w3.heap.size A1 xs.length c1 (nums .i64 xs) rfl (by exact (Reads.of_own HA.out).alloc (Nat.le_refl _) _) (nums_one _ _) (by omega) (by simp; omega) ?_; intro Ax cx w4 ho4 hg4 ha4; simp only [Nat.zero_add, List.nil_append] at ho4; have s4 : Below w3.heap.size w3 w4 := below_lit hg4 (Nat.le_refl _); have PxA := Lib.hid (apart_lit HA.out (Nat.le_refl _) (by simp) ha4); have PxB := Lib.hid (apart_lit HB.out (Nat.le_refl _) (by simp) ha4); have Hx := Lib.hid ho4; replace HA := Lib.hid (own_below HA.out s4); replace HB := Lib.hid (own_below HB.out s4); have HG4 := Lib.hid (HG3.out.trans (s4.mono HG3.out.size)); have zz4 := HG4.out.size; clear HG3; clear s4 ho4 hg4 ha4) | (at_builtin; refine wpList_push _ rfl (.tmp 24) (.tmp 25) _ rfl W.heap.size 3 i0 _ 1 8 Try.underlying22 hi0 hz0 hz1 hz2 rfl (by omega) (by omega) Ax xs.length cx 1 1 (nums .i64 xs) [.int .i64 1] (by exact Hx.out.alloc _) rfl ⟨w4.heap.size, 0, none⟩ rfl rfl (World.news_of_block (cs := #[.int .i64 1]) (t := 3) (fr := (0, 0)) (by exact heap_alloc_new w4 _)) (by simp [Value.oneCell']) (by omega) (by omega) (by simp; omega) ?_; intro Ax' cx' w5 ho5 hg5 ha5 hk5; have HAn := Lib.hid (own_apart (HA.out.alloc _) hg5 PxA.out.symm); have PxAn := Lib.hid (apart_push PxA.out HA.out (by simp) ha5); have HBn := Lib.hid (own_apart (HB.out.alloc _) hg5 PxB.out.symm); have PxBn := Lib.hid (apart_push PxB.out HB.out (by simp) ha5); have HG5 := Lib.hid (below_push (HG4.out.alloc HG4.out.size _) (Hx.out.alloc _) (Nat.le_refl _) (by simp; omega) hg5); have Hxn := Lib.hid ho5; have zz5 := HG5.out.size; clear ho5 hg5 ha5 hk5 HG4 HA HB Hx PxA PxB; have HA := Lib.hid HAn.out; clear HAn; have HB := Lib.hid HBn.out; clear HBn; have Hx := Lib.hid Hxn.out; clear Hxn; have PxA := Lib.hid PxAn.out; clear PxAn; have PxB := Lib.hid PxBn.out; clear PxBn) | (at_builtin; refine wpList_appendS _ rfl (.tmp 27) (.tmp 28) _ rfl W.heap.size 3 i0 _ 1 8 Try.underlying22 hi0 hz0 hz1 hz2 rfl (by omega) (by omega) (some ⟨w5.heap.size, 0, none⟩) 0 0 [] rfl (by exact World.ownsRow_lit (base := W.heap.size) (e := 3) (size := 1) w5 #[] 0 (by omega) (by unfold maxLen; omega) rfl) w5.heap.size A2 ts.length c2 (nums .i64 ts) rfl (by exact (Reads.of_own HB.out).alloc (Nat.le_refl _) _) (nums_one _ _) (by omega) (by simp; omega) ?_; intro Ay cy w6 ho6 hg6 ha6; simp only [Nat.zero_add, List.nil_append] at ho6; have s6 : Below w5.heap.size w5 w6 := below_lit hg6 (Nat.le_refl _); have PyA := Lib.hid (apart_lit HA.out (Nat.le_refl _) (by simp) ha6); have PyB := Lib.hid (apart_lit HB.out (Nat.le_refl _) (by simp) ha6); have Pyx := Lib.hid (apart_lit Hx.out (Nat.le_refl _) (by simp) ha6); have Hy := Lib.hid ho6; replace HA := Lib.hid (own_below HA.out s6); replace HB := Lib.hid (own_below HB.out s6); replace Hx := Lib.hid (own_below Hx.out s6); have HG6 := Lib.hid (HG5.out.trans (s6.mono HG5.out.size)); have zz6 := HG6.out.size; clear HG5; clear s6 ho6 hg6 ha6) | (at_builtin; refine wpList_push _ rfl (.tmp 29) (.tmp 33) _ rfl W.heap.size 3 i0 _ 1 8 Try.underlying22 hi0 hz0 hz1 hz2 rfl (by omega) (by omega) Ay ts.length cy 1 1 (nums .i64 ts) [.int .i64 ((xs.length : Int) + 2)] (by exact Hy.out.alloc _) rfl ⟨w6.heap.size, 0, none⟩ rfl rfl (World.news_of_block (cs := #[.int .i64 ((xs.length : Int) + 2)]) (t := 3) (fr := (0, 0)) (by exact heap_alloc_new w6 _)) (by simp [Value.oneCell']) (by omega) (by omega) (by simp; omega) ?_; intro Ay' cy' w7 ho7 hg7 ha7 hk7; have HAn := Lib.hid (own_apart (HA.out.alloc _) hg7 PyA.out.symm); have PyAn := Lib.hid (apart_push PyA.out HA.out (by simp) ha7); have HBn := Lib.hid (own_apart (HB.out.alloc _) hg7 PyB.out.symm); have PyBn := Lib.hid (apart_push PyB.out HB.out (by simp) ha7); have Hxn := Lib.hid (own_apart (Hx.out.alloc _) hg7 Pyx.out.symm); have Pyxn := Lib.hid (apart_push Pyx.out Hx.out (by simp) ha7); have HG7 := Lib.hid (below_push (HG6.out.alloc HG6.out.size _) (Hy.out.alloc _) (Nat.le_refl _) (by simp; omega) hg7); have Hyn := Lib.hid ho7; have zz7 := HG7.out.size; clear ho7 hg7 ha7 hk7 HG6 HA HB Hx Hy PyA PyB Pyx; have HA := Lib.hid HAn.out; clear HAn; have HB := Lib.hid HBn.out; clear HBn; have Hx := Lib.hid Hxn.out; clear Hxn; have Hy := Lib.hid Hyn.out; clear Hyn; have PyA := Lib.hid PyAn.out; clear PyAn; have PyB := Lib.hid PyBn.out; clear PyBn; have Pyx := Lib.hid Pyxn.out; clear Pyxn))
      have e1 : nums .i64 xs ++ [.int .i64 1] = nums .i64 (xs ++ [1]) := by simp [nums]
      have e2 : nums .i64 ts ++ [.int .i64 ((xs.length : Int) + 2)] = nums .i64 (ts ++ [(xs.length : Int) + 2]) := by simp [nums]
      have R1 := Reads.of_own Hx.out
      have R2 := Reads.of_own Hy.out
      rw [e1] at R1
      rw [e2] at R2
      have HV := Lib.hid (implJumpsValid_any (A1 := Ax') (A2 := Ay') (c1 := cx') (c2 := cy') (xs ++ [1]) (ts ++ [(xs.length : Int) + 2]) w7 (by simpa using R1) (Nat.le_refl _) (by simpa using R2) (Nat.le_refl _) (by simp; unfold maxLen; omega) (by simp; unfold maxLen; omega))
      rw [HF.out] at HV
      simp only [List.length_append, List.length_cons, List.length_nil, Nat.zero_add] at HV
      clear R1 R2 e1 e2
      refine (HV.out).mono ?_
      rintro e w8 ⟨rfl, s8⟩
      replace HA := Lib.hid (own_below HA.out s8)
      replace HB := Lib.hid (own_below HB.out s8)
      replace Hx := Lib.hid (own_below Hx.out s8)
      replace Hy := Lib.hid (own_below Hy.out s8)
      have HG8 := Lib.hid (HG7.out.trans (s8.mono HG7.out.size))
      have zz8 := HG8.out.size
      clear HG7
      clear s8
      clear Hx Hy HB HAP PxA PxB PyA PyB Pyx
      obtain ⟨w9, hmk, ho9, hg9⟩ := run_make_full (P := Try.prog) w8 w8.heap.size 22 3 i0 _ 1 Try.underlying22 hi0 hz0 hz1 .i64 .i64 xs.length (by rw [hz2]; omega) (by unfold maxLen; omega) (Nat.le_refl _)
      have s9 : Below w8.heap.size w8 w9 := (Below.refl _ _).grown hg9 (Nat.le_refl _) (by simp)
      have e9 : (madeCells (Value.int .i64 0).cells (xs.length * 1)).toList = nums .i64 (List.replicate xs.length 0) := by
        have := toList_madeCells_one (.int .i64 0) (xs.length * 1)
        simpa [nums, Value.cells] using this
      rw [e9] at ho9
      have HV := Lib.hid (implJumpsValid_any (A1 := A1) (c1 := c1) (A2 := some ⟨w8.heap.size, 0, none⟩) (c2 := xs.length) xs (List.replicate xs.length 0) w9 ((Reads.of_own HA.out).below s9) s9.size (by rw [List.length_replicate]; exact Reads.of_own ho9) (Nat.le_refl _) (by unfold maxLen; omega) (by rw [List.length_replicate]; unfold maxLen; omega))
      rw [HZ.out, List.length_replicate] at HV
      clear e9 ho9 hg9
      go_wp2_with fail
      refine HV.out.mono ?_
      rintro e w10 ⟨rfl, s10⟩
      have HG10 := Lib.hid ((HG8.out.trans (s9.mono HG8.out.size)).trans (s10.mono (Nat.le_trans HG8.out.size s9.size)))
      go_wp2_with fail
      refine (alive_any _).mono ?_
      rintro e w' ⟨rfl, rfl⟩
      go_wp2
      go_ret
      exact ⟨rfl, HG10.out⟩
  · go_enter Try.func4, Try.ntmps4
    go_wp2
    go_ret
    exact ⟨rfl, Below.refl _ _⟩
end Go.Proofs.Ytfdihhpnkmpidaa
