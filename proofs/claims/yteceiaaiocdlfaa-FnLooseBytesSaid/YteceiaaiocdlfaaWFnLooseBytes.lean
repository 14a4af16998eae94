/- The walk of FnLooseBytes. No condition. -/
import Derived.Test.YteceiaaiocdlfaaRows
import Derived.Test.YteceiaaiocdlfaaBase
import Derived.Test.YteceiaaiocdlfaaBase2
import Derived.Test.YteceiaaiocdlfaaBase3
import Derived.Test.YteceiaaiocdlfaaIn
import Derived.Test.YteceiaaiocdlfaaSqz
import Derived.Test.YteceiaaiocdlfaaRepB
import Derived.Test.YteceiaaiocdlfaaFill
import Derived.Test.YteceiaaiocdlfaaLooP
import Derived.Test.YteceiaaiocdlfaaLoo
import Derived.Test.YteceiaaiocdlfaaLooQ
import Derived.Test.YteceiaaiocdlfaaAlive
import Derived.Test.YteceiaaiocdlfaaSameB
import Derived.Test.YteceiaaiocdlfaaPick
import Derived.Test.YteceiaaiocdlfaaPick2
import Derived.Test.YteceiaaiocdlfaaOpenC
import Derived.Test.YteceiaaiocdlfaaDrawLo
import Derived.Test.YteceiaaiocdlfaaBent
import Derived.Test.YteceiaaiocdlfaaDrawLp
import Derived.WalkKit
import Derived.WalkSpells
import Derived.WalkLawsBesides
import Derived.Handy
import Derived.BigQuiet
import Derived.Deep.RegionHeld3
import Derived.Deep.DrawnRows
import Derived.Deep.QuietTactic
namespace Go.Proofs.Yteceiaaiocdlfaa
open Go Go.RowKit

theorem loose_more {A : Option Addr} {c base : Nat} (bs : List Int) (w : World) (h : w.ownsRow base 5 1 (.slice A (bs.length + 1) c) (bs.length + 1) (nums .u8 bs ++ [.int .u8 1])) (hm : bs.length ≤ 1048576) (hx : isB bs) (hk : looOk (bs ++ [1]) = false) :
    Calls Try.prog 41 #[.slice A (bs.length + 1) c] w fun e w' => ∃ A' c', e = .returned (.tuple #[.slice A' 0 c', .bool false]) ∧ Below w.heap.size w w' := by
  have el : (bs ++ [1]).length = bs.length + 1 := by simp
  have ee : nums .u8 (bs ++ [1]) = nums .u8 bs ++ [.int .u8 1] := by simp [nums]
  have hcap := own_capB h
  have hh := implLoose_any (A1 := A) (c1 := c) (bs ++ [1]) w (by rw [el, ee]; exact Reads.of_own h) (Nat.le_refl _) (by omega) (by omega) hcap.2 (isB_snoc hx (by omega) (by omega))
  rw [el, hk, loo_no hk] at hh
  refine hh.mono ?_
  rintro e w' ⟨A', c', rfl, _, s⟩
  exact ⟨A', c', rfl, s⟩
set_option maxRecDepth 100000 in
set_option maxHeartbeats 8000000 in
theorem FnLooseBytes_walk (W : World) (v0 : Value) (a0 : ArgCode W v0) : Calls Try.prog 12 #[v0] W (Gives W (.bool true)) := by
  obtain ⟨A, c, cs, rfl, hr, hc1, hc2, hcb⟩ := a0
  obtain ⟨i0, hi0, hz0, hz1, hz2⟩ := info_parts byte_info
  by_cases hl : cs.length ≤ 1048576
  · have HD := Lib.hid (DrawLooseBytes_any cs W hr hcb hl hc1 hc2)
    clear hcb hr
    unfold maxLen at hc2
    go_enter Try.func12, Try.ntmps12
    go_wp2_with fail
    refine HD.out.mono ?_
    rintro e w1 ⟨A1, c1, bs, rfl, o1, hlb, hq, b1⟩
    have HQ := Lib.hid hq
    have HA := Lib.hid o1
    have HG1 := Lib.hid b1
    have zz1 := b1.size
    clear o1 b1 hq HD
    have hll := looL_cap bs
    have HC := Lib.hid (own_capB HA.out)
    go_wp2_with fail
    refine (implLoose_any bs _ (Reads.of_own HA.out) (Nat.le_refl _) (by omega) HC.out.1 HC.out.2 HQ.out).mono ?_
    rintro e w2 ⟨Ax, cx, rfl, o2, s2⟩
    have PxA := Lib.hid (apart_new HA.out (fun a h => (own_up o2 a h).1))
    have Hx := Lib.hid (own_base o2 HG1.out.size)
    replace HA := Lib.hid (own_below HA.out s2)
    have HG2 := Lib.hid (HG1.out.trans (s2.mono HG1.out.size))
    have zz2 := HG2.out.size
    clear HG1
    clear s2 o2
    go_wp2_with fail
    refine (specLoose_any bs _ (Reads.of_own HA.out) (Nat.le_refl _) (by omega) HC.out.1 HC.out.2 HQ.out).mono ?_
    rintro e w3 ⟨Ay, cy, rfl, o3, s3⟩
    have PyA := Lib.hid (apart_new HA.out (fun a h => (own_up o3 a h).1))
    have Pyx := Lib.hid (apart_new Hx.out (fun a h => (own_up o3 a h).1))
    have Hy := Lib.hid (own_base o3 HG2.out.size)
    replace HA := Lib.hid (own_below HA.out s3)
    replace Hx := Lib.hid (own_below Hx.out s3)
    have HG3 := Lib.hid (HG2.out.trans (s3.mono HG2.out.size))
    have zz3 := HG3.out.size
    clear HG2
    clear s3 o3
    go_wp2_with fail
    refine (sameBytes_any _ _ _ _ _ _ (looL bs) (looL bs) _ (Reads.of_own Hx.out) (Reads.of_own Hy.out) (by omega) (by omega)).mono ?_
    rintro e w4 ⟨rfl, s4⟩
    replace HA := Lib.hid (own_below HA.out s4)
    replace Hx := Lib.hid (own_below Hx.out s4)
    replace Hy := Lib.hid (own_below Hy.out s4)
    have HG4 := Lib.hid (HG3.out.trans (s4.mono HG3.out.size))
    have zz4 := HG4.out.size
    clear HG3
    clear s4
    rw [decide_eq_true rfl]
    clear Hy PyA Pyx
    cases hk : looOk bs
    · have HE := Lib.hid (loo_no hk)
      clear hk
      rw [HE.out] at Hx ⊢
      go_wp2_with fail
      refine (alive_any _).mono ?_
      rintro e w' ⟨rfl, rfl⟩
      go_wp2
      go_ret
      exact ⟨rfl, HG4.out⟩
    · skip
      have HM := Lib.hid (loo_more hk)
      have HML := Lib.hid (loo_no HM.out)
      have HSL := Lib.hid (squeeze_loo hk)
      have hsl := squeeze_len (looL bs)
      clear hk
      go_wp2_with (first | (at_builtin; refine wpList_appendS _ rfl (.tmp 43) (.tmp 44) _ rfl W.heap.size 5 i0 _ 1 1 Try.underlying28 hi0 hz0 hz1 hz2 rfl (by omega) (by omega) (some ⟨w4.heap.size, 0, none⟩) 0 0 [] rfl (by exact World.ownsRow_lit (base := W.heap.size) (e := 5) (size := 1) w4 #[] 0 (by omega) (by unfold maxLen; omega) rfl) w4.heap.size A1 bs.length c1 (nums .u8 bs) rfl (by exact (Reads.of_own HA.out).alloc (Nat.le_refl _) _) (nums_one _ _) (by omega) (by simp; omega) ?_; intro Am cm w5 ho5 hg5 ha5; simp only [Nat.zero_add, List.nil_append] at ho5; have s5 : Below w4.heap.size w4 w5 := below_lit hg5 (Nat.le_refl _); have PmA := Lib.hid (apart_lit HA.out (Nat.le_refl _) (by simp) ha5); have Pmx := Lib.hid (apart_lit Hx.out (Nat.le_refl _) (by simp) ha5); have Hm := Lib.hid ho5; replace HA := Lib.hid (own_below HA.out s5); replace Hx := Lib.hid (own_below Hx.out s5); have HG5 := Lib.hid (HG4.out.trans (s5.mono HG4.out.size)); have zz5 := HG5.out.size; clear HG4; clear s5 ho5 hg5 ha5) | (at_builtin; refine wpList_push _ rfl (.tmp 45) (.tmp 46) _ rfl W.heap.size 5 i0 _ 1 1 Try.underlying28 hi0 hz0 hz1 hz2 rfl (by omega) (by omega) Am bs.length cm 1 1 (nums .u8 bs) [.int .u8 1] (by exact Hm.out.alloc _) rfl ⟨w5.heap.size, 0, none⟩ rfl rfl (World.news_of_block (cs := #[.int .u8 1]) (t := 5) (fr := (0, 0)) (by exact heap_alloc_new w5 _)) (by simp [Value.oneCell']) (by omega) (by omega) (by simp; omega) ?_; intro Am' cm' w6 ho6 hg6 ha6 hk6; have HAn := Lib.hid (own_apart (HA.out.alloc _) hg6 PmA.out.symm); have PmAn := Lib.hid (apart_push PmA.out HA.out (by simp) ha6); have Hxn := Lib.hid (own_apart (Hx.out.alloc _) hg6 Pmx.out.symm); have Pmxn := Lib.hid (apart_push Pmx.out Hx.out (by simp) ha6); have HG6 := Lib.hid (below_push (HG5.out.alloc HG5.out.size _) (Hm.out.alloc _) (Nat.le_refl _) (by simp; omega) hg6); have Hmn := Lib.hid ho6; have zz6 := HG6.out.size; clear ho6 hg6 ha6 hk6 HG5 HA Hx Hm PmA Pmx; have HA := Lib.hid HAn.out; clear HAn; have Hx := Lib.hid Hxn.out; clear Hxn; have Hm := Lib.hid Hmn.out; clear Hmn; have PmA := Lib.hid PmAn.out; clear PmAn; have Pmx := Lib.hid Pmxn.out; clear Pmxn))
      have HMV := Lib.hid (loose_more (A := Am') (c := cm') bs w6 Hm.out (by omega) HQ.out HM.out)
      refine HMV.out.mono ?_
      rintro e w7 ⟨Az, cz, rfl, s7⟩
      have Hx7 := Lib.hid (own_below Hx.out s7)
      have HA7 := Lib.hid (own_below HA.out s7)
      have HG7 := Lib.hid (HG6.out.trans (s7.mono HG6.out.size))
      clear s7
      go_wp2_with fail
      refine (implSqueeze_any (looL bs) _ (Reads.of_own Hx7.out) (Nat.le_refl _) (by unfold maxLen; omega)).mono ?_
      rintro e w8 ⟨Aq, cq, rfl, o8, s8⟩
      rw [HSL.out] at o8 ⊢
      have HA8 := Lib.hid (own_below HA7.out s8)
      have HG8 := Lib.hid (HG7.out.trans (s8.mono HG7.out.size))
      clear s8
      go_wp2_with fail
      refine (sameBytes_any _ _ _ _ _ _ bs bs _ (Reads.of_own o8) (Reads.of_own HA8.out) (by omega) (by omega)).mono ?_
      rintro e w9 ⟨rfl, s9⟩
      rw [decide_eq_true rfl]
      have HG9 := Lib.hid (HG8.out.trans (s9.mono HG8.out.size))
      clear s9
      go_wp2
      go_ret
      exact ⟨rfl, HG9.out⟩
  · go_enter Try.func12, Try.ntmps12
    go_wp2
    go_ret
    exact ⟨rfl, Below.refl _ _⟩
end Go.Proofs.Yteceiaaiocdlfaa
