/- The walk of FnJumpStarts. No condition. -/
import Derived.Test.YtfdihhpnkmpidaaRows
import Derived.Test.YtfdihhpnkmpidaaBase
import Derived.Test.YtfdihhpnkmpidaaBase2
import Derived.Test.YtfdihhpnkmpidaaBase3
import Derived.Test.YtfdihhpnkmpidaaIn
import Derived.Test.YtfdihhpnkmpidaaIn2
import Derived.Test.YtfdihhpnkmpidaaFindI
import Derived.Test.YtfdihhpnkmpidaaJumpV
import Derived.Test.YtfdihhpnkmpidaaJumpS
import Derived.Test.YtfdihhpnkmpidaaJumpT
import Derived.Test.YtfdihhpnkmpidaaJumpP
import Derived.Test.YtfdihhpnkmpidaaSameI
import Derived.Test.YtfdihhpnkmpidaaAlive
import Derived.Test.YtfdihhpnkmpidaaPick
import Derived.Test.YtfdihhpnkmpidaaPick2
import Derived.Test.YtfdihhpnkmpidaaOpenC
import Derived.Test.YtfdihhpnkmpidaaDrawJ
import Derived.Test.YtfdihhpnkmpidaaDrawJ3
import Derived.WalkKit
import Derived.WalkSpells
import Derived.WalkLawsBesides
import Derived.Handy
import Derived.BigQuiet
import Derived.Deep.RegionHeld3
import Derived.Deep.DrawnRows
import Derived.Deep.QuietTactic
namespace Go.Proofs.Ytfdihhpnkmpidaa
open Go Go.RowKit


theorem reads_startsX {w : World} {B : Nat} {A : Option Addr} {xs ys : List Int} (h : Reads w B 1 A (starts xs ys).length (nums .i64 (starts xs ys))) {k : Nat} (hk : k ≤ xs.length) :
    ∃ b off, A = some ⟨b, off, none⟩ ∧ b < B ∧ w.cell? ⟨b, off + k, none⟩ = some (.int .i64 (stAt xs ys k)) := by
  have hl := starts_len xs ys
  obtain ⟨b, off, rfl, hb, hc⟩ := h.row_ (by omega) (by omega)
  refine ⟨b, off, rfl, hb, hc k _ ?_⟩
  rw [nums_get _ _ (by omega), starts_getD xs ys hk]

set_option maxRecDepth 100000 in
set_option maxHeartbeats 8000000 in
theorem FnJumpStarts_walk (W : World) (v0 : Value) (a0 : ArgCode W v0) : Calls Try.prog 6 #[v0] W (Gives W (.bool true)) := by
  obtain ⟨A, c, cs, rfl, hr, hc1, hc2, hcb⟩ := a0
  by_cases hl : cs.length ≤ 1048576
  · have HD := Lib.hid (DrawJumpStarts_any cs W hr hcb hl hc1 hc2)
    clear hcb hr
    unfold maxLen at hc2
    go_enter Try.func6, Try.ntmps6
    go_wp2_with fail
    refine HD.out.mono ?_
    rintro e w1 ⟨A1, c1, xs, A2, c2, ys, rfl, oa, ob, hap, ⟨hl1, hvx⟩, h24, hly, b1⟩
    have hr := jst_len xs ys
    have HVX := Lib.hid hvx
    have HVY := Lib.hid (wid24_vals h24)
    clear hvx h24
    have HA := Lib.hid oa
    have HB := Lib.hid ob
    have HG1 := Lib.hid b1
    have HAP := Lib.hid hap
    have zz1 := b1.size
    clear oa ob b1 hap HD
    go_wp2_with fail
    refine (implJumpStartsX_any xs ys _ (Reads.of_own HA.out) (Nat.le_refl _) (Reads.of_own HB.out) (Nat.le_refl _) (by unfold maxLen; omega) (by unfold maxLen; omega)).mono ?_
    rintro e w2 ⟨Ax, cx, rfl, o2, s2⟩
    have PxA := Lib.hid (apart_new HA.out (fun a h => (own_up o2 a h).1))
    have PxB := Lib.hid (apart_new HB.out (fun a h => (own_up o2 a h).1))
    have Hx := Lib.hid (own_base o2 HG1.out.size)
    replace HA := Lib.hid (own_below HA.out s2)
    replace HB := Lib.hid (own_below HB.out s2)
    have HG2 := Lib.hid (HG1.out.trans (s2.mono HG1.out.size))
    have zz2 := HG2.out.size
    clear HG1
    clear s2 o2
    go_wp2_with fail
    refine (specJumpStarts_any xs ys _ (Reads.of_own HA.out) (Nat.le_refl _) (Reads.of_own HB.out) (Nat.le_refl _) (by unfold maxLen; omega) (by unfold maxLen; omega)).mono ?_
    rintro e w3 ⟨Ay, cy, rfl, o3, s3⟩
    have PyA := Lib.hid (apart_new HA.out (fun a h => (own_up o3 a h).1))
    have PyB := Lib.hid (apart_new HB.out (fun a h => (own_up o3 a h).1))
    have Pyx := Lib.hid (apart_new Hx.out (fun a h => (own_up o3 a h).1))
    have Hy := Lib.hid (own_base o3 HG2.out.size)
    replace HA := Lib.hid (own_below HA.out s3)
    replace HB := Lib.hid (own_below HB.out s3)
    replace Hx := Lib.hid (own_below Hx.out s3)
    have HG3 := Lib.hid (HG2.out.trans (s3.mono HG2.out.size))
    have zz3 := HG3.out.size
    clear HG2
    clear s3 o3
    go_wp2_with fail
    refine (sameInts_any _ _ _ _ _ _ (jst xs ys) (jst xs ys) _ (Reads.of_own Hx.out) (Reads.of_own Hy.out) (by omega) (by omega)).mono ?_
    rintro e w4 ⟨rfl, s4⟩
    replace HA := Lib.hid (own_below HA.out s4)
    replace HB := Lib.hid (own_below HB.out s4)
    replace Hx := Lib.hid (own_below Hx.out s4)
    replace Hy := Lib.hid (own_below Hy.out s4)
    have HG4 := Lib.hid (HG3.out.trans (s4.mono HG3.out.size))
    have zz4 := HG4.out.size
    clear HG3
    clear s4
    rw [decide_eq_true rfl]
    clear Hy Pyx PyA PyB PxA PxB
    by_cases he : ys.length = xs.length
    · have HJ := Lib.hid (jst_yes he (by omega) HVX.out HVY.out)
      have HSL := Lib.hid (starts_len xs ys)
      have HL := Lib.hid he
      clear he
      have hz : ((xs.length : Int) + 1 == 0) = false := by simp; omega
      rw [HJ.out, HSL.out] at Hx ⊢
      clear hr
      obtain ⟨wo, hwo⟩ : ∃ wo, wo = w4 := ⟨_, rfl⟩
      rw [← hwo] at Hx HA HB HG4 ⊢
      have HRX : Hid (Reads wo wo.heap.size 1 Ax (starts xs ys).length (nums .i64 (starts xs ys))) := by rw [HSL.out]; exact Reads.of_own Hx.out
      clear hwo
      go_wp2
      clear hz
      go_loopw [6] (fun i wr => ∃ k : Nat, k ≤ xs.length ∧ i = .int .i64 k ∧ ∃ d, wr = wo.drewN d) (fun i _ => xs.length - (intOf i).toNat)
      case atStart => exact ⟨0, Nat.zero_le _, rfl, 0, rfl⟩
      case round =>
        obtain ⟨k, hk, rfl, d, rfl⟩ := hrel
        by_cases hlt : k < xs.length
        · have hlt2 : k < ys.length := by rw [HL.out]; exact hlt
          obtain ⟨a1, u1, rfl, hbl1, hx1, hcx⟩ := (Reads.of_own HA.out).at_ hlt
          obtain ⟨a2, u2, rfl, hbl2, hx2, hcy⟩ := (Reads.of_own HB.out).at_ hlt2
          rw [nums_get _ _ hlt] at hx1
          rw [nums_get _ _ hlt2] at hx2
          injection hx1 with hx1
          injection hx2 with hx2
          subst hx1 hx2
          obtain ⟨bs, offs, rfl, _, hcs1⟩ := reads_startsX HRX.out (k := k) (by omega)
          obtain ⟨bs', offs', he, _, hcs2⟩ := reads_startsX HRX.out (k := k + 1) (by omega)
          injection he with he
          injection he with he1 he2
          subst he1 he2
          have hbx := valsOk_at HVX.out hlt
          have hby := valsOk_at HVY.out hlt2
          have hd1 := stAt_bd HVX.out HVY.out HL.out k (by omega)
          have e1 := getD_eq hlt
          have e2 := getD_eq hlt2
          have hs2 : stAt xs ys (k + 1) = stAt xs ys k + xs[k] + ys[k] := by rw [stAt, e1, e2]
          rw [hs2] at hcs2
          clear e1 e2 hs2
          generalize stAt xs ys k = s1 at *
          generalize xs[k] = p at *
          generalize ys[k] = q at *
          have k0 : (0 : Int) ≤ (k : Int) := Int.natCast_nonneg _
          have k1 : (k : Int) < (xs.length : Int) := by omega
          have k2 : (k : Int) < (ys.length : Int) := by omega
          have k3 : (k : Int) < (xs.length : Int) + 1 := by omega
          have k4 : (k : Int) + 1 < (xs.length : Int) + 1 := by omega
          have k5 : (0 : Int) ≤ (k : Int) + 1 := by omega
          have k3' : (k : Int) < ((xs.length + 1 : Nat) : Int) := by omega
          have k4' : (k : Int) + 1 < ((xs.length + 1 : Nat) : Int) := by omega
          have y1 : IntKind.i64.wrap ((k : Int) + 1) = (k : Int) + 1 := IntWalk.i64_in _ (by omega)
          have y2 : IntKind.i64.wrap (s1 + p + q - s1) = p + q := by rw [IntWalk.i64_in _ (by omega)]; omega
          have y3 : IntKind.i64.wrap (p + q) = p + q := IntWalk.i64_in _ (by omega)
          have y4 : ((k : Int) + 1).toNat = k + 1 := by omega
          go_wp2
          go_quiet (fail)
          clear y1 y2 y3 y4
          go_wp2
          go_roundw
          case rel => exact ⟨k + 1, by omega, by go_num, _, rfl⟩
          case measure => simp [intOf]; omega
        · obtain rfl : k = xs.length := by omega
          obtain ⟨bs, offs, rfl, _, hcs1⟩ := reads_startsX HRX.out (k := 0) (by omega)
          have hc0 : wo.cell? ⟨bs, offs, none⟩ = some (.int .i64 0) := hcs1
          go_wp2
          go_ret
          exact ⟨rfl, below_drewN HG4.out _⟩
    · have HJ : Hid (jst xs ys = []) := jst_no (fun h => he h.1.1)
      have hne : ((xs.length : Int) != ys.length) = true := by simp [bne_iff_ne]; omega
      clear he
      rw [HJ.out]
      go_wp2_with fail
      refine (alive_any _).mono ?_
      rintro e w' ⟨rfl, rfl⟩
      go_wp2
      go_ret
      exact ⟨rfl, HG4.out⟩
  · go_enter Try.func6, Try.ntmps6
    go_wp2
    go_ret
    exact ⟨rfl, Below.refl _ _⟩
end Go.Proofs.Ytfdihhpnkmpidaa
