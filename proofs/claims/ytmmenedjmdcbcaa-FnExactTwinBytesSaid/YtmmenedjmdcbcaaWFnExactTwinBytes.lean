/- The walk of FnExactTwinBytes. No condition. -/
import Derived.Test.YtmmenedjmdcbcaaRows
import Derived.Test.YtmmenedjmdcbcaaBase
import Derived.Test.YtmmenedjmdcbcaaBase2
import Derived.Test.YtmmenedjmdcbcaaOnly
import Derived.Test.YtmmenedjmdcbcaaOpen
import Derived.Test.YtmmenedjmdcbcaaOpen2
import Derived.Test.YtmmenedjmdcbcaaIn
import Derived.Test.YtmmenedjmdcbcaaName
import Derived.Test.YtmmenedjmdcbcaaByteS
import Derived.Test.YtmmenedjmdcbcaaBulk
import Derived.Test.YtmmenedjmdcbcaaFix
import Derived.Test.YtmmenedjmdcbcaaSzF
import Derived.Test.YtmmenedjmdcbcaaSec
import Derived.Test.YtmmenedjmdcbcaaSecM
import Derived.Test.YtmmenedjmdcbcaaSecO
import Derived.Test.YtmmenedjmdcbcaaObjS
import Derived.Test.YtmmenedjmdcbcaaSecV
import Derived.Test.YtmmenedjmdcbcaaSecW
import Derived.Test.YtmmenedjmdcbcaaSym
import Derived.Test.YtmmenedjmdcbcaaSymV
import Derived.Test.YtmmenedjmdcbcaaFindSym
import Derived.Test.YtmmenedjmdcbcaaObj
import Derived.Test.YtmmenedjmdcbcaaObjM
import Derived.Test.YtmmenedjmdcbcaaGlob
import Derived.Test.YtmmenedjmdcbcaaObjI
import Derived.Test.YtmmenedjmdcbcaaObjW
import Derived.Test.YtmmenedjmdcbcaaObjP
import Derived.Test.YtmmenedjmdcbcaaEqB
import Derived.Test.YtmmenedjmdcbcaaEqF
import Derived.Test.YtmmenedjmdcbcaaAliI
import Derived.Test.YtmmenedjmdcbcaaAliS
import Derived.Test.YtmmenedjmdcbcaaTwP
import Derived.Test.YtmmenedjmdcbcaaFindSec
import Derived.Test.YtmmenedjmdcbcaaTwI
import Derived.Test.YtmmenedjmdcbcaaTwS
import Derived.Test.YtmmenedjmdcbcaaTwB
import Derived.Test.YtmmenedjmdcbcaaObjB
import Derived.WalkKit
import Derived.WalkSpells
import Derived.WalkLawsBesides
import Derived.Handy
import Derived.BigQuiet
import Derived.Deep.RegionHeld3
import Derived.Deep.DrawnRows
import Derived.Deep.QuietTactic
namespace Go.Proofs.Ytmmenedjmdcbcaa
open Go Go.RowKit

theorem Obj.Own.cap {w : World} {lo hi : Nat} {x : Obj} (h : x.Own w lo hi) : x.syms.length ≤ x.yc := by
  obtain ⟨g, m, _, _, h, _⟩ := h
  rcases h.2 with ⟨hv, h0⟩ | ⟨g', cap, cur, hv, _, _, hnc, hcm, _⟩
  · omega
  · injection hv with h1 h2 h3
    omega
theorem toObj_sp {B : Nat} (x : Obj) (w : World) (h : x.At w B) (hB : B ≤ w.heap.size) (hs : x.small) :
    Calls Try.prog 15 #[x.val] w fun e w' => ∃ y : Obj, e = .returned (.agg #[.slice y.sA y.secs.length y.sc, .slice y.yA y.syms.length y.yc]) ∧ y.v = x.v ∧ y.Own w' w.heap.size w'.heap.size ∧ Below w.heap.size w w' := toObj_any x w h hB hs
theorem below_drew1 (B : Nat) (w : World) : Below B w w.drew := ⟨(Below.refl B w).os, (Below.refl B w).tape, (Below.refl B w).output, (Below.refl B w).size, (Below.refl B w).block⟩
theorem secSize_v {a b : Sec} (h : a.v = b.v) : secSize a = secSize b := by
  obtain ⟨_, h1, _, h3, h4, _⟩ := Sec.v_eq h
  unfold secSize
  rw [h1, h3, h4]
theorem twinB_v {ls ms : List Sec} (h : ls.map Sec.v = ms.map Sec.v) : ∀ k, twinB ls k = twinB ms k
  | 0 => rfl
  | k + 1 => by
    have hl := secs_len h
    have ht := twinsV_v h
    rw [twinB, twinB, twinB_v h k]
    by_cases hk : k < ls.length
    · have hk2 : k < ms.length := by omega
      rw [dif_pos hk, dif_pos hk2, secSize_v (secs_at h hk hk2)]
      have e : (twinsV ls)[k]'(by rw [twinsV_len]; exact hk) = (twinsV ms)[k]'(by rw [twinsV_len]; exact hk2) := by simp only [ht]
      rw [e]
    · rw [dif_neg hk, dif_neg (by omega)]
theorem twinBO_v {x y : Obj} (h : y.v = x.v) : twinBO y.secs y.syms = twinBO x.secs x.syms := by
  unfold twinBO
  rw [Obj.ok_v h, twinB_v (Obj.v_eq h).1, secs_len (Obj.v_eq h).1]
set_option maxRecDepth 100000 in
set_option maxHeartbeats 8000000 in
theorem FnExactTwinBytes_walk (W : World) (v0 : Value) (a0 : ArgObjB W v0)  : Calls Try.prog 8 #[v0] W (Gives W (.bool true)) := by
  obtain ⟨o, rfl, R0, hb0, hi0⟩ := a0
  have HI0 := Lib.hid hi0
  clear hi0
  have HVAL : o.val = .agg #[.slice o.sA o.secs.length o.sc, .slice o.yA o.syms.length o.yc] := rfl
  rw [HVAL]
  clear HVAL
  have K1 := Lib.hid (Blk.new W 36 #[.slice o.sA o.secs.length o.sc, .slice o.yA o.syms.length o.yc])
  have BB : Hid (Below W.heap.size W (W.alloc (.cells #[.slice o.sA o.secs.length o.sc, .slice o.yA o.syms.length o.yc] 36))) := (Below.refl _ _).alloc (Nat.le_refl _) _
  by_cases hz : o.tot ≤ 1048576
  · have HR := Lib.hid (szRes_pos hz)
    have HSM := Lib.hid (Obj.small_of hz)
    go_enter Try.func8, Try.ntmps8
    go_wp2_with fail
    refine (szObj_any o 1048576 _ (R0.below BB.out) BB.out.size hb0 (by omega) (by omega)).mono ?_
    rintro e w1 ⟨rfl, s1⟩
    rw [HR.out]
    have b1 : Below W.heap.size W w1 := BB.out.trans (s1.mono BB.out.size)
    have HA := Lib.hid (K1.out.below s1 K1.out.lt)
    clear s1 K1 BB
    have ea0 : w1.cell? ⟨W.heap.size, 0, none⟩ = some (.slice o.sA o.secs.length o.sc) := HA.out.cell 0
    have ea1 : w1.cell? ⟨W.heap.size, 1, none⟩ = some (.slice o.yA o.syms.length o.yc) := HA.out.cell 1
    go_wp2_with fail
    clear ea0 ea1
    refine (toObj_sp o _ (R0.below b1) b1.size HSM.out).mono ?_
    rintro e w2 ⟨y, rfl, hvy, qy, s2⟩
    have HA' := Lib.hid (HA.out.below s2 HA.out.lt)
    clear HA
    have HA := HA'
    clear HA'
    have b2 : Below W.heap.size W w2 := b1.trans (s2.mono b1.size)
    clear s2
    have Vy := Lib.hid hvy
    have Sy := Lib.hid (Obj.small_v hvy HSM.out)
    clear hvy
    have HC := Lib.hid (specTwinB_any y _ qy.at_ (Nat.le_refl _) Sy.out)
    rw [twinBO_v Vy.out] at HC
    have ea0 : w2.cell? ⟨W.heap.size, 0, none⟩ = some (.slice o.sA o.secs.length o.sc) := HA.out.cell 0
    have ea1 : w2.cell? ⟨W.heap.size, 1, none⟩ = some (.slice o.yA o.syms.length o.yc) := HA.out.cell 1
    go_wp2_with fail
    clear ea0 ea1
    refine HC.out.mono ?_
    rintro e w3 ⟨rfl, s3⟩
    clear HC
    have HA' := Lib.hid (HA.out.below s3 HA.out.lt)
    clear HA
    have HA := HA'
    clear HA'
    have b3 : Below W.heap.size W w3 := b2.trans (s3.mono b2.size)
    clear s3 qy Vy Sy
    have ea0 : w3.cell? ⟨W.heap.size, 0, none⟩ = some (.slice o.sA o.secs.length o.sc) := HA.out.cell 0
    have ea1 : w3.cell? ⟨W.heap.size, 1, none⟩ = some (.slice o.yA o.syms.length o.yc) := HA.out.cell 1
    go_wp2_with fail
    clear ea0 ea1
    refine (toObj_sp o _ (R0.below b3) b3.size HSM.out).mono ?_
    rintro e w4 ⟨x, rfl, hvx, qx, s4⟩
    have HA' := Lib.hid (HA.out.below s4 HA.out.lt)
    clear HA
    have HA := HA'
    clear HA'
    have b4 : Below W.heap.size W w4 := b3.trans (s4.mono b3.size)
    clear s4
    have Vx := Lib.hid hvx
    have Sx := Lib.hid (Obj.small_v hvx HSM.out)
    clear hvx
    have ea0 : w4.cell? ⟨W.heap.size, 0, none⟩ = some (.slice o.sA o.secs.length o.sc) := HA.out.cell 0
    have ea1 : w4.cell? ⟨W.heap.size, 1, none⟩ = some (.slice o.yA o.syms.length o.yc) := HA.out.cell 1
    go_wp2_with fail
    clear ea0 ea1
    obtain ⟨w5, hw5⟩ : ∃ w5, w5 = (w4.alloc (.cells #[.slice x.sA x.secs.length x.sc, .slice x.yA x.syms.length x.yc] 26)) := ⟨_, rfl⟩
    have s5 : Below w4.heap.size w4 w5 := by rw [hw5]; exact (Below.refl w4.heap.size w4).alloc (Nat.le_refl _) (.cells #[.slice x.sA x.secs.length x.sc, .slice x.yA x.syms.length x.yc] 26)
    have HX : Hid (Blk w5 w4.heap.size 26 #[.slice x.sA x.secs.length x.sc, .slice x.yA x.syms.length x.yc]) := by
      have h := Blk.new w4 26 #[.slice x.sA x.secs.length x.sc, .slice x.yA x.syms.length x.yc]
      rw [hw5]
      simpa [Hid] using h
    rw [← hw5]
    clear hw5
    have HA' := Lib.hid (HA.out.below s5 HA.out.lt)
    clear HA
    have HA := HA'
    clear HA'
    replace qx := qx.below s5
    have b5 : Below W.heap.size W w5 := b4.trans (s5.mono b4.size)
    clear s5
    have HC := Lib.hid (implTwinB_any x _ qx.at_ (Nat.le_refl _) Sx.out qx.cap (Obj.bytes_v Vx.out HI0.out))
    rw [twinBO_v Vx.out] at HC
    refine HC.out.mono ?_
    rintro e w6 ⟨rfl, s6⟩
    clear HC
    have HA' := Lib.hid (HA.out.below s6 HA.out.lt)
    clear HA
    have HA := HA'
    clear HA'
    have HX' := Lib.hid (HX.out.below s6 HX.out.lt)
    clear HX
    have HX := HX'
    clear HX'
    replace qx := qx.below s6
    have b6 : Below W.heap.size W w6 := b5.trans (s6.mono b5.size)
    clear s6
    have ea0 : w6.cell? ⟨W.heap.size, 0, none⟩ = some (.slice o.sA o.secs.length o.sc) := HA.out.cell 0
    have ea1 : w6.cell? ⟨W.heap.size, 1, none⟩ = some (.slice o.yA o.syms.length o.yc) := HA.out.cell 1
    have ex0 : w6.cell? ⟨w4.heap.size, 0, none⟩ = some (.slice x.sA x.secs.length x.sc) := HX.out.cell 0
    have ex1 : w6.cell? ⟨w4.heap.size, 1, none⟩ = some (.slice x.yA x.syms.length x.yc) := HX.out.cell 1
    go_wp2
    have rb6 : W.heap.size ≤ w6.drew.heap.size := b6.size
    go_region_held3 (fun w' => w'.cell? ⟨W.heap.size, 0, none⟩ = some (.slice o.sA o.secs.length o.sc) ∧ w'.cell? ⟨W.heap.size, 1, none⟩ = some (.slice o.yA o.syms.length o.yc) ∧ w'.cell? ⟨w4.heap.size, 0, none⟩ = some (.slice x.sA x.secs.length x.sc) ∧ w'.cell? ⟨w4.heap.size, 1, none⟩ = some (.slice x.yA x.syms.length x.yc)) (first | exact ⟨HA8.cell 0, HA8.cell 1, HX8.cell 0, HX8.cell 1⟩ | exact ⟨HA7.cell 0, HA7.cell 1, HX7.cell 0, HX7.cell 1⟩ | exact ⟨ea0, ea1, ex0, ex1⟩) (first | (go_at_call 15; refine (toObj_sp o _ ((R0.below b6).below (below_drew1 _ _)) rb6 HSM.out).mono ?_; rintro e w7 ⟨t, rfl, hvt, qt, s7⟩; have HA7 := HA.out.drew.below s7 HA.out.lt; have HX7 := HX.out.drew.below s7 HX.out.lt) | (go_at_call 16; refine (eqObj_same x t _ (Vx.out.trans hvt.symm) (Obj.Own.below (w := w6.drew) qx s7).at_ qt.at_ (Nat.le_refl _) (Nat.le_refl _) Sx.out).mono ?_; rintro e w8 ⟨rfl, s8⟩; have HA8 := HA7.below s8 HA7.lt; have HX8 := HX7.below s8 HX7.lt))
    have t7 : Below w6.heap.size w6 w7 := ⟨s7.os, s7.tape, s7.output, s7.size, s7.block⟩
    have b7 := b6.trans (t7.mono b6.size)
    have b8 := b7.trans (s8.mono b7.size)
    clear ea0 ea1 ex0 ex1 HA HX HA7 HX7 HA8 HX8 t7 s7 s8
    go_wp2
    go_ret
    exact ⟨rfl, b8⟩
  · have HR := Lib.hid (szRes_neg (left := 1048576) (total := o.tot) (by omega))
    go_enter Try.func8, Try.ntmps8
    go_wp2_with fail
    refine (szObj_any o 1048576 _ (R0.below BB.out) BB.out.size hb0 (by omega) (by omega)).mono ?_
    rintro e w1 ⟨rfl, s1⟩
    rw [HR.out]
    have b1 : Below W.heap.size W w1 := BB.out.trans (s1.mono BB.out.size)
    go_wp2
    go_ret
    exact ⟨rfl, b1⟩
end Go.Proofs.Ytmmenedjmdcbcaa
