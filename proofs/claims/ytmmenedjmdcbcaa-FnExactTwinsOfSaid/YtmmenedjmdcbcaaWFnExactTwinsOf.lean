/- The walk of FnExactTwinsOf. No condition. -/
import Derived.Test.YtmmenedjmdcbcaaRows
import Derived.Test.YtmmenedjmdcbcaaBase
import Derived.Test.YtmmenedjmdcbcaaBase2
import Derived.Test.YtmmenedjmdcbcaaOnly
import Derived.Test.YtmmenedjmdcbcaaOpen
import Derived.Test.YtmmenedjmdcbcaaOpen2
import Derived.Test.YtmmenedjmdcbcaaIn
import Derived.Test.YtmmenedjmdcbcaaName
import Derived.Test.YtmmenedjmdcbcaaByteS
import Derived.Test.YtmmenedjmdcbcaaBulk
import Derived.Test.YtmmenedjmdcbcaaFix
import Derived.Test.YtmmenedjmdcbcaaSzF
import Derived.Test.YtmmenedjmdcbcaaSec
import Derived.Test.YtmmenedjmdcbcaaSecM
import Derived.Test.YtmmenedjmdcbcaaSecO
import Derived.Test.YtmmenedjmdcbcaaObjS
import Derived.Test.YtmmenedjmdcbcaaSecV
import Derived.Test.YtmmenedjmdcbcaaSecW
import Derived.Test.YtmmenedjmdcbcaaSym
import Derived.Test.YtmmenedjmdcbcaaSymV
import Derived.Test.YtmmenedjmdcbcaaFindSym
import Derived.Test.YtmmenedjmdcbcaaObj
import Derived.Test.YtmmenedjmdcbcaaObjM
import Derived.Test.YtmmenedjmdcbcaaGlob
import Derived.Test.YtmmenedjmdcbcaaObjI
import Derived.Test.YtmmenedjmdcbcaaObjW
import Derived.Test.YtmmenedjmdcbcaaObjP
import Derived.Test.YtmmenedjmdcbcaaEqB
import Derived.Test.YtmmenedjmdcbcaaEqF
import Derived.Test.YtmmenedjmdcbcaaAliI
import Derived.Test.YtmmenedjmdcbcaaAliS
import Derived.Test.YtmmenedjmdcbcaaTwP
import Derived.Test.YtmmenedjmdcbcaaFindSec
import Derived.Test.YtmmenedjmdcbcaaTwI
import Derived.Test.YtmmenedjmdcbcaaTwS
import Derived.Test.YtmmenedjmdcbcaaObjB
import Derived.Test.YtmmenedjmdcbcaaIntS
import Derived.Test.YtmmenedjmdcbcaaMarkT
import Derived.Test.YtmmenedjmdcbcaaMarkB
import Derived.Test.YtmmenedjmdcbcaaMarkF
import Derived.Test.YtmmenedjmdcbcaaMarkI
import Derived.Test.YtmmenedjmdcbcaaSecK
import Derived.Test.YtmmenedjmdcbcaaSymK
import Derived.WalkKit
import Derived.WalkSpells
import Derived.WalkLawsBesides
import Derived.Handy
import Derived.BigQuiet
import Derived.Deep.RegionHeld3
import Derived.Deep.DrawnRows
import Derived.Deep.QuietTactic
namespace Go.Proofs.Ytmmenedjmdcbcaa
open Go Go.RowKit

theorem Obj.Own.cap {w : World} {lo hi : Nat} {x : Obj} (h : x.Own w lo hi) : x.syms.length ≤ x.yc := by
  obtain ⟨g, m, _, _, h, _⟩ := h
  rcases h.2 with ⟨hv, h0⟩ | ⟨g', cap, cur, hv, _, _, hnc, hcm, _⟩
  · omega
  · injection hv with h1 h2 h3
    omega
theorem toObj_sp {B : Nat} (x : Obj) (w : World) (h : x.At w B) (hB : B ≤ w.heap.size) (hs : x.small) :
    Calls Try.prog 15 #[x.val] w fun e w' => ∃ y : Obj, e = .returned (.agg #[.slice y.sA y.secs.length y.sc, .slice y.yA y.syms.length y.yc]) ∧ y.v = x.v ∧ y.Own w' w.heap.size w'.heap.size ∧ Below w.heap.size w w' := toObj_any x w h hB hs
theorem below_drew1 (B : Nat) (w : World) : Below B w w.drew := ⟨(Below.refl B w).os, (Below.refl B w).tape, (Below.refl B w).output, (Below.refl B w).size, (Below.refl B w).block⟩
theorem twinsO_v {x y : Obj} (h : y.v = x.v) : twinsO y.secs y.syms = twinsO x.secs x.syms := by
  unfold twinsO
  rw [Obj.ok_v h, twinsV_v (Obj.v_eq h).1]
theorem twinsO_len (secs : List Sec) (ys : List Sym) : (twinsO secs ys).length ≤ secs.length := by
  unfold twinsO
  split
  · rw [twinsV_len]; exact Nat.le_refl _
  · simp
theorem Sec.tots_v {xs ds : List Sec} (h : ds.map Sec.v = xs.map Sec.v) : Sec.tots ds = Sec.tots xs := by
  unfold Sec.tots
  rw [map_v_congr (fun a b hab => Sec.tot_v hab) h]
set_option maxRecDepth 100000 in
set_option maxHeartbeats 8000000 in
theorem FnExactTwinsOf_walk (W : World) (v0 : Value) (a0 : ArgObjB W v0) : Calls Try.prog 6 #[v0] W (Gives W (.bool true)) := by
  obtain ⟨o, rfl, R0, hb0, hi0⟩ := a0
  have HI0 := Lib.hid hi0
  clear hi0
  have HVAL : o.val = .agg #[.slice o.sA o.secs.length o.sc, .slice o.yA o.syms.length o.yc] := rfl
  rw [HVAL]
  clear HVAL
  have K1 := Lib.hid (Blk.new W 36 #[.slice o.sA o.secs.length o.sc, .slice o.yA o.syms.length o.yc])
  have BB : Hid (Below W.heap.size W (W.alloc (.cells #[.slice o.sA o.secs.length o.sc, .slice o.yA o.syms.length o.yc] 36))) := (Below.refl _ _).alloc (Nat.le_refl _) _
  have hrl : (twinsO o.secs o.syms).length ≤ o.secs.length := twinsO_len _ _
  by_cases hz : o.tot ≤ 1048576
  · have HR := Lib.hid (szRes_pos hz)
    have HSM := Lib.hid (Obj.small_of hz)
    have hol : o.secs.length ≤ 1048576 := HSM.out.1
    go_enter Try.func6, Try.ntmps6
    go_wp2_with fail
    refine (szObj_any o 1048576 _ (R0.below BB.out) BB.out.size hb0 (by omega) (by omega)).mono ?_
    rintro e w1 ⟨rfl, s1⟩
    rw [HR.out]
    have b1 : Below W.heap.size W w1 := BB.out.trans (s1.mono BB.out.size)
    have z1 := s1.size
    have HA := Lib.hid (K1.out.below s1 K1.out.lt)
    have zlt := HA.out.lt
    clear s1 K1 BB
    have ea0 : w1.cell? ⟨W.heap.size, 0, none⟩ = some (.slice o.sA o.secs.length o.sc) := HA.out.cell 0
    have ea1 : w1.cell? ⟨W.heap.size, 1, none⟩ = some (.slice o.yA o.syms.length o.yc) := HA.out.cell 1
    go_wp2_with fail
    clear ea0 ea1
    refine (toObj_sp o _ (R0.below b1) b1.size HSM.out).mono ?_
    rintro e w2 ⟨y, rfl, hvy, qy, s2⟩
    have HA' := Lib.hid (HA.out.below s2 HA.out.lt)
    clear HA
    have HA := HA'
    clear HA'
    have b2 : Below W.heap.size W w2 := b1.trans (s2.mono b1.size)
    have z2 := s2.size
    have zz2 : W.heap.size ≤ w2.heap.size := b2.size
    clear s2
    have Vy := Lib.hid hvy
    have Sy := Lib.hid (Obj.small_v hvy HSM.out)
    clear hvy
    have HC := Lib.hid (specTwins_any y _ qy.at_ (Nat.le_refl _) Sy.out)
    rw [twinsO_v Vy.out] at HC
    go_wp2_with fail
    refine HC.out.mono ?_
    rintro e w3 ⟨Aw0, cw0, rfl, ow0, s3⟩
    clear HC
    have HA' := Lib.hid (HA.out.below s3 HA.out.lt)
    clear HA
    have HA := HA'
    clear HA'
    have b3 : Below W.heap.size W w3 := b2.trans (s3.mono b2.size)
    have z3 := s3.size
    have zz3 : W.heap.size ≤ w3.heap.size := b3.size
    clear s3
    have uw0 := own_up ow0
    clear qy Vy Sy
    have ea0 : w3.cell? ⟨W.heap.size, 0, none⟩ = some (.slice o.sA o.secs.length o.sc) := HA.out.cell 0
    have ea1 : w3.cell? ⟨W.heap.size, 1, none⟩ = some (.slice o.yA o.syms.length o.yc) := HA.out.cell 1
    go_wp2_with fail
    clear ea0 ea1
    refine (toObj_sp o _ (R0.below b3) b3.size HSM.out).mono ?_
    rintro e w4 ⟨x, rfl, hvx, qx, s4⟩
    have HA' := Lib.hid (HA.out.below s4 HA.out.lt)
    clear HA
    have HA := HA'
    clear HA'
    replace ow0 := own_below ow0 s4
    have b4 : Below W.heap.size W w4 := b3.trans (s4.mono b3.size)
    have z4 := s4.size
    have zz4 : W.heap.size ≤ w4.heap.size := b4.size
    clear s4
    have Vx := Lib.hid hvx
    have Sx := Lib.hid (Obj.small_v hvx HSM.out)
    clear hvx
    have qxh : Hid (x.Own w4 w3.heap.size w4.heap.size) := qx
    have ea0 : w4.cell? ⟨W.heap.size, 0, none⟩ = some (.slice o.sA o.secs.length o.sc) := HA.out.cell 0
    have ea1 : w4.cell? ⟨W.heap.size, 1, none⟩ = some (.slice o.yA o.syms.length o.yc) := HA.out.cell 1
    go_wp2_with fail
    clear ea0 ea1 qxh
    obtain ⟨w5, hw5⟩ : ∃ w5, w5 = (w4.alloc (.cells #[.slice x.sA x.secs.length x.sc, .slice x.yA x.syms.length x.yc] 26)) := ⟨_, rfl⟩
    have s5 : Below w4.heap.size w4 w5 := by rw [hw5]; exact (Below.refl w4.heap.size w4).alloc (Nat.le_refl _) (.cells #[.slice x.sA x.secs.length x.sc, .slice x.yA x.syms.length x.yc] 26)
    have HX : Hid (Blk w5 w4.heap.size 26 #[.slice x.sA x.secs.length x.sc, .slice x.yA x.syms.length x.yc]) := by
      have h := Blk.new w4 26 #[.slice x.sA x.secs.length x.sc, .slice x.yA x.syms.length x.yc]
      rw [hw5]
      simpa [Hid] using h
    rw [← hw5]
    clear hw5
    have HA' := Lib.hid (HA.out.below s5 HA.out.lt)
    clear HA
    have HA := HA'
    clear HA'
    replace qx := qx.below s5
    replace ow0 := own_below ow0 s5
    have b5 : Below W.heap.size W w5 := b4.trans (s5.mono b4.size)
    have z5 := s5.size
    have zz5 : W.heap.size ≤ w5.heap.size := b5.size
    clear s5
    have zx5 := HX.out.lt
    have HC := Lib.hid (implTwins_any x _ qx.at_ (Nat.le_refl _) Sx.out (Obj.Own.cap qx) (Obj.bytes_v Vx.out HI0.out))
    rw [twinsO_v Vx.out] at HC
    refine HC.out.mono ?_
    rintro e w6 ⟨Ag0, cg0, rfl, og0, s6⟩
    clear HC
    have HA' := Lib.hid (HA.out.below s6 HA.out.lt)
    clear HA
    have HA := HA'
    clear HA'
    have HX' := Lib.hid (HX.out.below s6 HX.out.lt)
    clear HX
    have HX := HX'
    clear HX'
    replace qx := qx.below s6
    replace ow0 := own_below ow0 s6
    have b6 : Below W.heap.size W w6 := b5.trans (s6.mono b5.size)
    have z6 := s6.size
    have zz6 : W.heap.size ≤ w6.heap.size := b6.size
    clear s6
    have ug0 := own_up og0
    go_wp2_with fail
    refine (eqIntS_any _ _ _ _ _ _ _ _ _ (Reads.of_own og0) (Reads.of_own ow0) (by omega) (by omega)).mono ?_
    rintro e w7 ⟨rfl, s7⟩
    rw [decide_eq_true rfl]
    have HA' := Lib.hid (HA.out.below s7 HA.out.lt)
    clear HA
    have HA := HA'
    clear HA'
    have HX' := Lib.hid (HX.out.below s7 HX.out.lt)
    clear HX
    have HX := HX'
    clear HX'
    replace qx := qx.below s7
    replace ow0 := own_below ow0 s7
    replace og0 := own_below og0 s7
    have b7 : Below W.heap.size W w7 := b6.trans (s7.mono b6.size)
    have z7 := s7.size
    have zz7 : W.heap.size ≤ w7.heap.size := b7.size
    clear s7
    have ea0 : w7.cell? ⟨W.heap.size, 0, none⟩ = some (.slice o.sA o.secs.length o.sc) := HA.out.cell 0
    have ea1 : w7.cell? ⟨W.heap.size, 1, none⟩ = some (.slice o.yA o.syms.length o.yc) := HA.out.cell 1
    have ex0 : w7.cell? ⟨w4.heap.size, 0, none⟩ = some (.slice x.sA x.secs.length x.sc) := HX.out.cell 0
    have ex1 : w7.cell? ⟨w4.heap.size, 1, none⟩ = some (.slice x.yA x.syms.length x.yc) := HX.out.cell 1
    go_wp2
    have rb7 : W.heap.size ≤ w7.drew.heap.size := b7.size
    go_region_held3 (fun w' => w'.cell? ⟨W.heap.size, 0, none⟩ = some (.slice o.sA o.secs.length o.sc) ∧ w'.cell? ⟨W.heap.size, 1, none⟩ = some (.slice o.yA o.syms.length o.yc) ∧ w'.cell? ⟨w4.heap.size, 0, none⟩ = some (.slice x.sA x.secs.length x.sc) ∧ w'.cell? ⟨w4.heap.size, 1, none⟩ = some (.slice x.yA x.syms.length x.yc)) (first | exact ⟨HA9.cell 0, HA9.cell 1, HX9.cell 0, HX9.cell 1⟩ | exact ⟨HA8.cell 0, HA8.cell 1, HX8.cell 0, HX8.cell 1⟩ | exact ⟨ea0, ea1, ex0, ex1⟩) (first | (go_at_call 15; refine (toObj_sp o _ ((R0.below b7).below (below_drew1 _ _)) rb7 HSM.out).mono ?_; rintro e w8 ⟨t, rfl, hvt, qt, s8⟩; have HA8 := HA.out.drew.below s8 HA.out.lt; have HX8 := HX.out.drew.below s8 HX.out.lt) | (go_at_call 16; refine (eqObj_same x t _ (Vx.out.trans hvt.symm) (Obj.Own.below (w := w7.drew) qx s8).at_ qt.at_ (Nat.le_refl _) (Nat.le_refl _) Sx.out).mono ?_; rintro e w9 ⟨rfl, s9⟩; have HA9 := HA8.below s9 HA8.lt; have HX9 := HX8.below s9 HX8.lt))
    have t8 : Below w7.heap.size w7 w8 := ⟨s8.os, s8.tape, s8.output, s8.size, s8.block⟩
    clear ea0 ea1 ex0 ex1 HA8 HX8 HA9 HX9 s8 qt hvt
    have HA' := Lib.hid (HA.out.below t8 HA.out.lt)
    clear HA
    have HA := HA'
    clear HA'
    have HX' := Lib.hid (HX.out.below t8 HX.out.lt)
    clear HX
    have HX := HX'
    clear HX'
    replace qx := qx.below t8
    replace ow0 := own_below ow0 t8
    replace og0 := own_below og0 t8
    have b8 : Below W.heap.size W w8 := b7.trans (t8.mono b7.size)
    have z8 := t8.size
    have zz8 : W.heap.size ≤ w8.heap.size := b8.size
    clear t8
    have HA' := Lib.hid (HA.out.below s9 HA.out.lt)
    clear HA
    have HA := HA'
    clear HA'
    have HX' := Lib.hid (HX.out.below s9 HX.out.lt)
    clear HX
    have HX := HX'
    clear HX'
    replace qx := qx.below s9
    replace ow0 := own_below ow0 s9
    replace og0 := own_below og0 s9
    have b9 : Below W.heap.size W w9 := b8.trans (s9.mono b8.size)
    have z9 := s9.size
    have zz9 : W.heap.size ≤ w9.heap.size := b9.size
    clear s9
    have ex0 : w9.cell? ⟨w4.heap.size, 0, none⟩ = some (.slice x.sA x.secs.length x.sc) := HX.out.cell 0
    have ex1 : w9.cell? ⟨w4.heap.size, 1, none⟩ = some (.slice x.yA x.syms.length x.yc) := HX.out.cell 1
    have hcnb := Sec.cnts_bd x.secs
    have htn : (x.secs.length : Int) + Sec.tots x.secs ≤ 1048576 := by
      rw [Sec.tots_v (Obj.v_eq Vx.out).1, secs_len (Obj.v_eq Vx.out).1]
      have h1 := hz
      unfold Obj.tot at h1
      have h2 := bulk_nonneg (o.syms.map Sym.name)
      omega
    have hsl : x.secs.length ≤ 1048576 := Sx.out.1
    go_wp2_with fail
    clear ex0 ex1
    refine (markObj_any x 1 _ qx (by omega) (by omega) (by omega) Sx.out).mono ?_
    rintro e w10 ⟨km, rfl, ⟨hkm0, hkm1⟩, on10, z10⟩
    have b10 : Below W.heap.size W w10 := below_only b9 on10 (by omega) b9.size
    have HA' : Hid (Blk w10 W.heap.size 36 #[.slice o.sA o.secs.length o.sc, .slice o.yA o.syms.length o.yc]) := blk_only HA.out on10 (Or.inl (by omega))
    clear HA
    have HA := HA'
    clear HA' HX qx Vx Sx zx5 hcnb htn hsl
    replace ow0 := own_only ow0 on10 (fun a ha => by have := uw0 a ha; omega)
    replace og0 := own_only og0 on10 (fun a ha => by have := ug0 a ha; omega)
    clear on10
    go_wp2_with fail
    refine (eqIntS_any _ _ _ _ _ _ _ _ _ (Reads.of_own og0) (Reads.of_own ow0) (by omega) (by omega)).mono ?_
    rintro e w11 ⟨rfl, s11⟩
    rw [decide_eq_true rfl]
    have HA' := Lib.hid (HA.out.below s11 HA.out.lt)
    clear HA
    have HA := HA'
    clear HA'
    replace ow0 := own_below ow0 s11
    replace og0 := own_below og0 s11
    have b11 : Below W.heap.size W w11 := b10.trans (s11.mono b10.size)
    have z11 := s11.size
    have zz11 : W.heap.size ≤ w11.heap.size := b11.size
    clear s11
    go_wp2_with fail
    refine (markIntS_any _ _ _ _ 1 _ _ og0 (by omega) (by omega) (by omega)).mono ?_
    rintro e w12 ⟨rfl, n12, g12⟩
    have b12 : Below W.heap.size W w12 := below_marks b11 og0 (by omega) g12
    have z12 := g12.size
    have zz12 : W.heap.size ≤ w12.heap.size := b12.size
    have HA' : Hid (Blk w12 W.heap.size 36 #[.slice o.sA o.secs.length o.sc, .slice o.yA o.syms.length o.yc]) := HA.out.grown g12 (by cases Ag0 with
      | none => simp
      | some a => have := ug0 a rfl; simp only [Option.map_some, ne_eq, Option.some.injEq]; omega)
    clear HA
    have HA := HA'
    clear HA'
    replace ow0 := own_other ow0 g12 (fun a a2 h1 h2 => by have p1 := uw0 a h1; have p2 := ug0 a2 h2; omega)
    clear og0
    have og0 := n12
    clear n12 g12
    go_wp2_with fail
    refine (heldIntS_any _ _ _ _ 1 _ (Reads.of_own og0) (by omega) (by omega) (by omega)).mono ?_
    rintro e w13 ⟨rfl, s13⟩
    have HA' := Lib.hid (HA.out.below s13 HA.out.lt)
    clear HA
    have HA := HA'
    clear HA'
    replace ow0 := own_below ow0 s13
    replace og0 := own_below og0 s13
    have b13 : Below W.heap.size W w13 := b12.trans (s13.mono b12.size)
    have z13 := s13.size
    have zz13 : W.heap.size ≤ w13.heap.size := b13.size
    clear s13
    have ea0 : w13.cell? ⟨W.heap.size, 0, none⟩ = some (.slice o.sA o.secs.length o.sc) := HA.out.cell 0
    have ea1 : w13.cell? ⟨W.heap.size, 1, none⟩ = some (.slice o.yA o.syms.length o.yc) := HA.out.cell 1
    go_wp2_with fail
    clear ea0 ea1
    refine (toObj_sp o _ (R0.below b13) b13.size HSM.out).mono ?_
    rintro e w14 ⟨t, rfl, hvt, qt, s14⟩
    have HA' := Lib.hid (HA.out.below s14 HA.out.lt)
    clear HA
    have HA := HA'
    clear HA'
    replace ow0 := own_below ow0 s14
    replace og0 := own_below og0 s14
    have b14 : Below W.heap.size W w14 := b13.trans (s14.mono b13.size)
    have z14 := s14.size
    have zz14 : W.heap.size ≤ w14.heap.size := b14.size
    clear s14
    have Vt := Lib.hid hvt
    have St := Lib.hid (Obj.small_v hvt HSM.out)
    clear hvt
    have HC := Lib.hid (implTwins_any t _ qt.at_ (Nat.le_refl _) St.out (Obj.Own.cap qt) (Obj.bytes_v Vt.out HI0.out))
    rw [twinsO_v Vt.out] at HC
    go_wp2_with fail
    refine HC.out.mono ?_
    rintro e w15 ⟨Ah0, ch0, rfl, oh0, s15⟩
    clear HC
    have HA' := Lib.hid (HA.out.below s15 HA.out.lt)
    clear HA
    have HA := HA'
    clear HA'
    replace ow0 := own_below ow0 s15
    replace og0 := own_below og0 s15
    have b15 : Below W.heap.size W w15 := b14.trans (s15.mono b14.size)
    have z15 := s15.size
    have zz15 : W.heap.size ≤ w15.heap.size := b15.size
    clear s15
    have uh0 := own_up oh0
    clear qt Vt St
    go_wp2_with fail
    refine (eqIntS_any _ _ _ _ _ _ _ _ _ (Reads.of_own oh0) (Reads.of_own ow0) (by omega) (by omega)).mono ?_
    rintro e w16 ⟨rfl, s16⟩
    rw [decide_eq_true rfl]
    have HA' := Lib.hid (HA.out.below s16 HA.out.lt)
    clear HA
    have HA := HA'
    clear HA'
    replace ow0 := own_below ow0 s16
    replace og0 := own_below og0 s16
    replace oh0 := own_below oh0 s16
    have b16 : Below W.heap.size W w16 := b15.trans (s16.mono b15.size)
    have z16 := s16.size
    have zz16 : W.heap.size ≤ w16.heap.size := b16.size
    clear s16
    go_wp2_with fail
    refine (heldIntS_any _ _ _ _ 1 _ (Reads.of_own og0) (by omega) (by omega) (by omega)).mono ?_
    rintro e w17 ⟨rfl, s17⟩
    have HA' := Lib.hid (HA.out.below s17 HA.out.lt)
    clear HA
    have HA := HA'
    clear HA'
    replace ow0 := own_below ow0 s17
    replace og0 := own_below og0 s17
    replace oh0 := own_below oh0 s17
    have b17 : Below W.heap.size W w17 := b16.trans (s17.mono b16.size)
    have z17 := s17.size
    have zz17 : W.heap.size ≤ w17.heap.size := b17.size
    clear s17
    go_wp2
    go_ret
    exact ⟨rfl, b17⟩
  · have HR := Lib.hid (szRes_neg (left := 1048576) (total := o.tot) (by omega))
    go_enter Try.func6, Try.ntmps6
    go_wp2_with fail
    refine (szObj_any o 1048576 _ (R0.below BB.out) BB.out.size hb0 (by omega) (by omega)).mono ?_
    rintro e w1 ⟨rfl, s1⟩
    rw [HR.out]
    have b1 : Below W.heap.size W w1 := BB.out.trans (s1.mono BB.out.size)
    go_wp2
    go_ret
    exact ⟨rfl, b1⟩
end Go.Proofs.Ytmmenedjmdcbcaa
