/- Contract of the reference's TwinsOf. No condition but the sizes. -/
import Derived.Test.YtmmenedjmdcbcaaRows
import Derived.Test.YtmmenedjmdcbcaaBase
import Derived.Test.YtmmenedjmdcbcaaBase2
import Derived.Test.YtmmenedjmdcbcaaOnly
import Derived.Test.YtmmenedjmdcbcaaIn
import Derived.Test.YtmmenedjmdcbcaaName
import Derived.Test.YtmmenedjmdcbcaaByteS
import Derived.Test.YtmmenedjmdcbcaaFix
import Derived.Test.YtmmenedjmdcbcaaSec
import Derived.Test.YtmmenedjmdcbcaaObjS
import Derived.Test.YtmmenedjmdcbcaaSecV
import Derived.Test.YtmmenedjmdcbcaaSecW
import Derived.Test.YtmmenedjmdcbcaaSym
import Derived.Test.YtmmenedjmdcbcaaSymV
import Derived.Test.YtmmenedjmdcbcaaFindSym
import Derived.Test.YtmmenedjmdcbcaaObj
import Derived.Test.YtmmenedjmdcbcaaGlob
import Derived.Test.YtmmenedjmdcbcaaObjI
import Derived.Test.YtmmenedjmdcbcaaObjW
import Derived.Test.YtmmenedjmdcbcaaEqB
import Derived.Test.YtmmenedjmdcbcaaEqF
import Derived.Test.YtmmenedjmdcbcaaAliI
import Derived.Test.YtmmenedjmdcbcaaAliS
import Derived.Test.YtmmenedjmdcbcaaTwP
import Derived.Test.YtmmenedjmdcbcaaFindSec
import Derived.Test.YtmmenedjmdcbcaaTwI
import Derived.WalkKit
import Derived.WalkSpells
import Derived.WalkLawsBesides
import Derived.Handy
import Derived.BigQuiet
import Derived.Deep.RegionHeld3
import Derived.Deep.DrawnRows
import Derived.Deep.QuietTactic
namespace Go.Proofs.Ytmmenedjmdcbcaa
open Go Go.RowKit

theorem twin_end {secs : List Sec} {k f : Nat} (hk : k < secs.length) (ha : ∃ h : f < secs.length, alikeV secs[f] secs[k] = true) (hb : ∀ i, (h : i < secs.length) → i < f → alikeV secs[i] secs[k] = false) : (twinsV secs)[k]'(by rw [twinsV_len]; exact hk) = (f : Int) := by
  rw [twinsV_at hk]
  obtain ⟨h1, h2⟩ := ha
  exact idxOf_at h1 (by rw [alikeV_comm]; exact h2) fun j hj hjf => by rw [alikeV_comm]; exact hb j hj hjf
set_option maxRecDepth 100000 in
set_option maxHeartbeats 8000000 in
theorem specTwins_any {B : Nat} (x : Obj) (w : World) (h : x.At w B) (hB : B ≤ w.heap.size) (hs : x.small) :
    Calls Try.prog 20 #[x.val] w (Fresh 3 1 w (twinsO x.secs x.syms).length (nums .i64 (twinsO x.secs x.syms))) := by
  obtain ⟨i0, hi0, hz0, hz1, hz2⟩ := info_parts twint_info
  have HO : Hid (∀ w', Below w.heap.size w w' → Calls Try.prog 34 #[.agg #[.slice x.sA x.secs.length x.sc, .slice x.yA x.syms.length x.yc]] w' (Gives w' (.bool (objOk x.secs x.syms)))) := fun w' hb => specObj_any x w' ((h.more hB).below hb) hb.size hs
  have H0 := Lib.hid (h.1.more hB)
  have hm := hs.1
  have HSM := Lib.hid hs.2.1
  clear h hs
  obtain ⟨secs, sA, sc, syms, yA, yc⟩ := x
  simp only [Obj.val] at *
  have B0 : Hid (Below w.heap.size w (w.alloc (.cells #[Value.slice sA secs.length sc, Value.slice yA syms.length yc] 26))) := (Below.refl _ _).alloc (Nat.le_refl _) _
  have K0 := Lib.hid ((Blk.new w 26 #[Value.slice sA secs.length sc, Value.slice yA syms.length yc]).alloc (.cells #[] 3))
  have BB : Hid (Below w.heap.size w ((w.alloc (.cells #[Value.slice sA secs.length sc, Value.slice yA syms.length yc] 26)).alloc (.cells #[] 3))) := B0.out.alloc B0.out.size _
  have O0 : Hid (((w.alloc (.cells #[Value.slice sA secs.length sc, Value.slice yA syms.length yc] 26)).alloc (.cells #[] 3)).ownsRow w.heap.size 3 1 (.slice (some ⟨w.heap.size + 1, 0, none⟩) 0 0) 0 (nums .i64 [])) := by
    have hq := World.ownsRow_lit (base := w.heap.size) (e := 3) (size := 1) (w.alloc (.cells #[Value.slice sA secs.length sc, Value.slice yA syms.length yc] 26)) #[] 0 B0.out.size (by unfold maxLen; omega) rfl
    rwa [World.size_alloc] at hq
  clear B0
  have HT1 : Hid (objOk secs syms = false → twinsO secs syms = []) := fun h => twinsO_no h
  have HT2 : Hid (objOk secs syms = true → twinsO secs syms = twinsV secs) := fun h => twinsO_yes h
  generalize twinsO secs syms = res at *
  generalize objOk secs syms = ok at *
  go_enter Try.func20, Try.ntmps20
  go_wp2
  cases ok
  · have HR := Lib.hid (HT1.out rfl)
    clear HT1 HT2
    go_loopw [3, 4] (fun v iv wr => v = .slice (some ⟨w.heap.size + 1, 0, none⟩) 0 0 ∧ iv = .int .i64 0 ∧ Hid (Below w.heap.size w wr) ∧ Hid (wr.ownsRow w.heap.size 3 1 (.slice (some ⟨w.heap.size + 1, 0, none⟩) 0 0) 0 (nums .i64 ([]))) ∧ Hid (Blk wr w.heap.size 26 #[Value.slice sA secs.length sc, Value.slice yA syms.length yc])) (fun _ _ _ => 0)
    case atStart => exact ⟨rfl, rfl, BB, O0, K0⟩
    case round =>
      clear BB O0 K0
      obtain ⟨rfl, rfl, HB, HV, HX⟩ := hrel
      have x0 := HX.out.cell 0
      have x1 := HX.out.cell 1
      by_cases hz : secs.length = 0
      · have hl2 : decide ((0 : Int) < (secs.length : Int)) = false := by simp [hz]
        go_wp2
        go_ret
        rw [HR.out]
        exact ⟨_, _, rfl, HV.out, HB.out⟩
      · have hl2 : decide ((0 : Int) < (secs.length : Int)) = true := decide_eq_true (by omega)
        have hlt : 0 < secs.length := by omega
        go_wp2_with fail
        refine (HO.out _ HB.out).mono ?_
        rintro e w1 ⟨rfl, s1⟩
        go_wp2
        go_ret
        rw [HR.out]
        exact ⟨_, _, rfl, own_below HV.out s1, HB.out.trans (s1.mono HB.out.size)⟩
  · have HR := Lib.hid (HT2.out rfl)
    clear HT1 HT2
    go_loopw [3, 4, 5, 6] (fun v iv _ _ wr => ∃ (k : Nat) (A : Option Addr) (c : Nat), k ≤ secs.length ∧ iv = .int .i64 k ∧ v = .slice A k c ∧ Hid (Below w.heap.size w wr) ∧ Hid (wr.ownsRow w.heap.size 3 1 (.slice A k c) k (nums .i64 ((twinsV secs).take k))) ∧ Hid (Blk wr w.heap.size 26 #[Value.slice sA secs.length sc, Value.slice yA syms.length yc])) (fun _ iv _ _ _ => secs.length - (intOf iv).toNat)
    case atStart => exact ⟨0, _, _, Nat.zero_le _, rfl, rfl, BB, O0, K0⟩
    case round =>
      clear BB O0 K0
      obtain ⟨k, A, c, hk, rfl, rfl, HB, HV, HX⟩ := hrel
      have x0 := HX.out.cell 0
      have x1 := HX.out.cell 1
      by_cases hlt : k < secs.length
      · have hk1 : 0 ≤ (k : Int) := Int.natCast_nonneg _
        go_wp2_with fail
        clear x0 x1
        refine (HO.out _ HB.out).mono ?_
        rintro e w1 ⟨rfl, s1⟩
        have HB1 := Lib.hid (HB.out.trans (s1.mono HB.out.size))
        have HV1 := Lib.hid (own_below HV.out s1)
        have HX1 := Lib.hid (HX.out.below s1 HX.out.lt)
        clear HB HV HX s1
        go_wp2
        go_loopw [5, 6] (fun fv jv wr => ∃ (z : Int) (f : Nat), -1 ≤ z ∧ z < (f : Int) ∧ f ≤ k ∧ jv = .int .i64 z ∧ fv = .int .i64 f ∧ Hid ((∃ h : f < secs.length, alikeV secs[f] secs[k] = true) ∧ ∀ i, (h : i < secs.length) → z < (i : Int) → i < f → alikeV secs[i] secs[k] = false) ∧ Hid (Below w.heap.size w wr) ∧ Hid (wr.ownsRow w.heap.size 3 1 (.slice A k c) k (nums .i64 ((twinsV secs).take k))) ∧ Hid (Blk wr w.heap.size 26 #[Value.slice sA secs.length sc, Value.slice yA syms.length yc])) (fun _ jv _ => (intOf jv + 1).toNat)
        case atStart => exact ⟨(k : Int) - 1, k, by omega, by omega, Nat.le_refl _, rfl, rfl, Lib.hid ⟨⟨hlt, alikeV_refl _⟩, fun i _ h1 h2 => by omega⟩, HB1, HV1, HX1⟩
        case round =>
          clear HB1 HV1 HX1
          obtain ⟨z, f, hz1', hzf, hfk, rfl, rfl, HA, HB, HV, HX⟩ := hrel
          by_cases hz : 0 ≤ z
          · obtain ⟨i, rfl⟩ := Int.eq_ofNat_of_zero_le hz
            have hi : i < secs.length := by omega
            have HAL : Hid (∀ w', Below w.heap.size w w' → Calls Try.prog 36 #[.agg #[Value.string secs[i].name, Value.int .i64 secs[i].kind, Value.int .i64 secs[i].align, Value.slice secs[i].bytesA secs[i].bytes.length secs[i].bytesc, Value.int .i64 secs[i].size, Value.slice secs[i].fixupsA secs[i].fixups.length secs[i].fixupsc], .agg #[Value.string secs[k].name, Value.int .i64 secs[k].kind, Value.int .i64 secs[k].align, Value.slice secs[k].bytesA secs[k].bytes.length secs[k].bytesc, Value.int .i64 secs[k].size, Value.slice secs[k].fixupsA secs[k].fixups.length secs[k].fixupsc]] w' (Gives w' (.bool (alikeV secs[i] secs[k])))) := fun w' hb => specAlike_any secs[i] secs[k] w' ((H0.out.2 _ (List.getElem_mem hi)).below hb) ((H0.out.2 _ (List.getElem_mem hlt)).below hb) hb.size hb.size (HSM.out _ (List.getElem_mem hi)) (HSM.out _ (List.getElem_mem hlt))
            obtain ⟨p, off, hfa, hbl, c0, c1, c2, c3, c4, c5⟩ := Sec.at_ (H0.out.below HB.out).1 hi
            obtain ⟨p2, off2, hfb, hbl2, d0, d1, d2, d3, d4, d5⟩ := Sec.at_ (H0.out.below HB.out).1 hlt
            subst hfa
            simp only [Option.some.injEq, Addr.mk.injEq] at hfb
            obtain ⟨rfl, rfl, _⟩ := hfb
            have HAN1 : Hid (alikeV secs[i] secs[k] = false → (∃ h : f < secs.length, alikeV secs[f] secs[k] = true) ∧ ∀ i', (h : i' < secs.length) → (i : Int) - 1 < (i' : Int) → i' < f → alikeV secs[i'] secs[k] = false) := fun hq => ⟨HA.out.1, fun i' h h1 h2 => by
              by_cases he : i' = i
              · subst he; exact hq
              · exact HA.out.2 i' h (by omega) h2⟩
            have HAN2 : Hid (alikeV secs[i] secs[k] = true → (∃ h : i < secs.length, alikeV secs[i] secs[k] = true) ∧ ∀ i', (h : i' < secs.length) → (i : Int) - 1 < (i' : Int) → i' < i → alikeV secs[i'] secs[k] = false) := fun hq => ⟨⟨hi, hq⟩, fun i' h h1 h2 => by omega⟩
            clear HA
            have Z0 := cell_regrown (HX.out.cell 0)
            have Z1 := cell_regrown (HX.out.cell 1)
            have bq := Lib.hid (fun d os => HB.out.trans ((below_regrown wr d os).mono HB.out.size))
            have cE := fun d os => Calls.regrown_of (w := wr) (d := d) (os := os) (HAL.out _ (bq.out d os))
            have P0 := cell_regrown c0
            have Q0 := cell_regrown d0
            have P1 := cell_regrown c1
            have Q1 := cell_regrown d1
            have P2 := cell_regrown c2
            have Q2 := cell_regrown d2
            have P3 := cell_regrown c3
            have Q3 := cell_regrown d3
            have P4 := cell_regrown c4
            have Q4 := cell_regrown d4
            have P5 := cell_regrown c5
            have Q5 := cell_regrown d5
            clear c0 c1 c2 c3 c4 c5 d0 d1 d2 d3 d4 d5 HAL bq
            have i1 : (0 : Int) ≤ (i : Int) := Int.natCast_nonneg _
            have i2 : (i : Int) < (secs.length : Int) := by omega
            have j2 : (k : Int) < (secs.length : Int) := by omega
            cases hal : alikeV secs[i] secs[k]
            · have HN := Lib.hid (HAN1.out hal)
              rw [hal] at cE
              clear HAN1 HAN2 hal
              go_wp2
              refine wp_region_quiet_below (by kernel_rfl) (by kernel_rfl) ?_
              repeat (go_big_quiet_step (with_reducible exact cE _ _))
              refine wpQuiet_nil ?_
              intro _ hw'
              obtain ⟨⟨dq, osq⟩, hw''⟩ := hw'
              subst hw''
              have hbn := below_regrown wr dq osq
              have HBN := Lib.hid (HB.out.trans (hbn.mono HB.out.size))
              have HXN := Lib.hid (HX.out.below hbn HX.out.lt)
              have HVN := Lib.hid (own_below HV.out hbn)
              clear hbn cE P0 P1 P2 P3 P4 P5 Q0 Q1 Q2 Q3 Q4 Q5 Z0 Z1 HB HX HV
              generalize Go.Sort.grow (redrawn wr dq) osq = w3 at *
              go_wp2
              go_roundw
              case rel => exact ⟨(i : Int) - 1, f, by omega, by omega, hfk, rfl, rfl, HN, HBN, HVN, HXN⟩
              case measure => simp [intOf] <;> omega
            · have HN := Lib.hid (HAN2.out hal)
              rw [hal] at cE
              clear HAN1 HAN2 hal
              go_wp2
              refine wp_region_quiet_below (by kernel_rfl) (by kernel_rfl) ?_
              repeat (go_big_quiet_step (with_reducible exact cE _ _))
              refine wpQuiet_nil ?_
              intro _ hw'
              obtain ⟨⟨dq, osq⟩, hw''⟩ := hw'
              subst hw''
              have hbn := below_regrown wr dq osq
              have HBN := Lib.hid (HB.out.trans (hbn.mono HB.out.size))
              have HXN := Lib.hid (HX.out.below hbn HX.out.lt)
              have HVN := Lib.hid (own_below HV.out hbn)
              clear hbn cE P0 P1 P2 P3 P4 P5 Q0 Q1 Q2 Q3 Q4 Q5 Z0 Z1 HB HX HV
              generalize Go.Sort.grow (redrawn wr dq) osq = w3 at *
              go_wp2
              go_roundw
              case rel => exact ⟨(i : Int) - 1, i, by omega, by omega, by omega, rfl, rfl, HN, HBN, HVN, HXN⟩
              case measure => simp [intOf] <;> omega
          · have HTE := Lib.hid (twin_end hlt HA.out.1 (fun i h hif => HA.out.2 i h (by omega) hif))
            have HTK : Hid ((twinsV secs).take (k + 1) = (twinsV secs).take k ++ [(f : Int)]) := by rw [Hid, ← HTE.out]; exact List.take_succ_eq_append_getElem (by rw [twinsV_len]; exact hlt)
            have hw2 := HB.out.size
            clear HA HTE
            go_wp2_with (at_builtin; refine wpList_push _ rfl (.tmp 38) (.tmp 40) _ rfl w.heap.size 3 i0 _ 1 8 Try.underlying42 hi0 hz0 hz1 hz2 rfl (by omega) (by omega) A k c 1 1 (nums .i64 ((twinsV secs).take k)) [.int .i64 (f : Int)] (by exact HV.out.alloc _) rfl ⟨wr.heap.size, 0, none⟩ rfl rfl (World.news_of_block (cs := #[.int .i64 (f : Int)]) (t := 3) (fr := (0, 0)) (by exact heap_alloc_new wr _)) (by simp [Value.oneCell']) (by omega) (by omega) (by simp; omega) ?_; intro A' c' w3 hown hgrow hat hkeep; have HB3 := Lib.hid (below_push (HB.out.alloc hw2 _) (HV.out.alloc _) (Nat.le_refl _) (by simp; omega) hgrow); have HX3 := Lib.hid (own_push_blk (HX.out.alloc _) hgrow (HV.out.alloc _) (by decide)); have HO3 := Lib.hid hown; clear hown hgrow hat hkeep)
            go_roundw
            case rel =>
              refine ⟨k + 1, A', c', by omega, by go_num, rfl, HB3, ?_, HX3⟩
              rw [HTK.out]
              have e : nums .i64 ((twinsV secs).take k ++ [(f : Int)]) = nums .i64 ((twinsV secs).take k) ++ [.int .i64 (f : Int)] := by simp [nums]
              rw [e]
              exact HO3
            case measure => simp [intOf]; omega
      · have HF : Hid (res = (twinsV secs).take k) := by rw [Hid, HR.out, List.take_of_length_le (by rw [twinsV_len]; omega)]
        have hkk : Hid (k = ((twinsV secs).take k).length) := by rw [Hid, List.length_take, twinsV_len]; omega
        go_wp2
        go_ret
        rw [HF.out, ← hkk.out]
        exact ⟨_, _, rfl, HV.out, HB.out⟩
end Go.Proofs.Ytmmenedjmdcbcaa
