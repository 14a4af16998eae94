/- Contracts of the two JumpWidths. No condition but the sizes. -/
import Derived.Test.YtfdihhpnkmpidaaRows
import Derived.Test.YtfdihhpnkmpidaaBase
import Derived.Test.YtfdihhpnkmpidaaBase2
import Derived.Test.YtfdihhpnkmpidaaIn
import Derived.Test.YtfdihhpnkmpidaaIn2
import Derived.Test.YtfdihhpnkmpidaaFindI
import Derived.Test.YtfdihhpnkmpidaaJumpV
import Derived.Test.YtfdihhpnkmpidaaJumpS
import Derived.Test.YtfdihhpnkmpidaaJumpT
import Derived.Test.YtfdihhpnkmpidaaJumpP
import Derived.Test.YtfdihhpnkmpidaaJumpR
import Derived.Test.YtfdihhpnkmpidaaJumpQ
import Derived.Test.YtfdihhpnkmpidaaRepI
import Derived.Deep.LoopGhost
import Derived.WalkKit
import Derived.WalkSpells
import Derived.WalkLawsBesides
import Derived.Handy
import Derived.BigQuiet
import Derived.Deep.RegionHeld3
import Derived.Deep.DrawnRows
import Derived.Deep.QuietTactic
namespace Go.Proofs.Ytfdihhpnkmpidaa
open Go Go.RowKit

theorem nums_set (k : IntKind) (l : List Int) (i : Nat) (v : Int) : (nums k l).set i (.int k v) = nums k (l.set i v) := by simp [nums, List.map_set]
theorem jwd_len (xs ts : List Int) : (jwd xs ts).length ≤ 8 := by
  unfold jwd
  split
  · rename_i h
    rw [fixW_len]
    exact (jumpsOk_parts h).1
  · simp
theorem iter0_len (xs ts : List Int) (j : Nat) : (iterW xs ts j (List.replicate xs.length 2)).length = xs.length := by rw [iterW_len]; simp
theorem iter0_24 (xs ts : List Int) (j : Nat) : wid24 (iterW xs ts j (List.replicate xs.length 2)) = true := iterW_24 xs ts j (wid24_rep _)

set_option maxRecDepth 100000 in
set_option maxHeartbeats 4000000 in
theorem implJumpWidths_any {A1 A2 : Option Addr} {c1 c2 B1 B2 : Nat} (xs ts : List Int) (w : World) (h1 : Reads w B1 1 A1 xs.length (nums .i64 xs)) (hB1 : B1 ≤ w.heap.size) (h2 : Reads w B2 1 A2 ts.length (nums .i64 ts)) (hB2 : B2 ≤ w.heap.size) (hm1 : xs.length ≤ maxLen) (hm2 : ts.length ≤ maxLen) :
    Calls Try.prog 26 #[.slice A1 xs.length c1, .slice A2 ts.length c2] w (Fresh 3 1 w (jwd xs ts).length (nums .i64 (jwd xs ts))) := by
  have HV := Lib.hid (implJumpsValid_any (c1 := c1) (c2 := c2) xs ts w h1 hB1 h2 hB2 hm1 hm2)
  unfold maxLen at hm1 hm2
  cases hj : jumpsOk xs ts
  · have HJ := Lib.hid hj
    have HR : Hid (jwd xs ts = []) := by unfold jwd; rw [hj]; exact rfl
    clear hj
    go_enter Try.func26, Try.ntmps26
    go_wp2_with fail
    refine HV.out.mono ?_
    rintro e w1 ⟨rfl, hb1⟩
    rw [HJ.out]
    go_wp2
    go_ret
    rw [HR.out]
    exact ⟨none, 0, rfl, World.ownsRow_nil _ _ _ _, hb1⟩
  · have HJ := Lib.hid hj
    obtain ⟨hm8, hlt, hvx, htr⟩ := jumpsOk_parts hj
    have HR : Hid (jwd xs ts = fixW xs ts) := by unfold jwd; rw [hj]; exact rfl
    have HTF := Lib.hid (fun (A3 : Option Addr) (c3 : Nat) (ys : List Int) (w1 : World) (hb : Below w.heap.size w w1) (hl : ys.length = xs.length) (h24 : wid24 ys = true) (ho : w1.ownsRow w.heap.size 3 1 (.slice A3 ys.length c3) ys.length (nums .i64 ys)) =>
      tooFar_any (c1 := c1) (c2 := c2) (c3 := c3) xs ts ys w1 ((h1.more hB1).below hb) hb.size ((h2.more hB2).below hb) hb.size (Reads.of_own ho) (Nat.le_refl _) hvx (wid24_vals h24) hl hlt hm8 htr)
    have HLT := Lib.hid hlt
    clear hj hvx htr hlt
    have hrep := fun (w1 : World) (g : Nat) (hk : Blk w1 g 3 #[.int .i64 2]) => repeatInt_any (A := some ⟨g, 0, none⟩) (c := 1) (B := w1.heap.size) 2 xs.length w1 ⟨rfl, fun _ => ⟨_, rfl, hk.lt, fun j u hu => by
      rw [Addr.add_lit, hk.cell, Nat.zero_add]
      simpa [nums] using hu⟩⟩ (Nat.le_refl _) (by omega)
    have HREP := Lib.hid hrep
    clear hrep
    go_enter Try.func26, Try.ntmps26
    go_wp2_with fail
    refine HV.out.mono ?_
    rintro e w1 ⟨rfl, hb1⟩
    rw [HJ.out]
    go_wp2_with fail
    refine (HREP.out _ _ (Blk.new w1 _ _)).mono ?_
    rintro e w2 ⟨A3, c3, rfl, o2, s2⟩
    have hb2 : Below w.heap.size w w2 := hb1.trans (((Below.refl _ _).alloc (Nat.le_refl _) _ |>.trans (s2.mono (by simp))).mono hb1.size)
    replace o2 := own_base (base' := w.heap.size) o2 (by have := hb1.size; simp; omega)
    clear s2 hb1 HREP HV
    go_wp2
    go_loopg [6] (xs.length + 1) (fun gk _ wr => ∃ j : Nat, twos (iterW xs ts j (List.replicate xs.length 2)) ≤ gk ∧ Below w.heap.size w wr ∧ wr.ownsRow w.heap.size 3 1 (.slice A3 xs.length c3) xs.length (nums .i64 (iterW xs ts j (List.replicate xs.length 2))))
    case atStart => exact ⟨0, by have := twos_le (List.replicate xs.length 2); simp at this; unfold iterW; omega, hb2, o2⟩
    case round =>
      obtain ⟨j, hgk, hb, ho⟩ := hrel
      clear o2 hb2
      have hyl := iter0_len xs ts j
      have hy24 := iter0_24 xs ts j
      have HIT := Lib.hid (iterW_succ xs ts j (List.replicate xs.length 2))
      have HFX := Lib.hid (fun h => fixW_of (xs := xs) (ts := ts) (j := j) h)
      have HTW := Lib.hid (fun h => stepW_less (xs := xs) (ts := ts) (ys := iterW xs ts j (List.replicate xs.length 2)) h)
      generalize hys : iterW xs ts j (List.replicate xs.length 2) = ys at *
      have HYS := Lib.hid hys
      clear hys
      have HYL := Lib.hid hyl
      have HY24 := Lib.hid hy24
      have HC := Lib.hid (HTF.out A3 c3 ys wr hb hyl hy24 (by rw [hyl]; exact ho))
      clear hyl hy24
      have hfl := farL_len xs ts ys ts.length
      rw [HYL.out] at HC
      have HO := Lib.hid ho
      clear ho
      go_wp2_with fail
      refine HC.out.mono ?_
      rintro e w3 ⟨A4, c4, rfl, o4, s4⟩
      have hb4 : Below w.heap.size w w3 := hb.trans (s4.mono hb.size)
      have HO3 := Lib.hid (own_below HO.out s4)
      have hou := own_up HO.out
      have hz4 := s4.size
      clear HO HC hb s4
      by_cases hf : farL xs ts ys ts.length = []
      · have HRR : Hid (jwd xs ts = ys) := by rw [HR.out, ← HFX.out (by rw [← HLT.out]; exact hf)]; exact rfl
        rw [hf]
        clear HTW HFX hfl o4 hf
        go_wp2
        go_ret
        rw [HRR.out, HYL.out]
        exact ⟨A3, c3, rfl, HO3.out, hb4⟩
      · have hfn : 0 < (farL xs ts ys ts.length).length := List.length_pos_iff.2 hf
        have hfn' : (((farL xs ts ys ts.length).length : Int) == 0) = false := by simp; omega
        have HTW2 := Lib.hid (HTW.out (by rw [HYL.out, ← HLT.out]; exact hf))
        have HSTEP : Hid (setL ys (farL xs ts ys ts.length) = stepW xs ts ys) := by
          have h := setL_step (xs := xs) (ts := ts) HY24.out
          rw [HYL.out, ← HLT.out] at h
          exact h
        have HALL := Lib.hid (fun (k : Nat) (hk : k < (farL xs ts ys ts.length).length) => farL_get hk)
        clear HTW HFX hf
        generalize farL xs ts ys ts.length = fs at *
        have HOU := Lib.hid hou
        clear hou
        obtain ⟨wo, hwo⟩ : ∃ wo, wo = wr := ⟨_, rfl⟩
        rw [← hwo] at o4 HOU
        clear hwo
        go_wp2
        clear hfn'
        go_loopw [27] (fun i wr => ∃ k : Nat, k ≤ fs.length ∧ i = .int .i64 k ∧ Below w.heap.size w wr ∧ wr.ownsRow w.heap.size 3 1 (.slice A3 xs.length c3) xs.length (nums .i64 (setL ys (fs.take k))) ∧ wr.ownsRow wo.heap.size 3 1 (.slice A4 fs.length c4) fs.length (nums .i64 fs)) (fun i _ => fs.length - (intOf i).toNat)
        case atStart => exact ⟨0, Nat.zero_le _, rfl, hb4, HO3.out, o4⟩
        case round =>
          obtain ⟨k, hk, rfl, hb, ho, ho4⟩ := hrel
          clear HO3 hb4 o4
          by_cases hkf : k < fs.length
          · obtain ⟨i, hi, hfi, _⟩ := HALL.out k hkf
            obtain ⟨g4, rfl, hg4, _⟩ := own_addr ho4 (by omega)
            have hi' : i < xs.length := by rw [← HLT.out]; exact hi
            obtain ⟨g3, rfl, hg3, _⟩ := own_addr ho (by omega)
            have hg34 : g3 < wo.heap.size := (HOU.out _ rfl).2
            have hc4 : wr.cell? ⟨g4, k, none⟩ = some (.int .i64 (i : Int)) := by rw [ho4.cellAt k (by omega), nums_get _ _ hkf, hfi]
            have hst := ho.stored i (.int .i64 4)
            have hz3 : wr.frozen? ⟨g3, i, none⟩ = false := ho.frozenAt i
            obtain ⟨u, hcu⟩ : ∃ u, wr.cell? ⟨g3, i, none⟩ = some u := ⟨_, (ho.cellAt i (by omega)).trans (List.getElem?_eq_getElem (by have := ho.1; omega))⟩
            have HST := Lib.hid hst
            have HO4 := Lib.hid ho4
            have HB := Lib.hid hb
            have hbz := hb.size
            have HFI := Lib.hid hfi
            have i1 : (i : Int) < (xs.length : Int) := by omega
            have i2 : (0 : Int) ≤ (i : Int) := Int.natCast_nonneg _
            clear hst ho ho4 hfi hb
            go_wp2
            go_roundw
            case rel =>
              refine ⟨k + 1, by omega, by go_num, HB.out.grown HST.out.2 hbz (by simp; omega), ?_, ?_⟩
              · have e : fs.take (k + 1) = fs.take k ++ [(i : Int)] := by rw [List.take_succ_eq_append_getElem hkf, HFI.out]
                have e2 := setL_snoc (fs.take k) ys (i : Int)
                rw [e, e2, Int.toNat_natCast, ← nums_set]
                exact HST.out.1
              · exact own_other (A2 := some ⟨g3, 0, none⟩) HO4.out HST.out.2 (fun a a2 ha ha2 => by
                  injection ha with ha
                  injection ha2 with ha2
                  subst ha ha2
                  simp only [ne_eq]
                  omega)
            case measure => simp [intOf]; omega
          · obtain rfl : k = fs.length := by omega
            have HE : Hid (setL ys (fs.take fs.length) = iterW xs ts (j + 1) (List.replicate xs.length 2)) := by
              rw [List.take_length, HSTEP.out, HIT.out]
              exact rfl
            go_wp2
            go_roundg (twos (stepW xs ts ys))
            case measure => have := HTW2.out; omega
            case rel =>
              refine ⟨j + 1, ?_, hb, ?_⟩
              · rw [HIT.out]
                exact Nat.le_refl _
              · rw [← HE.out]
                exact ho

set_option maxRecDepth 100000 in
set_option maxHeartbeats 4000000 in
theorem specJumpWidths_any {A1 A2 : Option Addr} {c1 c2 B1 B2 : Nat} (xs ts : List Int) (w : World) (h1 : Reads w B1 1 A1 xs.length (nums .i64 xs)) (hB1 : B1 ≤ w.heap.size) (h2 : Reads w B2 1 A2 ts.length (nums .i64 ts)) (hB2 : B2 ≤ w.heap.size) (hm1 : xs.length ≤ maxLen) (hm2 : ts.length ≤ maxLen) :
    Calls Try.prog 27 #[.slice A1 xs.length c1, .slice A2 ts.length c2] w (Fresh 3 1 w (jwd xs ts).length (nums .i64 (jwd xs ts))) := by
  obtain ⟨i0, hi0, hz0, hz1, hz2⟩ := info_parts int_info
  have HV := Lib.hid (fun w1 (hb : Below w.heap.size w w1) => specJumpsValid_any (c1 := c1) (c2 := c2) xs ts w1 ((h1.more hB1).below hb) ((h2.more hB2).below hb) hm1 hm2)
  unfold maxLen at hm1 hm2
  cases hj : jumpsOk xs ts
  · have HJ := Lib.hid hj
    have HR : Hid (jwd xs ts = []) := by unfold jwd; rw [hj]; exact rfl
    clear hj
    have HS : Hid (∀ (w1 : World) (A : Option Addr) (c : Nat), Below w.heap.size w w1 → Calls Try.prog 17 #[.slice A1 xs.length c1, .slice A 0 c] w1 (Fresh 3 1 w1 (jst xs []).length (nums .i64 (jst xs [])))) :=
      fun w1 A c hb => specJumpStarts_any (A2 := A) (c1 := c1) (c2 := c) (B2 := w1.heap.size) xs [] w1 ((h1.more hB1).below hb) hb.size Reads.none_ (Nat.le_refl _) (by unfold maxLen; omega) (by unfold maxLen; simp)
    have K0 := Lib.hid (World.ownsRow_lit (base := w.heap.size) (e := 3) (size := 1) w #[] 0 (Nat.le_refl _) (by unfold maxLen; omega) rfl)
    have KB : Hid (Below w.heap.size w (w.alloc (.cells #[] 3))) := (Below.refl _ _).alloc (Nat.le_refl _) _
    rcases Nat.lt_or_ge 0 xs.length with h0 | h0
    all_goals
      go_enter Try.func27, Try.ntmps27
      go_wp2
      go_loopw [5, 6] (fun v i wr => i = .int .i64 0 ∧ v = .slice (some ⟨w.heap.size, 0, none⟩) 0 0 ∧ Below w.heap.size w wr ∧ wr.ownsRow w.heap.size 3 1 (.slice (some ⟨w.heap.size, 0, none⟩) 0 0) 0 []) (fun _ i _ => 0)
      case atStart => exact ⟨rfl, rfl, KB.out, K0.out⟩
      case round =>
        obtain ⟨rfl, rfl, hb, ho⟩ := hrel
        go_wp2_with (go_at_call 11; refine (HV.out _ hb).mono ?_; rintro e w2 ⟨rfl, s2⟩; rw [HJ.out]; replace ho := own_below ho s2; replace hb := hb.trans (s2.mono hb.size); clear s2)
        go_loopw [7] (fun i wr => ∃ r : Nat, r ≤ 1 ∧ i = .int .i64 r ∧ Below w.heap.size w wr ∧ wr.ownsRow w.heap.size 3 1 (.slice (some ⟨w.heap.size, 0, none⟩) 0 0) 0 []) (fun i _ => 1 - (intOf i).toNat)
        case atStart => exact ⟨0, by omega, rfl, hb, ho⟩
        case round =>
          obtain ⟨r, hr, rfl, hb', ho'⟩ := hrel
          clear hb ho
          by_cases hr0 : r ≤ 0
          · go_wp2_with fail
            refine (HS.out _ _ _ hb').mono ?_
            rintro e w2 ⟨A, c, rfl, _, s2⟩
            have HO := Lib.hid (own_below ho' s2)
            have HB := Lib.hid (hb'.trans (s2.mono hb'.size))
            clear hb' ho' s2
            go_wp2
            go_loopw [9] (fun i wr => i = .int .i64 0 ∧ wr = w2) (fun i _ => 0)
            case atStart => exact ⟨rfl, rfl⟩
            case round =>
              obtain ⟨rfl, rfl⟩ := hrel
              go_wp2
              go_roundw
              case rel => exact ⟨r + 1, by omega, by go_num, HB.out, HO.out⟩
              case measure => simp [intOf]; omega
          · go_wp2
            go_ret
            rw [HR.out]
            exact ⟨_, _, rfl, ho', hb'⟩
  · have HJ := Lib.hid hj
    obtain ⟨hm8, hlt, hvx, htr⟩ := jumpsOk_parts hj
    have HR : Hid (jwd xs ts = fixW xs ts) := by unfold jwd; rw [hj]; exact rfl
    have HLT := Lib.hid hlt
    have HVX := Lib.hid hvx
    have HTR := Lib.hid htr
    clear hj hvx htr hlt
    go_enter Try.func27, Try.ntmps27
    go_wp2
    go_loopw [5, 6] (fun v i wr => ∃ (k : Nat) (A : Option Addr) (c : Nat), k ≤ xs.length ∧ i = .int .i64 k ∧ v = .slice A k c ∧ Below w.heap.size w wr ∧ wr.ownsRow w.heap.size 3 1 (.slice A k c) k (nums .i64 (List.replicate k 2))) (fun _ i _ => xs.length - (intOf i).toNat)
    case atStart => exact ⟨0, _, _, Nat.zero_le _, rfl, rfl, (Below.refl _ _).alloc (Nat.le_refl _) _, World.ownsRow_lit (base := w.heap.size) (e := 3) (size := 1) w #[] 0 (Nat.le_refl _) (by unfold maxLen; omega) rfl⟩
    case round =>
      obtain ⟨k, A, c, hk, rfl, rfl, hb, ho⟩ := hrel
      by_cases hkl : k < xs.length
      · have HO := Lib.hid ho
        have HB := Lib.hid hb
        clear ho hb
        go_wp2_with fail
        refine (HV.out _ HB.out).mono ?_
        rintro e w2 ⟨rfl, s2⟩
        rw [HJ.out]
        have HO2 := Lib.hid (own_below HO.out s2)
        have HB2 := Lib.hid (HB.out.trans (s2.mono HB.out.size))
        clear HO HB s2
        have hbz := HB2.out.size
        go_wp2_with (at_builtin; refine wpList_push _ rfl (.tmp 22) (.tmp 23) _ rfl w.heap.size 3 i0 _ 1 8 Try.underlying22 hi0 hz0 hz1 hz2 rfl (by omega) (by omega) A k c 1 1 (nums .i64 (List.replicate k 2)) [.int .i64 2] (by exact HO2.out.alloc _) rfl ⟨w2.heap.size, 0, none⟩ rfl rfl (World.news_of_block (cs := #[.int .i64 2]) (t := 3) (fr := (0, 0)) (by exact heap_alloc_new w2 _)) (by simp [Value.oneCell']) (by omega) (by omega) (by simp; omega) ?_; intro A' c' w3 hown1 hgrow hat hkeep)
        go_roundw
        case rel =>
          refine ⟨k + 1, A', c', by omega, by go_num, rfl, ?_, ?_⟩
          · have hb1 : Below w.heap.size w (w2.alloc (Obj.cells #[.int .i64 2] 3)) := HB2.out.alloc HB2.out.size _
            exact below_push (w := w2.alloc (Obj.cells #[.int .i64 2] 3)) hb1 (HO2.out.alloc _) (Nat.le_refl _) hb1.size (by exact ⟨hgrow.os, hgrow.tape, hgrow.output, hgrow.size, hgrow.block⟩)
          · have e : nums .i64 (List.replicate (k + 1) 2) = nums .i64 (List.replicate k 2) ++ [.int .i64 2] := by simp [nums, List.replicate_succ']
            rw [e]
            exact hown1
        case measure => simp [intOf]; omega
      · obtain rfl : k = xs.length := by omega
        go_wp2
        go_loopw [7] (fun i wr => ∃ r : Nat, r ≤ xs.length + 1 ∧ i = .int .i64 r ∧ Below w.heap.size w wr ∧ wr.ownsRow w.heap.size 3 1 (.slice A xs.length c) xs.length (nums .i64 (iterW xs ts r (List.replicate xs.length 2)))) (fun i _ => xs.length + 1 - (intOf i).toNat)
        case atStart => exact ⟨0, by omega, rfl, hb, ho⟩
        case round =>
          obtain ⟨r, hr, rfl, hb', ho'⟩ := hrel
          clear hb ho
          by_cases hrn : r ≤ xs.length
          · have hyl := iter0_len xs ts r
            have hy24 := iter0_24 xs ts r
            have HIT := Lib.hid (iterW_succ xs ts r (List.replicate xs.length 2))
            generalize hys : iterW xs ts r (List.replicate xs.length 2) = ys at *
            have HYS := Lib.hid hys
            clear hys
            have HYL := Lib.hid hyl
            have HY24 := Lib.hid hy24
            have HJT := Lib.hid (jst_yes hyl hm8 HVX.out (wid24_vals hy24))
            have HSL := Lib.hid (starts_len xs ys)
            have HC := Lib.hid (specJumpStarts_any (c1 := c1) (c2 := c) xs ys wr ((h1.more hB1).below hb') hb'.size (by rw [hyl]; exact Reads.of_own ho') (Nat.le_refl _) (by unfold maxLen; omega) (by unfold maxLen; omega))
            rw [HYL.out, HJT.out, HSL.out] at HC
            clear hyl hy24
            have HO := Lib.hid ho'
            clear ho'
            go_wp2_with fail
            refine HC.out.mono ?_
            rintro e w2 ⟨As, cs, rfl, os, s2⟩
            have HO2 := Lib.hid (own_below HO.out s2)
            have hou := own_up HO.out
            have hb2 := hb'.trans (s2.mono hb'.size)
            have HB2 := Lib.hid hb2
            have HOU := Lib.hid hou
            obtain ⟨wo, hwo⟩ : ∃ wo, wo = wr := ⟨_, rfl⟩
            rw [← hwo] at os HOU
            have hwz : w.heap.size ≤ wo.heap.size := by rw [hwo]; exact hb'.size
            have HOS := Lib.hid os
            clear hwo HO hou HC hb' s2 hb2 os
            go_wp2
            go_loopw [9] (fun i wr => ∃ k : Nat, k ≤ xs.length ∧ i = .int .i64 k ∧ Below w.heap.size w wr ∧ wr.ownsRow w.heap.size 3 1 (.slice A xs.length c) xs.length (nums .i64 (halfW xs ts ys k)) ∧ wr.ownsRow wo.heap.size 3 1 (.slice As (xs.length + 1) cs) (xs.length + 1) (nums .i64 (starts xs ys))) (fun i _ => xs.length - (intOf i).toNat)
            case atStart => exact ⟨0, Nat.zero_le _, rfl, HB2.out, by rw [halfW_zero]; exact HO2.out, HOS.out⟩
            case round =>
              obtain ⟨k, hk, rfl, hb, ho, hos⟩ := hrel
              clear HO2 HB2 HOS
              by_cases hkx : k < xs.length
              · have hkt : k < ts.length := by rw [HLT.out]; exact hkx
                have htk := HTR.out k hkt
                have e1 := getD_eq hkt
                obtain ⟨a2, u2, rfl, hbl2, hx2, hc2⟩ := ((h2.more hB2).below hb).at_ hkt
                rw [nums_get _ _ hkt] at hx2
                injection hx2 with hx2
                subst hx2
                have HN := Lib.hid (l31Near_any (As := As) (cs := cs) (B := wr.heap.size) xs ys k ts[k] wr (by rw [HSL.out]; exact Reads.of_own hos) hkx htk.1 htk.2 hm8 HVX.out (wid24_vals HY24.out) HYL.out)
                have HNO : Hid (nearB xs ys k ts[k] = false → (halfW xs ts ys k).set k 4 = halfW xs ts ys (k + 1)) := fun h => halfW_no (by rw [HYL.out]; exact hkx) (by rw [e1]; exact h)
                have HYE : Hid (nearB xs ys k ts[k] = true → halfW xs ts ys k = halfW xs ts ys (k + 1)) := fun h => halfW_yes (by rw [HYL.out]; exact hkx) (by rw [e1]; exact h)
                clear e1 htk
                generalize ts[k] = t at *
                have k2 : (k : Int) < (ts.length : Int) := by omega
                cases hn : nearB xs ys k t
                · have HN1 := Lib.hid hn
                  have HH := Lib.hid (HNO.out hn)
                  clear hn HNO HYE
                  obtain ⟨g3, rfl, hg3, _⟩ := own_addr ho (by omega)
                  have hg34 : g3 < wo.heap.size := (HOU.out _ rfl).2
                  have hst := ho.stored k (.int .i64 4)
                  have hz3 : wr.frozen? ⟨g3, k, none⟩ = false := ho.frozenAt k
                  obtain ⟨u, hcu⟩ : ∃ u, wr.cell? ⟨g3, k, none⟩ = some u := ⟨_, (ho.cellAt k (by omega)).trans (List.getElem?_eq_getElem (by have := ho.1; omega))⟩
                  have HST := Lib.hid hst
                  have HO4 := Lib.hid hos
                  have HB := Lib.hid hb
                  have hbz := hb.size
                  clear hst ho hos hb
                  go_wp2_with fail
                  refine HN.out.mono ?_
                  rintro e w' ⟨rfl, d, rfl⟩
                  rw [HN1.out]
                  go_wp2
                  go_roundw
                  case rel =>
                    have hb2 : Below w.heap.size w (wr.setCell ⟨g3, k, none⟩ (.int .i64 4)) := HB.out.grown HST.out.2 hbz (by simp; omega)
                    refine ⟨k + 1, by omega, by go_num, below_drewN hb2 d, ?_, ?_⟩
                    · rw [← HH.out, ← nums_set]
                      exact HST.out.1
                    · have h := own_other (A2 := some ⟨g3, 0, none⟩) HO4.out HST.out.2 (fun a a2 ha ha2 => by
                        injection ha2 with ha2
                        subst ha2
                        have := (own_up HO4.out a ha).1
                        simp only [ne_eq]
                        omega)
                      exact h
                  case measure => simp [intOf]; omega
                · have HN1 := Lib.hid hn
                  have HH := Lib.hid (HYE.out hn)
                  have HO := Lib.hid ho
                  have HO4 := Lib.hid hos
                  have HB := Lib.hid hb
                  clear hn HNO HYE ho hos hb
                  go_wp2_with fail
                  refine HN.out.mono ?_
                  rintro e w' ⟨rfl, d, rfl⟩
                  rw [HN1.out]
                  go_wp2
                  go_roundw
                  case rel => exact ⟨k + 1, by omega, by go_num, below_drewN HB.out d, by rw [← HH.out]; exact HO.out, HO4.out⟩
                  case measure => simp [intOf]; omega
              · obtain rfl : k = xs.length := by omega
                have HE : Hid (halfW xs ts ys xs.length = iterW xs ts (r + 1) (List.replicate xs.length 2)) := by
                  rw [HIT.out]
                  have h := halfW_all xs ts ys
                  rw [HYL.out] at h
                  exact h
                go_wp2
                go_roundw
                case rel => exact ⟨r + 1, by omega, by go_num, hb, by rw [← HE.out]; exact ho⟩
                case measure => simp [intOf]; omega
          · obtain rfl : r = xs.length + 1 := by omega
            go_wp2
            go_ret
            rw [HR.out, fixW_len]
            exact ⟨A, c, rfl, ho', hb'⟩
end Go.Proofs.Ytfdihhpnkmpidaa
