/- The walk of FnCallsFar. No condition. -/
import Derived.Test.YtgibmbjdnppiaaaRows
import Derived.Test.YtgibmbjdnppiaaaBase
import Derived.Test.YtgibmbjdnppiaaaBase2
import Derived.Test.YtgibmbjdnppiaaaBase3
import Derived.Test.YtgibmbjdnppiaaaIn
import Derived.Test.YtgibmbjdnppiaaaIn2
import Derived.Test.YtgibmbjdnppiaaaEdge
import Derived.Test.YtgibmbjdnppiaaaFindEdg
import Derived.Test.YtgibmbjdnppiaaaEdgeV
import Derived.Test.YtgibmbjdnppiaaaEdgeW
import Derived.Test.YtgibmbjdnppiaaaCallP
import Derived.Test.YtgibmbjdnppiaaaCallQ
import Derived.Test.YtgibmbjdnppiaaaIdxI
import Derived.Test.YtgibmbjdnppiaaaCall
import Derived.Test.YtgibmbjdnppiaaaCallS
import Derived.Test.YtgibmbjdnppiaaaAlive
import Derived.Test.YtgibmbjdnppiaaaPick
import Derived.Test.YtgibmbjdnppiaaaPick2
import Derived.Test.YtgibmbjdnppiaaaOpenC
import Derived.Test.YtgibmbjdnppiaaaReg
import Derived.Test.YtgibmbjdnppiaaaRegS
import Derived.Test.YtgibmbjdnppiaaaDrawE
import Derived.Test.YtgibmbjdnppiaaaDrawCF
import Derived.WalkKit
import Derived.WalkSpells
import Derived.WalkLawsBesides
import Derived.Handy
import Derived.BigQuiet
import Derived.Deep.RegionHeld3
import Derived.Deep.DrawnRows
import Derived.Deep.QuietTactic
namespace Go.Proofs.Ytgibmbjdnppiaaa
open Go Go.RowKit

theorem rev_take {xs : List Int} {i : Nat} (hi : i < xs.length) : xs.reverse.take (xs.length - 1 - i + 1) = xs.reverse.take (xs.length - 1 - i) ++ [xs[i]] := by
  have hl : xs.length - 1 - i < xs.reverse.length := by rw [List.length_reverse]; omega
  rw [List.take_succ_eq_append_getElem hl]
  congr 1
  rw [List.getElem_reverse]
  congr 2
  omega
set_option maxRecDepth 100000 in
set_option maxHeartbeats 8000000 in
theorem FnCallsFar_walk (W : World) (v0 : Value) (a0 : ArgCode W v0) : Calls Try.prog 6 #[v0] W (Gives W (.bool true)) := by
  obtain ⟨A, c, cs, rfl, hr, hc1, hc2, hcb⟩ := a0
  by_cases hl : cs.length ≤ 1048576
  · have HD := Lib.hid (DrawCallsFar_any cs W hr hcb hl hc1 hc2)
    clear hcb hr
    unfold maxLen at hc2
    go_enter Try.func6, Try.ntmps6
    go_wp2_with fail
    refine HD.out.mono ?_
    rintro e w1 ⟨many, AE, cE, es, AX, cX, xs, rfl, oe, ox, hes, hxs, b1⟩
    clear HD
    obtain ⟨i0, hi0, hz0, hz1, hz2⟩ := info_parts cfint_info
    go_wp2_with fail
    refine (implCallsFar_any many es xs _ (Reads.of_own oe) (Nat.le_refl _) (Reads.of_own ox) (Nat.le_refl _) (by omega) (by omega)).mono ?_
    rintro e w2 ⟨rfl, s2⟩
    replace oe := own_below oe s2
    replace ox := own_below ox s2
    have b2 := b1.trans (s2.mono b1.size)
    clear s2
    go_wp2_with fail
    refine (specCallsFar_any many es xs _ (Reads.of_own oe) (Nat.le_refl _) (Reads.of_own ox) (Nat.le_refl _) (by omega) (by omega)).mono ?_
    rintro e w3 ⟨rfl, s3⟩
    have HE := Lib.hid (own_below oe s3)
    have HX := Lib.hid (own_below ox s3)
    have HB := Lib.hid (b2.trans (s3.mono b2.size))
    have hwz := HB.out.size
    have HNO : Hid (callsFar many es xs < 0 → callsFar many es xs = -1) := fun h => callsFar_no h
    have HLW : Hid (0 ≤ callsFar many es xs → callsFar many es xs.reverse = callsFar many es xs ∧ callsFar many [] xs = 0 ∧ decide (0 < callsFar many es xs) = decide (0 < (es.length : Int))) := fun h => callsFar_law h
    have HF := Lib.hid (fun (w : World) (A : Option Addr) (c : Nat) (h : Reads w w.heap.size 1 A xs.reverse.length (nums .i64 xs.reverse)) (h2 : Reads w w.heap.size 3 AE es.length (es.flatMap Edg.cells)) => implCallsFar_any (A1 := AE) (A2 := A) (c1 := cE) (c2 := c) many es xs.reverse w h2 (Nat.le_refl _) h (Nat.le_refl _) (by omega) (by rw [List.length_reverse]; omega))
    have HF2 := Lib.hid (fun (w : World) (h : Reads w w.heap.size 1 AX xs.length (nums .i64 xs)) => implCallsFar_any (A1 := none) (A2 := AX) (c1 := 0) (c2 := cX) many [] xs w Reads.none_ (Nat.le_refl _) h (Nat.le_refl _) (by simp) (by omega))
    clear s3 oe ox b1 b2
    rw [show xs.reverse.length = xs.length from List.length_reverse] at HF
    generalize callsFar many es xs.reverse = cf2 at *
    generalize callsFar many [] xs = cf0 at *
    generalize callsFar many es xs = cf at *
    by_cases hneg : cf < 0
    · have hce : (cf == -1) = true := by rw [HNO.out hneg]; rfl
      have hd0 : decide (cf < 0) = true := decide_eq_true hneg
      clear HNO HLW HF HF2
      go_wp2_with fail
      refine (alive_any _).mono ?_
      rintro e w' ⟨rfl, rfl⟩
      go_wp2
      go_ret
      exact ⟨rfl, HB.out⟩
    · have hd0 : decide (cf < 0) = false := decide_eq_false hneg
      obtain ⟨hl1, hl2, hl3⟩ := HLW.out (by omega)
      have HL3 := Lib.hid hl3
      rw [hl1] at HF
      rw [hl2] at HF2
      clear hl1 hl2 hl3 HNO HLW
      have o0 := World.ownsRow_lit (base := W.heap.size) (e := 3) (size := 1) w3 #[] 0 hwz (by unfold maxLen; omega) rfl
      have HO0 : Hid ((w3.alloc (.cells #[] 3)).ownsRow W.heap.size 3 1 (.slice (some ⟨w3.heap.size, 0, none⟩) 0 0) 0 (nums .i64 [])) := o0
      have HE0 := Lib.hid (HE.out.alloc (.cells #[] 3))
      have HX0 := Lib.hid (HX.out.alloc (.cells #[] 3))
      have HB0 := Lib.hid (HB.out.alloc hwz (.cells #[] 3))
      have HP0 : Hid (Apart (some ⟨w3.heap.size, 0, none⟩) AX) := fun a b h1 h2 => by
        injection h1 with h1
        subst h1
        have := (own_up HX.out b h2).2
        simp only
        omega
      clear o0 HE HX HB
      have yw : IntKind.i64.wrap ((xs.length : Int) - 1) = (xs.length : Int) - 1 := IntWalk.i64_in _ (by omega)
      go_wp2
      clear yw
      go_loopw [7, 8] (fun v kv wr => ∃ (z : Int) (A : Option Addr) (c : Nat) (ys : List Int), -1 ≤ z ∧ z < xs.length ∧ kv = .int .i64 z ∧ v = .slice A ys.length c ∧ Hid (ys.length = (xs.length - 1 - z).toNat ∧ ys = xs.reverse.take ys.length) ∧ Hid (Apart A AX) ∧ Hid (wr.ownsRow W.heap.size 3 1 (.slice A ys.length c) ys.length (nums .i64 ys)) ∧ Hid (wr.ownsRow W.heap.size 3 1 (.slice AX xs.length cX) xs.length (nums .i64 xs)) ∧ Hid (wr.ownsRow W.heap.size 33 3 (.slice AE es.length cE) es.length (es.flatMap Edg.cells)) ∧ Hid (Below W.heap.size W wr)) (fun _ kv _ => (intOf kv + 1).toNat)
      case atStart => exact ⟨(xs.length : Int) - 1, _, _, [], by omega, by omega, rfl, rfl, Lib.hid ⟨by simp, by simp⟩, HP0, HO0, HX0, HE0, HB0⟩
      case round =>
        clear HO0 HE0 HX0 HB0 HP0
        obtain ⟨z, A, c, ys, hz1', hz2', rfl, rfl, HY, HP, HO, HX, HE, HB⟩ := hrel
        have hgz := HB.out.size
        by_cases hz : 0 ≤ z
        · obtain ⟨i, rfl⟩ := Int.eq_ofNat_of_zero_le hz
          have hi : i < xs.length := by omega
          have HS : Hid (ys ++ [xs[i]] = xs.reverse.take (ys ++ [xs[i]]).length ∧ (ys ++ [xs[i]]).length = (xs.length - 1 - ((i : Int) - 1)).toNat) := by
            have h1 := HY.out.1
            have h2 := HY.out.2
            have h3 : ys.length = xs.length - 1 - i := by omega
            refine ⟨?_, by simp; omega⟩
            rw [List.length_append, List.length_singleton, h3, rev_take hi, ← h3, ← h2]
          have hyl : ys.length ≤ 9 := by have := HY.out.1; omega
          obtain ⟨ad, u1, rfl, hbl, hx1, hc1⟩ := (Reads.of_own HX.out).at_ hi
          rw [nums_get _ _ hi] at hx1
          injection hx1 with hx1
          subst hx1
          generalize xs[i] = x at *
          have hq0 : (0 : Int) ≤ (i : Int) := Int.natCast_nonneg _
          have hq1 : (i : Int) < (xs.length : Int) := by omega
          go_wp2_with (at_builtin; refine wpList_push _ rfl (.tmp 43) (.tmp 48) _ rfl W.heap.size 3 i0 _ 1 8 Try.underlying36 hi0 hz0 hz1 hz2 rfl (by omega) (by omega) A ys.length c 1 1 (nums .i64 ys) [.int .i64 x] (by exact HO.out.alloc _) rfl ⟨wr.heap.size, 0, none⟩ rfl rfl (World.news_of_block (cs := #[.int .i64 x]) (t := 3) (fr := (0, 0)) (by exact heap_alloc_new wr _)) (by simp [Value.oneCell']) (by omega) (by omega) (by simp; omega) ?_; intro A' c' w5 hown hgrow hat hkeep)
          have HB5 := Lib.hid (below_push (HB.out.alloc hgz _) (HO.out.alloc _) (Nat.le_refl _) (by simp; omega) hgrow)
          have HX5 := Lib.hid (own_apart (HX.out.alloc _) hgrow HP.out.symm)
          have HE5 := Lib.hid (own_other (HE.out.alloc _) hgrow (fun a a2 h1 h2 => by
            intro e
            rcases (HO.out.alloc (.cells #[.int .i64 x] 3)).2 with ⟨hv, _⟩ | ⟨g, cap, cur, hv, _, hh, _⟩
            · injection hv with hv; rw [h2] at hv; cases hv
            · injection hv with hv
              rw [h2] at hv
              injection hv with hv
              subst hv
              subst h1
              exact own_blk_ne (HE.out.alloc _) (cs := cur) (t := 3) hh (by decide) (by simpa [Value.ownBlock] using e)))
          have HP5 := Lib.hid (apart_push HP.out HX.out (by simp) hat)
          have HO5 : Hid (w5.ownsRow W.heap.size 3 1 (.slice A' (ys ++ [x]).length c') (ys ++ [x]).length (nums .i64 (ys ++ [x]))) := by
            have e : nums .i64 (ys ++ [x]) = nums .i64 ys ++ [.int .i64 x] := by simp [nums]
            rw [Hid, e]
            simpa using hown
          clear hown hgrow hat hkeep HO HX HE HB HP HY hc1
          go_roundw
          case rel => exact ⟨(i : Int) - 1, A', c', ys ++ [x], by omega, by omega, rfl, by simp, Lib.hid ⟨HS.out.2, HS.out.1⟩, HP5, HO5, HX5, HE5, HB5⟩
          case measure => simp [intOf] <;> omega
        · have HR : Hid (ys = xs.reverse) := by
            have h1 := HY.out.1
            have h2 := HY.out.2
            rw [Hid, h2, List.take_of_length_le (by rw [List.length_reverse]; omega)]
          have hyl : ys.length = xs.length := by have := HY.out.1; omega
          have HRO : Hid (Reads wr wr.heap.size 1 A xs.length (nums .i64 xs.reverse)) := by
            have h := Reads.of_own HO.out
            rw [hyl, HR.out] at h
            exact h
          have HC1 := Lib.hid (HF.out wr A c HRO.out (Reads.of_own HE.out))
          rw [← hyl] at HC1
          clear hyl HRO HR HY HP
          go_wp2_with fail
          refine HC1.out.mono ?_
          rintro e w6 ⟨rfl, s6⟩
          have HX6 := Lib.hid (own_below HX.out s6)
          have HB6 := Lib.hid (HB.out.trans (s6.mono HB.out.size))
          clear s6 HX HE HB HO HC1
          have HC2 := Lib.hid (HF2.out w6 (Reads.of_own HX6.out))
          simp only [List.length_nil] at HC2
          go_wp2_with fail
          refine HC2.out.mono ?_
          rintro e w7 ⟨rfl, s7⟩
          have HB7 := Lib.hid (HB6.out.trans (s7.mono HB6.out.size))
          clear s7 HC2 HX6 HB6
          by_cases hp : 0 < cf
          · have he : (0 : Int) < (es.length : Int) := by have h := HL3.out; rw [decide_eq_true hp] at h; exact of_decide_eq_true h.symm
            have he2 : 0 < es.length := by omega
            clear HL3 he
            go_wp2
            go_ret
            exact ⟨rfl, HB7.out⟩
          · have he : ¬ (0 : Int) < (es.length : Int) := by have h := HL3.out; rw [decide_eq_false hp] at h; exact of_decide_eq_false h.symm
            have he2 : ¬ 0 < es.length := by omega
            have hpd : decide (0 < cf) = false := decide_eq_false hp
            have hpe : decide ((0 : Int) < (es.length : Int)) = false := decide_eq_false he
            clear HL3 he
            go_wp2
            go_ret
            exact ⟨rfl, HB7.out⟩
  · go_enter Try.func6, Try.ntmps6
    go_wp2
    go_ret
    exact ⟨rfl, Below.refl _ _⟩
end Go.Proofs.Ytgibmbjdnppiaaa
