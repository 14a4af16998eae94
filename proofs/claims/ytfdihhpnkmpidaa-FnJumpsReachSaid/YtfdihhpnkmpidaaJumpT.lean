/- Contract of the reference JumpStarts. No condition but the sizes. -/
import Derived.Test.YtfdihhpnkmpidaaRows
import Derived.Test.YtfdihhpnkmpidaaBase
import Derived.Test.YtfdihhpnkmpidaaBase2
import Derived.Test.YtfdihhpnkmpidaaIn
import Derived.Test.YtfdihhpnkmpidaaFindI
import Derived.Test.YtfdihhpnkmpidaaJumpV
import Derived.Test.YtfdihhpnkmpidaaJumpS
import Derived.WalkKit
import Derived.WalkSpells
import Derived.WalkLawsBesides
import Derived.Handy
import Derived.BigQuiet
import Derived.Deep.RegionHeld3
import Derived.Deep.DrawnRows
import Derived.Deep.QuietTactic
namespace Go.Proofs.Ytfdihhpnkmpidaa
open Go Go.RowKit

set_option maxHeartbeats 4000000 in
theorem specJumpStarts_any {A1 A2 : Option Addr} {c1 c2 B1 B2 : Nat} (xs ys : List Int) (w : World) (h1 : Reads w B1 1 A1 xs.length (nums .i64 xs)) (hB1 : B1 ≤ w.heap.size) (h2 : Reads w B2 1 A2 ys.length (nums .i64 ys)) (hB2 : B2 ≤ w.heap.size) (hm1 : xs.length ≤ maxLen) (_hm2 : ys.length ≤ maxLen) :
    Calls Try.prog 17 #[.slice A1 xs.length c1, .slice A2 ys.length c2] w (Fresh 3 1 w (jst xs ys).length (nums .i64 (jst xs ys))) := by
  obtain ⟨i0, hi0, hz0, hz1, hz2⟩ := info_parts int_info
  unfold maxLen at hm1 _hm2
  by_cases hl : xs.length = ys.length
  · have hl' : ((xs.length : Int) != ys.length) = false := by simp [hl]
    have HL : Hid (ys.length = xs.length) := hl.symm
    clear hl
    by_cases ha : xs.length ≤ 8
    · go_enter Try.func17, Try.ntmps17
      go_wp2
      go_loopw [5, 6] (fun v i wr => ∃ (k : Nat) (A : Option Addr) (c : Nat), k ≤ xs.length ∧ i = .int .i64 k ∧ v = .slice A (k + 1) c ∧ Below w.heap.size w wr ∧ wr.ownsRow w.heap.size 3 1 (.slice A (k + 1) c) (k + 1) (nums .i64 ((starts xs ys).take (k + 1))) ∧ Hid (∀ j, j < k → inB (xs.getD j 0) 0 60000 = true ∧ inB (ys.getD j 0) 0 60000 = true)) (fun _ i _ => xs.length - (intOf i).toNat)
      case atStart =>
        refine ⟨0, _, _, Nat.zero_le _, rfl, rfl, (Below.refl _ _).alloc (Nat.le_refl _) _, ?_, fun j hj => by omega⟩
        have h := World.ownsRow_lit (base := w.heap.size) (e := 3) (size := 1) w #[.int .i64 0] 1 (Nat.le_refl _) (by unfold maxLen; omega) rfl
        have e : (starts xs ys).take (0 + 1) = [0] := by
          rw [List.take_succ_eq_append_getElem (by rw [starts_len]; omega), starts_getD xs ys (by omega)]
          rfl
        rw [e]
        exact h
      case round =>
        obtain ⟨k, A, c, hk, rfl, rfl, hb, ho, HA⟩ := hrel
        by_cases hlt : k < xs.length
        · have hlt2 : k < ys.length := by rw [HL.out]; exact hlt
          obtain ⟨g, rfl, hbg, hgs⟩ := own_addr ho (by omega)
          have e1 := getD_eq hlt
          have e2 := getD_eq hlt2
          obtain ⟨a1, u1, rfl, hbl1, hx1, hc1⟩ := ((h1.more hB1).below hb).at_ hlt
          obtain ⟨a2, u2, rfl, hbl2, hx2, hc2⟩ := ((h2.more hB2).below hb).at_ hlt2
          rw [nums_get _ _ hlt, ← e1] at hx1
          rw [nums_get _ _ hlt2, ← e2] at hx2
          injection hx1 with hx1
          injection hx2 with hx2
          subst hx1 hx2
          have HJ1 : Hid (inB (xs.getD k 0) 0 60000 = false → jst xs ys = []) := fun hp1 => jst_no (fun h => by
            have := valsOk_at h.2.1 hlt
            rw [← e1] at this
            rw [inB_true this.1 this.2] at hp1
            cases hp1)
          have HJ2 : Hid (inB (ys.getD k 0) 0 60000 = false → jst xs ys = []) := fun hp2 => jst_no (fun h => by
            have := valsOk_at h.2.2 hlt2
            rw [← e2] at this
            rw [inB_true this.1 this.2] at hp2
            cases hp2)
          clear e1 e2
          have hst : 0 ≤ stAt xs ys k ∧ stAt xs ys k ≤ 120000 * k := by
            have H : ∀ j, j ≤ k → 0 ≤ stAt xs ys j ∧ stAt xs ys j ≤ 120000 * j := by
              intro j
              induction j with
              | zero => intro _; simp [stAt]
              | succ j ih =>
                intro hj
                have h0 := ih (by omega)
                have h1 := HA.out j (by omega)
                have h2 := inB_iff.1 h1.1
                have h3 := inB_iff.1 h1.2
                unfold stAt
                omega
            exact H k (Nat.le_refl _)
          have HT := Lib.hid (starts_take xs ys hlt)
          have hcg : wr.cell? ⟨g, k, none⟩ = some (.int .i64 (stAt xs ys k)) := by
            rw [ho.cellAt k (by omega), nums_get _ _ (by rw [List.length_take, starts_len]; omega), List.getElem_take, starts_getD xs ys (by omega)]
          generalize hs : stAt xs ys k = s at *
          generalize hpp : xs.getD k 0 = p at *
          generalize hqq : ys.getD k 0 = q at *
          have HPP := Lib.hid hpp
          have HQQ := Lib.hid hqq
          clear hs hpp hqq
          cases hp1 : inB p 0 60000
          · have HP := Lib.hid hp1
            have HJ := Lib.hid (HJ1.out hp1)
            clear hp1
            go_wp2_with (go_at_call 29; refine (l1In_any _ _ _ _).mono ?_; rintro e w' ⟨rfl, rfl⟩; rw [HP.out])
            go_ret
            rw [HJ.out]
            exact fresh_empty hb
          · cases hp2 : inB q 0 60000
            · have HP := Lib.hid hp1
              have HP2 := Lib.hid hp2
              have HJ := Lib.hid (HJ2.out hp2)
              clear hp1 hp2
              go_wp2_with fail
              refine (l1In_any _ _ _ _).mono ?_
              rintro e w' ⟨rfl, rfl⟩
              rw [HP.out]
              go_wp2_with fail
              refine (l1In_any _ _ _ _).mono ?_
              rintro e w' ⟨rfl, rfl⟩
              rw [HP2.out]
              go_wp2
              go_ret
              rw [HJ.out]
              exact fresh_empty hb
            · have HP := Lib.hid hp1
              have HP2 := Lib.hid hp2
              have hbx := inB_iff.1 hp1
              have hby := inB_iff.1 hp2
              clear hp1 hp2
              have HO := Lib.hid ho
              have hbz : w.heap.size ≤ wr.heap.size := hb.size
              have HB := Lib.hid hb
              clear ho hb
              have k0 : (0 : Int) ≤ (k : Int) := Int.natCast_nonneg _
              have k1' : (k : Int) < (k : Int) + 1 := by omega
              have y1 : IntKind.i64.wrap (s + p) = s + p := IntWalk.i64_in _ (by omega)
              have y2 : IntKind.i64.wrap (s + p + q) = s + p + q := IntWalk.i64_in _ (by omega)
              have k2 : (k : Int) < (xs.length : Int) := by omega
              have k3 : (k : Int) < (ys.length : Int) := by omega
              have hn1 := World.new_ne wr ⟨g, k, none⟩ hcg
              have hn2 := World.new_ne wr _ hc2
              have hn3 := World.new_ne wr _ hc1
              go_wp2_with fail
              refine (l1In_any _ _ _ _).mono ?_
              rintro e w' ⟨rfl, rfl⟩
              rw [HP.out]
              go_wp2_with fail
              refine (l1In_any _ _ _ _).mono ?_
              rintro e w' ⟨rfl, rfl⟩
              rw [HP2.out]
              go_wp2_with fail
              go_region_held3 (fun w' => w'.cell? ⟨g, k, none⟩ = some (.int .i64 s) ∧ w'.cell? (a1.add k) = some (.int .i64 p) ∧ w'.cell? (a2.add k) = some (.int .i64 q))
                (first | (go_keep; done) | (refine ⟨kept_in hkeep ?_ ?_, kept_far hkeep ?_ hbl1 hbg, kept_far hkeep ?_ hbl2 hbg⟩ <;> first | omega | (simp [*]; done)))
                ((refine step_push _ (by rfl) _ _ _ (by rfl) w.heap.size 3 i0 _ 1 8 Try.underlying22 hi0 hz0 hz1 hz2 rfl (by omega) (by omega) _ (k + 1) c 1 1 _ [.int .i64 (s + p + q)] ((HO.out.alloc _).drew) (by rfl) ⟨wr.heap.size, 0, none⟩ (by rfl) (by rfl) (World.news_of_block (cs := #[.int .i64 (s + p + q)]) (t := 3) (fr := (0, 0)) (heap_alloc_new wr _)) (by simp [Value.oneCell']) (by omega) (by omega) (by simp; omega) ?_; intro A' c' w1 hown1 hgrow hat hkeep))
              go_wp2
              go_roundw
              case rel =>
                refine ⟨k + 1, A', c', by omega, by go_num, rfl, ?_, ?_, Lib.hid (fun j hj => ?_)⟩
                · have h1 := Below.drew ((HB.out).alloc HB.out.size (Obj.cells #[Value.int .i64 (s + p + q)] 3))
                  exact below_push h1 ((HO.out.alloc _).drew) (Nat.le_refl _) (by simp; omega) hgrow
                · rw [HT.out]
                  have e : nums .i64 ((starts xs ys).take (k + 1) ++ [s + p + q]) = nums .i64 ((starts xs ys).take (k + 1)) ++ [Value.int .i64 (s + p + q)] := by simp [nums]
                  rw [e]
                  exact hown1
                · by_cases hjk : j < k
                  · exact HA.out j hjk
                  · obtain rfl : j = k := by omega
                    rw [HPP.out, HQQ.out]
                    exact ⟨HP.out, HP2.out⟩
              case measure => simp [intOf]; omega
        · obtain rfl : k = xs.length := by omega
          have HJ : Hid (jst xs ys = starts xs ys) := jst_yes HL.out ha (all_at (fun j h => by rw [← getD_eq h]; exact (HA.out j h).1)) (all_at (fun j h => by rw [← getD_eq h]; exact (HA.out j (by rw [← HL.out]; exact h)).2))
          go_wp2
          go_ret
          rw [HJ.out, starts_len]
          refine ⟨A, c, rfl, ?_, hb⟩
          have e : (starts xs ys).take (xs.length + 1) = starts xs ys := List.take_of_length_le (by rw [starts_len]; exact Nat.le_refl _)
          rw [e] at ho
          exact ho
    · have HJ : Hid (jst xs ys = []) := jst_no (fun h => ha h.1.2)
      go_enter Try.func17, Try.ntmps17
      go_wp2
      go_ret
      rw [HJ.out]
      exact fresh_emptyH ((Below.refl _ _).alloc (Nat.le_refl _) _) (by simp)
  · have hl' : ((xs.length : Int) != ys.length) = true := by simp [bne_iff_ne]; omega
    have HJ : Hid (jst xs ys = []) := jst_no (fun h => hl h.1.1.symm)
    clear hl
    go_enter Try.func17, Try.ntmps17
    go_wp2
    go_ret
    rw [HJ.out]
    exact fresh_emptyH ((Below.refl _ _).alloc (Nat.le_refl _) _) (by simp)
end Go.Proofs.Ytfdihhpnkmpidaa
