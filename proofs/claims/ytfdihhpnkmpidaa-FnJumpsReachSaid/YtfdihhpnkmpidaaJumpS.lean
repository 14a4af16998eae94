/- Contracts of jumpStarts. Conditions: few numbers, each in its range. -/
import Derived.Test.YtfdihhpnkmpidaaRows
import Derived.Test.YtfdihhpnkmpidaaBase
import Derived.Test.YtfdihhpnkmpidaaBase2
import Derived.Test.YtfdihhpnkmpidaaIn
import Derived.Test.YtfdihhpnkmpidaaFindI
import Derived.Test.YtfdihhpnkmpidaaJumpV
import Derived.WalkKit
import Derived.WalkSpells
import Derived.WalkLawsBesides
import Derived.Handy
import Derived.BigQuiet
import Derived.Deep.RegionHeld3
import Derived.Deep.DrawnRows
import Derived.Deep.QuietTactic
namespace Go.Proofs.Ytfdihhpnkmpidaa
open Go Go.RowKit

/-- Where the code before jump k begins. -/
def stAt (xs ys : List Int) : Nat → Int
  | 0 => 0
  | k + 1 => stAt xs ys k + xs.getD k 0 + ys.getD k 0
def starts (xs ys : List Int) : List Int := (List.range (xs.length + 1)).map (stAt xs ys)
theorem starts_len (xs ys : List Int) : (starts xs ys).length = xs.length + 1 := by simp [starts]
theorem starts_get (xs ys : List Int) {k : Nat} (hk : k ≤ xs.length) : (starts xs ys)[k]? = some (stAt xs ys k) := by
  unfold starts
  rw [List.getElem?_map, List.getElem?_range (by omega)]
  rfl
theorem starts_getD (xs ys : List Int) {k : Nat} (hk : k ≤ xs.length) : (starts xs ys)[k]'(by rw [starts_len]; omega) = stAt xs ys k := by
  have := starts_get xs ys hk
  rw [List.getElem?_eq_getElem (by rw [starts_len]; omega)] at this
  injection this
theorem starts_take (xs ys : List Int) {k : Nat} (hk : k < xs.length) : (starts xs ys).take (k + 1 + 1) = (starts xs ys).take (k + 1) ++ [stAt xs ys k + xs.getD k 0 + ys.getD k 0] := by
  rw [List.take_succ_eq_append_getElem (by rw [starts_len]; omega), starts_getD xs ys (by omega)]
  rfl
theorem valsOk_at {xs : List Int} (h : valsOk xs = true) {k : Nat} (hk : k < xs.length) : 0 ≤ xs[k] ∧ xs[k] ≤ 60000 := by
  unfold valsOk at h
  rw [List.all_eq_true] at h
  exact inB_iff.1 (h _ (List.getElem_mem hk))
theorem getD_eq {xs : List Int} {k : Nat} (hk : k < xs.length) : xs.getD k 0 = xs[k] := by rw [List.getD_eq_getElem?_getD, List.getElem?_eq_getElem hk]; rfl
theorem stAt_bd {xs ys : List Int} (hx : valsOk xs = true) (hy : valsOk ys = true) (hl : ys.length = xs.length) : ∀ k, k ≤ xs.length → 0 ≤ stAt xs ys k ∧ stAt xs ys k ≤ 120000 * k
  | 0, _ => by simp [stAt]
  | k + 1, hk => by
    have ih := stAt_bd hx hy hl k (by omega)
    have h1 := valsOk_at hx (k := k) (by omega)
    have h2 := valsOk_at hy (k := k) (by omega)
    have e1 := getD_eq (xs := xs) (k := k) (by omega)
    have e2 := getD_eq (xs := ys) (k := k) (by omega)
    unfold stAt
    omega

theorem int_info : (Try.prog.info? 3).map (fun i => (i.zero, i.size, i.bytes)) = some (some (.int .i64 0), 1, 8) := by kernel_rfl

set_option maxHeartbeats 2000000 in
theorem implJumpStarts_any {A1 A2 : Option Addr} {c1 c2 B1 B2 : Nat} (xs ys : List Int) (w : World) (h1 : Reads w B1 1 A1 xs.length (nums .i64 xs)) (hB1 : B1 ≤ w.heap.size) (h2 : Reads w B2 1 A2 ys.length (nums .i64 ys)) (hB2 : B2 ≤ w.heap.size)
    (hx : valsOk xs = true) (hy : valsOk ys = true) (hl : ys.length = xs.length) (hm : xs.length ≤ 8) :
    Calls Try.prog 37 #[.slice A1 xs.length c1, .slice A2 ys.length c2] w (Fresh 3 1 w (xs.length + 1) (nums .i64 (starts xs ys))) := by
  obtain ⟨i0, hi0, hz0, hz1, hz2⟩ := info_parts int_info
  have HX := Lib.hid hx
  have HY := Lib.hid hy
  have HL := Lib.hid hl
  clear hx hy hl
  go_enter Try.func37, Try.ntmps37
  go_wp2
  go_loopw [5, 11] (fun v i wr => ∃ (k : Nat) (A : Option Addr) (c : Nat), k ≤ xs.length ∧ i = .int .i64 k ∧ v = .slice A (k + 1) c ∧ Below w.heap.size w wr ∧ wr.ownsRow w.heap.size 3 1 (.slice A (k + 1) c) (k + 1) (nums .i64 ((starts xs ys).take (k + 1)))) (fun _ i _ => xs.length - (intOf i).toNat)
  case atStart =>
    refine ⟨0, _, _, Nat.zero_le _, rfl, rfl, (Below.refl _ _).alloc (Nat.le_refl _) _, ?_⟩
    have h := World.ownsRow_lit (base := w.heap.size) (e := 3) (size := 1) w #[.int .i64 0] 1 (Nat.le_refl _) (by unfold maxLen; omega) rfl
    have e : (starts xs ys).take (0 + 1) = [0] := by
      rw [List.take_succ_eq_append_getElem (by rw [starts_len]; omega), starts_getD xs ys (by omega)]
      rfl
    rw [e]
    exact h
  case round =>
    obtain ⟨k, A, c, hk, rfl, rfl, hb, ho⟩ := hrel
    by_cases hlt : k < xs.length
    · have hlt2 : k < ys.length := by rw [HL.out]; exact hlt
      obtain ⟨g, rfl, hbg, hgs⟩ := own_addr ho (by omega)
      have hbd := stAt_bd HX.out HY.out HL.out k hk
      have hbx := valsOk_at HX.out hlt
      have hby := valsOk_at HY.out hlt2
      have e1 := getD_eq hlt
      have e2 := getD_eq hlt2
      have HT := Lib.hid (starts_take xs ys hlt)
      obtain ⟨a1, u1, rfl, _, hx1, hc1⟩ := ((h1.more hB1).below hb).at_ hlt
      obtain ⟨a2, u2, rfl, hbl2, hx2, hc2⟩ := ((h2.more hB2).below hb).at_ hlt2
      rw [nums_get _ _ hlt, ← e1] at hx1
      rw [nums_get _ _ hlt2, ← e2] at hx2
      rw [← e1] at hbx
      rw [← e2] at hby
      injection hx1 with hx1
      injection hx2 with hx2
      subst hx1 hx2
      clear e1 e2
      have hcg : wr.cell? ⟨g, k, none⟩ = some (.int .i64 (stAt xs ys k)) := by
        rw [ho.cellAt k (by omega), nums_get _ _ (by rw [List.length_take, starts_len]; omega), List.getElem_take, starts_getD xs ys (by omega)]
      generalize stAt xs ys k = s at *
      generalize xs.getD k 0 = p at *
      generalize ys.getD k 0 = q at *
      have HO := Lib.hid ho
      clear ho
      have hbz : w.heap.size ≤ wr.heap.size := hb.size
      have HB := Lib.hid hb
      have HBX := Lib.hid hbx
      clear hb
      have k0 : (0 : Int) ≤ (k : Int) := Int.natCast_nonneg _
      have k1 : (k : Int) < ((k + 1 : Nat) : Int) := by omega
      have k1' : (k : Int) < (k : Int) + 1 := by omega
      have y1 : IntKind.i64.wrap (s + p) = s + p := IntWalk.i64_in _ (by omega)
      have y2 : IntKind.i64.wrap (s + p + q) = s + p + q := IntWalk.i64_in _ (by omega)
      have k2 : (k : Int) < (xs.length : Int) := by omega
      have k3 : (k : Int) < (ys.length : Int) := by omega
      have hn1 := World.new_ne wr ⟨g, k, none⟩ hcg
      have hn2 := World.new_ne wr _ hc2
      go_wp2
      go_region_held3 (fun w' => w'.cell? ⟨g, k, none⟩ = some (.int .i64 s) ∧ w'.cell? (a2.add k) = some (.int .i64 q))
        (first | (go_keep; done) | (refine ⟨kept_in hkeep ?_ ?_, kept_far hkeep ?_ hbl2 hbg⟩ <;> first | omega | (simp [*]; done)))
        ((refine step_push _ (by rfl) _ _ _ (by rfl) w.heap.size 3 i0 _ 1 8 Try.underlying22 hi0 hz0 hz1 hz2 rfl (by omega) (by omega) _ (k + 1) c 1 1 _ [.int .i64 (s + p + q)] ((HO.out.alloc _).drew) (by rfl) ⟨wr.heap.size, 0, none⟩ (by rfl) (by rfl) (World.news_of_block (cs := #[.int .i64 (s + p + q)]) (t := 3) (fr := (0, 0)) (heap_alloc_new wr _)) (by simp [Value.oneCell']) (by omega) (by omega) (by simp; omega) ?_; intro A' c' w1 hown1 hgrow hat hkeep))
      go_wp2
      go_roundw
      case rel =>
        refine ⟨k + 1, A', c', by omega, by go_num, rfl, ?_, ?_⟩
        · have h1 := Below.drew ((HB.out).alloc HB.out.size (Obj.cells #[Value.int .i64 (s + p + q)] 3))
          exact below_push h1 ((HO.out.alloc _).drew) (Nat.le_refl _) (by simp; omega) hgrow
        · rw [HT.out]
          have e : nums .i64 ((starts xs ys).take (k + 1) ++ [s + p + q]) = nums .i64 ((starts xs ys).take (k + 1)) ++ [Value.int .i64 (s + p + q)] := by simp [nums]
          rw [e]
          exact hown1
      case measure => simp [intOf]; omega
    · obtain rfl : k = xs.length := by omega
      go_wp2
      go_ret
      refine ⟨A, c, rfl, ?_, hb⟩
      have e : (starts xs ys).take (xs.length + 1) = starts xs ys := List.take_of_length_le (by rw [starts_len]; exact Nat.le_refl _)
      rw [e] at ho
      exact ho
/-- What JumpStarts returns. -/
def jst (xs ys : List Int) : List Int := if (ys.length = xs.length ∧ xs.length ≤ 8) ∧ valsOk xs = true ∧ valsOk ys = true then starts xs ys else []
theorem jst_yes {xs ys : List Int} (h1 : ys.length = xs.length) (h2 : xs.length ≤ 8) (h3 : valsOk xs = true) (h4 : valsOk ys = true) : jst xs ys = starts xs ys := if_pos ⟨⟨h1, h2⟩, h3, h4⟩
theorem jst_no {xs ys : List Int} (h : ¬ ((ys.length = xs.length ∧ xs.length ≤ 8) ∧ valsOk xs = true ∧ valsOk ys = true)) : jst xs ys = [] := if_neg h

theorem jst_len (xs ys : List Int) : (jst xs ys).length ≤ 9 := by
  unfold jst
  split
  · rename_i h; rw [starts_len]; omega
  · simp

/-- An empty slice that was just laid. -/
theorem fresh_empty {w W : World} {t : TypeId} (hb : Below W.heap.size W w) : Fresh t 1 W 0 (nums .i64 []) (.returned (.slice (some ⟨w.heap.size, 0, none⟩) 0 0)) (w.alloc (.cells #[] t)) :=
  ⟨_, _, rfl, World.ownsRow_lit (base := W.heap.size) (size := 1) w #[] 0 hb.size (by unfold maxLen; omega) rfl, hb.alloc hb.size _⟩
theorem fresh_emptyH {w W : World} {t : TypeId} {H : Nat} (hb : Below W.heap.size W w) (hH : w.heap.size = H) : Fresh t 1 W 0 (nums .i64 []) (.returned (.slice (some ⟨H, 0, none⟩) 0 0)) (w.alloc (.cells #[] t)) := by
  subst hH; exact fresh_empty hb
theorem fresh_nil {w W : World} {t : TypeId} (hb : Below W.heap.size W w) : Fresh t 1 W 0 (nums .i64 []) (.returned (.slice none 0 0)) w :=
  ⟨_, _, rfl, World.ownsRow_nil _ _ _ _, hb⟩

set_option maxHeartbeats 2000000 in
theorem implJumpStartsX_any {A1 A2 : Option Addr} {c1 c2 B1 B2 : Nat} (xs ys : List Int) (w : World) (h1 : Reads w B1 1 A1 xs.length (nums .i64 xs)) (hB1 : B1 ≤ w.heap.size) (h2 : Reads w B2 1 A2 ys.length (nums .i64 ys)) (hB2 : B2 ≤ w.heap.size) (hm1 : xs.length ≤ maxLen) (hm2 : ys.length ≤ maxLen) :
    Calls Try.prog 18 #[.slice A1 xs.length c1, .slice A2 ys.length c2] w (Fresh 3 1 w (jst xs ys).length (nums .i64 (jst xs ys))) := by
  have HV1 := Lib.hid (fun w' (hb : Below w.heap.size w w') => areValues_any (A1 := A1) (c1 := c1) (B1 := w.heap.size) xs w' ((h1.more hB1).below hb) hb.size hm1)
  have HV2 := Lib.hid (fun w' (hb : Below w.heap.size w w') => areValues_any (A1 := A2) (c1 := c2) (B1 := w.heap.size) ys w' ((h2.more hB2).below hb) hb.size hm2)
  have hm1' := hm1
  have hm2' := hm2
  unfold maxLen at hm1 hm2
  by_cases ha : xs.length ≤ 8
  · by_cases hb : ys.length = xs.length
    · have hb' : ((ys.length : Int) != xs.length) = false := by simp [hb]
      have HB := Lib.hid hb
      clear hb
      cases hv1 : valsOk xs
      · have HJ := Lib.hid (jst_no (xs := xs) (ys := ys) (by rw [hv1]; simp))
        have HW := Lib.hid hv1
        clear hv1
        rw [HJ.out]
        go_enter Try.func18, Try.ntmps18
        go_wp2_with fail
        refine (HV1.out _ (Below.refl _ _)).mono ?_
        rintro e w1 ⟨rfl, hb1⟩
        rw [HW.out]
        go_wp2
        go_ret
        exact fresh_nil hb1
      · cases hv2 : valsOk ys
        · have HJ := Lib.hid (jst_no (xs := xs) (ys := ys) (by rw [hv2]; simp))
          have HW := Lib.hid hv1
          have HW2 := Lib.hid hv2
          clear hv1 hv2
          rw [HJ.out]
          go_enter Try.func18, Try.ntmps18
          go_wp2_with fail
          refine (HV1.out _ (Below.refl _ _)).mono ?_
          rintro e w1 ⟨rfl, hb1⟩
          rw [HW.out]
          go_wp2_with fail
          refine (HV2.out _ hb1).mono ?_
          rintro e w2 ⟨rfl, hb2⟩
          rw [HW2.out]
          go_wp2
          go_ret
          exact fresh_nil (hb1.trans (hb2.mono hb1.size))
        · have HJ := Lib.hid (jst_yes HB.out ha hv1 hv2)
          have HW := Lib.hid hv1
          have HW2 := Lib.hid hv2
          clear hv1 hv2
          rw [HJ.out, starts_len]
          go_enter Try.func18, Try.ntmps18
          go_wp2_with fail
          refine (HV1.out _ (Below.refl _ _)).mono ?_
          rintro e w1 ⟨rfl, hb1⟩
          rw [HW.out]
          go_wp2_with fail
          refine (HV2.out _ hb1).mono ?_
          rintro e w2 ⟨rfl, hb2⟩
          rw [HW2.out]
          have hb3 := hb1.trans (hb2.mono hb1.size)
          go_wp2_with fail
          refine (implJumpStarts_any (B1 := w.heap.size) (B2 := w.heap.size) xs ys _ ((h1.more hB1).below hb3) hb3.size ((h2.more hB2).below hb3) hb3.size HW.out HW2.out HB.out ha).mono ?_
          rintro e w3 ⟨A, c, rfl, ho, hb4⟩
          go_wp2
          go_ret
          exact ⟨A, c, rfl, own_base ho hb3.size, hb3.trans (hb4.mono hb3.size)⟩
    · have hb' : ((ys.length : Int) != xs.length) = true := by simp [bne_iff_ne]; omega
      have HJ := Lib.hid (jst_no (xs := xs) (ys := ys) (fun h => hb h.1.1))
      clear hb
      rw [HJ.out]
      go_enter Try.func18, Try.ntmps18
      go_wp2_with fail
      go_ret
      exact fresh_nil (Below.refl _ _)
  · have HJ := Lib.hid (jst_no (xs := xs) (ys := ys) (fun h => ha h.1.2))
    rw [HJ.out]
    go_enter Try.func18, Try.ntmps18
    go_wp2_with fail
    go_ret
    exact fresh_nil (Below.refl _ _)
end Go.Proofs.Ytfdihhpnkmpidaa
