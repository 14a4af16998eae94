/- Contracts of the drawings of the laws of slots. Condition: the sizes. -/
import Derived.Test.YteceiaaiocdlfaaRows
import Derived.Test.YteceiaaiocdlfaaBase
import Derived.Test.YteceiaaiocdlfaaBase2
import Derived.Test.YteceiaaiocdlfaaBase3
import Derived.Test.YteceiaaiocdlfaaIn
import Derived.Test.YteceiaaiocdlfaaName
import Derived.Test.YteceiaaiocdlfaaSlt
import Derived.Test.YteceiaaiocdlfaaSlS
import Derived.Test.YteceiaaiocdlfaaSlI
import Derived.Test.YteceiaaiocdlfaaPick
import Derived.Test.YteceiaaiocdlfaaPick2
import Derived.Test.YteceiaaiocdlfaaOpenC
import Derived.Test.YteceiaaiocdlfaaReg
import Derived.Test.YteceiaaiocdlfaaRegS
import Derived.Test.YteceiaaiocdlfaaDrawN
import Derived.Test.YteceiaaiocdlfaaRegK
import Derived.WalkKit
import Derived.WalkSpells
import Derived.WalkLawsBesides
import Derived.Handy
import Derived.BigQuiet
import Derived.Deep.RegionHeld3
import Derived.Deep.DrawnRows
import Derived.Deep.QuietTactic
namespace Go.Proofs.Yteceiaaiocdlfaa
open Go Go.RowKit

theorem slint_info : (Try.prog.info? 3).map (fun i => (i.zero, i.size, i.bytes)) = some (some (.int .i64 0), 1, 8) := by kernel_rfl
/-- Names were drawn. -/
def DrewNs (w : World) (e : Ending) (w' : World) : Prop := ∃ (A : Option Addr) (c : Nat) (ns : List ByteArray), e = .returned (.slice A ns.length c) ∧ w'.ownsRow w.heap.size 9 1 (.slice A ns.length c) ns.length (texts ns) ∧ ns.length ≤ 7 ∧ (∀ x ∈ ns, x.size ≤ 9) ∧ Below w.heap.size w w'
set_option maxRecDepth 100000 in
set_option maxHeartbeats 8000000 in
theorem DrawSlotsOf_any {A : Option Addr} {c : Nat} (cs : List Int) (w : World) (h1 : Reads w w.heap.size 1 A cs.length (nums .u8 cs)) (hx : ∀ x ∈ cs, 0 ≤ x ∧ x ≤ 255) (hm : cs.length ≤ 1048576) (hc : cs.length ≤ c) (hc2 : c ≤ maxLen) :
    Calls Try.prog 35 #[.slice A cs.length c] w (DrewNs w) := by
  have HO := Lib.hid (open_any cs w h1 hx hm hc hc2)
  clear h1 hx
  obtain ⟨i0, hi0, hz0, hz1, hz2⟩ := info_parts st_info
  go_enter Try.func35, Try.ntmps35
  go_wp2_with fail
  refine HO.out.mono ?_
  rintro e w1 ⟨rfl, hr, hz, hb⟩
  obtain ⟨r, hrr⟩ : ∃ r, r = w.heap.size := ⟨_, rfl⟩
  rw [← hrr] at hr ⊢
  have hrw : w.heap.size ≤ r := by omega
  have hrl := hr.lt
  have HB := Lib.hid hb
  have zb := hb.size
  have HR := Lib.hid hr
  clear hrr hz HO hb hr
  go_wp2_with fail
  refine (pick_any r _ 8 _ (HR.out.alloc _) (by omega) (by omega) (by omega)).mono ?_
  rintro e w0 ⟨v, rfl, ⟨va, vb⟩, hr0, hg0⟩
  have o1 : w0.ownsRow w1.heap.size 9 1 (.slice (some ⟨w1.heap.size, 0, none⟩) 0 0) 0 (texts []) :=
    own_pick (World.ownsRow_lit (base := w1.heap.size) (e := 9) (size := 1) w1 #[] 0 (Nat.le_refl _) (by unfold maxLen; omega) rfl) hg0 hrl
  have HG0 := Lib.hid (gr_trans (gr_alloc (grown_refl w1 (some r)) _) hg0)
  have HR0 := Lib.hid hr0
  have O1 := Lib.hid o1
  clear hr0 hg0 o1 HR
  obtain ⟨m1, hm1⟩ : ∃ m : Nat, v = m := ⟨v.toNat, by omega⟩
  subst hm1
  go_wp2
  go_loopw [4, 5] (fun ov i wr => ∃ (k j : Nat) (A1 : Option Addr) (c1 : Nat) (ns : List ByteArray), k + j = m1 ∧ i = .int .i64 j ∧ ov = .slice A1 k c1 ∧ Hid (ns.length = k ∧ ∀ x ∈ ns, x.size ≤ 9) ∧ Hid (wr.ownsRow w1.heap.size 9 1 (.slice A1 k c1) k (texts ns)) ∧ Hid (Rdr wr r (1 + 2 * k)) ∧ Hid (w1.grownBy wr (some r))) (fun _ i _ => (intOf i).toNat)
  case atStart => exact ⟨0, m1, _, _, [], by omega, rfl, rfl, Lib.hid ⟨rfl, by simp⟩, O1, Lib.hid (HR0.out.more (by omega)), HG0⟩
  case round =>
    obtain ⟨k, j, A1, c1, ns, hkj, rfl, rfl, HN, Ha, HRk, HGk⟩ := hrel
    clear O1 HR0 HG0
    have hgz := HGk.out.size
    have hkm : k ≤ 7 := by omega
    by_cases hj : 0 < j
    · have hj7 : j ≤ 7 := by omega
      have HKJ := Lib.hid hkj
      clear hkj
      go_wp2_with fail
      refine (l20Name_any r _ 40 _ HRk.out (by omega) (by omega) (by omega)).mono ?_
      rintro e w2 ⟨s, rfl, ⟨hs9, _⟩, hr2, hg2⟩
      replace Ha := Lib.hid (own_pick Ha.out hg2 hrl)
      have HG2 := Lib.hid (gr_trans HGk.out hg2)
      have HR2 := Lib.hid hr2
      have zz2 := HG2.out.size
      clear HGk HRk hr2 hg2
      go_wp2_with (at_builtin; refine wpList_push _ rfl (.tmp 15) (.tmp 18) _ rfl w1.heap.size 9 i0 _ 1 16 Try.underlying22 hi0 hz0 hz1 hz2 rfl (by omega) (by omega) A1 k c1 1 1 (texts ns) [.string s] (by exact Ha.out.alloc _) rfl ⟨w2.heap.size, 0, none⟩ rfl rfl (World.news_of_block (cs := #[.string s]) (t := 9) (fr := (0, 0)) (by exact heap_alloc_new w2 _)) (by simp [Value.oneCell']) (by omega) (by omega) (by simp; omega) ?_; intro A1' c1' w3 hown3 hgrow3 hat3 hkeep3; have HR3 := Lib.hid ((HR2.out.alloc _).row hgrow3 (Ha.out.alloc _) hrl); have HG3 := Lib.hid (gr_row (gr_alloc HG2.out _) hgrow3 (Ha.out.alloc _) (Nat.le_refl _)); have Han := Lib.hid hown3; have zz3 := HG3.out.size; clear hown3 hgrow3 hat3 hkeep3 HR2 HG2 Ha ; have Ha := Lib.hid Han.out; clear Han)
      go_roundw
      case rel =>
        have hkj := HKJ.out
        have e1 : texts (ns ++ [s]) = texts ns ++ [.string s] := by simp [texts]
        refine ⟨k + 1, j - 1, A1', c1', ns ++ [s], by omega, by go_num, rfl, Lib.hid ⟨by have := HN.out.1; simp; omega, fun x hx => ?_⟩, Lib.hid ?_, Lib.hid (HR3.out.more (by omega)), HG3⟩
        · rcases List.mem_append.1 hx with hx | hx
          · exact HN.out.2 x hx
          · rw [List.mem_singleton.1 hx]; exact hs9
        · rw [e1]; exact Ha.out
      case measure => simp [intOf]; omega
    · obtain rfl : j = 0 := by omega
      go_wp2
      have hkl : ns.length = k := HN.out.1
      subst hkl
      go_ret
      exact ⟨A1, c1, ns, rfl, own_base Ha.out zb, hkm, HN.out.2, below_gr HB.out HGk.out hrw⟩
def SlotsGood (ss : List ByteArray) : Prop := 1 ≤ ss.length ∧ ss.length ≤ 3 ∧ Asc ss
theorem slots_three {a b c : ByteArray} (ha : nameOk a = true) (hb : nameOk b = true) (hc : nameOk c = true) : SlotsGood (slotsOf [a, b, c]) := by
  have hl := slotsOf_len [a, b, c]
  have hn : namesB [a, b, c] = true := by simp [namesB, ha, hb, hc]
  rcases slotsOf_is [a, b, c] with ⟨_, h2, h3⟩ | ⟨h1, _⟩
  · refine ⟨?_, hl, h2⟩
    have h4 : a ∈ slotsOf [a, b, c] := (h3 a).2 (by simp)
    exact List.length_pos_of_mem h4
  · rw [hn] at h1; cases h1
/-- Slots, a base and a name were drawn. -/
def DrewSP (w : World) (e : Ending) (w' : World) : Prop := ∃ (A : Option Addr) (c : Nat) (ss : List ByteArray) (base : Int) (nm : ByteArray), e = .returned (.tuple #[.slice A ss.length c, .int .i64 base, .string nm]) ∧ w'.ownsRow w.heap.size 9 1 (.slice A ss.length c) ss.length (texts ss) ∧ SlotsGood ss ∧ (-1 ≤ base ∧ base ≤ 60001) ∧ Below w.heap.size w w'
set_option maxRecDepth 100000 in
set_option maxHeartbeats 8000000 in
theorem DrawSlotPlace_any {A : Option Addr} {c : Nat} (cs : List Int) (w : World) (h1 : Reads w w.heap.size 1 A cs.length (nums .u8 cs)) (hx : ∀ x ∈ cs, 0 ≤ x ∧ x ≤ 255) (hm : cs.length ≤ 1048576) (hc : cs.length ≤ c) (hc2 : c ≤ maxLen) :
    Calls Try.prog 18 #[.slice A cs.length c] w (DrewSP w) := by
  have HO := Lib.hid (open_any cs w h1 hx hm hc hc2)
  clear h1 hx
  go_enter Try.func18, Try.ntmps18
  go_wp2_with fail
  refine HO.out.mono ?_
  rintro e w1 ⟨rfl, hr, hz, hb⟩
  obtain ⟨r, hrr⟩ : ∃ r, r = w.heap.size := ⟨_, rfl⟩
  rw [← hrr] at hr ⊢
  have hrw : w.heap.size ≤ r := by omega
  have hrl := hr.lt
  have HB := Lib.hid hb
  have zb := hb.size
  have HR := Lib.hid hr
  clear hrr hz HO hb hr
  go_wp2_with fail
  refine (l20Name_any r _ 0 _ HR.out (by omega) (by omega) (by omega)).mono ?_
  rintro e w2 ⟨n1, rfl, ⟨hn1, hq1⟩, hr2, hg2⟩
  have HG2 := Lib.hid hg2
  have HR2 := Lib.hid hr2
  have Q1 := Lib.hid (hq1 rfl)
  clear hr2 hg2 HR hq1
  go_wp2_with fail
  refine (l20Name_any r _ 0 _ HR2.out (by omega) (by omega) (by omega)).mono ?_
  rintro e w3 ⟨n2, rfl, ⟨hn2, hq2⟩, hr3, hg3⟩
  have HG3 := Lib.hid (gr_trans HG2.out hg3)
  have HR3 := Lib.hid hr3
  have Q2 := Lib.hid (hq2 rfl)
  clear hr3 hg3 HR2 HG2 hq2
  go_wp2_with fail
  refine (l20Name_any r _ 0 _ HR3.out (by omega) (by omega) (by omega)).mono ?_
  rintro e w4 ⟨n3, rfl, ⟨hn3, hq3⟩, hr4, hg4⟩
  have HG4 := Lib.hid (gr_trans HG3.out hg4)
  have HR4 := Lib.hid hr4
  have Q3 := Lib.hid (hq3 rfl)
  clear hr4 hg4 HR3 HG3 hq3
  obtain ⟨ss, hss⟩ : ∃ ss, ss = slotsOf [n1, n2, n3] := ⟨_, rfl⟩
  have HSS : Hid (SlotsGood ss) := by rw [hss]; exact slots_three Q1.out Q2.out Q3.out
  have hsl : 1 ≤ ss.length ∧ ss.length ≤ 3 := ⟨HSS.out.1, HSS.out.2.1⟩
  have HRD : Hid (Reads (w4.alloc (.cells #[.string n1, .string n2, .string n3] 9)) (w4.alloc (.cells #[.string n1, .string n2, .string n3] 9)).heap.size 1 (some ⟨w4.heap.size, 0, none⟩) 3 (texts [n1, n2, n3])) :=
    Reads.of_own (World.ownsRow_lit (base := w4.heap.size) (e := 9) (size := 1) w4 #[.string n1, .string n2, .string n3] 3 (Nat.le_refl _) (by unfold maxLen; omega) rfl)
  have HSP : Hid (Calls Try.prog 32 #[.slice (some ⟨w4.heap.size, 0, none⟩) 3 3] (w4.alloc (.cells #[.string n1, .string n2, .string n3] 9)) (Fresh 9 1 (w4.alloc (.cells #[.string n1, .string n2, .string n3] 9)) ss.length (texts ss))) := by
    rw [hss]
    refine specSlotsF [n1, n2, n3] _ HRD.out (Nat.le_refl _) (by simp) (fun s hs => ?_)
    simp only [List.mem_cons, List.not_mem_nil, or_false] at hs
    unfold maxLen
    rcases hs with rfl | rfl | rfl <;> omega
  clear hss HRD Q1 Q2 Q3
  go_wp2_with fail
  refine HSP.out.mono ?_
  rintro e w5 ⟨A5, c5, rfl, o5, b5⟩
  have HG5 := Lib.hid (gr_below (gr_alloc HG4.out _) b5)
  have HR5 := Lib.hid ((HR4.out.alloc _).below b5)
  have zz5 := HG5.out.size
  have HO5 := Lib.hid (own_base (base' := w1.heap.size) o5 (by have := HG4.out.size; simp; omega))
  obtain ⟨hsl1, hsl2⟩ := hsl
  clear o5 b5 HG4 HR4 HSP hn1 hn2 hn3
  have hr5 : r < w5.heap.size := by omega
  obtain ⟨P5, hP5⟩ : ∃ P5 : Nat, P5 = 0 + 2 + 2 + 2 := ⟨_, rfl⟩
  rw [← hP5] at HR5
  have hPb : P5 ≤ 6 := by omega
  clear hP5
  go_wp2
  refine wp_region_facts (fun i v w => match i with
      | 0 => v = .slice A5 ss.length c5
      | 1 => v = .pointer (some ⟨r, 0, none⟩)
      | 2 => IsInt 0 (256 - 1) v
      | 3 => LitI (fun b => b ≠ r) 4 (-1) (60001) v w
      | 4 => LitI (fun b => b ≠ r) 7 (0) (3) v w
      | 5 => v = .pointer (some ⟨r, 0, none⟩)
      | 6 => IsInt 0 (7 - 1) v
      | 7 => AdI (fun b => b ≠ r) (0) (3) v w
      | 8 => IsInt (0) (3) v
      | 9 => AdI (fun b => b ≠ r) (-1) (60001) v w
      | 10 => IsInt (-1) (60001) v
      | 11 => v = .slice A5 ss.length c5
      | 12 => v = .pointer (some ⟨r, 0, none⟩)
      | 13 => v = .slice A5 ss.length c5
      | 14 => v = .int .i64 (ss.length)
      | 15 => IsInt 0 ((ss.length : Int) - 1) v
      | 16 => AdS (fun b => b ≠ r) (fun _ => True) v w
      | 17 => IsStr (fun _ => True) v
      | 18 => v = .pointer (some ⟨r, 0, none⟩)
      | 19 => IsStr (fun _ => True) v
      | 20 => LitS (fun b => b ≠ r) 2 (fun _ => True) v w
      | 21 => v = .pointer (some ⟨r, 0, none⟩)
      | 22 => IsInt 0 (3 - 1) v
      | 23 => IsInt (0) (1) v
      | 24 => AdS (fun b => b ≠ r) (fun _ => True) v w
      | 25 => IsStr (fun _ => True) v
      | 26 => v = .slice A5 ss.length c5
      | 27 => IsInt (-1) (60001) v
      | _ => IsStr (fun _ => True) v)
    (fun fl _ wq => Rdr wq r (P5 + (b1 (fl 2) 1 + b1 (fl 6) 1 + b1 (fl 15) 1 + b1 (fl 19) 2 + b1 (fl 22) 1)) ∧ w5.grownBy wq (some r)) (Keeps (fun b => b ≠ r)) (by kernel_rfl) (by kernel_rfl) ?_ ?_ ?_ ?_
  · intro i v u u2 hk h
    match i, h with
    | 0, h => exact h
    | 1, h => exact h
    | 2, h => exact h
    | 3, h => exact h.keeps hk
    | 4, h => exact h.keeps hk
    | 5, h => exact h
    | 6, h => exact h
    | 7, h => exact h.keeps hk
    | 8, h => exact h
    | 9, h => exact h.keeps hk
    | 10, h => exact h
    | 11, h => exact h
    | 12, h => exact h
    | 13, h => exact h
    | 14, h => exact h
    | 15, h => exact h
    | 16, h => exact h.keeps hk
    | 17, h => exact h
    | 18, h => exact h
    | 19, h => exact h
    | 20, h => exact h.keeps hk
    | 21, h => exact h
    | 22, h => exact h
    | 23, h => exact h
    | 24, h => exact h.keeps hk
    | 25, h => exact h
    | 26, h => exact h
    | 27, h => exact h
    | _ + 28, h => exact h
  · intro fl _ hfl
    have hG0 : Rdr w5.drew r P5 := HR5.out
    exact ⟨by simpa [hfl, b1_false] using hG0, ⟨rfl, rfl, rfl, Nat.le_refl _, fun _ _ _ => rfl⟩⟩
  · refine ⟨?_, ?_, ?_, ?_, ?_, ?_, ?_, ?_, ?_, ?_, ?_, ?_, ?_, ?_, ?_, ?_, ?_, ?_, ?_, ?_, ?_, ?_, ?_, ?_, ?_, ?_, ?_, ?_, ?_, trivial⟩
    all_goals intro fl vs wr a1 hc hG hfi hcl hp K hK
    · refine op_move rfl ?_
      rw [hc.ev0 _ rfl]
      exact hK _ _ (Keeps.refl _ _) rfl (by simpa [upd] using hG)
    · refine op_move rfl ?_
      rw [hc.ev0 _ rfl]
      exact hK _ _ (Keeps.refl _ _) rfl (by simpa [upd] using hG)
    · have hfi2 : fl 2 = false := hfi
      have hcnt0 := b1_le (fl 2) 1
      have hcnt1 := b1_le (fl 6) 1
      have hcnt2 := b1_le (fl 15) 1
      have hcnt3 := b1_le (fl 19) 2
      have hcnt4 := b1_le (fl 22) 1
      have e1 := hc.ev 18 1 rfl
      rw [show vs 1 = _ from (hp 1 (by kernel_rfl)).2] at e1
      refine op_pick rfl e1 rfl hG.1 (by omega) (by omega) (by omega) ?_
      intro v w9 va vb hr9 hg9
      exact hK _ _ (Keeps.grown hg9 (by simp)) ⟨v, rfl, va, vb⟩ ⟨hr9.more (by simp [upd, b1_true, b1_false, hfi2] <;> omega), gr_trans hG.2 hg9⟩
    · obtain ⟨x0, hx0, xa0, xb0⟩ := (hp 2 (by kernel_rfl)).2
      have e0 := hc.ev 19 2 rfl
      rw [hx0] at e0
      unfold Oper.wp execOp
      simp only [e0, List.map_toArray, List.map_cons, List.map_nil]
      go_simp
      exact hK _ _ (Keeps.alloc _ _ _) ⟨_, [x0, 60000, 60001, -1], rfl, (by have := hG.2.size; first | omega | (simp only [ne_eq]; omega)), rfl, by intro y hy; simp at hy; omega, Blk.new _ _ _⟩ ⟨by simpa [upd] using hG.1.alloc _, gr_alloc hG.2 _⟩
    · go_simp
      exact hK _ _ (Keeps.alloc _ _ _) ⟨_, [0, 0, 0, 0, 1, 2, 3], rfl, (by have := hG.2.size; first | omega | (simp only [ne_eq]; omega)), rfl, by intro y hy; simp at hy; omega, Blk.new _ _ _⟩ ⟨by simpa [upd] using hG.1.alloc _, gr_alloc hG.2 _⟩
    · refine op_move rfl ?_
      rw [hc.ev0 _ rfl]
      exact hK _ _ (Keeps.refl _ _) rfl (by simpa [upd] using hG)
    · have hfi2 : fl 6 = false := hfi
      have hcnt0 := b1_le (fl 2) 1
      have hcnt1 := b1_le (fl 6) 1
      have hcnt2 := b1_le (fl 15) 1
      have hcnt3 := b1_le (fl 19) 2
      have hcnt4 := b1_le (fl 22) 1
      have e1 := hc.ev 22 5 rfl
      rw [show vs 5 = _ from (hp 5 (by kernel_rfl)).2] at e1
      refine op_pick rfl e1 rfl hG.1 (by omega) (by omega) (by omega) ?_
      intro v w9 va vb hr9 hg9
      exact hK _ _ (Keeps.grown hg9 (by simp)) ⟨v, rfl, va, vb⟩ ⟨hr9.more (by simp [upd, b1_true, b1_false, hfi2] <;> omega), gr_trans hG.2 hg9⟩
    · obtain ⟨x, hx, xa, xb⟩ := (hp 6 (by kernel_rfl)).2
      have hx2 : x < 7 := by omega
      obtain ⟨g, hg, hget⟩ := LitI.get (hp 4 (by kernel_rfl)).2 xa (by omega)
      have e1 := hc.ev 21 4 rfl
      rw [hg] at e1
      have e2 := hc.ev 23 6 rfl
      rw [hx] at e2
      unfold Oper.wp execOp
      simp only [e1, e2]
      go_simp
      exact hK _ _ (Keeps.refl _ _) hget (by simpa [upd] using hG)
    · obtain ⟨b, o, x, hv, hb, hcx, xa, xb⟩ := (hp 7 (by kernel_rfl)).2
      have e1 := hc.ev 24 7 rfl
      rw [hv] at e1
      unfold Oper.wp execOp
      simp only [e1]
      go_simp
      exact hK _ _ (Keeps.refl _ _) ⟨x, rfl, xa, xb⟩ (by simpa [upd] using hG)
    · obtain ⟨x, hx, xa, xb⟩ := (hp 8 (by kernel_rfl)).2
      have hx2 : x < 4 := by omega
      obtain ⟨g, hg, hget⟩ := LitI.get (hp 3 (by kernel_rfl)).2 xa (by omega)
      have e1 := hc.ev 20 3 rfl
      rw [hg] at e1
      have e2 := hc.ev 25 8 rfl
      rw [hx] at e2
      unfold Oper.wp execOp
      simp only [e1, e2]
      go_simp
      exact hK _ _ (Keeps.refl _ _) hget (by simpa [upd] using hG)
    · obtain ⟨b, o, x, hv, hb, hcx, xa, xb⟩ := (hp 9 (by kernel_rfl)).2
      have e1 := hc.ev 26 9 rfl
      rw [hv] at e1
      unfold Oper.wp execOp
      simp only [e1]
      go_simp
      exact hK _ _ (Keeps.refl _ _) ⟨x, rfl, xa, xb⟩ (by simpa [upd] using hG)
    · refine op_move rfl ?_
      rw [hc.ev0 _ rfl]
      exact hK _ _ (Keeps.refl _ _) rfl (by simpa [upd] using hG)
    · refine op_move rfl ?_
      rw [hc.ev0 _ rfl]
      exact hK _ _ (Keeps.refl _ _) rfl (by simpa [upd] using hG)
    · refine op_move rfl ?_
      rw [hc.ev0 _ rfl]
      exact hK _ _ (Keeps.refl _ _) rfl (by simpa [upd] using hG)
    · have e1 := hc.ev 30 13 rfl
      rw [show vs 13 = _ from (hp 13 (by kernel_rfl)).2] at e1
      unfold Oper.wp execOp
      simp only [resolve, invoke, builtin, Sem.run_bind, Sem.run_pure, Result.andThen_ok, List.map_toArray, List.map_cons, List.map_nil, e1]
      go_simp
      exact hK _ _ (Keeps.refl _ _) rfl (by simpa [upd] using hG)
    · have hfi2 : fl 15 = false := hfi
      have hcnt0 := b1_le (fl 2) 1
      have hcnt1 := b1_le (fl 6) 1
      have hcnt2 := b1_le (fl 15) 1
      have hcnt3 := b1_le (fl 19) 2
      have hcnt4 := b1_le (fl 22) 1
      have e1 := hc.ev 29 12 rfl
      rw [show vs 12 = _ from (hp 12 (by kernel_rfl)).2] at e1
      have e2 := hc.ev 31 14 rfl
      rw [show vs 14 = _ from (hp 14 (by kernel_rfl)).2] at e2
      refine op_pick rfl e1 e2 hG.1 (by omega) (by omega) (by omega) ?_
      intro v w9 va vb hr9 hg9
      exact hK _ _ (Keeps.grown hg9 (by simp)) ⟨v, rfl, va, vb⟩ ⟨hr9.more (by simp [upd, b1_true, b1_false, hfi2] <;> omega), gr_trans hG.2 hg9⟩
    · obtain ⟨x, hx, xa, xb⟩ := (hp 15 (by kernel_rfl)).2
      have e1 := hc.ev 28 11 rfl
      rw [show vs 11 = _ from (hp 11 (by kernel_rfl)).2] at e1
      have e2 := hc.ev 32 15 rfl
      rw [hx] at e2
      obtain ⟨k, rfl⟩ : ∃ k : Nat, x = (k : Int) := ⟨x.toNat, by omega⟩
      have hk3 : k < ss.length := by omega
      obtain ⟨g, hg, hbg, hlg⟩ := own_addr HO5.out (by omega)
      have hcell : wr.cell? ⟨g, k, none⟩ = some (.string ss[k]) := by
        have h1 := HO5.out
        rw [hg] at h1
        have h2 := (own_pick h1 hG.2 hrl).cellAt k (by omega)
        exact h2.trans (texts_get _ _ hk3)
      rw [hg] at e1
      have hx0 : (0 : Int) ≤ (k : Int) := Int.natCast_nonneg _
      have hx1 : (k : Int) < (ss.length : Int) := by omega
      unfold Oper.wp execOp
      simp only [e1, e2]
      go_simp
      exact hK _ _ (Keeps.refl _ _) ⟨g, k, _, rfl, (by simp only [ne_eq]; omega), hcell, trivial⟩ (by simpa [upd] using hG)
    · obtain ⟨b, o, x, hv, hb, hcx, xa⟩ := (hp 16 (by kernel_rfl)).2
      have e1 := hc.ev 33 16 rfl
      rw [hv] at e1
      unfold Oper.wp execOp
      simp only [e1]
      go_simp
      exact hK _ _ (Keeps.refl _ _) ⟨x, rfl, xa⟩ (by simpa [upd] using hG)
    · refine op_move rfl ?_
      rw [hc.ev0 _ rfl]
      exact hK _ _ (Keeps.refl _ _) rfl (by simpa [upd] using hG)
    · have hfi2 : fl 19 = false := hfi
      have hcnt0 := b1_le (fl 2) 1
      have hcnt1 := b1_le (fl 6) 1
      have hcnt2 := b1_le (fl 15) 1
      have hcnt3 := b1_le (fl 19) 2
      have hcnt4 := b1_le (fl 22) 1
      have e1 := hc.ev 35 18 rfl
      rw [show vs 18 = _ from (hp 18 (by kernel_rfl)).2] at e1
      refine op_name rfl e1 rfl hG.1 (by omega) (by omega) (by omega) ?_
      intro v w9 sa sb hr9 hg9
      exact hK _ _ (Keeps.grown hg9 (by simp)) ⟨v, rfl, trivial⟩ ⟨hr9.more (by simp [upd, b1_true, b1_false, hfi2] <;> omega), gr_trans hG.2 hg9⟩
    · obtain ⟨x0, hx0, xa0⟩ := (hp 17 (by kernel_rfl)).2
      have e0 := hc.ev 34 17 rfl
      rw [hx0] at e0
      obtain ⟨x1, hx1, xa1⟩ := (hp 19 (by kernel_rfl)).2
      have e1 := hc.ev 36 19 rfl
      rw [hx1] at e1
      unfold Oper.wp execOp
      simp only [e0, e1, List.map_toArray, List.map_cons, List.map_nil]
      go_simp
      exact hK _ _ (Keeps.alloc _ _ _) ⟨_, [x0, x1], rfl, (by have := hG.2.size; first | omega | (simp only [ne_eq]; omega)), rfl, fun _ _ => trivial, Blk.new _ _ _⟩ ⟨by simpa [upd] using hG.1.alloc _, gr_alloc hG.2 _⟩
    · refine op_move rfl ?_
      rw [hc.ev0 _ rfl]
      exact hK _ _ (Keeps.refl _ _) rfl (by simpa [upd] using hG)
    · have hfi2 : fl 22 = false := hfi
      have hcnt0 := b1_le (fl 2) 1
      have hcnt1 := b1_le (fl 6) 1
      have hcnt2 := b1_le (fl 15) 1
      have hcnt3 := b1_le (fl 19) 2
      have hcnt4 := b1_le (fl 22) 1
      have e1 := hc.ev 38 21 rfl
      rw [show vs 21 = _ from (hp 21 (by kernel_rfl)).2] at e1
      refine op_pick rfl e1 rfl hG.1 (by omega) (by omega) (by omega) ?_
      intro v w9 va vb hr9 hg9
      exact hK _ _ (Keeps.grown hg9 (by simp)) ⟨v, rfl, va, vb⟩ ⟨hr9.more (by simp [upd, b1_true, b1_false, hfi2] <;> omega), gr_trans hG.2 hg9⟩
    · obtain ⟨x, hx, xa, xb⟩ := (hp 22 (by kernel_rfl)).2
      have e1 := hc.ev 39 22 rfl
      rw [hx] at e1
      unfold Oper.wp execOp
      simp only [e1]
      go_simp
      exact hK _ _ (Keeps.refl _ _) ⟨_, rfl, by rw [quo_wrap xa (by omega) (by omega)]; omega, by rw [quo_wrap xa (by omega) (by omega)]; omega⟩ (by simpa [upd] using hG)
    · obtain ⟨x, hx, xa, xb⟩ := (hp 23 (by kernel_rfl)).2
      have hx2 : x < 2 := by omega
      obtain ⟨g, hg, hget⟩ := LitS.get (hp 20 (by kernel_rfl)).2 xa (by omega)
      have e1 := hc.ev 37 20 rfl
      rw [hg] at e1
      have e2 := hc.ev 40 23 rfl
      rw [hx] at e2
      unfold Oper.wp execOp
      simp only [e1, e2]
      go_simp
      exact hK _ _ (Keeps.refl _ _) hget (by simpa [upd] using hG)
    · obtain ⟨b, o, x, hv, hb, hcx, xa⟩ := (hp 24 (by kernel_rfl)).2
      have e1 := hc.ev 41 24 rfl
      rw [hv] at e1
      unfold Oper.wp execOp
      simp only [e1]
      go_simp
      exact hK _ _ (Keeps.refl _ _) ⟨x, rfl, xa⟩ (by simpa [upd] using hG)
    · have h := (hp 0 (by kernel_rfl)).2
      refine op_assign rfl ?_
      rw [hc.ev 17 0 rfl]
      exact hK _ _ (Keeps.refl _ _) h (by simpa [upd] using hG)
    · have h := (hp 10 (by kernel_rfl)).2
      refine op_assign rfl ?_
      rw [hc.ev 27 10 rfl]
      exact hK _ _ (Keeps.refl _ _) h (by simpa [upd] using hG)
    · have h := (hp 25 (by kernel_rfl)).2
      refine op_assign rfl ?_
      rw [hc.ev 42 25 rfl]
      exact hK _ _ (Keeps.refl _ _) h (by simpa [upd] using hG)
  · intro fl vs w9 hfl hG hF
    obtain ⟨x, h27, xa, xb⟩ := hF 27 (by simp)
    obtain ⟨nm, h28, _⟩ := hF 28 (by simp)
    have h26 := hF 26 (by simp)
    have HG9 := Lib.hid (gr_trans HG5.out hG.2)
    have HO9 := Lib.hid (own_pick HO5.out hG.2 hrl)
    simp only [fill]
    go_simp
    rw [show vs 26 = _ from h26]
    clear h26 h27 h28 hF hG
    go_wp2
    refine bodyPost_ret (v := .tuple #[.slice A5 ss.length c5, .int .i64 x, .string nm]) (by simp [results, Try.results18, go_sem]) rfl ?_
    exact ⟨A5, c5, ss, x, nm, rfl, own_base HO9.out zb, HSS.out, ⟨xa, xb⟩, below_gr HB.out HG9.out hrw⟩
end Go.Proofs.Yteceiaaiocdlfaa
