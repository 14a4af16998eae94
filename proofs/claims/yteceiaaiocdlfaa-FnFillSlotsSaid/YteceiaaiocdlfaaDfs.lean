/- Contract of the drawing of the law of FillSlots. Condition: the sizes. -/
import Derived.Test.YteceiaaiocdlfaaRows
import Derived.Test.YteceiaaiocdlfaaBase
import Derived.Test.YteceiaaiocdlfaaBase2
import Derived.Test.YteceiaaiocdlfaaBase3
import Derived.Test.YteceiaaiocdlfaaIn
import Derived.Test.YteceiaaiocdlfaaName
import Derived.Test.YteceiaaiocdlfaaSlt
import Derived.Test.YteceiaaiocdlfaaSlS
import Derived.Test.YteceiaaiocdlfaaSlI
import Derived.Test.YteceiaaiocdlfaaPick
import Derived.Test.YteceiaaiocdlfaaPick2
import Derived.Test.YteceiaaiocdlfaaOpenC
import Derived.Test.YteceiaaiocdlfaaReg
import Derived.Test.YteceiaaiocdlfaaRegS
import Derived.Test.YteceiaaiocdlfaaDrawN
import Derived.Test.YteceiaaiocdlfaaRegK
import Derived.Test.YteceiaaiocdlfaaDsl
import Derived.WalkKit
import Derived.WalkSpells
import Derived.WalkLawsBesides
import Derived.Handy
import Derived.BigQuiet
import Derived.Deep.RegionHeld3
import Derived.Deep.DrawnRows
import Derived.Deep.QuietTactic
namespace Go.Proofs.Yteceiaaiocdlfaa
open Go Go.RowKit

/-- Slots and places were drawn. -/
def DrewFS (w : World) (e : Ending) (w' : World) : Prop := ∃ (A : Option Addr) (c : Nat) (ss : List ByteArray) (A2 : Option Addr) (c2 : Nat) (ps : List Int), e = .returned (.tuple #[.slice A ss.length c, .slice A2 ps.length c2]) ∧ w'.ownsRow w.heap.size 9 1 (.slice A ss.length c) ss.length (texts ss) ∧
    w'.ownsRow w.heap.size 3 1 (.slice A2 ps.length c2) ps.length (nums .i64 ps) ∧ ss.length ≤ 3 ∧ ps.length ≤ 4 ∧ Below w.heap.size w w'
set_option maxRecDepth 100000 in
set_option maxHeartbeats 8000000 in
theorem DrawFillSlots_any {A : Option Addr} {c : Nat} (cs : List Int) (w : World) (h1 : Reads w w.heap.size 1 A cs.length (nums .u8 cs)) (hx : ∀ x ∈ cs, 0 ≤ x ∧ x ≤ 255) (hm : cs.length ≤ 1048576) (hc : cs.length ≤ c) (hc2 : c ≤ maxLen) :
    Calls Try.prog 29 #[.slice A cs.length c] w (DrewFS w) := by
  have HO := Lib.hid (open_any cs w h1 hx hm hc hc2)
  clear h1 hx
  obtain ⟨i0, hi0, hz0, hz1, hz2⟩ := info_parts slint_info
  go_enter Try.func29, Try.ntmps29
  go_wp2_with fail
  refine HO.out.mono ?_
  rintro e w1 ⟨rfl, hr, hz, hb⟩
  obtain ⟨r, hrr⟩ : ∃ r, r = w.heap.size := ⟨_, rfl⟩
  rw [← hrr] at hr ⊢
  have hrw : w.heap.size ≤ r := by omega
  have hrl := hr.lt
  have HB := Lib.hid hb
  have zb := hb.size
  have HR := Lib.hid hr
  clear hrr hz HO hb hr
  go_wp2_with fail
  refine (l20Name_any r _ 0 _ HR.out (by omega) (by omega) (by omega)).mono ?_
  rintro e w2 ⟨n1, rfl, ⟨hn1, hq1⟩, hr2, hg2⟩
  have HG2 := Lib.hid hg2
  have HR2 := Lib.hid hr2
  have Q1 := Lib.hid (hq1 rfl)
  clear hr2 hg2 HR hq1
  go_wp2_with fail
  refine (l20Name_any r _ 0 _ HR2.out (by omega) (by omega) (by omega)).mono ?_
  rintro e w3 ⟨n2, rfl, ⟨hn2, hq2⟩, hr3, hg3⟩
  have HG3 := Lib.hid (gr_trans HG2.out hg3)
  have HR3 := Lib.hid hr3
  have Q2 := Lib.hid (hq2 rfl)
  clear hr3 hg3 HR2 HG2 hq2
  go_wp2_with fail
  refine (l20Name_any r _ 0 _ HR3.out (by omega) (by omega) (by omega)).mono ?_
  rintro e w4 ⟨n3, rfl, ⟨hn3, hq3⟩, hr4, hg4⟩
  have HG4 := Lib.hid (gr_trans HG3.out hg4)
  have HR4 := Lib.hid hr4
  have Q3 := Lib.hid (hq3 rfl)
  clear hr4 hg4 HR3 HG3 hq3
  obtain ⟨ss, hss⟩ : ∃ ss, ss = slotsOf [n1, n2, n3] := ⟨_, rfl⟩
  have HSS : Hid (SlotsGood ss) := by rw [hss]; exact slots_three Q1.out Q2.out Q3.out
  have hsl : 1 ≤ ss.length ∧ ss.length ≤ 3 := ⟨HSS.out.1, HSS.out.2.1⟩
  have HRD : Hid (Reads (w4.alloc (.cells #[.string n1, .string n2, .string n3] 9)) (w4.alloc (.cells #[.string n1, .string n2, .string n3] 9)).heap.size 1 (some ⟨w4.heap.size, 0, none⟩) 3 (texts [n1, n2, n3])) :=
    Reads.of_own (World.ownsRow_lit (base := w4.heap.size) (e := 9) (size := 1) w4 #[.string n1, .string n2, .string n3] 3 (Nat.le_refl _) (by unfold maxLen; omega) rfl)
  have HSP : Hid (Calls Try.prog 32 #[.slice (some ⟨w4.heap.size, 0, none⟩) 3 3] (w4.alloc (.cells #[.string n1, .string n2, .string n3] 9)) (Fresh 9 1 (w4.alloc (.cells #[.string n1, .string n2, .string n3] 9)) ss.length (texts ss))) := by
    rw [hss]
    refine specSlotsF [n1, n2, n3] _ HRD.out (Nat.le_refl _) (by simp) (fun s hs => ?_)
    simp only [List.mem_cons, List.not_mem_nil, or_false] at hs
    unfold maxLen
    rcases hs with rfl | rfl | rfl <;> omega
  clear hss HRD Q1 Q2 Q3
  go_wp2_with fail
  refine HSP.out.mono ?_
  rintro e w5 ⟨A5, c5, rfl, o5, b5⟩
  have HG5 := Lib.hid (gr_below (gr_alloc HG4.out _) b5)
  have HR5 := Lib.hid ((HR4.out.alloc _).below b5)
  have zz5 := HG5.out.size
  have HO5 := Lib.hid (own_base (base' := w1.heap.size) o5 (by have := HG4.out.size; simp; omega))
  obtain ⟨hsl1, hsl2⟩ := hsl
  clear o5 b5 HG4 HR4 HSP hn1 hn2 hn3
  have hr5 : r < w5.heap.size := by omega
  go_wp2_with fail
  refine (pick_any r _ 9 _ (HR5.out.alloc _) (by omega) (by omega) (by omega)).mono ?_
  rintro e w6 ⟨q, rfl, ⟨qa, qb⟩, hr6, hg6⟩
  have o6 : Hid (w6.ownsRow w1.heap.size 3 1 (.slice (some ⟨w5.heap.size, 0, none⟩) 0 0) 0 (nums .i64 [])) := own_pick (World.ownsRow_lit (base := w1.heap.size) (e := 3) (size := 1) w5 #[] 0 zz5 (by unfold maxLen; omega) rfl) hg6 hrl
  have Hz6 := Lib.hid (own_pick (HO5.out.alloc (.cells #[] 3)) hg6 hrl)
  have Pz6 : Hid (Apart A5 (some ⟨w5.heap.size, 0, none⟩)) := (apart_new (A := some ⟨w5.heap.size, 0, none⟩) HO5.out (fun a h => by injection h with h; subst h; exact Nat.le_refl _)).symm
  have HG6 := Lib.hid (gr_trans (gr_alloc HG5.out (.cells #[] 3)) hg6)
  have HR6 : Hid (Rdr w6 r (7 + 3 * 0)) := hr6.more (by omega)
  have HSL := Lib.hid hsl1
  clear hr6 hg6 HO5 HG5 HR5
  have y1 : IntKind.i64.wrap (q.tdiv 8) = q / 8 := quo_wrap qa (by omega) (by omega)
  obtain ⟨m, hm1⟩ : ∃ m : Nat, (m : Int) = (ss.length : Int) + q / 8 := ⟨((ss.length : Int) + q / 8).toNat, by omega⟩
  have y2 : IntKind.i64.wrap ((ss.length : Int) + q / 8) = (m : Int) := by rw [← hm1]; exact IntWalk.i64_in _ (by omega)
  have hm4 : m ≤ 4 := by omega
  have hm1' : 1 ≤ m := by omega
  clear hm1
  go_wp2
  clear y1 y2
  go_loopw [6, 8] (fun v i wr => ∃ (k : Nat) (A1 : Option Addr) (c1 : Nat) (ps : List Int), k ≤ m ∧ i = .int .i64 k ∧ v = .slice A1 k c1 ∧ Hid (ps.length = k) ∧ Hid (wr.ownsRow w1.heap.size 3 1 (.slice A1 k c1) k (nums .i64 ps)) ∧ Hid (wr.ownsRow w1.heap.size 9 1 (.slice A5 ss.length c5) ss.length (texts ss)) ∧ Hid (Apart A5 A1) ∧ Hid (Rdr wr r (7 + 3 * k)) ∧ Hid (w1.grownBy wr (some r))) (fun _ i _ => m - (intOf i).toNat)
  case atStart => exact ⟨0, _, _, [], Nat.zero_le _, rfl, rfl, Lib.hid rfl, o6, Hz6, Pz6, HR6, HG6⟩
  case round =>
    clear o6 Hz6 Pz6 HR6 HG6
    obtain ⟨k, A1, c1, ps, hk, rfl, rfl, HP, Ha, Hz, Pza, HR10, HG10⟩ := hrel
    have zz10 := HG10.out.size
    by_cases hlt : k < m
    · have i1 : (k : Int) < (m : Int) := by omega
      go_wp2_with fail
      refine (pick_any r _ 256 _ HR10.out (by omega) (by omega) (by omega)).mono ?_
      rintro e w11 ⟨v1, rfl, ⟨v1a, v1b⟩, hr11, hg11⟩
      replace Hz := Lib.hid (own_pick Hz.out hg11 hrl)
      replace Ha := Lib.hid (own_pick Ha.out hg11 hrl)
      have HG11 := Lib.hid (gr_trans HG10.out hg11)
      have HR11 := Lib.hid hr11
      have zz11 := HG11.out.size
      clear HG10 HR10 hr11 hg11
      have y1 : IntKind.i64.wrap (v1 * 256) = v1 * 256 := IntWalk.i64_in _ (by omega)
      go_wp2_with fail
      refine (pick_any r _ 256 _ HR11.out (by omega) (by omega) (by omega)).mono ?_
      rintro e w12 ⟨v2, rfl, ⟨v2a, v2b⟩, hr12, hg12⟩
      replace Hz := Lib.hid (own_pick Hz.out hg12 hrl)
      replace Ha := Lib.hid (own_pick Ha.out hg12 hrl)
      have HG12 := Lib.hid (gr_trans HG11.out hg12)
      have HR12 := Lib.hid hr12
      have zz12 := HG12.out.size
      clear HG11 HR11 hr12 hg12
      go_wp2_with fail
      refine (pick_any r _ 3 _ (HR12.out.alloc _) (by omega) (by omega) (by omega)).mono ?_
      rintro e w13 ⟨v3, rfl, ⟨v3a, v3b⟩, hr13, hg13⟩
      have hK := (Blk.new w12 3 #[.int .i64 (v1 * 256), .int .i64 v2, .int .i64 65535]).grown hg13 (by have := HG12.out.size; simp; omega)
      replace Hz := Lib.hid (own_pick (Hz.out.alloc _) hg13 hrl)
      replace Ha := Lib.hid (own_pick (Ha.out.alloc _) hg13 hrl)
      have HG13 := Lib.hid (gr_trans (gr_alloc HG12.out _) hg13)
      have HR13 := Lib.hid hr13
      have zz13 := HG13.out.size
      clear HG12 HR12 hr13 hg13
      have hK2 : Blk w13 w12.heap.size 3 (nums .i64 [v1 * 256, v2, 65535]).toArray := hK
      obtain ⟨x, hx, hcx⟩ := lit_at hK2 v3a (by simp; omega)
      clear hK hK2 hx y1
      go_wp2_with (at_builtin; refine wpList_push _ rfl (.tmp 31) (.tmp 42) _ rfl w1.heap.size 3 i0 _ 1 8 Try.underlying33 hi0 hz0 hz1 hz2 rfl (by omega) (by omega) A1 k c1 1 1 (nums .i64 ps) [.int .i64 x] (by exact Ha.out.alloc _) rfl ⟨w13.heap.size, 0, none⟩ rfl rfl (World.news_of_block (cs := #[.int .i64 x]) (t := 3) (fr := (0, 0)) (by exact heap_alloc_new w13 _)) (by simp [Value.oneCell']) (by omega) (by omega) (by simp; omega) ?_; intro A1' c1' w14 hown14 hgrow14 hat14 hkeep14; have Hzn := Lib.hid (own_apart (Hz.out.alloc _) hgrow14 Pza.out); have Pzan := Lib.hid (apart_push Pza.out.symm Hz.out (by simp) hat14).symm; have HR14 := Lib.hid ((HR13.out.alloc _).row hgrow14 (Ha.out.alloc _) hrl); have HG14 := Lib.hid (gr_row (gr_alloc HG13.out _) hgrow14 (Ha.out.alloc _) (Nat.le_refl _)); have Han := Lib.hid hown14; have zz14 := HG14.out.size; clear hown14 hgrow14 hat14 hkeep14 HR13 HG13 Hz Ha Pza; have Hz := Lib.hid Hzn.out; clear Hzn; have Ha := Lib.hid Han.out; clear Han; have Pza := Lib.hid Pzan.out; clear Pzan)
      go_roundw
      case rel =>
        have e1 : nums .i64 (ps ++ [x]) = nums .i64 ps ++ [.int .i64 x] := by simp [nums]
        refine ⟨k + 1, A1', c1', ps ++ [x], by omega, by go_num, rfl, Lib.hid (by have := HP.out; simp; omega), Lib.hid ?_, Hz, Pza, Lib.hid (HR14.out.more (by omega)), HG14⟩
        rw [e1]; exact Ha.out
      case measure => simp [intOf]; omega
    · obtain rfl : k = m := by omega
      go_wp2_with fail
      refine (odd_any r _ 9 _ HR10.out (by omega) (by omega) (by omega)).mono ?_
      rintro e w7 ⟨b, rfl, hr7, hg7⟩
      replace Ha := Lib.hid (own_pick Ha.out hg7 hrl)
      replace Hz := Lib.hid (own_pick Hz.out hg7 hrl)
      have HG7 := Lib.hid (gr_trans HG10.out hg7)
      have HR7 := Lib.hid hr7
      have zz7 := HG7.out.size
      clear hr7 hg7 HG10 HR10
      have hkl : ps.length = k := HP.out
      have HSB := Lib.hid hsl2
      cases b
      · go_wp2
        subst hkl
        refine bodyPost_ret (v := .tuple #[.slice A5 ss.length c5, .slice A1 ps.length c1]) (by simp [results, Try.results29, go_sem]) rfl ?_
        exact ⟨A5, c5, ss, A1, c1, ps, rfl, own_base Hz.out zb, own_base Ha.out zb, HSB.out, hm4, below_gr HB.out HG7.out hrw⟩
      · obtain ⟨g, rfl, hga, hgb⟩ := own_addr Ha.out (by omega)
        go_wp2_with fail
        refine (pick_any r _ 2 _ (HR7.out.alloc _) (by omega) (by omega) (by omega)).mono ?_
        rintro e w8 ⟨v, rfl, ⟨va, vb⟩, hr8, hg8⟩
        have hK : Blk w8 w7.heap.size 3 (nums .i64 [-1, 65536]).toArray := (Blk.new w7 3 (nums .i64 [-1, 65536]).toArray).grown hg8 (by simp; omega)
        obtain ⟨x, hx, hcx⟩ := lit_at hK va (by simp; omega)
        have Ha8 := Lib.hid (own_pick (Ha.out.alloc (.cells #[.int .i64 (-1), .int .i64 65536] 3)) hg8 hrl)
        have Hz8 := Lib.hid (own_pick (Hz.out.alloc (.cells #[.int .i64 (-1), .int .i64 65536] 3)) hg8 hrl)
        have HG8 := Lib.hid (gr_trans (gr_alloc HG7.out (.cells #[.int .i64 (-1), .int .i64 65536] 3)) hg8)
        have hst := Ha8.out.stored 0 (.int .i64 x)
        have HZS : Hid ((w8.setCell ⟨g, 0, none⟩ (.int .i64 x)).ownsRow w1.heap.size 9 1 (.slice A5 ss.length c5) ss.length (texts ss)) := own_apart (A2 := some ⟨g, 0, none⟩) Hz8.out hst.2 Pza.out
        have HAS : Hid ((w8.setCell ⟨g, 0, none⟩ (.int .i64 x)).ownsRow w1.heap.size 3 1 (.slice (some ⟨g, 0, none⟩) k c1) k (nums .i64 (ps.set 0 x))) := by
          have e1 : nums .i64 (ps.set 0 x) = (nums .i64 ps).set 0 (.int .i64 x) := by simp [nums, List.map_set]
          rw [Hid, e1]
          exact hst.1
        have HGS : Hid (w1.grownBy (w8.setCell ⟨g, 0, none⟩ (.int .i64 x)) (some r)) := gr_setCell HG8.out (by simp only; omega) _
        have hc8 : w8.cell? ⟨g, 0, none⟩ = some (.int .i64 (ps[0]'(by omega))) := (Ha8.out.cellAt 0 (by omega)).trans (nums_get _ _ (by omega))
        have hf8 : w8.frozen? ⟨g, 0, none⟩ = false := Ha8.out.frozenAt 0
        generalize ps[0]'(by omega) = p0 at *
        have hk0 : (0 : Int) < (k : Int) := by omega
        have hlen : (ps.set 0 x).length = k := by rw [List.length_set]; exact hkl
        have HL := Lib.hid hlen
        clear hlen hst hK hx hr8 hg8 Ha Hz HG7 HR7 HP hkl
        go_wp2
        have hlen := HL.out
        rw [← hlen] at HAS
        refine bodyPost_ret (v := .tuple #[.slice A5 ss.length c5, .slice (some ⟨g, 0, none⟩) k c1]) (by simp [results, Try.results29, go_sem]) rfl ?_
        exact ⟨A5, c5, ss, _, c1, ps.set 0 x, by rw [hlen], own_base HZS.out zb, own_base HAS.out zb, HSB.out, by omega, below_gr HB.out HGS.out hrw⟩
end Go.Proofs.Yteceiaaiocdlfaa
