/- The drawn arguments of the law on reaching jumps. No condition but the code's size. -/
import Derived.Test.YtfdihhpnkmpidaaRows
import Derived.Test.YtfdihhpnkmpidaaBase
import Derived.Test.YtfdihhpnkmpidaaBase2
import Derived.Test.YtfdihhpnkmpidaaIn
import Derived.Test.YtfdihhpnkmpidaaIn2
import Derived.Test.YtfdihhpnkmpidaaFindI
import Derived.Test.YtfdihhpnkmpidaaJumpV
import Derived.Test.YtfdihhpnkmpidaaJumpS
import Derived.Test.YtfdihhpnkmpidaaJumpT
import Derived.Test.YtfdihhpnkmpidaaJumpP
import Derived.Test.YtfdihhpnkmpidaaJumpR
import Derived.Test.YtfdihhpnkmpidaaJumpQ
import Derived.Test.YtfdihhpnkmpidaaRepI
import Derived.Test.YtfdihhpnkmpidaaJumpW
import Derived.Test.YtfdihhpnkmpidaaPick
import Derived.Test.YtfdihhpnkmpidaaPick2
import Derived.Test.YtfdihhpnkmpidaaOpenC
import Derived.Test.YtfdihhpnkmpidaaDrawJ
import Derived.WalkKit
import Derived.WalkSpells
import Derived.WalkLawsBesides
import Derived.Handy
import Derived.BigQuiet
import Derived.Deep.RegionHeld3
import Derived.Deep.DrawnRows
import Derived.Deep.QuietTactic
namespace Go.Proofs.Ytfdihhpnkmpidaa
open Go Go.RowKit

/-- Sizes, targets and widths were drawn. -/
def DrewReach (w : World) (e : Ending) (w' : World) : Prop :=
  ∃ (A1 : Option Addr) (c1 : Nat) (xs : List Int) (A2 : Option Addr) (c2 : Nat) (ts : List Int) (A3 : Option Addr) (c3 : Nat) (ys : List Int), e = .returned (.tuple #[.slice A1 xs.length c1, .slice A2 ts.length c2, .slice A3 ys.length c3]) ∧
    w'.ownsRow w.heap.size 3 1 (.slice A1 xs.length c1) xs.length (nums .i64 xs) ∧ w'.ownsRow w.heap.size 3 1 (.slice A2 ts.length c2) ts.length (nums .i64 ts) ∧ w'.ownsRow w.heap.size 3 1 (.slice A3 ys.length c3) ys.length (nums .i64 ys) ∧
    (xs.length ≤ 7 ∧ ts.length ≤ 7) ∧ ys.length ≤ 8 ∧ Below w.heap.size w w'
set_option maxRecDepth 100000 in
set_option maxHeartbeats 8000000 in
theorem DrawJumpsReach_any {A : Option Addr} {c : Nat} (xs : List Int) (w : World) (h1 : Reads w w.heap.size 1 A xs.length (nums .u8 xs)) (hx : ∀ x ∈ xs, 0 ≤ x ∧ x ≤ 255) (hm : xs.length ≤ 1048576) (hc : xs.length ≤ c) (hc2 : c ≤ maxLen) :
    Calls Try.prog 25 #[.slice A xs.length c] w (DrewReach w) := by
  have HO := Lib.hid (open_any xs w h1 hx hm hc hc2)
  clear h1 hx
  go_enter Try.func25, Try.ntmps25
  go_wp2_with fail
  refine HO.out.mono ?_
  rintro e w1 ⟨rfl, hr, hz, hb⟩
  obtain ⟨r, hrr⟩ : ∃ r, r = w.heap.size := ⟨_, rfl⟩
  rw [← hrr] at hr ⊢
  have hrl : r < w1.heap.size := by omega
  have hrw : w.heap.size ≤ r := by omega
  have HZ := Lib.hid hz
  have HRR := Lib.hid hrr
  have HB := Lib.hid hb
  clear hz hrr hb HO
  go_wp2_with fail
  refine (l20Jumps_any r 0 12 _ hr (by omega) (by omega) (by omega)).mono ?_
  rintro e w2 ⟨A1, c1, us, A2, c2, ts, rfl, oa, ob, hap, hl, _, hr2, hg⟩
  have Ha := Lib.hid oa
  have Hb := Lib.hid ob
  have HG2 := Lib.hid hg
  have HR2 := Lib.hid hr2
  have zz2 := hg.size
  clear oa ob hap hg hr2 hr
  go_wp2_with fail
  refine (specJumpWidths_any us ts _ (Reads.of_own Ha.out) (Nat.le_refl _) (Reads.of_own Hb.out) (Nat.le_refl _) (by unfold maxLen; omega) (by unfold maxLen; omega)).mono ?_
  rintro e w4 ⟨A3, c3, rfl, o4, s4⟩
  have hn8 := jwd_len us ts
  have HY0 := Lib.hid (own_base o4 zz2)
  have HP1 : Hid (Apart A1 A3) := (apart_new Ha.out (fun a h => (own_up o4 a h).1)).symm
  have HP2 : Hid (Apart A2 A3) := (apart_new Hb.out (fun a h => (own_up o4 a h).1)).symm
  replace Ha := Lib.hid (own_below Ha.out s4)
  replace Hb := Lib.hid (own_below Hb.out s4)
  have HG4 := Lib.hid (gr_below HG2.out s4)
  have HR4 := Lib.hid (HR2.out.below s4)
  have zz4 := HG4.out.size
  clear o4 s4 HG2 HR2
  obtain ⟨zs, hzs⟩ : ∃ zs, zs = jwd us ts := ⟨_, rfl⟩
  obtain ⟨n, hn⟩ : ∃ n, n = (jwd us ts).length := ⟨_, rfl⟩
  have hzn : zs.length = n := by rw [hn, hzs]
  rw [← hn] at HY0 hn8 ⊢
  rw [← hzs] at HY0
  have HZN := Lib.hid hzn
  clear hn hzs hzn
  go_wp2
  go_loopw [9] (fun i wr => ∃ (k : Nat) (ys : List Int), k ≤ n ∧ i = .int .i64 k ∧ Hid (wr.ownsRow w1.heap.size 3 1 (.slice A3 n c3) n (nums .i64 ys)) ∧ Hid (wr.ownsRow w1.heap.size 3 1 (.slice A1 us.length c1) us.length (nums .i64 us)) ∧ Hid (wr.ownsRow w1.heap.size 3 1 (.slice A2 ts.length c2) ts.length (nums .i64 ts)) ∧ Hid (ys.length = n) ∧ Hid (Rdr wr r (0 + 60 + 2 * k)) ∧ Hid (w1.grownBy wr (some r))) (fun i _ => n - (intOf i).toNat)
  case atStart => exact ⟨0, zs, Nat.zero_le _, rfl, HY0, Ha, Hb, HZN, HR4, HG4⟩
  case round =>
    obtain ⟨k, ys, hk, rfl, Hy, Ha', Hb', HYL, HR4', HG4'⟩ := hrel
    clear HY0 Ha Hb HZN HR4 HG4 zz4
    have Ha := Ha'
    have Hb := Hb'
    have HR4 := HR4'
    have HG4 := HG4'
    clear Ha' HR4' HG4' Hb'
    have zz4 := HG4.out.size
    by_cases hlt : k < n
    · skip
      go_wp2_with fail
      refine (pick_any r _ 4 _ HR4.out (by omega) (by omega) (by omega)).mono ?_
      rintro e w5 ⟨v, rfl, ⟨va, vb⟩, hr5, hg5⟩
      replace Ha := Lib.hid (own_pick Ha.out hg5 hrl)
      replace Hb := Lib.hid (own_pick Hb.out hg5 hrl)
      replace Hy := Lib.hid (own_pick Hy.out hg5 hrl)
      have HG5 := Lib.hid (gr_trans HG4.out hg5)
      have HR5 := Lib.hid hr5
      have zz5 := HG5.out.size
      clear HG4 HR4 hr5 hg5
      by_cases hv : v = 0
      · subst hv
        go_wp2_with fail
        refine (pick_any r _ 5 _ ((HR5.out.alloc _).alloc _) (by omega) (by omega) (by omega)).mono ?_
        rintro e w6 ⟨u, rfl, ⟨ua, ub⟩, hr6, hg6⟩
        have hK1 := ((Blk.new w5 3 #[.int .i64 2, .int .i64 4, .int .i64 3]).alloc _).grown hg6 (by have := HG5.out.size; simp; omega)
        have hK2 := (Blk.new (w5.alloc (.cells #[.int .i64 2, .int .i64 4, .int .i64 3] 3)) 3 #[.int .i64 0, .int .i64 1, .int .i64 1, .int .i64 1, .int .i64 2]).grown hg6 (by have := HG5.out.size; simp; omega)
        simp only [World.size_alloc] at hK2
        replace Ha := Lib.hid (own_pick ((Ha.out.alloc _).alloc _) hg6 hrl)
        replace Hb := Lib.hid (own_pick ((Hb.out.alloc _).alloc _) hg6 hrl)
        replace Hy := Lib.hid (own_pick ((Hy.out.alloc _).alloc _) hg6 hrl)
        have HG6 := Lib.hid (gr_trans (gr_alloc (gr_alloc HG5.out _) _) hg6)
        have HR6 := Lib.hid hr6
        have zz6 := HG6.out.size
        clear HG5 HR5 hr6 hg6
        have hK1' : Blk w6 w5.heap.size 3 (nums .i64 [2, 4, 3]).toArray := hK1
        have hK2' : Blk w6 (w5.heap.size + 1) 3 (nums .i64 [0, 1, 1, 1, 2]).toArray := hK2
        obtain ⟨x, hx, hcx⟩ := lit_at hK2' ua (by simp; omega)
        have hxb : 0 ≤ x ∧ x ≤ 2 := by simp at hx; omega
        obtain ⟨hxa, hxb'⟩ := hxb
        obtain ⟨z, hz', hcz⟩ := lit_at hK1' hxa (by simp; omega)
        have hzb : 2 ≤ z ∧ z ≤ 4 := by simp at hz'; omega
        obtain ⟨g3, rfl, hg3, hg3'⟩ := own_addr Hy.out (by omega)
        have hst := Hy.out.stored k (.int .i64 z)
        have hf3 : w6.frozen? ⟨g3, k, none⟩ = false := Hy.out.frozenAt k
        obtain ⟨q, hcu⟩ : ∃ q, w6.cell? ⟨g3, k, none⟩ = some q := ⟨_, (Hy.out.cellAt k (by omega)).trans (List.getElem?_eq_getElem (by have := Hy.out.1; omega))⟩
        have HST := Lib.hid hst
        have k0 : (0 : Int) ≤ (k : Int) := Int.natCast_nonneg _
        have k1 : (k : Int) < (n : Int) := by omega
        clear hst hK1 hK1' hK2 hK2' hx hz'
        go_wp2
        go_roundw
        case rel =>
          refine ⟨k + 1, ys.set k z, by omega, by go_num, Lib.hid ?_, own_other (A2 := some ⟨g3, 0, none⟩) Ha.out HST.out.2 (fun a a2 h1 h2 => by injection h2 with h2; subst h2; exact HP1.out a _ h1 rfl), own_other (A2 := some ⟨g3, 0, none⟩) Hb.out HST.out.2 (fun a a2 h1 h2 => by injection h2 with h2; subst h2; exact HP2.out a _ h1 rfl), by rw [List.length_set]; exact HYL.out, ?_, gr_row (A := some ⟨g3, 0, none⟩) HG6.out HST.out.2 Hy.out (Nat.le_refl _)⟩
          · have h := HST.out.1
            rw [nums_set] at h
            exact h
          · exact (HR6.out.row (A := some ⟨g3, 0, none⟩) HST.out.2 Hy.out hrl).more (by omega)
        case measure => simp [intOf]; omega
      · have hv' : (v == 0) = false := by simp [hv]
        clear hv
        go_wp2
        go_roundw
        case rel => exact ⟨k + 1, ys, by omega, by go_num, Hy, Ha, Hb, HYL, HR5.out.more (by omega), HG5⟩
        case measure => simp [intOf]; omega
    · obtain rfl : k = n := by omega
      have hyl := HYL.out
      go_wp2
      refine bodyPost_ret (v := .tuple #[.slice A1 us.length c1, .slice A2 ts.length c2, .slice A3 k c3]) (by simp [results, Try.results25, go_sem]) rfl ?_
      have hb1 := HB.out
      exact ⟨A1, c1, us, A2, c2, ts, A3, c3, ys, by rw [hyl], own_base Ha.out hb1.size, own_base Hb.out hb1.size, by rw [hyl]; exact own_base Hy.out hb1.size, hl, by omega, below_gr hb1 HG4.out hrw⟩
end Go.Proofs.Ytfdihhpnkmpidaa
