/- The drawn arguments of the law on the starts of jumps. No condition but the code's size. -/
import Derived.Test.YtfdihhpnkmpidaaRows
import Derived.Test.YtfdihhpnkmpidaaBase
import Derived.Test.YtfdihhpnkmpidaaBase2
import Derived.Test.YtfdihhpnkmpidaaIn
import Derived.Test.YtfdihhpnkmpidaaIn2
import Derived.Test.YtfdihhpnkmpidaaFindI
import Derived.Test.YtfdihhpnkmpidaaJumpV
import Derived.Test.YtfdihhpnkmpidaaJumpS
import Derived.Test.YtfdihhpnkmpidaaJumpP
import Derived.Test.YtfdihhpnkmpidaaPick
import Derived.Test.YtfdihhpnkmpidaaPick2
import Derived.Test.YtfdihhpnkmpidaaOpenC
import Derived.Test.YtfdihhpnkmpidaaDrawJ
import Derived.WalkKit
import Derived.WalkSpells
import Derived.WalkLawsBesides
import Derived.Handy
import Derived.BigQuiet
import Derived.Deep.RegionHeld3
import Derived.Deep.DrawnRows
import Derived.Deep.QuietTactic
namespace Go.Proofs.Ytfdihhpnkmpidaa
open Go Go.RowKit

/-- Sizes and widths were drawn. -/
def DrewStarts (w : World) (e : Ending) (w' : World) : Prop :=
  ∃ (A1 : Option Addr) (c1 : Nat) (xs : List Int) (A2 : Option Addr) (c2 : Nat) (ys : List Int), e = .returned (.tuple #[.slice A1 xs.length c1, .slice A2 ys.length c2]) ∧
    w'.ownsRow w.heap.size 3 1 (.slice A1 xs.length c1) xs.length (nums .i64 xs) ∧ w'.ownsRow w.heap.size 3 1 (.slice A2 ys.length c2) ys.length (nums .i64 ys) ∧ Apart A1 A2 ∧
    (xs.length ≤ 7 ∧ valsOk xs = true) ∧ wid24 ys = true ∧ ys.length ≤ xs.length + 1 ∧ Below w.heap.size w w'
theorem wid24_snoc {ys : List Int} (h : wid24 ys = true) {x : Int} (hx : x = 2 ∨ x = 4) : wid24 (ys ++ [x]) = true := by
  unfold wid24 at h ⊢
  rw [List.all_append, h]
  simp [hx]
set_option maxRecDepth 100000 in
set_option maxHeartbeats 8000000 in
theorem DrawJumpStarts_any {A : Option Addr} {c : Nat} (xs : List Int) (w : World) (h1 : Reads w w.heap.size 1 A xs.length (nums .u8 xs)) (hx : ∀ x ∈ xs, 0 ≤ x ∧ x ≤ 255) (hm : xs.length ≤ 1048576) (hc : xs.length ≤ c) (hc2 : c ≤ maxLen) :
    Calls Try.prog 21 #[.slice A xs.length c] w (DrewStarts w) := by
  obtain ⟨i0, hi0, hz0, hz1, hz2⟩ := info_parts dj_info
  have HO := Lib.hid (open_any xs w h1 hx hm hc hc2)
  clear h1 hx
  go_enter Try.func21, Try.ntmps21
  go_wp2_with fail
  refine HO.out.mono ?_
  rintro e w1 ⟨rfl, hr, hz, hb⟩
  obtain ⟨r, hrr⟩ : ∃ r, r = w.heap.size := ⟨_, rfl⟩
  rw [← hrr] at hr ⊢
  have hrl : r < w1.heap.size := by omega
  have hrw : w.heap.size ≤ r := by omega
  have HZ := Lib.hid hz
  have HRR := Lib.hid hrr
  have HB := Lib.hid hb
  clear hz hrr hb HO
  go_wp2_with fail
  refine (l20Jumps_any r 0 0 _ hr (by omega) (by omega) (by omega)).mono ?_
  rintro e w2 ⟨A1, c1, us, A2, c2, ts, rfl, oa, ob, hap, hl, hv, hr2, hg⟩
  obtain ⟨_, _, hvx, _⟩ := jumpsOk_parts (hv rfl)
  have HVX := Lib.hid hvx
  have Ha := Lib.hid oa
  have HG2 := Lib.hid hg
  have HR2 := Lib.hid hr2
  have zz2 := hg.size
  clear oa ob hap hv hvx hg hr2 hr
  go_wp2_with fail
  refine (pick_any r _ 9 _ (HR2.out.alloc _) (by omega) (by omega) (by omega)).mono ?_
  rintro e w4 ⟨v, rfl, ⟨va, vb⟩, hr4, hg4⟩
  have HYL : Hid (w4.ownsRow w1.heap.size 3 1 (.slice (some ⟨w2.heap.size, 0, none⟩) 0 0) 0 (nums .i64 [])) :=
    own_pick (World.ownsRow_lit (base := w1.heap.size) (e := 3) (size := 1) w2 #[] 0 zz2 (by unfold maxLen; omega) rfl) hg4 hrl
  have HPA : Hid (Apart A1 (some ⟨w2.heap.size, 0, none⟩)) := fun a b h1 h2 => by
    injection h2 with h2
    subst h2
    have := (own_up Ha.out a h1).2
    simp only [ne_eq]
    omega
  replace Ha := Lib.hid (own_pick (Ha.out.alloc _) hg4 hrl)
  have HG4 := Lib.hid (gr_trans (gr_alloc HG2.out _) hg4)
  have HR4 := Lib.hid hr4
  have zz4 := HG4.out.size
  clear hr4 hg4 HG2 HR2
  obtain ⟨m, hm4⟩ : ∃ m : Nat, (us.length : Int) + v / 8 = m := ⟨us.length + (v / 8).toNat, by omega⟩
  have hmb : m ≤ us.length + 1 := by omega
  have hml : us.length ≤ m := by omega
  have HM := Lib.hid hm4
  clear hm4
  go_wp2
  rw [HM.out]
  go_loopw [7, 9] (fun vy i wr => ∃ (k : Nat) (A : Option Addr) (c : Nat) (ys : List Int), k ≤ m ∧ i = .int .i64 k ∧ vy = .slice A k c ∧ Hid (wr.ownsRow w1.heap.size 3 1 (.slice A k c) k (nums .i64 ys)) ∧ Hid (wr.ownsRow w1.heap.size 3 1 (.slice A1 us.length c1) us.length (nums .i64 us)) ∧ Hid (Apart A1 A) ∧ Hid (ys.length = k ∧ wid24 ys = true) ∧ Hid (Rdr wr r (0 + 60 + 1 + k)) ∧ Hid (w1.grownBy wr (some r))) (fun _ i _ => m - (intOf i).toNat)
  case atStart => exact ⟨0, _, _, [], Nat.zero_le _, rfl, rfl, HYL, Ha, HPA, ⟨rfl, rfl⟩, HR4, HG4⟩
  case round =>
    obtain ⟨k, A, c, ys, hk, rfl, rfl, Hy, Ha', HAP, HYS, HR4', HG4'⟩ := hrel
    clear HYL Ha HPA HR4 HG4 zz4
    by_cases hlt : k < m
    · have Ha := Ha'
      have HR4 := HR4'
      have HG4 := HG4'
      clear Ha' HR4' HG4'
      have zz4 := HG4.out.size
      go_wp2_with fail
      refine (pick_any r _ 2 _ (HR4.out.alloc _) (by omega) (by omega) (by omega)).mono ?_
      rintro e w5 ⟨v, rfl, ⟨va, vb⟩, hr5, hg5⟩
      have hK := (Blk.new wr 3 #[.int .i64 2, .int .i64 4]).grown hg5 (by have := HG4.out.size; simp; omega)
      replace Ha := Lib.hid (own_pick (Ha.out.alloc _) hg5 hrl)
      replace Hy := Lib.hid (own_pick (Hy.out.alloc _) hg5 hrl)
      have HG5 := Lib.hid (gr_trans (gr_alloc HG4.out _) hg5)
      have HR5 := Lib.hid hr5
      have zz5 := HG5.out.size
      clear HG4 HR4 hr5 hg5
      have hK' : Blk w5 wr.heap.size 3 (nums .i64 [2, 4]).toArray := hK
      obtain ⟨x, hx, hcx⟩ := lit_at hK' va (by simp; omega)
      have hx24 : x = 2 ∨ x = 4 := by simpa using hx
      clear hK hK' hx
      go_wp2_with (at_builtin; refine wpList_push _ rfl (.tmp 29) (.tmp 35) _ rfl w1.heap.size 3 i0 _ 1 8 Try.underlying22 hi0 hz0 hz1 hz2 rfl (by omega) (by omega) A k c 1 1 (nums .i64 ys) [.int .i64 x] (by exact Hy.out.alloc _) rfl ⟨w5.heap.size, 0, none⟩ rfl rfl (World.news_of_block (cs := #[.int .i64 x]) (t := 3) (fr := (0, 0)) (by exact heap_alloc_new w5 _)) (by simp [Value.oneCell']) (by omega) (by omega) (by simp; omega) ?_; intro A' c' w6 hown6 hgrow6 hat6 hkeep6; have Han := Lib.hid (own_apart (Ha.out.alloc _) hgrow6 HAP.out); have HAPn := Lib.hid (apart_push HAP.out.symm Ha.out (by simp) hat6).symm; have HR6 := Lib.hid ((HR5.out.alloc _).row hgrow6 (Hy.out.alloc _) hrl); have HG6 := Lib.hid (gr_row (gr_alloc HG5.out _) hgrow6 (Hy.out.alloc _) (Nat.le_refl _)); have Hyn := Lib.hid hown6; have zz6 := HG6.out.size; clear hown6 hgrow6 hat6 hkeep6 HR5 HG5 Ha Hy HAP; have Ha := Lib.hid Han.out; clear Han; have Hy := Lib.hid Hyn.out; clear Hyn; have HAP := Lib.hid HAPn.out; clear HAPn)
      go_roundw
      case rel =>
        have e1 : nums .i64 (ys ++ [x]) = nums .i64 ys ++ [.int .i64 x] := by simp [nums]
        have hys := HYS.out
        refine ⟨k + 1, A', c', ys ++ [x], by omega, by go_num, rfl, by rw [e1]; exact Hy, Ha, HAP, ⟨by simp [hys.1], wid24_snoc hys.2 hx24⟩, HR6.out.more (by omega), HG6⟩
      case measure => simp [intOf]; omega
    · obtain rfl : k = m := by omega
      have hyl := HYS.out.1
      go_wp2
      refine bodyPost_ret (v := .tuple #[.slice A1 us.length c1, .slice A k c]) (by simp [results, Try.results21, go_sem]) rfl ?_
      have hb1 := HB.out
      refine ⟨A1, c1, us, A, c, ys, by rw [hyl], own_base Ha'.out hb1.size, by rw [hyl]; exact own_base Hy.out hb1.size, HAP.out, ⟨by omega, HVX.out⟩, HYS.out.2, by omega, below_gr hb1 HG4'.out hrw⟩
end Go.Proofs.Ytfdihhpnkmpidaa
