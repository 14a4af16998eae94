/- Contract of the drawing of bytes. Condition: not too many draws. -/
import Derived.Test.YtdaamgonendkkaaRows
import Derived.Test.YtdaamgonendkkaaBase
import Derived.Test.YtdaamgonendkkaaBase2
import Derived.Test.YtdaamgonendkkaaBase3
import Derived.Test.YtdaamgonendkkaaEqB
import Derived.Test.YtdaamgonendkkaaPick
import Derived.Test.YtdaamgonendkkaaPick2
import Derived.Test.YtdaamgonendkkaaRegK
import Derived.WalkKit
import Derived.WalkSpells
import Derived.WalkLawsBesides
import Derived.Handy
import Derived.BigQuiet
import Derived.Deep.RegionHeld3
import Derived.Deep.DrawnRows
import Derived.Deep.QuietTactic
namespace Go.Proofs.Ytdaamgonendkkaa
open Go Go.RowKit

theorem byte8_info : (Try.prog.info? 5).map (fun i => (i.zero, i.size, i.bytes)) = some (some (.int .u8 0), 1, 1) := by kernel_rfl
theorem lit8_at {w : World} {g : Nat} {t : TypeId} {l : List Int} {v : Int} (h : Blk w g t (nums .u8 l).toArray) (h0 : 0 ≤ v) (h1 : v < l.length) : ∃ x, x ∈ l ∧ w.cell? ⟨g, v.toNat, none⟩ = some (.int .u8 x) := by
  have hk : v.toNat < l.length := by omega
  refine ⟨l[v.toNat], List.getElem_mem hk, ?_⟩
  rw [h.cell]
  simp [nums, hk]
/-- Bytes were drawn. -/
def DrewBs (w : World) (r P : Nat) (most : Int) (e : Ending) (w' : World) : Prop := ∃ (A : Option Addr) (c : Nat) (bs : List Int), e = .returned (.slice A bs.length c) ∧ w'.ownsRow w.heap.size 5 1 (.slice A bs.length c) bs.length (nums .u8 bs) ∧ (bs.length : Int) ≤ most ∧ isB bs ∧ Rdr w' r (P + 29) ∧ w.grownBy w' (some r)
set_option maxRecDepth 100000 in
set_option maxHeartbeats 8000000 in
theorem l20Bytes_any (r P : Nat) (w : World) (hr : Rdr w r P) (hP : P ≤ 500000) : Calls Try.prog 98 #[.pointer (some ⟨r, 0, none⟩), .int .i64 14] w (DrewBs w r P 14) := by
  obtain ⟨i0, hi0, hz0, hz1, hz2⟩ := info_parts byte8_info
  have hrl := hr.lt
  have HR := Lib.hid hr
  clear hr
  go_enter Try.func98, Try.ntmps98
  go_wp2_with fail
  refine (pick_any r _ 15 _ (HR.out.alloc _) (by omega) (by omega) (by omega)).mono ?_
  rintro e w0 ⟨v, rfl, ⟨va, vb⟩, hr0, hg0⟩
  have o1 : Hid (w0.ownsRow w.heap.size 5 1 (.slice (some ⟨w.heap.size, 0, none⟩) 0 0) 0 (nums .u8 [])) :=
    own_pick (World.ownsRow_lit (base := w.heap.size) (e := 5) (size := 1) w #[] 0 (Nat.le_refl _) (by unfold maxLen; omega) rfl) hg0 hrl
  have HG0 := Lib.hid (gr_trans (gr_alloc (grown_refl w (some r)) _) hg0)
  have HR0 : Hid (Rdr w0 r (P + 1 + 2 * 0)) := hr0
  clear hr0 hg0 HR
  obtain ⟨m1, hm1⟩ : ∃ m : Nat, v = m := ⟨v.toNat, by omega⟩
  subst hm1
  go_wp2
  go_loopw [5, 6] (fun ov i wr => ∃ (k j : Nat) (A1 : Option Addr) (c1 : Nat) (bs : List Int), k + j = m1 ∧ i = .int .i64 j ∧ ov = .slice A1 k c1 ∧ Hid (bs.length = k ∧ isB bs) ∧ Hid (wr.ownsRow w.heap.size 5 1 (.slice A1 k c1) k (nums .u8 bs)) ∧ Hid (Rdr wr r (P + 1 + 2 * k)) ∧ Hid (w.grownBy wr (some r))) (fun _ i _ => (intOf i).toNat)
  case atStart => exact ⟨0, m1, _, _, [], by omega, rfl, rfl, Lib.hid ⟨rfl, by simp [isB]⟩, o1, HR0, HG0⟩
  case round =>
    obtain ⟨k, j, A1, c1, bs, hkj, rfl, rfl, HN, Ha, HR10, HG10⟩ := hrel
    clear o1 HR0 HG0
    have zz10 := HG10.out.size
    have hkm : k ≤ 14 := by omega
    by_cases hj : 0 < j
    · have hj7 : j ≤ 14 := by omega
      have HKJ := Lib.hid hkj
      clear hkj
      go_wp2_with fail
      refine (pick_any r _ 256 _ HR10.out (by omega) (by omega) (by omega)).mono ?_
      rintro e w11 ⟨v1, rfl, ⟨v1a, v1b⟩, hr11, hg11⟩
      replace Ha := Lib.hid (own_pick Ha.out hg11 hrl)
      have HG11 := Lib.hid (gr_trans HG10.out hg11)
      have HR11 := Lib.hid hr11
      have zz11 := HG11.out.size
      clear HG10 HR10 hr11 hg11
      have y1 : IntKind.u8.wrap v1 = v1 := IntWalk.u8_in _ (by omega)
      go_wp2_with fail
      refine (pick_any r _ 3 _ (HR11.out.alloc _) (by omega) (by omega) (by omega)).mono ?_
      rintro e w12 ⟨v3, rfl, ⟨v3a, v3b⟩, hr12, hg12⟩
      have hK := (Blk.new w11 5 #[.int .u8 v1, .int .u8 0, .int .u8 255]).grown hg12 (by have := HG11.out.size; simp; omega)
      replace Ha := Lib.hid (own_pick (Ha.out.alloc _) hg12 hrl)
      have HG12 := Lib.hid (gr_trans (gr_alloc HG11.out _) hg12)
      have HR12 := Lib.hid hr12
      have zz12 := HG12.out.size
      clear HG11 HR11 hr12 hg12
      have hK2 : Blk w12 w11.heap.size 5 (nums .u8 [v1, 0, 255]).toArray := hK
      obtain ⟨x, hx, hcx⟩ := lit8_at hK2 v3a (by simp; omega)
      have hxb : 0 ≤ x ∧ x ≤ 255 := by simp at hx; omega
      clear hK hK2 hx
      go_wp2_with (at_builtin; refine wpList_push _ rfl (.tmp 16) (.tmp 25) _ rfl w.heap.size 5 i0 _ 1 1 Try.underlying22 hi0 hz0 hz1 hz2 rfl (by omega) (by omega) A1 k c1 1 1 (nums .u8 bs) [.int .u8 x] (by exact Ha.out.alloc _) rfl ⟨w12.heap.size, 0, none⟩ rfl rfl (World.news_of_block (cs := #[.int .u8 x]) (t := 5) (fr := (0, 0)) (by exact heap_alloc_new w12 _)) (by simp [Value.oneCell']) (by omega) (by omega) (by simp; omega) ?_; intro A1' c1' w13 hown13 hgrow13 hat13 hkeep13; have HR13 := Lib.hid ((HR12.out.alloc _).row hgrow13 (Ha.out.alloc _) hrl); have HG13 := Lib.hid (gr_row (gr_alloc HG12.out _) hgrow13 (Ha.out.alloc _) (Nat.le_refl _)); have Han := Lib.hid hown13; have zz13 := HG13.out.size; clear hown13 hgrow13 hat13 hkeep13 HR12 HG12 Ha ; have Ha := Lib.hid Han.out; clear Han)
      go_roundw
      case rel =>
        have hkj := HKJ.out
        have e1 : nums .u8 (bs ++ [x]) = nums .u8 bs ++ [.int .u8 x] := by simp [nums]
        refine ⟨k + 1, j - 1, A1', c1', bs ++ [x], by omega, by go_num, rfl, Lib.hid ⟨by have := HN.out.1; simp; omega, fun y hy => ?_⟩, Lib.hid ?_, Lib.hid (HR13.out.more (by omega)), HG13⟩
        · rcases List.mem_append.1 hy with hy | hy
          · exact HN.out.2 y hy
          · rw [List.mem_singleton.1 hy]; exact hxb
        · rw [e1]; exact Ha.out
      case measure => simp [intOf]; omega
    · obtain rfl : j = 0 := by omega
      go_wp2
      have hkl : bs.length = k := HN.out.1
      subst hkl
      go_ret
      exact ⟨A1, c1, bs, rfl, Ha.out, by omega, HN.out.2, HR10.out.more (by omega), HG10.out⟩
end Go.Proofs.Ytdaamgonendkkaa
