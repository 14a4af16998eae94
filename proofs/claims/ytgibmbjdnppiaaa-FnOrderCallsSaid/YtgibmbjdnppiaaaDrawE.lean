/- Contract of the drawing of edges. Condition: not too many draws. -/
import Derived.Test.YtgibmbjdnppiaaaRows
import Derived.Test.YtgibmbjdnppiaaaBase
import Derived.Test.YtgibmbjdnppiaaaBase2
import Derived.Test.YtgibmbjdnppiaaaIn
import Derived.Test.YtgibmbjdnppiaaaEdge
import Derived.Test.YtgibmbjdnppiaaaPick
import Derived.Test.YtgibmbjdnppiaaaPick2
import Derived.WalkKit
import Derived.WalkSpells
import Derived.WalkLawsBesides
import Derived.Handy
import Derived.BigQuiet
import Derived.Deep.RegionHeld3
import Derived.Deep.DrawnRows
import Derived.Deep.QuietTactic
namespace Go.Proofs.Ytgibmbjdnppiaaa
open Go Go.RowKit

theorem edg_info : (Try.prog.info? 33).map (fun i => (i.zero, i.size, i.bytes)) = some (some (.agg #[.int .i64 0, .int .i64 0, .int .i64 0]), 3, 24) := by kernel_rfl
/-- A number of sections and edges were drawn. -/
def DrewEdges (w : World) (r P : Nat) (e : Ending) (w' : World) : Prop :=
  ∃ (many : Int) (A : Option Addr) (c : Nat) (xs : List Edg), e = .returned (.tuple #[.int .i64 many, .slice A xs.length c]) ∧ w'.ownsRow w.heap.size 33 3 (.slice A xs.length c) xs.length (xs.flatMap Edg.cells) ∧
    (0 ≤ many ∧ many ≤ 9) ∧ xs.length ≤ 8 ∧ Rdr w' r (P + 60) ∧ w.grownBy w' (some r)
set_option maxRecDepth 100000 in
set_option maxHeartbeats 8000000 in
theorem l20Edges_any (r P : Nat) (n : Int) (w : World) (hr : Rdr w r P) (hP : P ≤ 100000) (hn : 0 ≤ n) (hn2 : n ≤ 1000) : Calls Try.prog 34 #[.pointer (some ⟨r, 0, none⟩), .int .i64 n] w (DrewEdges w r P) := by
  obtain ⟨i0, hi0, hz0, hz1, hz2⟩ := info_parts edg_info
  have hrl := hr.lt
  have HR := Lib.hid hr
  clear hr
  go_enter Try.func34, Try.ntmps34
  go_wp2_with fail
  refine (pick_any r P 6 _ HR.out (by omega) (by omega) (by omega)).mono ?_
  rintro e w0 ⟨v0, rfl, ⟨v0a, v0b⟩, hr0, hg0⟩
  have HG0 := Lib.hid hg0
  have HR0 := Lib.hid hr0
  have zz0 := hg0.size
  clear hr0 hg0 HR
  go_wp2_with fail
  refine (pick_any r _ 8 _ (HR0.out.alloc _) (by omega) (by omega) (by omega)).mono ?_
  rintro e w1 ⟨v1, rfl, ⟨v1a, v1b⟩, hr1, hg1⟩
  have o1 : w1.ownsRow w.heap.size 33 3 (.slice (some ⟨w0.heap.size, 0, none⟩) 0 0) 0 (([] : List Edg).flatMap Edg.cells) :=
    own_pick (World.ownsRow_lit (base := w.heap.size) (e := 33) (size := 3) w0 #[] 0 zz0 (by unfold maxLen; omega) rfl) hg1 hrl
  have HG1 := Lib.hid (gr_trans (gr_alloc HG0.out _) hg1)
  have HR1 := Lib.hid hr1
  clear hr1 hg1 HG0 HR0
  obtain ⟨m1, hm1⟩ : ∃ m : Nat, v1 = m := ⟨v1.toNat, by omega⟩
  subst hm1
  obtain ⟨mn, hmn⟩ : ∃ mn, mn = 2 + v0 := ⟨_, rfl⟩
  have hmn1 : 2 ≤ mn ∧ mn ≤ 7 := by omega
  obtain ⟨hmn1, hmn2⟩ := hmn1
  rw [← hmn]
  clear hmn v0a v0b
  go_wp2
  go_loopw [7, 8] (fun v i wr => ∃ (k j : Nat) (A1 : Option Addr) (c1 : Nat) (es : List Edg), k + j = m1 ∧ i = .int .i64 j ∧ v = .slice A1 k c1 ∧ Hid (es.length = k) ∧ Hid (wr.ownsRow w.heap.size 33 3 (.slice A1 k c1) k (es.flatMap Edg.cells)) ∧ Hid (Rdr wr r (P + 2 + 3 * k)) ∧ Hid (w.grownBy wr (some r))) (fun _ i _ => (intOf i).toNat)
  case atStart => exact ⟨0, m1, _, _, [], by omega, rfl, rfl, rfl, o1, HR1, HG1⟩
  case round =>
    obtain ⟨k, j, A1, c1, es, hkj, rfl, rfl, HE, Ha, HRk, HGk⟩ := hrel
    clear o1 HR1 HG1
    have hgz := HGk.out.size
    have hkm : k ≤ 7 := by omega
    by_cases hj : 0 < j
    · have hj7 : j ≤ 7 := by omega
      have HKJ := Lib.hid hkj
      clear hkj
      go_wp2_with fail
      refine (pick_any r _ mn _ HRk.out (by omega) (by omega) (by omega)).mono ?_
      rintro e w2 ⟨f, rfl, ⟨fa, fb⟩, hr2, hg2⟩
      replace Ha := Lib.hid (own_pick Ha.out hg2 hrl)
      have HG2 := Lib.hid (gr_trans HGk.out hg2)
      have HR2 : Hid (Rdr w2.drew r (P + 2 + 3 * k + 1)) := hr2
      have zz2 := HG2.out.size
      clear HGk HRk hr2 hg2
      have hp1 : P + 2 + 3 * k + 1 ≤ 1000000 := by omega
      have hp2 : P + 2 + 3 * k + 1 + 1 ≤ 1000000 := by omega
      have hq1 : 1 ≤ mn - 1 := by omega
      have hq2 : mn - 1 ≤ 1000000 := by omega
      have hmn0 : ¬ mn = 0 := by omega
      have h61 : (1 : Int) ≤ 6 := by omega
      have h62 : (6 : Int) ≤ 1000000 := by omega
      have y1 : IntKind.i64.wrap (f + 1) = f + 1 := IntWalk.i64_in _ (by omega)
      have y2 : IntKind.i64.wrap (mn - 1) = mn - 1 := IntWalk.i64_in _ (by omega)
      go_wp2
      go_region_held3 (fun w' => True) (trivial) (first | (go_at_call 39; (with_reducible refine (pick_any r _ (mn - 1) _ HR2.out hp1 hq1 hq2).mono ?_); rintro e w3 ⟨g, rfl, ⟨ga, gb⟩, hr3, hg3⟩; have HR3 := Lib.hid hr3; have hg23 : w2.grownBy w3 (some r) := ⟨hg3.os, hg3.tape, hg3.output, hg3.size, hg3.block⟩; have Ha3 := Lib.hid (own_pick Ha.out hg23 hrl); have HG3 := Lib.hid (gr_trans HG2.out hg23); have y3 : IntKind.i64.wrap (f + 1 + g) = f + 1 + g := IntWalk.i64_in _ (by omega)) | (go_at_call 39; (with_reducible refine (pick_any r _ 6 _ HR3.out hp2 h61 h62).mono ?_); rintro e w4 ⟨h, rfl, ⟨ha, hb⟩, hr4, hg4⟩; have HR4 := Lib.hid hr4; have Ha4 := Lib.hid (own_pick Ha3.out hg4 hrl); have HG4 := Lib.hid (gr_trans HG3.out hg4); have y4 : IntKind.i64.wrap (1 + h) = 1 + h := IntWalk.i64_in _ (by omega); have Ha5 := Lib.hid (Ha4.out.alloc (.cells #[.int .i64 f, .int .i64 ((f + 1 + g).tmod mn), .int .i64 (1 + h)] 33)); have zz4 : w.heap.size ≤ w4.heap.size := HG4.out.size) | (refine step_push _ (by rfl) _ _ _ (by rfl) w.heap.size 33 i0 _ 3 24 Try.underlying25 hi0 hz0 hz1 hz2 rfl (by omega) (by omega) A1 k c1 1 1 (es.flatMap Edg.cells) [.int .i64 f, .int .i64 ((f + 1 + g).tmod mn), .int .i64 (1 + h)] (by exact Ha5.out) (by rfl) ⟨w4.heap.size, 0, none⟩ (by rfl) (by rfl) (World.news_of_block (cs := #[.int .i64 f, .int .i64 ((f + 1 + g).tmod mn), .int .i64 (1 + h)]) (t := 33) (fr := (0, 0)) (heap_alloc_new w4 _)) (by simp [Value.oneCell']) (by omega) (by omega) (by simp; omega) ?_; intro A' c' w5 hown5 hgrow5 hat5 hkeep5))
      clear y1 y2 y3 y4
      go_wp2
      go_roundw
      case rel =>
        have hkj := HKJ.out
        have e1 : (es ++ [(⟨f, (f + 1 + g).tmod mn, 1 + h⟩ : Edg)]).flatMap Edg.cells = es.flatMap Edg.cells ++ [.int .i64 f, .int .i64 ((f + 1 + g).tmod mn), .int .i64 (1 + h)] := by simp [Edg.cells]
        refine ⟨k + 1, j - 1, A', c', es ++ [⟨f, (f + 1 + g).tmod mn, 1 + h⟩], by omega, by go_num, rfl, Lib.hid (by have := HE.out; simp; omega), Lib.hid ?_, Lib.hid ?_, ?_⟩
        · rw [e1]; exact hown5
        · exact ((HR4.out.alloc _).row hgrow5 Ha5.out hrl).more (by omega)
        · exact gr_row (gr_alloc HG4.out _) hgrow5 Ha5.out (Nat.le_refl _)
      case measure => simp [intOf]; omega
    · obtain rfl : j = 0 := by omega
      go_wp2_with fail
      refine (odd_any r _ n _ HRk.out (by omega) (by omega) (by omega)).mono ?_
      rintro e w2 ⟨b, rfl, hr2, hg2⟩
      replace Ha := Lib.hid (own_pick Ha.out hg2 hrl)
      have HG2 := Lib.hid (gr_trans HGk.out hg2)
      have HR2 := Lib.hid hr2
      have zz2 := HG2.out.size
      clear HGk HRk hr2 hg2
      cases b
      · obtain ⟨w3, hw3⟩ : ∃ w3, w3 = w2 := ⟨_, rfl⟩
        have HG3 := HG2
        have HR3 := HR2
        rw [← hw3] at HG3 HR3 Ha ⊢
        clear HG2 HR2 hw3
        go_wp2
        refine bodyPost_ret (v := .tuple #[.int .i64 (mn), .slice A1 k c1]) (by simp [results, Try.results34, go_sem]) rfl ?_
        have hl1 : (es).length = k := by first | exact HE.out | (have := HE.out; simp; omega)
        have e1 : (es).flatMap Edg.cells = es.flatMap Edg.cells := by first | rfl | simp [Edg.cells]
        exact ⟨mn, A1, c1, es, by rw [hl1], by rw [hl1, e1]; exact Ha.out, by omega, by omega, HR3.out.more (by omega), HG3.out⟩
      · go_wp2_with fail
        refine (pick_any r _ 3 _ HR2.out (by omega) (by omega) (by omega)).mono ?_
        rintro e w3 ⟨v, rfl, ⟨va, vb⟩, hr3, hg3⟩
        replace Ha := Lib.hid (own_pick Ha.out hg3 hrl)
        have HG3 := Lib.hid (gr_trans HG2.out hg3)
        have HR3 := Lib.hid hr3
        have zz3 := HG3.out.size
        clear HG2 HR2 hr3 hg3
        rcases (by omega : v = 0 ∨ v = 1 ∨ v = 2) with rfl | rfl | rfl
        · skip
          go_wp2_with fail
          refine (pick_any r _ 2 _ (HR3.out.alloc _) (by omega) (by omega) (by omega)).mono ?_
          rintro e w4 ⟨u, rfl, ⟨ua, ub⟩, hr4, hg4⟩
          have hK := (Blk.new w3 3 #[.int .i64 0, .int .i64 9]).grown hg4 (by have := HG3.out.size; simp; omega)
          replace Ha := Lib.hid (own_pick (Ha.out.alloc _) hg4 hrl)
          have HG4 := Lib.hid (gr_trans (gr_alloc HG3.out _) hg4)
          have HR4 := Lib.hid hr4
          have zz4 := HG4.out.size
          clear HG3 HR3 hr4 hg4
          have hK' : Blk w4 w3.heap.size 3 (nums .i64 [0, 9]).toArray := hK
          obtain ⟨x, hx, hcx⟩ := lit_at hK' ua (by simp; omega)
          have hxb : 0 ≤ x ∧ x ≤ 9 := by simp at hx; omega
          clear hK hK' hx
          go_wp2
          refine bodyPost_ret (v := .tuple #[.int .i64 (x), .slice A1 k c1]) (by simp [results, Try.results34, go_sem]) rfl ?_
          have hl1 : (es).length = k := by first | exact HE.out | (have := HE.out; simp; omega)
          have e1 : (es).flatMap Edg.cells = es.flatMap Edg.cells := by first | rfl | simp [Edg.cells]
          exact ⟨x, A1, c1, es, by rw [hl1], by rw [hl1, e1]; exact Ha.out, by omega, by omega, HR4.out.more (by omega), HG4.out⟩
        · skip
          go_wp2_with (at_builtin; refine wpList_push _ rfl (.tmp 60) (.tmp 62) _ rfl w.heap.size 33 i0 _ 3 24 Try.underlying25 hi0 hz0 hz1 hz2 rfl (by omega) (by omega) A1 k c1 1 1 (es.flatMap Edg.cells) [.int .i64 1, .int .i64 1, .int .i64 1] (by exact Ha.out.alloc _) rfl ⟨w3.heap.size, 0, none⟩ rfl rfl (World.news_of_block (cs := #[.int .i64 1, .int .i64 1, .int .i64 1]) (t := 33) (fr := (0, 0)) (by exact heap_alloc_new w3 _)) (by simp [Value.oneCell']) (by omega) (by omega) (by simp; omega) ?_; intro A1' c1' w4 hown4 hgrow4 hat4 hkeep4; have HR4 := Lib.hid ((HR3.out.alloc _).row hgrow4 (Ha.out.alloc _) hrl); have HG4 := Lib.hid (gr_row (gr_alloc HG3.out _) hgrow4 (Ha.out.alloc _) (Nat.le_refl _)); have Han := Lib.hid hown4; have zz4 := HG4.out.size; clear hown4 hgrow4 hat4 hkeep4 HR3 HG3 Ha ; have Ha := Lib.hid Han.out; clear Han)
          refine bodyPost_ret (v := .tuple #[.int .i64 (mn), .slice A1' (k + 1) c1']) (by simp [results, Try.results34, go_sem]) rfl ?_
          have hl1 : (es ++ [(⟨1, 1, 1⟩ : Edg)]).length = (k + 1) := by first | exact HE.out | (have := HE.out; simp; omega)
          have e1 : (es ++ [(⟨1, 1, 1⟩ : Edg)]).flatMap Edg.cells = (es.flatMap Edg.cells) ++ [.int .i64 1, .int .i64 1, .int .i64 1] := by first | rfl | simp [Edg.cells]
          exact ⟨mn, A1', c1', es ++ [(⟨1, 1, 1⟩ : Edg)], by rw [hl1], by rw [hl1, e1]; exact Ha.out, by omega, by omega, HR4.out.more (by omega), HG4.out⟩
        · skip
          go_wp2_with (at_builtin; refine wpList_push _ rfl (.tmp 45) (.tmp 48) _ rfl w.heap.size 33 i0 _ 3 24 Try.underlying25 hi0 hz0 hz1 hz2 rfl (by omega) (by omega) A1 k c1 1 1 (es.flatMap Edg.cells) [.int .i64 0, .int .i64 mn, .int .i64 1] (by exact Ha.out.alloc _) rfl ⟨w3.heap.size, 0, none⟩ rfl rfl (World.news_of_block (cs := #[.int .i64 0, .int .i64 mn, .int .i64 1]) (t := 33) (fr := (0, 0)) (by exact heap_alloc_new w3 _)) (by simp [Value.oneCell']) (by omega) (by omega) (by simp; omega) ?_; intro A1' c1' w4 hown4 hgrow4 hat4 hkeep4; have HR4 := Lib.hid ((HR3.out.alloc _).row hgrow4 (Ha.out.alloc _) hrl); have HG4 := Lib.hid (gr_row (gr_alloc HG3.out _) hgrow4 (Ha.out.alloc _) (Nat.le_refl _)); have Han := Lib.hid hown4; have zz4 := HG4.out.size; clear hown4 hgrow4 hat4 hkeep4 HR3 HG3 Ha ; have Ha := Lib.hid Han.out; clear Han)
          refine bodyPost_ret (v := .tuple #[.int .i64 (mn), .slice A1' (k + 1) c1']) (by simp [results, Try.results34, go_sem]) rfl ?_
          have hl1 : (es ++ [(⟨0, mn, 1⟩ : Edg)]).length = (k + 1) := by first | exact HE.out | (have := HE.out; simp; omega)
          have e1 : (es ++ [(⟨0, mn, 1⟩ : Edg)]).flatMap Edg.cells = (es.flatMap Edg.cells) ++ [.int .i64 0, .int .i64 mn, .int .i64 1] := by first | rfl | simp [Edg.cells]
          exact ⟨mn, A1', c1', es ++ [(⟨0, mn, 1⟩ : Edg)], by rw [hl1], by rw [hl1, e1]; exact Ha.out, by omega, by omega, HR4.out.more (by omega), HG4.out⟩
end Go.Proofs.Ytgibmbjdnppiaaa
