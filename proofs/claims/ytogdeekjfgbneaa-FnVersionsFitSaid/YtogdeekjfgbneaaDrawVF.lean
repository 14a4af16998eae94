/- The walk of FnVersionsFit. No condition. -/
import Derived.Test.YtogdeekjfgbneaaRows
import Derived.Test.YtogdeekjfgbneaaBase
import Derived.Test.YtogdeekjfgbneaaBase2
import Derived.Test.YtogdeekjfgbneaaBase3
import Derived.Test.YtogdeekjfgbneaaIn
import Derived.Test.YtogdeekjfgbneaaIn2
import Derived.Test.YtogdeekjfgbneaaName
import Derived.Test.YtogdeekjfgbneaaVer
import Derived.Test.YtogdeekjfgbneaaVerF
import Derived.Test.YtogdeekjfgbneaaVerG
import Derived.Test.YtogdeekjfgbneaaVerH
import Derived.Test.YtogdeekjfgbneaaVerI
import Derived.Test.YtogdeekjfgbneaaAlive
import Derived.Test.YtogdeekjfgbneaaPick
import Derived.Test.YtogdeekjfgbneaaPick2
import Derived.Test.YtogdeekjfgbneaaOpenC
import Derived.Test.YtogdeekjfgbneaaDrawN
import Derived.Test.YtogdeekjfgbneaaDrawV
import Derived.Test.YtogdeekjfgbneaaDrawVs
import Derived.Test.YtogdeekjfgbneaaDrawNV
import Derived.WalkKit
import Derived.WalkSpells
import Derived.WalkLawsBesides
import Derived.Handy
import Derived.BigQuiet
import Derived.Deep.RegionHeld3
import Derived.Deep.DrawnRows
import Derived.Deep.QuietTactic
namespace Go.Proofs.Ytogdeekjfgbneaa
open Go Go.RowKit

theorem ver_cells {w : World} {base : Nat} {t : TypeId} {g c : Nat} {xs : List Ver} (h : w.ownsRow base t 2 (.slice (some ⟨g, 0, none⟩) xs.length c) xs.length (xs.flatMap Ver.cells)) {k : Nat} (hk : k < xs.length) : w.cell? ⟨g, k * 2, none⟩ = some (.string xs[k].name) ∧ w.cell? ⟨g, k * 2 + 1, none⟩ = some (.int .i64 xs[k].number) := by
  obtain ⟨b, off, he, _, h1, h2⟩ := Ver.at_ (Reads.of_own h) hk
  injection he with he
  injection he with e1 e2
  subst e1 e2
  exact ⟨by simpa using h1, by simpa using h2⟩
theorem ver_one (xs : List Ver) : ∀ u ∈ xs.flatMap Ver.cells, u.oneCell' = true := by
  intro u hu
  obtain ⟨v, _, hv⟩ := List.mem_flatMap.1 hu
  simp [Ver.cells] at hv
  rcases hv with rfl | rfl <;> rfl
/-- Needs and what is given were drawn. -/
def DrewFit (w : World) (e : Ending) (w' : World) : Prop :=
  ∃ (A : Option Addr) (c : Nat) (ws : List Ver) (A1 : Option Addr) (c1 : Nat) (gs : List Ver), e = .returned (.tuple #[.slice A ws.length c, .slice A1 gs.length c1]) ∧ w'.ownsRow w.heap.size 26 2 (.slice A ws.length c) ws.length (ws.flatMap Ver.cells) ∧ w'.ownsRow w.heap.size 26 2 (.slice A1 gs.length c1) gs.length (gs.flatMap Ver.cells) ∧ ws.length ≤ 6 ∧ gs.length ≤ 5 ∧ (∀ x ∈ ws, x.name.size ≤ 9) ∧ (∀ x ∈ gs, x.name.size ≤ 9) ∧ Below w.heap.size w w'
set_option maxRecDepth 100000 in
set_option maxHeartbeats 8000000 in
theorem DrawVersionsFit_any {A : Option Addr} {c : Nat} (cs : List Int) (w : World) (h1 : Reads w w.heap.size 1 A cs.length (nums .u8 cs)) (hx : ∀ x ∈ cs, 0 ≤ x ∧ x ≤ 255) (hm : cs.length ≤ 1048576) (hc : cs.length ≤ c) (hc2 : c ≤ maxLen) :
    Calls Try.prog 23 #[.slice A cs.length c] w (DrewFit w) := by
  obtain ⟨i0, hi0, hz0, hz1, hz2⟩ := info_parts l20Versions_info
  have HO := Lib.hid (open_any cs w h1 hx hm hc hc2)
  clear h1 hx
  go_enter Try.func23, Try.ntmps23
  go_wp2_with fail
  refine HO.out.mono ?_
  rintro e w1 ⟨rfl, hr, hz, hb⟩
  obtain ⟨r, hrr⟩ : ∃ r, r = w.heap.size := ⟨_, rfl⟩
  rw [← hrr] at hr ⊢
  have hrl : r < w1.heap.size := by omega
  have hrw : w.heap.size ≤ r := by omega
  have HZ := Lib.hid hz
  have HRR := Lib.hid hrr
  have HB := Lib.hid hb
  clear hz hrr hb HO
  go_wp2_with fail
  refine (l20Versions_any r 0 40 _ hr (by omega) (by omega) (by omega)).mono ?_
  rintro e w2 ⟨A1, c1, xs, rfl, oa, hl, hq, hr2, hg2⟩
  have HQ : Hid (∀ x ∈ xs, x.name.size ≤ 9 ∧ 0 ≤ x.number ∧ x.number ≤ 100) := fun x h => ⟨(hq x h).1, (hq x h).2.1, (hq x h).2.2.1⟩
  have zz2 := hg2.size
  have o0 : (w2.alloc (.cells #[] 26)).ownsRow w1.heap.size 26 2 (.slice (some ⟨w2.heap.size, 0, none⟩) 0 0) 0 (([] : List Ver).flatMap Ver.cells) :=
    World.ownsRow_lit (base := w1.heap.size) (e := 26) (size := 2) w2 #[] 0 zz2 (by unfold maxLen; omega) rfl
  have O0 := Lib.hid o0
  have HG2 := Lib.hid (gr_alloc hg2 (.cells #[] 26))
  have HR2 : Hid (Rdr (w2.alloc (.cells #[] 26)) r (31 + 2 * 0)) := hr2.alloc _ |>.more (by omega)
  have P0 : Hid (Apart (some ⟨w2.heap.size, 0, none⟩) A1) := apart_new oa (fun a h => by injection h with h; subst h; exact Nat.le_refl _)
  have V0 := Lib.hid (oa.alloc (.cells #[] 26))
  clear oa o0 hq hg2 hr2 hr
  go_wp2
  go_loopw [6, 7] (fun v i wr => ∃ (k m : Nat) (A : Option Addr) (c : Nat) (ws : List Ver), k ≤ xs.length ∧ m ≤ k ∧ i = .int .i64 k ∧ v = .slice A m c ∧ Hid (ws.length = m ∧ ∀ x ∈ ws, x.name.size ≤ 9) ∧ Hid (wr.ownsRow w1.heap.size 26 2 (.slice A m c) m (ws.flatMap Ver.cells)) ∧ Hid (wr.ownsRow w1.heap.size 26 2 (.slice A1 xs.length c1) xs.length (xs.flatMap Ver.cells)) ∧ Hid (Apart A A1) ∧ Hid (Rdr wr r (31 + 2 * k)) ∧ Hid (w1.grownBy wr (some r))) (fun _ i _ => xs.length - (intOf i).toNat)
  case atStart => exact ⟨0, 0, _, _, [], Nat.zero_le _, Nat.le_refl _, rfl, rfl, ⟨rfl, by simp⟩, O0, V0, P0, HR2, HG2⟩
  case round =>
    obtain ⟨k, m, A, c, ws, hk, hmk, rfl, rfl, HW, Ho, Hv, Hp, HRk, HGk⟩ := hrel
    clear O0 V0 P0 HR2 HG2
    have hgz := HGk.out.size
    have hm6 : m ≤ 5 := by omega
    by_cases hlt : k < xs.length
    · obtain ⟨g, rfl, hbg, hgl⟩ := own_addr2 Hv.out (by omega)
      have k1 : (k : Int) < (xs.length : Int) := by omega
      go_wp2_with fail
      refine (pick_any r _ 2 _ HRk.out (by omega) (by omega) (by omega)).mono ?_
      rintro e w3 ⟨v, rfl, ⟨va, vb⟩, hr3, hg3⟩
      replace Ho := Lib.hid (own_pick Ho.out hg3 hrl)
      replace Hv := Lib.hid (own_pick Hv.out hg3 hrl)
      have HG3 := Lib.hid (gr_trans HGk.out hg3)
      have zz3 := HG3.out.size
      have HR3 := Lib.hid hr3
      clear hr3 hg3 HGk HRk
      by_cases hv0 : v = 0
      · subst hv0
        have HVC : ∀ w' : World, w'.ownsRow w1.heap.size 26 2 (.slice (some ⟨g, 0, none⟩) xs.length c1) xs.length (xs.flatMap Ver.cells) → w'.cell? ⟨g, k * 2, none⟩ = some (.string xs[k].name) ∧ w'.cell? ⟨g, k * 2 + 1, none⟩ = some (.int .i64 xs[k].number) := fun w' h => ver_cells h hlt
        have hqk := HQ.out _ (List.getElem_mem hlt)
        generalize xs[k].name = nm at *
        generalize xs[k].number = num at *
        have HV1 := Lib.hid HVC
        clear HVC
        obtain ⟨hq1, hq2, hq3⟩ := hqk
        obtain ⟨e0, e1⟩ := HV1.out _ Hv.out
        have HRd : Hid (Rdr w3.drew r (31 + 2 * k + 1)) := HR3.out
        have q3 : 31 + 2 * k + 1 ≤ 1000000 := by omega
        have q1 : (1 : Int) ≤ 2 := by omega
        have q2 : (2 : Int) ≤ 1000000 := by omega
        go_wp2
        go_region_held3 (fun w' => w'.cell? ⟨g, k * 2, none⟩ = some (.string nm) ∧ w'.cell? ⟨g, k * 2 + 1, none⟩ = some (.int .i64 num)) (first | exact ⟨e0, e1⟩ | exact ⟨f0, f1⟩ | exact ⟨g0, g1⟩ | exact ⟨h0, h1⟩ | (go_keep; done)) (first | (go_at_call 35; (with_reducible refine (pick_any r _ 2 _ HRd.out q3 q1 q2).mono ?_); rintro e w4 ⟨u, rfl, ⟨ua, ub⟩, hr4, hg4⟩; have HR4 := Lib.hid hr4; have hg34 : w3.grownBy w4 (some r) := ⟨hg4.os, hg4.tape, hg4.output, hg4.size, hg4.block⟩; have Ho4 := Lib.hid (own_pick Ho.out hg34 hrl); have Hv4 := Lib.hid (own_pick Hv.out hg34 hrl); have HG4 := Lib.hid (gr_trans HG3.out hg34); have zz4 : w1.heap.size ≤ w4.heap.size := HG4.out.size; obtain ⟨f0, f1⟩ := HV1.out _ Hv4.out; obtain ⟨g0, g1⟩ := HV1.out _ (Hv4.out.alloc (.cells #[.string nm, .int .i64 (num - u)] 26)); have y4 : IntKind.i64.wrap (num - u) = num - u := IntWalk.i64_in _ (by omega)) | (refine step_push _ (by rfl) _ _ _ (by rfl) w1.heap.size 26 i0 _ 2 24 Try.underlying36 hi0 hz0 hz1 hz2 rfl (by omega) (by omega) A m c 1 1 (ws.flatMap Ver.cells) [.string nm, .int .i64 (num - u)] (by exact Ho4.out.alloc _) (by rfl) ⟨w4.heap.size, 0, none⟩ (by rfl) (by rfl) (World.news_of_block (cs := #[.string nm, .int .i64 (num - u)]) (t := 26) (fr := (0, 0)) (heap_alloc_new w4 _)) (by simp [Value.oneCell']) (by omega) (by omega) (by simp; omega) ?_; intro A' c' w5 hown5 hgrow5 hat5 hkeep5; have Hv5 := Lib.hid (own_apart (Hv4.out.alloc _) hgrow5 Hp.out.symm); obtain ⟨h0, h1⟩ := HV1.out _ Hv5.out))
        clear y4
        go_wp2
        go_roundw
        case rel =>
          have ee : (ws ++ [(⟨nm, num - u⟩ : Ver)]).flatMap Ver.cells = ws.flatMap Ver.cells ++ [.string nm, .int .i64 (num - u)] := by simp [Ver.cells]
          refine ⟨k + 1, m + 1, A', c', ws ++ [(⟨nm, num - u⟩ : Ver)], by omega, by omega, by go_num, rfl, Lib.hid ⟨by have := HW.out.1; simp; omega, fun x hx => ?_⟩, Lib.hid (by rw [ee]; exact hown5), Hv5, Lib.hid (apart_push Hp.out (Hv4.out.alloc (.cells #[.string nm, .int .i64 (num - u)] 26)) (by simp) hat5), Lib.hid ?_, Lib.hid ?_⟩
          · rcases List.mem_append.1 hx with hx | hx
            · exact HW.out.2 x hx
            · rw [List.mem_singleton.1 hx]; exact hq1
          · exact ((HR4.out.alloc _).row hgrow5 (Ho4.out.alloc _) hrl).more (by omega)
          · exact gr_row (gr_alloc HG4.out _) hgrow5 (Ho4.out.alloc _) (Nat.le_refl _)
        case measure => simp [intOf]; omega
      · have hv' : (v == 0) = false := by simp [hv0]
        clear hv0
        go_wp2
        go_roundw
        case rel => exact ⟨k + 1, m, A, c, ws, by omega, by omega, by go_num, rfl, HW, Ho, Hv, Hp, HR3.out.more (by omega), HG3⟩
        case measure => simp [intOf]; omega
    · obtain rfl : k = xs.length := by omega
      have hwl := HW.out.1
      go_wp2_with fail
      refine (odd_both r _ 4 _ HRk.out (by omega) (by omega) (by omega)).mono ?_
      rintro e w3 ⟨b, rfl, _, hr3, hg3⟩
      replace Ho := Lib.hid (own_pick Ho.out hg3 hrl)
      replace Hv := Lib.hid (own_pick Hv.out hg3 hrl)
      have HG3 := Lib.hid (gr_trans HGk.out hg3)
      have zz3 := HG3.out.size
      have HR3 := Lib.hid hr3
      clear hr3 hg3 HGk HRk
      cases b
      · go_wp2
        subst hwl
        refine bodyPost_ret (v := .tuple #[.slice A ws.length c, .slice A1 xs.length c1]) (by simp [results, Try.results23, go_sem]) rfl ?_
        exact ⟨A, c, ws, A1, c1, xs, rfl, own_base Ho.out HB.out.size, own_base Hv.out HB.out.size, by omega, hl, HW.out.2, fun x h => (HQ.out x h).1, below_gr HB.out HG3.out hrw⟩
      · go_wp2_with fail
        refine (l20Version_any r _ 3 _ HR3.out (by omega) (by omega) (by omega)).mono ?_
        rintro e w4 ⟨⟨nm, num⟩, rfl, hq, hr4, hg4⟩
        have hn9 : nm.size ≤ 9 := hq.1
        replace Ho := Lib.hid (own_pick Ho.out hg4 hrl)
        replace Hv := Lib.hid (own_pick Hv.out hg4 hrl)
        have HG4 := Lib.hid (gr_trans HG3.out hg4)
        have zz4 := HG4.out.size
        clear hq hr4 hg4 HG3 HR3
        simp only [Ver.val]
        go_wp2_with (at_builtin; refine wpList_push _ rfl (.tmp 41) (.tmp 44) _ rfl w1.heap.size 26 i0 _ 2 24 Try.underlying36 hi0 hz0 hz1 hz2 rfl (by omega) (by omega) A m c 1 1 (ws.flatMap Ver.cells) [.string nm, .int .i64 num] (by exact Ho.out.alloc _) rfl ⟨w4.heap.size, 0, none⟩ rfl rfl (World.news_of_block (cs := #[.string nm, .int .i64 num]) (t := 26) (fr := (0, 0)) (by exact heap_alloc_new w4 _)) (by simp [Value.oneCell']) (by omega) (by omega) (by simp; omega) ?_; intro A' c' w5 hown5 hgrow5 hat5 hkeep5)
        have ee : (ws ++ [(⟨nm, num⟩ : Ver)]).flatMap Ver.cells = ws.flatMap Ver.cells ++ [.string nm, .int .i64 num] := by simp [Ver.cells]
        have el : m + 1 = (ws ++ [(⟨nm, num⟩ : Ver)]).length := by simp; omega
        have Hv5 := own_apart (Hv.out.alloc (.cells #[.string nm, .int .i64 num] 26)) hgrow5 Hp.out.symm
        have HG5 := gr_row (gr_alloc HG4.out (.cells #[.string nm, .int .i64 num] 26)) hgrow5 (Ho.out.alloc _) (Nat.le_refl _)
        rw [← ee, el] at hown5
        refine bodyPost_ret (v := .tuple #[.slice A' (ws ++ [(⟨nm, num⟩ : Ver)]).length c', .slice A1 xs.length c1]) (by simp [results, Try.results23, go_sem]; try omega) rfl ?_
        refine ⟨A', c', ws ++ [(⟨nm, num⟩ : Ver)], A1, c1, xs, rfl, own_base hown5 HB.out.size, own_base Hv5 HB.out.size, by omega, hl, fun x hx => ?_, fun x h => (HQ.out x h).1, below_gr HB.out HG5 hrw⟩
        rcases List.mem_append.1 hx with hx | hx
        · exact HW.out.2 x hx
        · rw [List.mem_singleton.1 hx]; exact hn9
end Go.Proofs.Ytogdeekjfgbneaa
