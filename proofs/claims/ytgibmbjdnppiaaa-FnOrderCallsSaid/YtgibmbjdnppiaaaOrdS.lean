/- Contract of the reference's OrderCalls. Condition: the size. -/
import Derived.Test.YtgibmbjdnppiaaaRows
import Derived.Test.YtgibmbjdnppiaaaBase
import Derived.Test.YtgibmbjdnppiaaaBase2
import Derived.Test.YtgibmbjdnppiaaaBase3
import Derived.Test.YtgibmbjdnppiaaaIn
import Derived.Test.YtgibmbjdnppiaaaIn2
import Derived.Test.YtgibmbjdnppiaaaShelf
import Derived.Test.YtgibmbjdnppiaaaIdxI
import Derived.Test.YtgibmbjdnppiaaaPick2
import Derived.Test.YtgibmbjdnppiaaaEdge
import Derived.Test.YtgibmbjdnppiaaaEdgeV
import Derived.Test.YtgibmbjdnppiaaaEdgeW
import Derived.Test.YtgibmbjdnppiaaaCallP
import Derived.Test.YtgibmbjdnppiaaaCallS
import Derived.Test.YtgibmbjdnppiaaaOrdP
import Derived.Test.YtgibmbjdnppiaaaOrdQ
import Derived.Test.YtgibmbjdnppiaaaChn
import Derived.Test.YtgibmbjdnppiaaaCat
import Derived.Test.YtgibmbjdnppiaaaDel
import Derived.Test.YtgibmbjdnppiaaaReg
import Derived.Test.YtgibmbjdnppiaaaRegS
import Derived.WalkKit
import Derived.WalkSpells
import Derived.WalkLawsBesides
import Derived.Handy
import Derived.BigQuiet
import Derived.Deep.RegionHeld3
import Derived.Deep.DrawnRows
import Derived.Deep.QuietTactic
import Derived.Deep.CutBlock
namespace Go.Proofs.Ytgibmbjdnppiaaa
open Go Go.RowKit

theorem joinC_map2 {ks : List Ch} {a b : Nat} (ha : a < ks.length) (hb : b < ks.length) (A : Option Addr) (c : Nat) : ((ks.set a ⟨A, c, ks[a].xs ++ ks[b].xs⟩).eraseIdx b).map Ch.xs = joinC (ks.map Ch.xs) a b := joinC_map ha hb A c
/-- A chain in new memory takes another one's place. -/
theorem Chs.swapNew {lo oc H : Nat} {OA : Option Addr} {vals : List Value} {ks : List Ch} {w2 wq : World} (h : Chs lo OA oc vals ks w2) (s : Below w2.heap.size w2 wq) (a : Nat) (k : Ch) (hH : w2.heap.size ≤ H) (hlo : lo ≤ H) (hk : k.Own wq H) : Chs lo OA oc vals (ks.set a k) wq :=
  (h.below s).swap a k (own_base hk hlo) (fun i hi _ x y hx hy => by
    have h1 := (h.up (List.getElem_mem hi) x hx).2
    have h2 := (own_up hk y hy).1
    omega)
theorem reads_cut {w : World} {g n : Nat} {vals : List Value} (h : Reads w w.heap.size 1 (some ⟨g, 0, none⟩) n vals) (b : Nat) (hb : b ≤ n) : Reads w w.heap.size 1 (some ⟨g, 0, none⟩) b (vals.take b) := by
  have hl := h.1
  refine ⟨by simp; omega, fun h0 => ?_⟩
  obtain ⟨ad, e, hbl, hc⟩ := h.2 (by omega)
  refine ⟨ad, e, hbl, fun j u hu => hc j u ?_⟩
  rw [List.getElem?_take] at hu
  split at hu
  · exact hu
  · cases hu
theorem reads_drop {w : World} {g n : Nat} {vals : List Value} (h : Reads w w.heap.size 1 (some ⟨g, 0, none⟩) n vals) (b : Nat) (hb : b ≤ n) : Reads w w.heap.size 1 (some ⟨g, b, none⟩) (n - b) (vals.drop b) := by
  have hl := h.1
  refine ⟨by simp; omega, fun h0 => ?_⟩
  obtain ⟨ad, e, hbl, hc⟩ := h.2 (by omega)
  injection e with e
  subst e
  refine ⟨_, rfl, hbl, fun j u hu => ?_⟩
  rw [List.getElem?_drop] at hu
  have := hc (b + j) u hu
  rw [Addr.add_lit] at this ⊢
  simpa using this
theorem own_capC {w : World} {base size n c : Nat} {t : TypeId} {A : Option Addr} {xs : List Value} (h : w.ownsRow base t size (.slice A n c) n xs) : n ≤ c := by
  rcases h.2 with ⟨hv, hn⟩ | ⟨g, cap, cur, hv, _, _, hc, _⟩
  · omega
  · injection hv with _ _ hv
    omega
set_option maxRecDepth 100000 in
set_option maxHeartbeats 8000000 in
theorem specOrder_any {A : Option Addr} {c B : Nat} (many : Int) (es : List Edg) (w : World) (h1 : Reads w B 3 A es.length (es.flatMap Edg.cells)) (hB : B ≤ w.heap.size) (hm : es.length ≤ 1048576) :
    Calls Try.prog 21 #[.int .i64 many, .slice A es.length c] w (Fresh 3 1 w (ordR many es).length (nums .i64 (ordR many es))) := by
  obtain ⟨i0, hi0, hz0, hz1, hz2⟩ := info_parts chint_info
  obtain ⟨j0, hj0, gz0, gz1, gz2⟩ := info_parts ch_info
  obtain ⟨b0, hb0, bz0, bz1, bz2⟩ := info_parts sbool_info
  have HV := Lib.hid (fun w' (hb : Below w.heap.size w w') => specEdgesValid_any (c := c) many es w' ((h1.more hB).below hb) hb.size (by unfold maxLen; omega))
  have HR0 := Lib.hid (h1.more hB)
  obtain ⟨w2, hmk, ho2, hg2⟩ := run_make_full (P := Try.prog) (w.alloc (.cells #[] 36)) w.heap.size 56 4 b0 _ 1 Try.underlying56 hb0 bz0 bz1 .i64 .i64 es.length (by rw [bz2]; omega) (by unfold maxLen; omega) (by simp)
  have e2 : (madeCells (Value.bool false).cells (es.length * 1)).toList = bools (doneT es.length []) := by
    have := toList_madeCells_one (.bool false) (es.length * 1)
    rw [doneT_nil]
    simpa [bools, Value.cells] using this
  rw [e2] at ho2
  have HD2 := Lib.hid ho2
  have s2 : Below (w.alloc (.cells #[] 36)).heap.size (w.alloc (.cells #[] 36)) w2 := (Below.refl _ _).grown hg2 (Nat.le_refl _) (by simp)
  have HC2 : Hid (Chs w.heap.size (some ⟨w.heap.size, 0, none⟩) 0 [] [] w2) := (Chs.nil w (Nat.le_refl _)).below s2
  have HB2 : Hid (Below w.heap.size w w2) := ((Below.refl _ _).alloc (Nat.le_refl _) _).trans (s2.mono (by simp))
  clear e2 ho2 hg2 s2 h1
  cases hOk : edgesOk many es
  · have HN := Lib.hid (ordR_no hOk)
    have HK := Lib.hid hOk
    clear hOk HC2 HD2
    go_enter Try.func21, Try.ntmps21
    go_wp2
    clear hmk
    by_cases h0 : (0 : Int) < many
    · by_cases he : 0 < es.length
      · have hmp : (0 : Int) < many := h0
        have hep : (0 : Int) < (es.length : Int) := by omega
        refine wp_loop_rounds 1 ?_
        rw [rounds_succ]
        go_wp2_with fail
        refine (HV.out _ HB2.out).mono ?_
        rintro e w3 ⟨rfl, s3⟩
        rw [HK.out]
        have HB3 : Hid (Below w.heap.size w w3) := HB2.out.trans (s3.mono HB2.out.size)
        clear s3
        go_wp2
        refine wp_loop_rounds 1 ?_
        rw [rounds_succ]
        go_wp2
        refine wp_loop_rounds 1 ?_
        rw [rounds_succ]
        go_wp2
        go_ret
        rw [HN.out]
        exact ⟨_, _, rfl, World.ownsRow_lit (base := w.heap.size) (e := 3) (size := 1) w3 #[] 0 HB3.out.size (by unfold maxLen; omega) rfl, HB3.out.alloc HB3.out.size _⟩
      · have hmp : (0 : Int) < many := h0
        have hep : ¬ (0 : Int) < (es.length : Int) := by omega
        refine wp_loop_rounds 1 ?_
        rw [rounds_succ]
        go_wp2_with fail
        refine (HV.out _ HB2.out).mono ?_
        rintro e w3 ⟨rfl, s3⟩
        rw [HK.out]
        have HB3 : Hid (Below w.heap.size w w3) := HB2.out.trans (s3.mono HB2.out.size)
        clear s3
        go_wp2
        refine wp_loop_rounds 1 ?_
        rw [rounds_succ]
        go_wp2
        refine wp_loop_rounds 1 ?_
        rw [rounds_succ]
        go_wp2
        go_ret
        rw [HN.out]
        exact ⟨_, _, rfl, World.ownsRow_lit (base := w.heap.size) (e := 3) (size := 1) w3 #[] 0 HB3.out.size (by unfold maxLen; omega) rfl, HB3.out.alloc HB3.out.size _⟩
    · by_cases he : 0 < es.length
      · have hmp : ¬ (0 : Int) < many := h0
        have hep : (0 : Int) < (es.length : Int) := by omega
        refine wp_loop_rounds 1 ?_
        rw [rounds_succ]
        have HB3 := HB2
        go_wp2
        refine wp_loop_rounds 1 ?_
        rw [rounds_succ]
        go_wp2
        refine wp_loop_rounds 1 ?_
        rw [rounds_succ]
        go_wp2
        go_ret
        rw [HN.out]
        exact ⟨_, _, rfl, World.ownsRow_lit (base := w.heap.size) (e := 3) (size := 1) w2 #[] 0 HB3.out.size (by unfold maxLen; omega) rfl, HB3.out.alloc HB3.out.size _⟩
      · have hmp : ¬ (0 : Int) < many := h0
        have hep : ¬ (0 : Int) < (es.length : Int) := by omega
        refine wp_loop_rounds 1 ?_
        rw [rounds_succ]
        have HB3 := HB2
        go_wp2
        refine wp_loop_rounds 1 ?_
        rw [rounds_succ]
        go_wp2
        refine wp_loop_rounds 1 ?_
        rw [rounds_succ]
        go_wp2
        go_ret
        rw [HN.out]
        exact ⟨_, _, rfl, World.ownsRow_lit (base := w.heap.size) (e := 3) (size := 1) w2 #[] 0 HB3.out.size (by unfold maxLen; omega) rfl, HB3.out.alloc HB3.out.size _⟩
  · obtain ⟨⟨m1, m2⟩, hel, _⟩ := edgesOk_parts hOk
    have HIN := Lib.hid (edges_in hOk)
    have HK := Lib.hid hOk
    have HPM := Lib.hid (ordV_perm hOk)
    clear hOk
    obtain ⟨m, rfl⟩ := Int.eq_ofNat_of_zero_le (show 0 ≤ many by omega)
    have HOR : Hid (ordR (m : Int) es = ((sortE es).foldl joinE (chains0 m)).flatten) := by
      rw [Hid]
      unfold ordR ordV
      rw [if_pos HK.out]
      rfl
    have hm8 : m ≤ 8 := by omega
    have hm1 : 1 ≤ m := by omega
    have HIE : Hid (∀ e ∈ es, (0 ≤ e.from_ ∧ e.from_ < m) ∧ (0 ≤ e.to_ ∧ e.to_ < m)) := fun e he => by
      have := HIN.out e he
      simp only [Int.toNat_natCast] at this
      exact ⟨this.1, this.2.1⟩
    clear m1 m2 HIN
    go_enter Try.func21, Try.ntmps21
    go_wp2
    clear hmk
    obtain ⟨gD, hgD⟩ : ∃ gD, gD = (w.alloc (.cells #[] 36)).heap.size := ⟨_, rfl⟩
    have hgD2 : w.heap.size + 1 = gD := by rw [hgD]; simp
    rw [← hgD] at HD2
    rw [hgD2]
    clear hgD hgD2
    go_loopw [5, 7] (fun cv iv wr => ∃ (i : Nat) (OA : Option Addr) (oc : Nat) (ks : List Ch), i ≤ m ∧ Hid (ks.length = i) ∧ iv = .int .i64 (i : Int) ∧ cv = .slice OA ks.length oc ∧ Hid (ks.map Ch.xs = (List.range i).map (fun (k : Nat) => [(k : Int)])) ∧ Hid (Chs w.heap.size OA oc (ks.map Ch.val) ks wr) ∧ Hid (wr.ownsRow w.heap.size 4 1 (.slice (some ⟨gD, 0, none⟩) es.length es.length) es.length (bools (doneT es.length []))) ∧ Hid (Below w.heap.size w wr)) (fun _ iv _ => m - (intOf iv).toNat)
    case atStart => exact ⟨0, _, 0, [], Nat.zero_le _, Lib.hid rfl, rfl, rfl, Lib.hid rfl, HC2, HD2, HB2⟩
    case round =>
      clear HC2 HD2 HB2
      obtain ⟨i, OA, oc, ks, hi, HKL, rfl, rfl, HX, HC, HD, HB⟩ := hrel
      have hk8 : ks.length ≤ 8 := by have := HKL.out; omega
      have hbz := HB.out.size
      by_cases hlt : i < m
      · have hii : (i : Int) < (m : Int) := by omega
        have hw1 : IntKind.i64.wrap ((i : Int) + 1) = (i : Int) + 1 := IntWalk.i64_in _ (by omega)
        go_wp2_with fail
        refine (HV.out wr HB.out).mono ?_
        rintro e w3 ⟨rfl, s3⟩
        rw [HK.out]
        have hb3 : w.heap.size ≤ w3.heap.size := Nat.le_trans hbz s3.size
        have HC2 := Lib.hid (((HC.out.below s3).alloc (.cells #[.int .i64 (i : Int)] 3)).alloc (.cells #[.slice (some ⟨w3.heap.size, 0, none⟩) 1 1] 36))
        have HB2 : Hid (Below w.heap.size w ((w3.alloc (.cells #[.int .i64 (i : Int)] 3)).alloc (.cells #[.slice (some ⟨w3.heap.size, 0, none⟩) 1 1] 36))) := (((HB.out.trans (s3.mono hbz)).alloc hb3 _).alloc (by simp; omega) _)
        have HD2 : Hid (((w3.alloc (.cells #[.int .i64 (i : Int)] 3)).alloc (.cells #[.slice (some ⟨w3.heap.size, 0, none⟩) 1 1] 36)).ownsRow w.heap.size 4 1 (.slice (some ⟨gD, 0, none⟩) es.length es.length) es.length (bools (doneT es.length []))) := own_below (own_below (own_below HD.out s3) ((Below.refl _ _).alloc (Nat.le_refl _) _)) ((Below.refl _ _).alloc (Nat.le_refl _) _)
        have HW2 := Lib.hid (heap_alloc_new (w3.alloc (.cells #[.int .i64 (i : Int)] 3)) (.cells #[.slice (some ⟨w3.heap.size, 0, none⟩) 1 1] 36))
        have HK2 : Hid (Ch.Own ⟨some ⟨w3.heap.size, 0, none⟩, 1, [(i : Int)]⟩ ((w3.alloc (.cells #[.int .i64 (i : Int)] 3)).alloc (.cells #[.slice (some ⟨w3.heap.size, 0, none⟩) 1 1] 36)) w.heap.size) := by
          have o := World.ownsRow_lit (base := w.heap.size) (e := 3) (size := 1) w3 #[.int .i64 (i : Int)] 1 hb3 (by unfold maxLen; omega) rfl
          exact own_below o ((Below.refl _ _).alloc (Nat.le_refl _) _)
        have HUP : Hid (∀ j ∈ ks, Apart j.A (some ⟨w3.heap.size, 0, none⟩)) := fun j hj x y hx hy => by
          injection hy with hy
          subst hy
          have := (HC.out.up hj x hx).2
          have := s3.size
          simp only [ne_eq]
          omega
        clear HC HD HB s3
        go_wp2_with (at_builtin; refine wpList_push _ rfl (.tmp 29) (.tmp 32) _ rfl w.heap.size 36 j0 _ 1 24 Try.underlying60 hj0 gz0 gz1 gz2 rfl (by omega) (by omega) OA ks.length oc 1 1 (ks.map Ch.val) [.slice (some ⟨w3.heap.size, 0, none⟩) 1 1] (by have h := HC2.out.outer; rw [List.length_map] at h; exact h) rfl ⟨w3.heap.size + 1, 0, none⟩ rfl rfl (World.news_of_block (cs := #[.slice (some ⟨w3.heap.size, 0, none⟩) 1 1]) (t := 36) (fr := (0, 0)) (by have h := HW2.out; rw [World.size_alloc] at h; exact h)) (by simp [Value.oneCell']) (by omega) (by omega) (by simp; omega) ?_; intro A' c' w5 hown hgrow hat hkeep)
        have HC5 : Hid (Chs w.heap.size A' c' ((ks ++ [(⟨some ⟨w3.heap.size, 0, none⟩, 1, [(i : Int)]⟩ : Ch)]).map Ch.val) (ks ++ [(⟨some ⟨w3.heap.size, 0, none⟩, 1, [(i : Int)]⟩ : Ch)]) w5) := by
          refine (HC2.out.more ⟨some ⟨w3.heap.size, 0, none⟩, 1, [(i : Int)]⟩ HK2.out HUP.out).outerTo ?_ hgrow
          rw [List.map_append, List.length_append, List.length_map]
          exact hown
        have HD5 : Hid (w5.ownsRow w.heap.size 4 1 (.slice (some ⟨gD, 0, none⟩) es.length es.length) es.length (bools (doneT es.length []))) := own_other HD2.out hgrow (own_types_neC HD2.out HC2.out.outer (by decide))
        have HB5 : Hid (Below w.heap.size w w5) := HB2.out.grown hgrow (by simp; omega) (fun q hq => by
          cases OA with
          | none => cases hq
          | some y =>
            have := own_up HC2.out.outer y rfl
            have : y.block = q := by simpa using hq
            omega)
        have HX5 : Hid ((ks ++ [(⟨some ⟨w3.heap.size, 0, none⟩, 1, [(i : Int)]⟩ : Ch)]).map Ch.xs = (List.range (i + 1)).map (fun (k : Nat) => [(k : Int)])) := by
          rw [Hid, List.map_append, HX.out, List.range_succ, List.map_append]
          rfl
        clear hown hgrow hat hkeep HC2 HB2 HW2 HK2 HUP HX HD2
        go_roundw
        case rel => exact ⟨i + 1, A', c', ks ++ [⟨some ⟨w3.heap.size, 0, none⟩, 1, [(i : Int)]⟩], by omega, (by have := HKL.out; rw [Hid]; simp; omega), by go_num, by simp, HX5, HC5, HD5, HB5⟩
        case measure => simp [intOf]; omega
      · have hii : ¬ (i : Int) < (m : Int) := by omega
        have him : i = m := by omega
        have HX0 : Hid (ks.map Ch.xs = chains0 m) := by rw [Hid, HX.out, him]; rfl
        have hkm : ks.length ≤ 8 := by omega
        clear HX him HKL hk8 HV HK
        have HFP : Hid (∀ os : List Nat, (∀ i ∈ os, i < es.length) → ((os.map (fun i => es.getD i default)).foldl joinE (chains0 m)).flatten.Perm (chains0 m).flatten) := fun os ho => fold_perm m _ (chains0 m) (fun e he => by
          obtain ⟨q, hq, rfl⟩ := List.mem_map.1 he
          have hql := ho q hq
          rw [List.getD_eq_getElem?_getD, List.getElem?_eq_getElem hql]
          exact HIE.out _ (List.getElem_mem hql)) (List.Perm.refl _)
        go_wp2
        go_loopw [5, 8, 9, 10, 11, 12] (fun cv sv _ _ _ _ wr => ∃ (os : List Nat) (OA : Option Addr) (oc : Nat) (ks : List Ch), os.length ≤ es.length ∧ ks.length ≤ 8 ∧ sv = .int .i64 (os.length : Int) ∧ cv = .slice OA ks.length oc ∧ Hid (Sel es os) ∧ Hid (ks.map Ch.xs = (os.map (fun i => es.getD i default)).foldl joinE (chains0 m)) ∧ Hid (Chs w.heap.size OA oc (ks.map Ch.val) ks wr) ∧ Hid (wr.ownsRow w.heap.size 4 1 (.slice (some ⟨gD, 0, none⟩) es.length es.length) es.length (bools (doneT es.length os))) ∧ Hid (Below w.heap.size w wr)) (fun _ sv _ _ _ _ _ => es.length - (intOf sv).toNat)
        case atStart => exact ⟨[], OA, oc, ks, Nat.zero_le _, hkm, rfl, rfl, Sel.nil es, HX0, HC, HD, HB⟩
        case round =>
          clear HX0 HC HD HB hkm hlt hii hi hbz
          obtain ⟨os, OA, oc, ks, hol, hkm, rfl, rfl, HSEL, HX, HC, HD, HB⟩ := hrel
          have hbz := HB.out.size
          have HPF : Hid ((ks.map Ch.xs).flatten.Perm (chains0 m).flatten) := by rw [Hid, HX.out]; exact HFP.out os HSEL.out.lt
          have HTOT : Hid ((flatC ks).length = m) := by
            have := HPF.out.length_eq
            rw [chains0_flat, List.length_map, List.length_range] at this
            exact this
          have HLX : Hid (∀ k ∈ ks, k.xs.length ≤ 8) := fun k hk => by
            have h1 : k.xs.length ≤ (flatC ks).length := by
              unfold flatC
              exact (List.sublist_flatten_of_mem (List.mem_map.2 ⟨k, hk, rfl⟩)).length_le
            have := HTOT.out
            omega
          have hk0 : 0 < ks.length := by
            rcases Nat.eq_zero_or_pos ks.length with h0 | h0
            · have hn : ks = [] := List.eq_nil_of_length_eq_zero h0
              have := HTOT.out
              rw [hn] at this
              simp [flatC] at this
              omega
            · exact h0
          have hk0i : (0 : Int) < (ks.length : Int) := by omega
          by_cases hlt : os.length < es.length
          · have hii : (os.length : Int) < (es.length : Int) := by omega
            have hw1 : IntKind.i64.wrap ((os.length : Int) + 1) = (os.length : Int) + 1 := IntWalk.i64_in _ (by omega)
            have HOL2 : Hid ((os ++ [0]).length ≤ es.length) := by rw [Hid]; simp; omega
            obtain ⟨bE, oE, rfl, hbl, hcs⟩ := HR0.out.row_ (by omega) (by omega)
            have HES : Hid (∀ k, (hk : k < es.length) → w.cell? ⟨bE, oE + k * 3, none⟩ = some (.int .i64 es[k].from_) ∧ w.cell? ⟨bE, oE + k * 3 + 1, none⟩ = some (.int .i64 es[k].to_) ∧ w.cell? ⟨bE, oE + k * 3 + 2, none⟩ = some (.int .i64 es[k].count)) := fun k hk => by
              have e := fun i hi => flat_get Edg.cells 3 Edg.cells_len es k i hk hi
              refine ⟨hcs (k * 3) _ (e 0 (by omega)), ?_, ?_⟩
              · have := hcs (k * 3 + 1) _ (e 1 (by omega))
                rwa [← Nat.add_assoc] at this
              · have := hcs (k * 3 + 2) _ (e 2 (by omega))
                rwa [← Nat.add_assoc] at this
            clear hcs
            obtain ⟨w5, rfl⟩ : ∃ w5, w5 = wr := ⟨_, rfl⟩
            have HDC : Hid (∀ k, (hk : k < es.length) → w5.cell? ⟨gD, k, none⟩ = some (.bool (decide (k ∈ os)))) := fun k hk => by
              have h := HD.out.cellAt k (by omega)
              rw [bools_get _ k (by rw [doneT_len]; exact hk), doneT_get hk] at h
              exact h
            have hgD : w.heap.size ≤ gD ∧ gD < w5.heap.size := own_up HD.out _ rfl
            go_wp2
            go_loopw [9, 10] (fun bv kv wr => ∃ k : Nat, k ≤ es.length ∧ kv = .int .i64 (k : Int) ∧ ((bv = .int .i64 (-1) ∧ Hid (∀ j, j < k → j ∈ os)) ∨ ∃ b : Nat, bv = .int .i64 (b : Int) ∧ b < es.length ∧ Hid (Best es os k b)) ∧ Hid (Below w5.heap.size w5 wr)) (fun _ kv _ => es.length - (intOf kv).toNat)
            case atStart => exact ⟨0, Nat.zero_le _, rfl, .inl ⟨rfl, fun j hj => by omega⟩, Below.refl _ _⟩
            case round =>
              obtain ⟨k, hk, rfl, hbest, HW⟩ := hrel
              by_cases hkl : k < es.length
              · have hki : (k : Int) < (es.length : Int) := by omega
                have hk00 : (0 : Int) ≤ (k : Int) := Int.natCast_nonneg _
                have hwk : IntKind.i64.wrap ((k : Int) + 1) = (k : Int) + 1 := IntWalk.i64_in _ (by omega)
                have hcd : wr.cell? ⟨gD, k, none⟩ = some (.bool (decide (k ∈ os))) := (HW.out.cell (p := ⟨gD, k, none⟩) hgD.2).trans (HDC.out k hkl)
                have hck : wr.cell? ⟨bE, oE + k * 3 + 2, none⟩ = some (.int .i64 es[k].count) := (HW.out.cell (p := ⟨bE, oE + k * 3 + 2, none⟩) (by simp only; omega)).trans ((HB.out.cell (p := ⟨bE, oE + k * 3 + 2, none⟩) hbl).trans (HES.out k hkl).2.2)
                have hgk : (es.getD k default).count = es[k].count := by rw [List.getD_eq_getElem?_getD, List.getElem?_eq_getElem hkl]; rfl
                by_cases hin : k ∈ os
                · have HIK := Lib.hid hin
                  rw [decide_eq_true hin] at hcd
                  clear hin hgk
                  generalize es[k].count = ck at hck
                  rcases hbest with ⟨rfl, HA⟩ | ⟨b, rfl, hbl2, HBS⟩
                  · go_wp2
                    go_quiet (fail)
                    go_wp2
                    go_roundw
                    case rel => exact ⟨k + 1, by omega, by go_num, .inl ⟨rfl, fun j hj => by
                      by_cases hjk : j < k
                      · exact HA.out j hjk
                      · obtain rfl : j = k := by omega
                        exact HIK.out⟩, by repeat (first | exact HW | exact HW.out | apply below_drewN)⟩
                    case measure => simp [intOf]; omega
                  · go_wp2
                    go_quiet (fail)
                    go_wp2
                    go_roundw
                    case rel => exact ⟨k + 1, by omega, by go_num, .inr ⟨b, rfl, hbl2, HBS.out.keep (.inl HIK.out)⟩, by repeat (first | exact HW | exact HW.out | apply below_drewN)⟩
                    case measure => simp [intOf]; omega
                · have HIK := Lib.hid hin
                  rw [decide_eq_false hin] at hcd
                  clear hin
                  rcases hbest with ⟨rfl, HA⟩ | ⟨b, rfl, hbl2, HBS⟩
                  · clear hgk
                    generalize es[k].count = ck at hck
                    go_wp2
                    go_quiet (fail)
                    go_wp2
                    go_roundw
                    case rel => exact ⟨k + 1, by omega, by go_num, .inr ⟨k, rfl, hkl, Best.first HA.out HIK.out⟩, by repeat (first | exact HW | exact HW.out | apply below_drewN)⟩
                    case measure => simp [intOf]; omega
                  · have hcb : wr.cell? ⟨bE, oE + b * 3 + 2, none⟩ = some (.int .i64 es[b].count) := (HW.out.cell (p := ⟨bE, oE + b * 3 + 2, none⟩) (by simp only; omega)).trans ((HB.out.cell (p := ⟨bE, oE + b * 3 + 2, none⟩) hbl).trans (HES.out b hbl2).2.2)
                    have hgb : (es.getD b default).count = es[b].count := by rw [List.getD_eq_getElem?_getD, List.getElem?_eq_getElem hbl2]; rfl
                    have hbi : (b : Int) < (es.length : Int) := by omega
                    have hb00 : (0 : Int) ≤ (b : Int) := Int.natCast_nonneg _
                    have hbn : ¬ (b : Int) < 0 := by omega
                    by_cases hcc : es[b].count < es[k].count
                    · have HNX := Lib.hid (HBS.out.more HIK.out (by rw [hgb, hgk]; exact hcc))
                      clear hgb hgk HBS
                      generalize es[k].count = ck at *
                      generalize es[b].count = cb at *
                      have hccd : decide (cb < ck) = true := decide_eq_true hcc
                      go_wp2
                      go_quiet (fail)
                      go_wp2
                      go_roundw
                      case rel => exact ⟨k + 1, by omega, by go_num, .inr ⟨k, rfl, hkl, HNX⟩, by repeat (first | exact HW | exact HW.out | apply below_drewN)⟩
                      case measure => simp [intOf]; omega
                    · have HNX := Lib.hid (HBS.out.keep (.inr (by rw [hgb, hgk]; exact hcc)))
                      clear hgb hgk HBS
                      generalize es[k].count = ck at *
                      generalize es[b].count = cb at *
                      have hccd : decide (cb < ck) = false := decide_eq_false hcc
                      go_wp2
                      go_quiet (fail)
                      go_wp2
                      go_roundw
                      case rel => exact ⟨k + 1, by omega, by go_num, .inr ⟨b, rfl, hbl2, HNX⟩, by repeat (first | exact HW | exact HW.out | apply below_drewN)⟩
                      case measure => simp [intOf]; omega
              · have hki : ¬ (k : Int) < (es.length : Int) := by omega
                have hkn : k = es.length := by omega
                rcases hbest with ⟨rfl, HA⟩ | ⟨bq, rfl, hbq, HBS⟩
                · exfalso
                  have := all_len es.length os (fun j hj => HA.out j (by omega))
                  omega
                · have HSEL2 : Hid (Sel es (os ++ [bq])) := HSEL.out.step (hkn ▸ HBS.out)
                  have HOL2 : Hid ((os ++ [bq]).length ≤ es.length) := by rw [Hid]; simp; omega
                  have hbi : (bq : Int) < (es.length : Int) := by omega
                  have hcd : wr.cell? ⟨gD, bq, none⟩ = some (.bool (decide (bq ∈ os))) := (HW.out.cell (p := ⟨gD, bq, none⟩) hgD.2).trans (HDC.out bq hbq)
                  have hfd : wr.frozen? ⟨gD, bq, none⟩ = false := (own_below HD.out HW.out).frozenAt bq
                  have HD6 : Hid ((wr.setCell ⟨gD, bq, none⟩ (.bool true)).ownsRow w.heap.size 4 1 (.slice (some ⟨gD, 0, none⟩) es.length es.length) es.length (bools (doneT es.length (os ++ [bq])))) := by
                    have h := ((own_below HD.out HW.out).stored bq (.bool true)).1
                    rw [bools_set, doneT_set] at h
                    exact h
                  have HC6 : Hid (Chs w.heap.size OA oc (ks.map Ch.val) ks (wr.setCell ⟨gD, bq, none⟩ (.bool true))) := by
                    have hc := HC.out.below HW.out
                    have hd := own_below HD.out HW.out
                    have hgr := (hd.stored bq (.bool true)).2
                    refine ⟨own_other hc.outer hgr (A2 := some ⟨gD, 0, none⟩) (own_types_neC hc.outer hd (by decide)), fun k hk => own_other (hc.inner k hk) hgr (A2 := some ⟨gD, 0, none⟩) (own_types_neC (hc.inner k hk) hd (by decide)), hc.apart⟩
                  have HB6 : Hid (Below w.heap.size w (wr.setCell ⟨gD, bq, none⟩ (.bool true))) := (HB.out.trans (HW.out.mono hbz)).setCell hgD.1 _
                  obtain ⟨e0, he0⟩ : ∃ e0, e0 = es[bq] := ⟨_, rfl⟩
                  have HGE : Hid (es.getD bq default = e0) := by rw [Hid, List.getD_eq_getElem?_getD, List.getElem?_eq_getElem hbq, he0]; rfl
                  have HIQ := Lib.hid (HIE.out es[bq] (List.getElem_mem hbq))
                  have HEQ := Lib.hid (HES.out bq hbq)
                  rw [← he0] at HIQ HEQ
                  clear he0 HC HD HSEL HBS HW HES HDC
                  have hmem : ∀ n : Int, 0 ≤ n ∧ n < m → n ∈ (ks.map Ch.xs).flatten := fun n hn => by
                    rw [HPF.out.mem_iff, chains0_flat]
                    exact List.mem_map.2 ⟨n.toNat, by simp; omega, by omega⟩
                  obtain ⟨hia, hal⟩ := idx_eq (hmem _ HIQ.out.1)
                  obtain ⟨hib, hbl2⟩ := idx_eq (hmem _ HIQ.out.2)
                  obtain ⟨a, haa⟩ : ∃ a, a = idxC (ks.map Ch.xs) e0.from_ := ⟨_, rfl⟩
                  obtain ⟨b, hbb⟩ : ∃ b, b = idxC (ks.map Ch.xs) e0.to_ := ⟨_, rfl⟩
                  have hstepf : (os ++ [bq]).map (fun i => es.getD i default) = os.map (fun i => es.getD i default) ++ [e0] := by rw [List.map_append, List.map_singleton, HGE.out]
                  have HXSa : Hid (a = b → ks.map Ch.xs = ((os ++ [bq]).map (fun i => es.getD i default)).foldl joinE (chains0 m)) := fun hab => by
                    rw [hstepf, List.foldl_append, ← HX.out]
                    show _ = joinE (ks.map Ch.xs) e0
                    unfold joinE
                    rw [← haa, ← hbb, if_pos hab]
                  have HXSn : Hid (a ≠ b → joinC (ks.map Ch.xs) a b = ((os ++ [bq]).map (fun i => es.getD i default)).foldl joinE (chains0 m)) := fun hab => by
                    rw [hstepf, List.foldl_append, ← HX.out]
                    show _ = joinE (ks.map Ch.xs) e0
                    unfold joinE
                    rw [← haa, ← hbb, if_neg hab]
                  rw [← haa] at hia hal
                  rw [← hbb] at hib hbl2
                  have ha : a < ks.length := hal
                  have hb : b < ks.length := hbl2
                  have HIA2 := Lib.hid hia
                  have HIB2 := Lib.hid hib
                  clear hmem hia hib hal hbl2 haa hbb HIQ HX HPF hstepf HGE hkn hkl hk
                  have HSTEP : Hid ((Value.int .i64 ((os.length : Int) + 1)) = .int .i64 (((os ++ [bq]).length : Nat) : Int)) := by rw [Hid]; simp
                  go_upto_region 17 with fail
                  generalize World.setCell wr _ _ = w6 at HD6 HC6 HB6 ⊢
                  clear hcd hfd hgD
                  have hz6 : w.heap.size ≤ w6.heap.size := HB6.out.size
                  have x0 : w6.cell? ⟨bE, oE + bq * 3, none⟩ = some (.int .i64 e0.from_) := (HB6.out.cell (p := ⟨bE, oE + bq * 3, none⟩) hbl).trans HEQ.out.1
                  generalize e0.from_ = ef at *
                  go_wp2_with fail
                  refine (specChain_any ef ks w6 HC6.out.reads HC6.out.readsIn (fun k hk => by have := HLX.out k hk; omega) (by omega)).mono ?_
                  rintro e w' ⟨rfl, rfl⟩
                  rw [HIA2.out]
                  have x1 : w6.cell? ⟨bE, oE + bq * 3 + 1, none⟩ = some (.int .i64 e0.to_) := (HB6.out.cell (p := ⟨bE, oE + bq * 3 + 1, none⟩) hbl).trans HEQ.out.2.1
                  generalize e0.to_ = et at *
                  go_wp2_with fail
                  refine (specChain_any et ks w6 HC6.out.reads HC6.out.readsIn (fun k hk => by have := HLX.out k hk; omega) (by omega)).mono ?_
                  rintro e w' ⟨rfl, rfl⟩
                  rw [HIB2.out]
                  clear x0 x1 HEQ HIA2 HIB2
                  by_cases hab : a = b
                  · have habi : ((a : Int) != (b : Int)) = false := by rw [hab]; simp
                    have HXS := Lib.hid (HXSa.out hab)
                    clear hab HXSa HXSn
                    go_wp2
                    go_roundw
                    case rel => exact ⟨os ++ [bq], OA, oc, ks, HOL2.out, hkm, HSTEP.out, rfl, HSEL2, HXS, HC6, HD6, HB6⟩
                    case measure => simp [intOf]; omega
                  · have habi : ((a : Int) != (b : Int)) = true := by simp; omega
                    obtain ⟨gO, rfl⟩ := HC6.out.at_ (by simp; omega)
                    obtain ⟨w7, rfl⟩ : ∃ w7, w7 = w6 := ⟨_, rfl⟩
                    have HCa : Hid (w7.cell? ⟨gO, a, none⟩ = some (.slice ks[a].A ks[a].xs.length ks[a].c)) := (HC6.out.outer.cellAt a (by simp; omega)).trans (ch_get ha)
                    have HCb : Hid (w7.cell? ⟨gO, b, none⟩ = some (.slice ks[b].A ks[b].xs.length ks[b].c)) := (HC6.out.outer.cellAt b (by simp; omega)).trans (ch_get hb)
                    have hgO := HC6.out.outer.lt gO rfl
                    obtain ⟨H, hHz⟩ : ∃ H, H = w7.heap.size := ⟨_, rfl⟩
                    obtain ⟨lo, hlo⟩ : ∃ lo, lo = w.heap.size := ⟨_, rfl⟩
                    obtain ⟨B0, hB0'⟩ : ∃ B0, B0 = w.heap.size := ⟨_, rfl⟩
                    obtain ⟨n, hn⟩ : ∃ n, n = es.length := ⟨_, rfl⟩
                    obtain ⟨db, hdb⟩ : ∃ db, db = bools (doneT es.length (os ++ [bq])) := ⟨_, rfl⟩
                    have HCH : Hid (Chs lo (some ⟨gO, 0, none⟩) oc (ks.map Ch.val) ks w7) := by rw [hlo]; exact HC6.out
                    have HDN : Hid (w7.ownsRow lo 4 1 (.slice (some ⟨gD, 0, none⟩) n n) n db) := by rw [hlo, hn, hdb]; exact HD6.out
                    have HBE : Hid (Below B0 w w7) := by rw [hB0']; exact HB6.out
                    have HRI : Hid (∀ k ∈ ks, Reads w7 H 1 k.A k.xs.length (nums .i64 k.xs)) := by rw [hHz]; exact HC6.out.readsIn
                    have hgl : B0 ≤ gO ∧ gO < H := by omega
                    have hloH : lo ≤ H := by omega
                    have hB0H : B0 ≤ H := by omega
                    have hHH : H ≤ w7.heap.size := by omega
                    have hloB : lo = B0 := by omega
                    have HLO := Lib.hid hlo
                    have HBO := Lib.hid hB0'
                    have HNO := Lib.hid hn
                    have HYO := Lib.hid hdb
                    clear HC6 HD6 HB6 hlo hB0' hn hdb
                    go_wp2
                    refine wp_region_facts (fun i v _ => match i with
                        | 0 => v = .slice (some ⟨gO, 0, none⟩) ks.length oc
                        | 1 => v = .int .i64 (a : Int)
                        | 2 => True
                        | 3 => v = .slice (some ⟨gO, 0, none⟩) ks.length oc
                        | 4 => v = .int .i64 (a : Int)
                        | 5 => v = .pointer (some ⟨gO, a, none⟩)
                        | 6 => v = .slice ks[a].A ks[a].xs.length ks[a].c
                        | 7 => True
                        | 8 => v = .slice (some ⟨gO, 0, none⟩) ks.length oc
                        | 9 => v = .int .i64 (b : Int)
                        | 10 => v = .pointer (some ⟨gO, b, none⟩)
                        | 11 => v = .slice ks[b].A ks[b].xs.length ks[b].c
                        | 12 => True
                        | 13 => v = .pointer (some ⟨gO, a, none⟩)
                        | _ => True)
                      (fun fl vs wq => (fl 14 = false → Below H w7 wq) ∧ (fl 2 = true → fl 7 = false → ∃ g, vs 2 = .slice (some ⟨g, 0, none⟩) 0 0 ∧ wq.ownsRow H 3 1 (.slice (some ⟨g, 0, none⟩) 0 0) 0 []) ∧ (fl 7 = true → fl 12 = false → ∃ (A1 : Option Addr) (c1 : Nat), vs 7 = .slice A1 ks[a].xs.length c1 ∧ wq.ownsRow H 3 1 (.slice A1 ks[a].xs.length c1) ks[a].xs.length (nums .i64 ks[a].xs)) ∧ (fl 12 = true → ∃ (A2 : Option Addr) (c2 : Nat), vs 12 = .slice A2 (ks[a].xs.length + ks[b].xs.length) c2 ∧ (fl 14 = false → wq.ownsRow H 3 1 (.slice A2 (ks[a].xs.length + ks[b].xs.length) c2) (ks[a].xs.length + ks[b].xs.length) (nums .i64 (ks[a].xs ++ ks[b].xs))) ∧ (fl 14 = true → Chs lo (some ⟨gO, 0, none⟩) oc ((ks.set a (⟨A2, c2, ks[a].xs ++ ks[b].xs⟩ : Ch)).map Ch.val) (ks.set a (⟨A2, c2, ks[a].xs ++ ks[b].xs⟩ : Ch)) wq ∧ wq.ownsRow lo 4 1 (.slice (some ⟨gD, 0, none⟩) n n) n db ∧ Below B0 w wq))) (fun _ _ => True) (by kernel_rfl) (by kernel_rfl) ?_ ?_ ?_ ?_
                    · intro i v u u2 _ h
                      exact h
                    · intro fl vs hfl
                      exact ⟨fun _ => below_drewN (Below.refl _ _) 1, fun h => (by rw [hfl 2 (by simp)] at h; cases h), fun h => (by rw [hfl 7 (by simp)] at h; cases h), fun h => (by rw [hfl 12 (by simp)] at h; cases h)⟩
                    · refine ⟨?_, ?_, ?_, ?_, ?_, ?_, ?_, ?_, ?_, ?_, ?_, ?_, ?_, ?_, ?_, trivial⟩
                      all_goals intro fl vs wr a1 hc hG hfi hcl hp K hK
                      · refine op_move rfl ?_
                        rw [hc.ev0 _ rfl]
                        exact hK _ _ trivial rfl (by simpa [upd] using hG)
                      · refine op_move rfl ?_
                        rw [hc.ev0 _ rfl]
                        exact hK _ _ trivial rfl (by simpa [upd] using hG)
                      · have n14 : fl 14 = false := by
                          cases h : fl 14 with
                          | false => rfl
                          | true =>
                            have h := hcl 14 12 (by kernel_rfl) h
                            have h := hcl 12 7 (by kernel_rfl) h
                            have h := hcl 7 2 (by kernel_rfl) h
                            rw [show fl 2 = false from hfi] at h
                            cases h
                        have n12 : fl 12 = false := by
                          cases h : fl 12 with
                          | false => rfl
                          | true =>
                            have h := hcl 12 7 (by kernel_rfl) h
                            have h := hcl 7 2 (by kernel_rfl) h
                            rw [show fl 2 = false from hfi] at h
                            cases h
                        have n7 : fl 7 = false := by
                          cases h : fl 7 with
                          | false => rfl
                          | true =>
                            have h := hcl 7 2 (by kernel_rfl) h
                            rw [show fl 2 = false from hfi] at h
                            cases h
                        have hB := hG.1 n14
                        have hsz : H ≤ wr.heap.size := by have := hB.size; omega
                        go_simp
                        refine hK _ _ trivial trivial ⟨fun _ => hB.alloc hsz _, fun _ _ => ⟨wr.heap.size, by simp [upd], ?_⟩, fun h => by simp [upd, n7] at h, fun h => by simp [upd, n12] at h⟩
                        exact World.ownsRow_lit (base := H) (e := 3) (size := 1) wr #[] 0 hsz (by unfold maxLen; omega) rfl
                      · refine op_move rfl ?_
                        rw [hc.ev0 _ rfl]
                        exact hK _ _ trivial rfl (by simpa [upd] using hG)
                      · refine op_move rfl ?_
                        rw [hc.ev0 _ rfl]
                        exact hK _ _ trivial rfl (by simpa [upd] using hG)
                      · have e1 := hc.ev 97 3 rfl
                        rw [show vs 3 = _ from (hp 3 (by kernel_rfl)).2] at e1
                        have e2 := hc.ev 98 4 rfl
                        rw [show vs 4 = _ from (hp 4 (by kernel_rfl)).2] at e2
                        unfold Oper.wp execOp
                        simp only [e1, e2]
                        go_simp
                        exact hK _ _ trivial rfl (by simpa [upd] using hG)
                      · have n14 : fl 14 = false := by
                          cases h : fl 14 with
                          | false => rfl
                          | true =>
                            have h := hcl 14 12 (by kernel_rfl) h
                            have h := hcl 12 7 (by kernel_rfl) h
                            have h := hcl 7 6 (by kernel_rfl) h
                            rw [show fl 6 = false from hfi] at h
                            cases h
                        have hB := hG.1 n14
                        have e1 := hc.ev 99 5 rfl
                        rw [show vs 5 = _ from (hp 5 (by kernel_rfl)).2] at e1
                        have ec : wr.cell? ⟨gO, a, none⟩ = some (.slice ks[a].A ks[a].xs.length ks[a].c) := (hB.cell (p := ⟨gO, a, none⟩) (by simp only; omega)).trans HCa.out
                        clear hB n14
                        unfold Oper.wp execOp
                        simp only [e1]
                        go_simp
                        exact hK _ _ trivial rfl (by simpa [upd] using hG)
                      · have n14 : fl 14 = false := by
                          cases h : fl 14 with
                          | false => rfl
                          | true =>
                            have h := hcl 14 12 (by kernel_rfl) h
                            have h := hcl 12 7 (by kernel_rfl) h
                            rw [show fl 7 = false from hfi] at h
                            cases h
                        have n12 : fl 12 = false := by
                          cases h : fl 12 with
                          | false => rfl
                          | true =>
                            have h := hcl 12 7 (by kernel_rfl) h
                            rw [show fl 7 = false from hfi] at h
                            cases h
                        have n7 : fl 7 = false := hfi
                        have hB := hG.1 n14
                        have hsz : H ≤ wr.heap.size := by have := hB.size; omega
                        obtain ⟨g, hv, hown⟩ := hG.2.1 (hp 2 (by kernel_rfl)).1 n7
                        have hla := HLX.out ks[a] (List.getElem_mem ha)
                        have e1 := hc.ev 96 2 rfl
                        rw [hv] at e1
                        have e2 := hc.ev 100 6 rfl
                        rw [show vs 6 = _ from (hp 6 (by kernel_rfl)).2] at e2
                        have hob : ∀ (A : Option Addr) (n c : Nat), Value.ownBlock (.slice A n c) = A.map (·.block) := fun A n c => by cases A <;> rfl
                        refine wp_append_any wr (.tmp 96) (.tmp 100) _ rfl H 3 i0 _ 1 8 Try.underlying36 hi0 hz0 hz1 hz2 rfl (by omega) (.slice (some ⟨g, 0, none⟩) 0 0) 0 ([]) e1 hown H ks[a].A ks[a].xs.length ks[a].c (nums .i64 ks[a].xs) e2 ((HRI.out _ (List.getElem_mem ha)).below hB) (nums_one _ _) (by unfold maxLen; omega) (by omega) hsz ?_
                        intro v' w6 ho hg hat
                        obtain ⟨A', c', rfl⟩ := own_sliceC ho
                        rw [hob] at hg
                        have hB6 : Below H w7 w6 := hB.grown hg hsz (fun q hq => by
                          have := own_upV hown q (by rw [hob]; exact hq)
                          omega)
                        rw [Nat.zero_add, List.nil_append] at ho
                        rw [Nat.zero_add] at hat ⊢
                        exact hK _ _ trivial trivial ⟨fun _ => hB6, fun _ h => by simp [upd] at h, fun _ _ => ⟨A', c', by simp [upd], ho⟩, fun h => by simp [upd, n12] at h⟩
                      · refine op_move rfl ?_
                        rw [hc.ev0 _ rfl]
                        exact hK _ _ trivial rfl (by simpa [upd] using hG)
                      · refine op_move rfl ?_
                        rw [hc.ev0 _ rfl]
                        exact hK _ _ trivial rfl (by simpa [upd] using hG)
                      · have e1 := hc.ev 102 8 rfl
                        rw [show vs 8 = _ from (hp 8 (by kernel_rfl)).2] at e1
                        have e2 := hc.ev 103 9 rfl
                        rw [show vs 9 = _ from (hp 9 (by kernel_rfl)).2] at e2
                        unfold Oper.wp execOp
                        simp only [e1, e2]
                        go_simp
                        exact hK _ _ trivial rfl (by simpa [upd] using hG)
                      · have n14 : fl 14 = false := by
                          cases h : fl 14 with
                          | false => rfl
                          | true =>
                            have h := hcl 14 12 (by kernel_rfl) h
                            have h := hcl 12 11 (by kernel_rfl) h
                            rw [show fl 11 = false from hfi] at h
                            cases h
                        have hB := hG.1 n14
                        have e1 := hc.ev 104 10 rfl
                        rw [show vs 10 = _ from (hp 10 (by kernel_rfl)).2] at e1
                        have ec : wr.cell? ⟨gO, b, none⟩ = some (.slice ks[b].A ks[b].xs.length ks[b].c) := (hB.cell (p := ⟨gO, b, none⟩) (by simp only; omega)).trans HCb.out
                        clear hB n14
                        unfold Oper.wp execOp
                        simp only [e1]
                        go_simp
                        exact hK _ _ trivial rfl (by simpa [upd] using hG)
                      · have n14 : fl 14 = false := by
                          cases h : fl 14 with
                          | false => rfl
                          | true =>
                            have h := hcl 14 12 (by kernel_rfl) h
                            rw [show fl 12 = false from hfi] at h
                            cases h
                        have n12 : fl 12 = false := hfi
                        have t7 := (hp 7 (by kernel_rfl)).1
                        have hB := hG.1 n14
                        have hsz : H ≤ wr.heap.size := by have := hB.size; omega
                        obtain ⟨A1, c1, hv, hown⟩ := hG.2.2.1 t7 n12
                        have hla := HLX.out ks[a] (List.getElem_mem ha)
                        have hlb := HLX.out ks[b] (List.getElem_mem hb)
                        have e1 := hc.ev 101 7 rfl
                        rw [hv] at e1
                        have e2 := hc.ev 105 11 rfl
                        rw [show vs 11 = _ from (hp 11 (by kernel_rfl)).2] at e2
                        have hob : ∀ (A : Option Addr) (n c : Nat), Value.ownBlock (.slice A n c) = A.map (·.block) := fun A n c => by cases A <;> rfl
                        refine wp_append_any wr (.tmp 101) (.tmp 105) _ rfl H 3 i0 _ 1 8 Try.underlying36 hi0 hz0 hz1 hz2 rfl (by omega) (.slice A1 ks[a].xs.length c1) ks[a].xs.length (nums .i64 ks[a].xs) e1 hown H ks[b].A ks[b].xs.length ks[b].c (nums .i64 ks[b].xs) e2 ((HRI.out _ (List.getElem_mem hb)).below hB) (nums_one _ _) (by unfold maxLen; omega) (by omega) hsz ?_
                        intro v' w6 ho hg hat
                        obtain ⟨A', c', rfl⟩ := own_sliceC ho
                        rw [hob] at hg
                        have hB6 : Below H w7 w6 := hB.grown hg hsz (fun q hq => by
                          have := own_upV hown q (by rw [hob]; exact hq)
                          omega)
                        have e : nums .i64 ks[a].xs ++ nums .i64 ks[b].xs = nums .i64 (ks[a].xs ++ ks[b].xs) := by simp [nums]
                        rw [e] at ho
                        exact hK _ _ trivial trivial ⟨fun _ => hB6, fun _ h => by simp [upd, t7] at h, fun _ h => by simp [upd] at h, fun _ => ⟨A', c', by simp [upd], fun _ => ho, fun h => by simp [upd, n14] at h⟩⟩
                      · have e1 := hc.ev 94 0 rfl
                        rw [show vs 0 = _ from (hp 0 (by kernel_rfl)).2] at e1
                        have e2 := hc.ev 95 1 rfl
                        rw [show vs 1 = _ from (hp 1 (by kernel_rfl)).2] at e2
                        unfold Oper.wp execOp
                        simp only [e1, e2]
                        go_simp
                        exact hK _ _ trivial rfl (by simpa [upd] using hG)
                      · have n14 : fl 14 = false := hfi
                        have t12 := (hp 12 (by kernel_rfl)).1
                        have t7 : fl 7 = true := hcl 12 7 (by kernel_rfl) t12
                        have hB := hG.1 n14
                        obtain ⟨A2, c2, hv, hO, _⟩ := hG.2.2.2 t12
                        have hown := hO n14
                        have e1 := hc.ev 107 13 rfl
                        rw [show vs 13 = _ from (hp 13 (by kernel_rfl)).2] at e1
                        have e2 := hc.ev 106 12 rfl
                        rw [hv] at e2
                        have ec : wr.cell? ⟨gO, a, none⟩ = some (.slice ks[a].A ks[a].xs.length ks[a].c) := (hB.cell (p := ⟨gO, a, none⟩) (by simp only; omega)).trans HCa.out
                        have hst := HCH.out.swapNew (by rw [← hHz]; exact hB) a (⟨A2, c2, ks[a].xs ++ ks[b].xs⟩ : Ch) (Nat.le_of_eq hHz.symm) hloH (by unfold Ch.Own; simp only [List.length_append]; exact hown)
                        have ef : wr.frozen? ⟨gO, a, none⟩ = false := hst.outer.frozenAt a
                        have hDr : wr.ownsRow lo 4 1 (.slice (some ⟨gD, 0, none⟩) n n) n db := own_below HDN.out (by rw [← hHz]; exact hB)
                        have hBr : Below B0 w wr := HBE.out.trans (hB.mono hB0H)
                        have HP : Hid (Chs lo (some ⟨gO, 0, none⟩) oc ((ks.set a (⟨A2, c2, ks[a].xs ++ ks[b].xs⟩ : Ch)).map Ch.val) (ks.set a (⟨A2, c2, ks[a].xs ++ ks[b].xs⟩ : Ch)) (wr.setCell ⟨gO, a, none⟩ (.slice A2 (ks[a].xs.length + ks[b].xs.length) c2)) ∧ (wr.setCell ⟨gO, a, none⟩ (.slice A2 (ks[a].xs.length + ks[b].xs.length) c2)).ownsRow lo 4 1 (.slice (some ⟨gD, 0, none⟩) n n) n db ∧ Below B0 w (wr.setCell ⟨gO, a, none⟩ (.slice A2 (ks[a].xs.length + ks[b].xs.length) c2))) := by
                          have h := hst.store a (.slice A2 (ks[a].xs.length + ks[b].xs.length) c2)
                          refine ⟨?_, own_other hDr (hst.outer.stored a _).2 (A2 := some ⟨gO, 0, none⟩) (own_types_neC hDr hst.outer (by decide)), hBr.setCell (by simp only; omega) _⟩
                          rw [List.map_set]
                          have e : Ch.val (⟨A2, c2, ks[a].xs ++ ks[b].xs⟩ : Ch) = .slice A2 (ks[a].xs.length + ks[b].xs.length) c2 := by simp [Ch.val]
                          rw [e]
                          exact h
                        clear hst hDr hBr hO hown
                        unfold Oper.wp execOp
                        simp only [e1, e2]
                        go_simp
                        exact hK undef _ trivial trivial ⟨fun h => by simp [upd] at h, fun _ h => by simp [upd, t7] at h, fun _ h => by simp [upd, t12] at h, fun _ => ⟨A2, c2, by simpa [upd] using hv, fun h => by simp [upd] at h, fun _ => HP.out⟩⟩
                    · intro fl vs w9 hfl hG hF
                      obtain ⟨A2, c2, hv, _, hD⟩ := hG.2.2.2 (hfl 12 (by simp))
                      obtain ⟨d1, d2, d3⟩ := hD (hfl 14 (by simp))
                      have HD1 := Lib.hid d1
                      have HD2 := Lib.hid d2
                      have HD3 := Lib.hid d3
                      clear hG hF hfl hv hD d1 d2 d3 HCH HDN HBE
                      simp only [fill]
                      go_simp
                      have hlz : (ks.set a (⟨A2, c2, ks[a].xs ++ ks[b].xs⟩ : Ch)).length = ks.length := List.length_set
                      have HXZ : Hid (((ks.set a (⟨A2, c2, ks[a].xs ++ ks[b].xs⟩ : Ch)).eraseIdx b).map Ch.xs = joinC (ks.map Ch.xs) a b) := joinC_map ha hb A2 c2
                      obtain ⟨kz, hkz⟩ : ∃ kz, kz = ks.set a (⟨A2, c2, ks[a].xs ++ ks[b].xs⟩ : Ch) := ⟨_, rfl⟩
                      rw [← hkz] at HD1 HXZ hlz
                      clear hkz
                      obtain ⟨H9, hH9⟩ : ∃ H9, H9 = w9.heap.size := ⟨_, rfl⟩
                      have hbz : b < kz.length := by omega
                      have hcap : kz.length ≤ oc := by
                        have h := HD1.out.outer
                        rw [List.length_map] at h
                        exact own_capC h
                      have hgO9 : gO < H9 := by have := HD1.out.outer.lt gO rfl; omega
                      have hlo9 : lo ≤ H9 := by have := HD1.out.outer.lt gO rfl; omega
                      have hB09 : B0 ≤ H9 := by omega
                      have HRZ : Hid (Reads w9 w9.heap.size 1 (some ⟨gO, 0, none⟩) kz.length (kz.map Ch.val)) := by
                        have h := HD1.out.reads
                        rw [List.length_map] at h
                        exact h
                      have HRT : Hid (Reads w9 H9 1 (some ⟨gO, 0, none⟩) b ((kz.map Ch.val).take b)) := by rw [hH9]; exact reads_cut HRZ.out b (by omega)
                      have HRD : Hid (Reads w9 H9 1 (some ⟨gO, b + 1, none⟩) (kz.length - (b + 1)) ((kz.map Ch.val).drop (b + 1))) := by rw [hH9]; exact reads_drop HRZ.out (b + 1) (by omega)
                      have hyb : IntKind.i64.wrap ((b : Int) + 1) = (b : Int) + 1 := IntWalk.i64_in _ (by omega)
                      have hb1 : (b : Int) + 1 ≤ (kz.length : Int) := by omega
                      have hb2 : (b : Int) ≤ (oc : Int) := by omega
                      have hb3 : (b : Int) + 1 ≤ (oc : Int) := by omega
                      have hoc0 : ¬ oc = 0 := by omega
                      have hkz8 : kz.length ≤ 8 := by omega
                      rw [← hlz]
                      clear hlz HRZ HCa HCb HRI
                      go_wp2
                      refine wp_region_facts2 (fun i v _ => match i with
                          | 0 => True
                          | 1 => v = .slice (some ⟨gO, 0, none⟩) kz.length oc
                          | 2 => v = .int .i64 (b : Int)
                          | 3 => v = .slice (some ⟨gO, 0, none⟩) b oc
                          | 4 => True
                          | 5 => v = .slice (some ⟨gO, 0, none⟩) kz.length oc
                          | 6 => v = .int .i64 (b : Int)
                          | 7 => v = .int .i64 ((b : Int) + 1)
                          | 8 => ∃ (AX : Option Addr) (c3 : Nat), v = .slice AX (kz.length - (b + 1)) c3 ∧ (AX = some ⟨gO, b + 1, none⟩ ∨ kz.length - (b + 1) = 0)
                          | 9 => True
                          | _ => True)
                        (fun fl vs wq => Below H9 w9 wq ∧ (fl 0 = true → fl 4 = false → ∃ g, vs 0 = .slice (some ⟨g, 0, none⟩) 0 0 ∧ wq.ownsRow H9 36 1 (.slice (some ⟨g, 0, none⟩) 0 0) 0 []) ∧ (fl 4 = true → fl 9 = false → ∃ (A1 : Option Addr) (c1 : Nat), vs 4 = .slice A1 b c1 ∧ wq.ownsRow H9 36 1 (.slice A1 b c1) b ((kz.map Ch.val).take b)) ∧ (fl 9 = true → ∃ (A1 : Option Addr) (c1 : Nat), vs 9 = .slice A1 (b + (kz.length - (b + 1))) c1 ∧ wq.ownsRow H9 36 1 (.slice A1 (b + (kz.length - (b + 1))) c1) (b + (kz.length - (b + 1))) ((kz.map Ch.val).take b ++ (kz.map Ch.val).drop (b + 1))) ∧ (fl 10 = true → vs 10 = vs 9) ∧ (fl 10 = false → vs 10 = .slice (some ⟨gO, 0, none⟩) kz.length oc)) (fun _ _ => True) (by kernel_rfl) (by kernel_rfl) ?_ ?_ ?_ ?_
                      · intro i v u u2 _ h
                        exact h
                      · intro fl vs hfl hvs
                        exact ⟨below_drewN (Below.refl _ _) 1, fun h => (by rw [hfl 0 (by simp)] at h; cases h), fun h => (by rw [hfl 4 (by simp)] at h; cases h), fun h => (by rw [hfl 9 (by simp)] at h; cases h), fun h => (by rw [hfl 10 (by simp)] at h; cases h), fun _ => hvs 10 5 rfl⟩
                      · refine ⟨?_, ?_, ?_, ?_, ?_, ?_, ?_, ?_, ?_, ?_, ?_, trivial⟩
                        all_goals intro fl vs wr a1 hc hG hfi hcl hp K hK
                        · have n4 : fl 4 = false := by
                            cases h : fl 4 with
                            | false => rfl
                            | true =>
                              have h := hcl 4 0 (by kernel_rfl) h
                              rw [show fl 0 = false from hfi] at h
                              cases h
                          have n9 : fl 9 = false := by
                            cases h : fl 9 with
                            | false => rfl
                            | true =>
                              have h := hcl 9 4 (by kernel_rfl) h
                              have h := hcl 4 0 (by kernel_rfl) h
                              rw [show fl 0 = false from hfi] at h
                              cases h
                          have n10 : fl 10 = false := by
                            cases h : fl 10 with
                            | false => rfl
                            | true =>
                              have h := hcl 10 9 (by kernel_rfl) h
                              have h := hcl 9 4 (by kernel_rfl) h
                              have h := hcl 4 0 (by kernel_rfl) h
                              rw [show fl 0 = false from hfi] at h
                              cases h
                          have hsz : H9 ≤ wr.heap.size := by have := hG.1.size; omega
                          go_simp
                          refine hK _ _ trivial trivial ⟨hG.1.alloc hsz _, fun _ _ => ⟨wr.heap.size, by simp [upd], ?_⟩, fun h => by simp [upd, n4] at h, fun h => by simp [upd, n9] at h, fun h => by simp [upd, n10] at h, by simpa [upd] using hG.2.2.2.2.2⟩
                          exact World.ownsRow_lit (base := H9) (e := 36) (size := 1) wr #[] 0 hsz (by unfold maxLen; omega) rfl
                        · have n10 : fl 10 = false := by
                            cases h : fl 10 with
                            | false => rfl
                            | true =>
                              have h := hcl 10 9 (by kernel_rfl) h
                              have h := hcl 9 4 (by kernel_rfl) h
                              have h := hcl 4 3 (by kernel_rfl) h
                              have h := hcl 3 1 (by kernel_rfl) h
                              rw [show fl 1 = false from hfi] at h
                              cases h
                          refine op_move rfl ?_
                          rw [hc.ev 5 10 rfl, hG.2.2.2.2.2 n10]
                          exact hK _ _ trivial rfl (by simpa [upd] using hG)
                        · refine op_move rfl ?_
                          rw [hc.ev0 _ rfl]
                          exact hK _ _ trivial rfl (by simpa [upd] using hG)
                        · have e1 := hc.ev 109 1 rfl
                          rw [show vs 1 = _ from (hp 1 (by kernel_rfl)).2] at e1
                          have e2 := hc.ev 110 2 rfl
                          rw [show vs 2 = _ from (hp 2 (by kernel_rfl)).2] at e2
                          have e3 : a1.tmps[110]?.getD undef = .int .i64 (b : Int) := by simpa [Act.eval] using e2
                          unfold Oper.wp execOp
                          simp only [e1]
                          go_simp
                          exact hK _ _ trivial rfl (by simpa [upd] using hG)
                        · have n9 : fl 9 = false := by
                            cases h : fl 9 with
                            | false => rfl
                            | true =>
                              have h := hcl 9 4 (by kernel_rfl) h
                              rw [show fl 4 = false from hfi] at h
                              cases h
                          have n10 : fl 10 = false := by
                            cases h : fl 10 with
                            | false => rfl
                            | true =>
                              have h := hcl 10 9 (by kernel_rfl) h
                              have h := hcl 9 4 (by kernel_rfl) h
                              rw [show fl 4 = false from hfi] at h
                              cases h
                          have n4 : fl 4 = false := hfi
                          have hB := hG.1
                          have hsz : H9 ≤ wr.heap.size := by have := hG.1.size; omega
                          obtain ⟨g, hv, hown⟩ := hG.2.1 (hp 0 (by kernel_rfl)).1 n4
                          have e1 := hc.ev 108 0 rfl
                          rw [hv] at e1
                          have e2 := hc.ev 111 3 rfl
                          rw [show vs 3 = _ from (hp 3 (by kernel_rfl)).2] at e2
                          have hob : ∀ (A : Option Addr) (n c : Nat), Value.ownBlock (.slice A n c) = A.map (·.block) := fun A n c => by cases A <;> rfl
                          refine wp_append_any wr (.tmp 108) (.tmp 111) _ rfl H9 36 j0 _ 1 24 Try.underlying60 hj0 gz0 gz1 gz2 rfl (by omega) (.slice (some ⟨g, 0, none⟩) 0 0) 0 ([]) e1 hown H9 (some ⟨gO, 0, none⟩) b oc ((kz.map Ch.val).take b) e2 (HRT.out.below hB) (fun u hu => vals_one kz u (List.mem_of_mem_take hu)) (by unfold maxLen; omega) (by omega) hsz ?_
                          intro v' w6 ho hg hat
                          obtain ⟨A', c', rfl⟩ := own_sliceC ho
                          rw [hob] at hg
                          have hB6 : Below H9 w9 w6 := hB.grown hg hsz (fun q hq => by
                            have := own_upV hown q (by rw [hob]; exact hq)
                            omega)
                          rw [Nat.zero_add, List.nil_append] at ho
                          rw [Nat.zero_add] at hat ⊢
                          exact hK _ _ trivial trivial ⟨hB6, fun _ h => by simp [upd] at h, fun _ _ => ⟨A', c', by simp [upd], ho⟩, fun h => by simp [upd, n9] at h, fun h => by simp [upd, n10] at h, by simpa [upd] using hG.2.2.2.2.2⟩
                        · have n10 : fl 10 = false := by
                            cases h : fl 10 with
                            | false => rfl
                            | true =>
                              have h := hcl 10 9 (by kernel_rfl) h
                              have h := hcl 9 8 (by kernel_rfl) h
                              have h := hcl 8 5 (by kernel_rfl) h
                              rw [show fl 5 = false from hfi] at h
                              cases h
                          refine op_move rfl ?_
                          rw [hc.ev 5 10 rfl, hG.2.2.2.2.2 n10]
                          exact hK _ _ trivial rfl (by simpa [upd] using hG)
                        · refine op_move rfl ?_
                          rw [hc.ev0 _ rfl]
                          exact hK _ _ trivial rfl (by simpa [upd] using hG)
                        · have e1 := hc.ev 114 6 rfl
                          rw [show vs 6 = _ from (hp 6 (by kernel_rfl)).2] at e1
                          unfold Oper.wp execOp
                          simp only [e1]
                          go_simp
                          exact hK _ _ trivial rfl (by simpa [upd] using hG)
                        · have e1 := hc.ev 113 5 rfl
                          rw [show vs 5 = _ from (hp 5 (by kernel_rfl)).2] at e1
                          have e2 := hc.ev 115 7 rfl
                          rw [show vs 7 = _ from (hp 7 (by kernel_rfl)).2] at e2
                          have e3 : a1.tmps[115]?.getD undef = .int .i64 ((b : Int) + 1) := by simpa [Act.eval] using e2
                          by_cases hq : oc = b + 1
                          · have hq0 : kz.length - (b + 1) = 0 := by omega
                            unfold Oper.wp execOp
                            simp only [e1]
                            go_simp
                            exact hK _ _ trivial ⟨some ⟨gO, 0, none⟩, 0, by rw [hq0], .inr hq0⟩ (by simpa [upd] using hG)
                          · unfold Oper.wp execOp
                            simp only [e1]
                            go_simp
                            exact hK _ _ trivial ⟨_, _, rfl, .inl rfl⟩ (by simpa [upd] using hG)
                        · have n10 : fl 10 = false := by
                            cases h : fl 10 with
                            | false => rfl
                            | true =>
                              have h := hcl 10 9 (by kernel_rfl) h
                              rw [show fl 9 = false from hfi] at h
                              cases h
                          have n9 : fl 9 = false := hfi
                          have t4 := (hp 4 (by kernel_rfl)).1
                          have hB := hG.1
                          have hsz : H9 ≤ wr.heap.size := by have := hG.1.size; omega
                          obtain ⟨A1, c1, hv, hown⟩ := hG.2.2.1 t4 n9
                          obtain ⟨AX, c3, hc3, hAX⟩ := (hp 8 (by kernel_rfl)).2
                          have hRX : Reads w9 H9 1 AX (kz.length - (b + 1)) ((kz.map Ch.val).drop (b + 1)) := by
                            rcases hAX with rfl | h0
                            · exact HRD.out
                            · exact ⟨HRD.out.1, fun h => by omega⟩
                          have e1 := hc.ev 112 4 rfl
                          rw [hv] at e1
                          have e2 := hc.ev 116 8 rfl
                          rw [hc3] at e2
                          have hob : ∀ (A : Option Addr) (n c : Nat), Value.ownBlock (.slice A n c) = A.map (·.block) := fun A n c => by cases A <;> rfl
                          refine wp_append_any wr (.tmp 112) (.tmp 116) _ rfl H9 36 j0 _ 1 24 Try.underlying60 hj0 gz0 gz1 gz2 rfl (by omega) (.slice A1 b c1) b ((kz.map Ch.val).take b) e1 hown H9 AX (kz.length - (b + 1)) c3 ((kz.map Ch.val).drop (b + 1)) e2 (hRX.below hB) (fun u hu => vals_one kz u (List.mem_of_mem_drop hu)) (by unfold maxLen; omega) (by omega) hsz ?_
                          intro v' w6 ho hg hat
                          obtain ⟨A', c', rfl⟩ := own_sliceC ho
                          rw [hob] at hg
                          have hB6 : Below H9 w9 w6 := hB.grown hg hsz (fun q hq => by
                            have := own_upV hown q (by rw [hob]; exact hq)
                            omega)
                          exact hK _ _ trivial trivial ⟨hB6, fun _ h => by simp [upd, t4] at h, fun _ h => by simp [upd] at h, fun _ => ⟨A', c', by simp [upd], ho⟩, fun h => by simp [upd, n10] at h, by simpa [upd] using hG.2.2.2.2.2⟩
                        · refine op_assign rfl ?_
                          rw [hc.ev 117 9 rfl]
                          exact hK _ _ trivial trivial ⟨hG.1, by simpa [upd] using hG.2.1, by simpa [upd] using hG.2.2.1, by simpa [upd] using hG.2.2.2.1, fun _ => by simp [upd], fun h => by simp [upd] at h⟩
                      · intro fl vs wf hfl hG hF
                        obtain ⟨A5, c5, hv, hown⟩ := hG.2.2.2.1 (hfl 9 (by simp))
                        have h10 := hG.2.2.2.2.1 (hfl 10 (by simp))
                        have hB := hG.1
                        have HCF : Hid (Chs lo A5 c5 ((kz.eraseIdx b).map Ch.val) (kz.eraseIdx b) wf) := by
                          have e1 : (kz.eraseIdx b).length = b + (kz.length - (b + 1)) := by rw [List.length_eraseIdx_of_lt hbz]; omega
                          have e2 : (kz.eraseIdx b).map Ch.val = (kz.map Ch.val).take b ++ (kz.map Ch.val).drop (b + 1) := by rw [map_erase, List.eraseIdx_eq_take_drop_succ]
                          have h := (HD1.out.below (by rw [← hH9]; exact hB)).erase b
                          refine ⟨?_, h.inner, h.apart⟩
                          rw [List.length_map, e1, e2]
                          exact own_base hown (by omega)
                        have HDF : Hid (wf.ownsRow lo 4 1 (.slice (some ⟨gD, 0, none⟩) n n) n db) := own_below HD2.out (by rw [← hH9]; exact hB)
                        have HBF : Hid (Below B0 w wf) := HD3.out.trans (hB.mono (by omega))
                        have hkl : b + (kz.length - (b + 1)) = (kz.eraseIdx b).length := by rw [List.length_eraseIdx_of_lt hbz]; omega
                        rw [hv] at h10
                        rw [hkl] at h10
                        clear hG hF hfl hB hown hv HD1 HD2 HD3 hkl
                        simp only [fill]
                        rw [h10]
                        go_simp
                        have HXF : Hid ((kz.eraseIdx b).map Ch.xs = ((os ++ [bq]).map (fun i => es.getD i default)).foldl joinE (chains0 m)) := by rw [Hid, HXZ.out]; exact HXSn.out hab
                        have hk9 : (kz.eraseIdx b).length ≤ 8 := by rw [List.length_eraseIdx_of_lt hbz]; omega
                        clear HXSa HXSn HXZ HRT HRD hab
                        generalize kz.eraseIdx b = ks2 at *
                        have HCF2 : Hid (Chs w.heap.size A5 c5 (ks2.map Ch.val) ks2 wf) := by rw [← HLO.out]; exact HCF.out
                        have HDF2 : Hid (wf.ownsRow w.heap.size 4 1 (.slice (some ⟨gD, 0, none⟩) es.length es.length) es.length (bools (doneT es.length (os ++ [bq])))) := by rw [← HLO.out, ← HYO.out, ← HNO.out]; exact HDF.out
                        have HBF2 : Hid (Below w.heap.size w wf) := by rw [← HBO.out]; exact HBF.out
                        clear HCF HDF HBF
                        go_wp2
                        go_roundw
                        case rel => exact ⟨os ++ [bq], A5, c5, ks2, HOL2.out, hk9, HSTEP.out, rfl, HSEL2, HXF, HCF2, HDF2, HBF2⟩
                        case measure => simp [intOf]; omega
          · have hii : ¬ (os.length : Int) < (es.length : Int) := by omega
            have HFX : Hid (flatC ks = ordR (m : Int) es) := by
              rw [Hid, HOR.out, ← HSEL.out.end_ (by omega)]
              unfold flatC
              rw [HX.out]
            have HLE := Lib.hid (flatC_le ks)
            clear HX HD HOR HPF HSEL HFP HIE HR0
            go_wp2
            have HO0 := Lib.hid (World.ownsRow_lit (base := w.heap.size) (e := 3) (size := 1) wr #[] 0 hbz (by unfold maxLen; omega) rfl)
            have HB0 : Hid (Below wr.heap.size wr (wr.alloc (.cells #[] 3))) := (Below.refl _ _).alloc (Nat.le_refl _) _
            obtain ⟨w5, rfl⟩ : ∃ w5, w5 = wr := ⟨_, rfl⟩
            have HOB : Hid ((w5.alloc (.cells #[] 3)).ownsRow w5.heap.size 3 1 (.slice (some ⟨w5.heap.size, 0, none⟩) 0 0) 0 (nums .i64 [])) := World.ownsRow_lit (base := w5.heap.size) (e := 3) (size := 1) w5 #[] 0 (Nat.le_refl _) (by unfold maxLen; omega) rfl
            clear HO0
            have h1 := HC.out.reads
            rw [List.length_map] at h1
            have HRW := Lib.hid h1
            have HRI := Lib.hid HC.out.readsIn
            clear h1 HC
            go_loopw [13, 14] (fun v iv wr => ∃ (k : Nat) (A : Option Addr) (c : Nat) (ys : List Int), k ≤ ks.length ∧ iv = .int .i64 k ∧ v = .slice A ys.length c ∧ Hid (ys = flatC (ks.take k)) ∧ Hid (wr.ownsRow w5.heap.size 3 1 (.slice A ys.length c) ys.length (nums .i64 ys)) ∧ Hid (Below w5.heap.size w5 wr)) (fun _ iv _ => ks.length - (intOf iv).toNat)
            case atStart => exact ⟨0, _, 0, [], Nat.zero_le _, rfl, rfl, Lib.hid rfl, HOB, HB0⟩
            case round =>
              clear HOB HB0 hii hlt
              obtain ⟨k, A9, c9, ys, hk, rfl, rfl, HY, HO, HW⟩ := hrel
              have hwz := HW.out.size
              by_cases hlt : k < ks.length
              · obtain ⟨ad, u1, rfl, hbl, hx1, hc1⟩ := (HRW.out.below HW.out).at_ hlt
                rw [ch_get hlt] at hx1
                injection hx1 with hx1
                subst hx1
                have hki : (k : Int) < (ks.length : Int) := by omega
                have hwk : IntKind.i64.wrap ((k : Int) + 1) = (k : Int) + 1 := IntWalk.i64_in _ (by omega)
                have HR : Hid (Reads wr w5.heap.size 1 ks[k].A ks[k].xs.length (nums .i64 ks[k].xs)) := (HRI.out ks[k] (List.getElem_mem hlt)).below HW.out
                have HY2 : Hid (ys ++ ks[k].xs = flatC (ks.take (k + 1))) := by rw [Hid, flatC_snoc ks k hlt, ← HY.out]
                have hys : ys.length + ks[k].xs.length ≤ 1000 := by
                  have e1 := congrArg List.length HY2.out
                  have e2 := HLE.out (k + 1)
                  rw [List.length_append] at e1
                  have := HTOT.out
                  omega
                clear HY
                generalize ks[k].A = cA at *
                generalize ks[k].c = cc at *
                generalize ks[k].xs = xs at *
                go_wp2_with (at_builtin; refine wpList_append_any _ rfl (.tmp 125) (.tmp 129) _ rfl w5.heap.size 3 i0 _ 1 8 Try.underlying36 hi0 hz0 hz1 hz2 rfl (by omega) (.slice A9 ys.length c9) ys.length (nums .i64 ys) rfl (by exact HO.out) w5.heap.size cA xs.length cc (nums .i64 xs) rfl (by exact HR.out) (nums_one _ _) (by unfold maxLen; omega) (by omega) hwz ?_; intro v' w9 ho hg hat; obtain ⟨A8, c8, rfl⟩ := own_sliceC ho; have HB9 : Hid (Below w5.heap.size w5 w9) := HW.out.grown hg hwz (fun q hq => (own_upV HO.out q hq).1); have HO9 := Lib.hid ho; clear ho hg hat)
                have HO8 : Hid (w9.ownsRow w5.heap.size 3 1 (.slice A8 (ys ++ xs).length c8) (ys ++ xs).length (nums .i64 (ys ++ xs))) := by
                  rw [List.length_append]
                  have h := HO9.out
                  rw [show nums .i64 ys ++ nums .i64 xs = nums .i64 (ys ++ xs) from by simp [nums]] at h
                  exact h
                go_roundw
                case rel => exact ⟨k + 1, A8, c8, ys ++ xs, by omega, by go_num, by simp, HY2, HO8, HB9⟩
                case measure => simp [intOf]; omega
              · have hki : ¬ (k : Int) < (ks.length : Int) := by omega
                have HE : Hid (ys = ordR (m : Int) es) := by rw [Hid, HY.out, List.take_of_length_le (by omega), HFX.out]
                have HBW : Hid (Below w.heap.size w wr) := HB.out.trans (HW.out.mono hbz)
                have HOW := Lib.hid (own_base HO.out hbz)
                clear HY HO HW HB HFX
                go_wp2
                go_ret
                rw [← HE.out]
                exact ⟨A9, c9, rfl, HOW.out, HBW.out⟩
end Go.Proofs.Ytgibmbjdnppiaaa
