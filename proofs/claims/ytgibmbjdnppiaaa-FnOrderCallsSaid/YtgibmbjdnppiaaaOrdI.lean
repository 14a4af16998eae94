/- Contract of the program's OrderCalls. Condition: the size. -/
import Derived.Test.YtgibmbjdnppiaaaRows
import Derived.Test.YtgibmbjdnppiaaaBase
import Derived.Test.YtgibmbjdnppiaaaBase2
import Derived.Test.YtgibmbjdnppiaaaBase3
import Derived.Test.YtgibmbjdnppiaaaIn
import Derived.Test.YtgibmbjdnppiaaaIn2
import Derived.Test.YtgibmbjdnppiaaaShelf
import Derived.Test.YtgibmbjdnppiaaaIdxI
import Derived.Test.YtgibmbjdnppiaaaPick2
import Derived.Test.YtgibmbjdnppiaaaEdge
import Derived.Test.YtgibmbjdnppiaaaEdgeV
import Derived.Test.YtgibmbjdnppiaaaCallP
import Derived.Test.YtgibmbjdnppiaaaOrdP
import Derived.Test.YtgibmbjdnppiaaaStb
import Derived.Test.YtgibmbjdnppiaaaChn
import Derived.Test.YtgibmbjdnppiaaaCat
import Derived.Test.YtgibmbjdnppiaaaDel
import Derived.Test.YtgibmbjdnppiaaaReg
import Derived.Test.YtgibmbjdnppiaaaRegS
import Derived.WalkKit
import Derived.WalkSpells
import Derived.WalkLawsBesides
import Derived.Handy
import Derived.BigQuiet
import Derived.Deep.RegionHeld3
import Derived.Deep.DrawnRows
import Derived.Deep.QuietTactic
import Derived.Deep.CutBlock
namespace Go.Proofs.Ytgibmbjdnppiaaa
open Go Go.RowKit

/-- Nothing below a bound has turned: a row below it is kept. -/
theorem own_keepB {w w' : World} {base size n c B : Nat} {t : TypeId} {A : Option Addr} {xs : List Value} (h : w.ownsRow base t size (.slice A n c) n xs) (s : Below B w w') (hA : ∀ a, A = some a → a.block < B) : w'.ownsRow base t size (.slice A n c) n xs := by
  refine ⟨h.1, ?_⟩
  rcases h.2 with h0 | ⟨g, cap, cur, hv, hbg, hh, rest⟩
  · exact .inl h0
  · injection hv with hv1 _ hv3
    subst hv1 hv3
    exact .inr ⟨g, _, cur, rfl, hbg, (s.block g (hA _ rfl)).trans hh, rest⟩
set_option maxRecDepth 100000 in
set_option maxHeartbeats 8000000 in
theorem implOrder_any {A : Option Addr} {c B : Nat} (many : Int) (es : List Edg) (w : World) (h1 : Reads w B 3 A es.length (es.flatMap Edg.cells)) (hB : B ≤ w.heap.size) (hm : es.length ≤ 1048576) :
    Calls Try.prog 22 #[.int .i64 many, .slice A es.length c] w (Fresh 3 1 w (ordR many es).length (nums .i64 (ordR many es))) := by
  obtain ⟨i0, hi0, hz0, hz1, hz2⟩ := info_parts chint_info
  obtain ⟨j0, hj0, gz0, gz1, gz2⟩ := info_parts ch_info
  have HV := Lib.hid (implEdgesValid_any (c := c) many es w h1 hB (by unfold maxLen; omega))
  have HR0 := Lib.hid h1
  clear h1
  cases hOk : edgesOk many es
  · have HN := Lib.hid (ordR_no hOk)
    have HK := Lib.hid hOk
    clear hOk
    rw [HN.out]
    go_enter Try.func22, Try.ntmps22
    go_wp2_with fail
    refine HV.out.mono ?_
    rintro e w1 ⟨rfl, s1⟩
    rw [HK.out]
    go_wp2
    go_ret
    exact ⟨none, 0, rfl, ⟨rfl, .inl ⟨rfl, rfl⟩⟩, s1⟩
  · obtain ⟨⟨m1, m2⟩, hel, _⟩ := edgesOk_parts hOk
    have HIN := Lib.hid (edges_in hOk)
    have HK := Lib.hid hOk
    have HFL := Lib.hid (ordR_len hOk)
    have HPM := Lib.hid (ordV_perm hOk)
    clear hOk
    obtain ⟨m, rfl⟩ := Int.eq_ofNat_of_zero_le (show 0 ≤ many by omega)
    have HOR : Hid (ordR (m : Int) es = ((sortE es).foldl joinE (chains0 m)).flatten) := by
      rw [Hid]
      unfold ordR ordV
      rw [if_pos HK.out]
      rfl
    have hm8 : m ≤ 8 := by omega
    have hm1 : 1 ≤ m := by omega
    clear m1 m2
    go_enter Try.func22, Try.ntmps22
    go_wp2_with fail
    refine HV.out.mono ?_
    rintro e w1 ⟨rfl, s1⟩
    rw [HK.out]
    have hs1 := s1.size
    have HCH0 : Hid (Chs w.heap.size (some ⟨w1.heap.size, 0, none⟩) 0 [] [] (w1.alloc (.cells #[] 36))) := Chs.nil w1 hs1
    have HB1 : Hid (Below w.heap.size w (w1.alloc (.cells #[] 36))) := s1.alloc hs1 _
    clear s1 HV HK
    go_wp2
    go_loopw [5, 6, 18] (fun cv _ iv wr => ∃ (i : Nat) (OA : Option Addr) (oc : Nat) (ks : List Ch), i ≤ m ∧ Hid (ks.length = i) ∧ iv = .int .i64 (i : Int) ∧ cv = .slice OA ks.length oc ∧ Hid (ks.map Ch.xs = (List.range i).map (fun (k : Nat) => [(k : Int)])) ∧ Hid (Chs w.heap.size OA oc (ks.map Ch.val) ks wr) ∧ Hid (Below w.heap.size w wr)) (fun _ _ iv _ => m - (intOf iv).toNat)
    case atStart => exact ⟨0, _, 0, [], Nat.zero_le _, Lib.hid rfl, rfl, rfl, Lib.hid rfl, HCH0, HB1⟩
    case round =>
      clear HCH0 HB1
      obtain ⟨i, OA, oc, ks, hi, HKL, rfl, rfl, HX, HC, HB⟩ := hrel
      have hk8 : ks.length ≤ 8 := by have := HKL.out; omega
      have hbz := HB.out.size
      by_cases hlt : i < m
      · have hii : (i : Int) < (m : Int) := by omega
        have hw1 : IntKind.i64.wrap ((i : Int) + 1) = (i : Int) + 1 := IntWalk.i64_in _ (by omega)
        have HC2 := Lib.hid ((HC.out.alloc (.cells #[.int .i64 (i : Int)] 3)).alloc (.cells #[.slice (some ⟨wr.heap.size, 0, none⟩) 1 1] 36))
        have HB2 : Hid (Below w.heap.size w ((wr.alloc (.cells #[.int .i64 (i : Int)] 3)).alloc (.cells #[.slice (some ⟨wr.heap.size, 0, none⟩) 1 1] 36))) := (HB.out.alloc hbz _).alloc (by simp; omega) _
        have HW2 := Lib.hid (heap_alloc_new (wr.alloc (.cells #[.int .i64 (i : Int)] 3)) (.cells #[.slice (some ⟨wr.heap.size, 0, none⟩) 1 1] 36))
        have HK2 : Hid (Ch.Own ⟨some ⟨wr.heap.size, 0, none⟩, 1, [(i : Int)]⟩ ((wr.alloc (.cells #[.int .i64 (i : Int)] 3)).alloc (.cells #[.slice (some ⟨wr.heap.size, 0, none⟩) 1 1] 36)) w.heap.size) := by
          have o := World.ownsRow_lit (base := w.heap.size) (e := 3) (size := 1) wr #[.int .i64 (i : Int)] 1 hbz (by unfold maxLen; omega) rfl
          exact own_below o ((Below.refl _ _).alloc (Nat.le_refl _) _)
        have HUP : Hid (∀ j ∈ ks, Apart j.A (some ⟨wr.heap.size, 0, none⟩)) := fun j hj x y hx hy => by
          injection hy with hy
          subst hy
          have := (HC.out.up hj x hx).2
          simp only [ne_eq]
          omega
        clear HC
        go_wp2_with (at_builtin; refine wpList_push _ rfl (.tmp 21) (.tmp 24) _ rfl w.heap.size 36 j0 _ 1 24 Try.underlying60 hj0 gz0 gz1 gz2 rfl (by omega) (by omega) OA ks.length oc 1 1 (ks.map Ch.val) [.slice (some ⟨wr.heap.size, 0, none⟩) 1 1] (by have h := HC2.out.outer; rw [List.length_map] at h; exact h) rfl ⟨wr.heap.size + 1, 0, none⟩ rfl rfl (World.news_of_block (cs := #[.slice (some ⟨wr.heap.size, 0, none⟩) 1 1]) (t := 36) (fr := (0, 0)) (by have h := HW2.out; rw [World.size_alloc] at h; exact h)) (by simp [Value.oneCell']) (by omega) (by omega) (by simp; omega) ?_; intro A' c' w5 hown hgrow hat hkeep)
        have HC5 : Hid (Chs w.heap.size A' c' ((ks ++ [(⟨some ⟨wr.heap.size, 0, none⟩, 1, [(i : Int)]⟩ : Ch)]).map Ch.val) (ks ++ [(⟨some ⟨wr.heap.size, 0, none⟩, 1, [(i : Int)]⟩ : Ch)]) w5) := by
          refine (HC2.out.more ⟨some ⟨wr.heap.size, 0, none⟩, 1, [(i : Int)]⟩ HK2.out HUP.out).outerTo ?_ hgrow
          rw [List.map_append, List.length_append, List.length_map]
          exact hown
        have HB5 : Hid (Below w.heap.size w w5) := HB2.out.grown hgrow (by simp; omega) (fun q hq => by
          cases OA with
          | none => cases hq
          | some y =>
            have := own_up HC2.out.outer y rfl
            have : y.block = q := by simpa using hq
            omega)
        have HX5 : Hid ((ks ++ [(⟨some ⟨wr.heap.size, 0, none⟩, 1, [(i : Int)]⟩ : Ch)]).map Ch.xs = (List.range (i + 1)).map (fun (k : Nat) => [(k : Int)])) := by
          rw [Hid, List.map_append, HX.out, List.range_succ, List.map_append]
          rfl
        clear hown hgrow hat hkeep HC2 HB2 HW2 HK2 HUP HX
        go_roundw
        case rel => exact ⟨i + 1, A', c', ks ++ [⟨some ⟨wr.heap.size, 0, none⟩, 1, [(i : Int)]⟩], by omega, (by have := HKL.out; rw [Hid]; simp; omega), by go_num, by simp, HX5, HC5, HB5⟩
        case measure => simp [intOf]; omega
      · have hii : ¬ (i : Int) < (m : Int) := by omega
        have him : i = m := by omega
        have HX0 : Hid (ks.map Ch.xs = chains0 m) := by rw [Hid, HX.out, him]; rfl
        have hkm : ks.length ≤ 8 := by omega
        clear HX him HKL hk8
        go_wp2_with fail
        refine (cloneE_any es wr (HR0.out.below (HB.out.mono hB)) (by omega) (by omega)).mono ?_
        rintro e w2 ⟨AE, cE, rfl, hoE, hbE⟩
        have HUPO : Hid (∀ a, OA = some a → a.block < wr.heap.size) := fun a ha => (own_up HC.out.outer a ha).2
        have HUPI : Hid (∀ k ∈ ks, ∀ a, k.A = some a → a.block < wr.heap.size) := fun k hk a ha => (HC.out.up hk a ha).2
        have HC2 := Lib.hid (HC.out.below hbE)
        have HB2 : Hid (Below w.heap.size w w2) := HB.out.trans (hbE.mono hbz)
        have hz2' := hbE.size
        have HSO := Lib.hid (sortStable_any es w2 hoE hel)
        clear hoE hbE HC HB HR0
        go_wp2_with fail
        refine HSO.out.mono ?_
        rintro e w3 ⟨rfl, hoS, hbS⟩
        have HC3 : Hid (Chs w.heap.size OA oc (ks.map Ch.val) ks w3) := ⟨own_keepB HC2.out.outer hbS HUPO.out, fun k hk => own_keepB (HC2.out.inner k hk) hbS (HUPI.out k hk), HC2.out.apart⟩
        have HB3 : Hid (Below w.heap.size w w3) := HB2.out.trans (hbS.mono hbz)
        have HED3 : Hid (w3.ownsRow w.heap.size 33 3 (.slice AE es.length cE) es.length ((sortE es).flatMap Edg.cells)) := own_base hoS hbz
        clear hoS hbS HC2 HB2 HSO HUPO HUPI
        obtain ⟨ss, hss⟩ : ∃ ss, ss = sortE es := ⟨_, rfl⟩
        have hsl : ss.length = es.length := by rw [hss]; exact sortE_len es
        have HIS : Hid (∀ e ∈ ss, (0 ≤ e.from_ ∧ e.from_ < m) ∧ (0 ≤ e.to_ ∧ e.to_ < m)) := fun e he => by
          rw [hss] at he
          have := HIN.out e (sortE_mem he)
          simp only [Int.toNat_natCast] at this
          exact ⟨this.1, this.2.1⟩
        rw [← hss] at HOR HED3
        rw [← hsl] at HED3 ⊢
        have hel2 : ss.length ≤ 12 := by omega
        clear HIN hss hel
        have HFP : Hid (∀ i, ((ss.take i).foldl joinE (chains0 m)).flatten.Perm (chains0 m).flatten) := fun i => fold_perm m (ss.take i) (chains0 m) (fun e he => HIS.out e (List.mem_of_mem_take he)) (List.Perm.refl _)
        go_wp2
        go_loopw [5, 9, 10, 11, 33] (fun cv _ _ _ iv wr => ∃ (i : Nat) (OA : Option Addr) (oc : Nat) (ks : List Ch), i ≤ ss.length ∧ ks.length ≤ 8 ∧ iv = .int .i64 (i : Int) ∧ cv = .slice OA ks.length oc ∧ Hid (ks.map Ch.xs = (ss.take i).foldl joinE (chains0 m)) ∧ Hid (Chs w.heap.size OA oc (ks.map Ch.val) ks wr) ∧ Hid (wr.ownsRow w.heap.size 33 3 (.slice AE ss.length cE) ss.length (ss.flatMap Edg.cells)) ∧ Hid (Below w.heap.size w wr)) (fun _ _ _ _ iv _ => ss.length - (intOf iv).toNat)
        case atStart => exact ⟨0, OA, oc, ks, Nat.zero_le _, hkm, rfl, rfl, HX0, HC3, HED3, HB3⟩
        case round =>
          clear HX0 HC3 HED3 HB3 hkm hlt hii hi hbz hz2'
          obtain ⟨i, OA, oc, ks, hi, hkm, rfl, rfl, HX, HC, HED, HB⟩ := hrel
          have hbz := HB.out.size
          have HPF : Hid ((ks.map Ch.xs).flatten.Perm (chains0 m).flatten) := by rw [Hid, HX.out]; exact HFP.out i
          have HTOT : Hid ((flatC ks).length = m) := by
            have := HPF.out.length_eq
            rw [chains0_flat, List.length_map, List.length_range] at this
            exact this
          have HLX : Hid (∀ k ∈ ks, k.xs.length ≤ 8) := fun k hk => by
            have h1 : k.xs.length ≤ (flatC ks).length := by
              unfold flatC
              exact (List.sublist_flatten_of_mem (List.mem_map.2 ⟨k, hk, rfl⟩)).length_le
            have := HTOT.out
            omega
          by_cases hlt : i < ss.length
          · have hii : (i : Int) < (ss.length : Int) := by omega
            have hw1 : IntKind.i64.wrap ((i : Int) + 1) = (i : Int) + 1 := IntWalk.i64_in _ (by omega)
            obtain ⟨bE, oE, rfl, hbl, x0, x1, x2⟩ := Edg.at_ (Reads.of_own HED.out) hlt
            obtain ⟨e0, he0⟩ : ∃ e0, e0 = ss[i] := ⟨_, rfl⟩
            have HE0 : Hid (ss.take (i + 1) = ss.take i ++ [e0]) := by rw [Hid, List.take_succ_eq_append_getElem hlt, he0]
            have HIE := Lib.hid (HIS.out ss[i] (List.getElem_mem hlt))
            rw [← he0] at x0 x1 x2 HIE
            clear he0
            have hmem : ∀ n : Int, 0 ≤ n ∧ n < m → n ∈ (ks.map Ch.xs).flatten := fun n hn => by
              rw [HPF.out.mem_iff, chains0_flat]
              exact List.mem_map.2 ⟨n.toNat, by simp; omega, by omega⟩
            obtain ⟨hia, hal⟩ := idx_eq (hmem _ HIE.out.1)
            obtain ⟨hib, hbl2⟩ := idx_eq (hmem _ HIE.out.2)
            obtain ⟨a, haa⟩ : ∃ a, a = idxC (ks.map Ch.xs) e0.from_ := ⟨_, rfl⟩
            obtain ⟨b, hbb⟩ : ∃ b, b = idxC (ks.map Ch.xs) e0.to_ := ⟨_, rfl⟩
            have HIA : Hid (idxC (ks.map Ch.xs) e0.from_ = a) := haa.symm
            have HIB : Hid (idxC (ks.map Ch.xs) e0.to_ = b) := hbb.symm
            rw [← haa] at hia hal
            rw [← hbb] at hib hbl2
            have ha : a < ks.length := hal
            have hb : b < ks.length := hbl2
            have HIA2 := Lib.hid hia
            have HIB2 := Lib.hid hib
            clear hmem hia hib hal hbl2 haa hbb HIE
            have HXS1 : Hid ((ss.take (i + 1)).foldl joinE (chains0 m) = joinE (ks.map Ch.xs) e0) := by
              rw [Hid, HE0.out, List.foldl_append, ← HX.out]
              rfl
            have HXSa : Hid (a = b → ks.map Ch.xs = (ss.take (i + 1)).foldl joinE (chains0 m)) := fun hab => by
              rw [HXS1.out]
              unfold joinE
              rw [HIA.out, HIB.out, if_pos hab]
            have HXSn : Hid (a ≠ b → joinC (ks.map Ch.xs) a b = (ss.take (i + 1)).foldl joinE (chains0 m)) := fun hab => by
              rw [HXS1.out]
              unfold joinE
              rw [HIA.out, HIB.out, if_neg hab]
            clear HX HE0 HPF HXS1 HIA HIB
            have HCA := Lib.hid (HC.out.alloc (.cells #[.int .i64 e0.from_, .int .i64 e0.to_, .int .i64 e0.count] 33))
            have HEA := Lib.hid (own_below HED.out ((Below.refl wr.heap.size wr).alloc (Nat.le_refl _) (.cells #[.int .i64 e0.from_, .int .i64 e0.to_, .int .i64 e0.count] 33)))
            have HBA := Lib.hid (HB.out.alloc hbz (.cells #[.int .i64 e0.from_, .int .i64 e0.to_, .int .i64 e0.count] 33))
            have HGA := Lib.hid (Blk.new wr 33 #[.int .i64 e0.from_, .int .i64 e0.to_, .int .i64 e0.count])
            clear HC HED HB
            generalize e0.from_ = ef at *
            generalize e0.to_ = et at *
            generalize e0.count = ec at *
            go_upto_region 14 with fail
            obtain ⟨g9, hg9⟩ : ∃ g9, g9 = wr.heap.size := ⟨_, rfl⟩
            rw [← hg9] at HGA ⊢
            generalize wr.alloc _ = wA at HCA HEA HBA HGA ⊢
            have hA0 : w.heap.size ≤ wA.heap.size := HBA.out.size
            clear x0 x1 x2 hbl hg9
            go_wp2_with fail
            refine (findCh2_any ef g9 ks wA HCA.out.reads (Nat.le_refl _) HCA.out.readsIn (fun k hk => by have := HLX.out k hk; omega) (by omega) (HGA.out.cell 0)).mono ?_
            rintro e wC ⟨rfl, sC⟩
            rw [HIA2.out]
            have HCC := Lib.hid (HCA.out.below sC)
            have HEC := Lib.hid (own_below HEA.out sC)
            have HBC : Hid (Below w.heap.size w wC) := HBA.out.trans (sC.mono hA0)
            have HGC := Lib.hid (HGA.out.below sC HGA.out.lt)
            clear sC HCA HEA HBA HGA
            have hC0 : w.heap.size ≤ wC.heap.size := HBC.out.size
            go_wp2_with fail
            refine (findCh3_any et g9 ks wC HCC.out.reads (Nat.le_refl _) HCC.out.readsIn (fun k hk => by have := HLX.out k hk; omega) (by omega) (HGC.out.cell 1)).mono ?_
            rintro e wD ⟨rfl, sD⟩
            rw [HIB2.out]
            have HCD := Lib.hid (HCC.out.below sD)
            have HEd := Lib.hid (own_below HEC.out sD)
            have HBD : Hid (Below w.heap.size w wD) := HBC.out.trans (sD.mono hC0)
            clear sD HCC HEC HBC HGC HIA2 HIB2
            have hD0 : w.heap.size ≤ wD.heap.size := HBD.out.size
            by_cases hab : a = b
            · have habi : ((a : Int) != (b : Int)) = false := by rw [hab]; simp
              have HXS : Hid (ks.map Ch.xs = (ss.take (i + 1)).foldl joinE (chains0 m)) := HXSa.out hab
              clear hab
              go_wp2
              go_roundw
              case rel => exact ⟨i + 1, OA, oc, ks, by omega, hkm, by go_num, rfl, HXS, HCD, HEd, HBD⟩
              case measure => simp [intOf]; omega
            · have habi : ((a : Int) != (b : Int)) = true := by simp; omega
              obtain ⟨gO, rfl⟩ := HCD.out.at_ (by simp; omega)
              have HCa : Hid (wD.cell? ⟨gO, a, none⟩ = some (.slice ks[a].A ks[a].xs.length ks[a].c)) := (HCD.out.outer.cellAt a (by simp; omega)).trans (ch_get ha)
              have HCb : Hid (wD.cell? ⟨gO, b, none⟩ = some (.slice ks[b].A ks[b].xs.length ks[b].c)) := (HCD.out.outer.cellAt b (by simp; omega)).trans (ch_get hb)
              have hgO := HCD.out.outer.lt gO rfl
              have HNEO : Hid (∀ x : Addr, (some ⟨bE, oE, none⟩ : Option Addr) = some x → x.block ≠ gO) := fun x hx => own_types_neC HEd.out HCD.out.outer (by decide) x ⟨gO, 0, none⟩ hx rfl
              obtain ⟨lo, hlo⟩ : ∃ lo, lo = w.heap.size := ⟨_, rfl⟩
              obtain ⟨B0, hB0'⟩ : ∃ B0, B0 = w.heap.size := ⟨_, rfl⟩
              obtain ⟨n, hn⟩ : ∃ n, n = ss.length := ⟨_, rfl⟩
              obtain ⟨ys, hys⟩ : ∃ ys, ys = ss.flatMap Edg.cells := ⟨_, rfl⟩
              have HCH : Hid (Chs lo (some ⟨gO, 0, none⟩) oc (ks.map Ch.val) ks wD) := by rw [hlo]; exact HCD.out
              have HED : Hid (wD.ownsRow lo 33 3 (.slice (some ⟨bE, oE, none⟩) n cE) n ys) := by rw [hlo, hn, hys]; exact HEd.out
              have HBE : Hid (Below B0 w wD) := by rw [hB0']; exact HBD.out
              have hloz : lo ≤ wD.drew.heap.size := by show lo ≤ wD.heap.size; omega
              have hgl : B0 ≤ gO := by omega
              have hloB : lo = B0 := by omega
              have HLO := Lib.hid hlo
              have HBO := Lib.hid hB0'
              have HNO := Lib.hid hn
              have HYO := Lib.hid hys
              clear HCD HEd HBD hlo hB0' hn hys
              go_wp2
              refine wp_region_facts (fun i v _ => match i with
                  | 0 => v = .slice (some ⟨gO, 0, none⟩) ks.length oc
                  | 1 => v = .int .i64 (a : Int)
                  | 2 => v = .slice (some ⟨gO, 0, none⟩) ks.length oc
                  | 3 => v = .int .i64 (a : Int)
                  | 4 => v = .pointer (some ⟨gO, a, none⟩)
                  | 5 => v = .slice ks[a].A ks[a].xs.length ks[a].c
                  | 6 => v = .slice (some ⟨gO, 0, none⟩) ks.length oc
                  | 7 => v = .int .i64 (b : Int)
                  | 8 => v = .pointer (some ⟨gO, b, none⟩)
                  | 9 => v = .slice ks[b].A ks[b].xs.length ks[b].c
                  | 10 => True
                  | 11 => v = .pointer (some ⟨gO, a, none⟩)
                  | _ => True)
                (fun fl vs wq => (fl 10 = false → wq = wD.drew) ∧ (fl 10 = true → ∃ (A' : Option Addr) (c' : Nat), vs 10 = .slice A' (ks[a].xs.length + ks[b].xs.length) c' ∧ (fl 12 = false → Chs lo (some ⟨gO, 0, none⟩) oc (ks.map Ch.val) (ks.set a (⟨A', c', ks[a].xs ++ ks[b].xs⟩ : Ch)) wq ∧ wq.ownsRow lo 33 3 (.slice (some ⟨bE, oE, none⟩) n cE) n ys ∧ Below B0 w wq) ∧ (fl 12 = true → Chs lo (some ⟨gO, 0, none⟩) oc ((ks.set a (⟨A', c', ks[a].xs ++ ks[b].xs⟩ : Ch)).map Ch.val) (ks.set a (⟨A', c', ks[a].xs ++ ks[b].xs⟩ : Ch)) wq ∧ wq.ownsRow lo 33 3 (.slice (some ⟨bE, oE, none⟩) n cE) n ys ∧ Below B0 w wq))) (fun _ _ => True) (by kernel_rfl) (by kernel_rfl) ?_ ?_ ?_ ?_
              · intro i v u u2 _ h
                exact h
              · intro fl vs hfl
                exact ⟨fun _ => rfl, fun h => by rw [hfl 10 (by simp)] at h; cases h⟩
              · refine ⟨?_, ?_, ?_, ?_, ?_, ?_, ?_, ?_, ?_, ?_, ?_, ?_, ?_, trivial⟩
                all_goals intro fl vs wr a1 hc hG hfi hcl hp K hK
                · refine op_move rfl ?_
                  rw [hc.ev0 _ rfl]
                  exact hK _ _ trivial rfl (by simpa [upd] using hG)
                · refine op_move rfl ?_
                  rw [hc.ev0 _ rfl]
                  exact hK _ _ trivial rfl (by simpa [upd] using hG)
                · refine op_move rfl ?_
                  rw [hc.ev0 _ rfl]
                  exact hK _ _ trivial rfl (by simpa [upd] using hG)
                · refine op_move rfl ?_
                  rw [hc.ev0 _ rfl]
                  exact hK _ _ trivial rfl (by simpa [upd] using hG)
                · have e1 := hc.ev 48 2 rfl
                  rw [show vs 2 = _ from (hp 2 (by kernel_rfl)).2] at e1
                  have e2 := hc.ev 49 3 rfl
                  rw [show vs 3 = _ from (hp 3 (by kernel_rfl)).2] at e2
                  unfold Oper.wp execOp
                  simp only [e1, e2]
                  go_simp
                  exact hK _ _ trivial rfl (by simpa [upd] using hG)
                · have n10 : fl 10 = false := by
                    cases h : fl 10 with
                    | false => rfl
                    | true =>
                      have h := hcl 10 5 (by kernel_rfl) h
                      rw [show fl 5 = false from hfi] at h
                      cases h
                  have hW := hG.1 n10
                  have e1 := hc.ev 50 4 rfl
                  rw [show vs 4 = _ from (hp 4 (by kernel_rfl)).2] at e1
                  have ec : wr.cell? ⟨gO, a, none⟩ = some (.slice ks[a].A ks[a].xs.length ks[a].c) := by rw [hW]; exact HCa.out
                  clear hW n10
                  unfold Oper.wp execOp
                  simp only [e1]
                  go_simp
                  exact hK _ _ trivial rfl (by simpa [upd] using hG)
                · refine op_move rfl ?_
                  rw [hc.ev0 _ rfl]
                  exact hK _ _ trivial rfl (by simpa [upd] using hG)
                · refine op_move rfl ?_
                  rw [hc.ev0 _ rfl]
                  exact hK _ _ trivial rfl (by simpa [upd] using hG)
                · have e1 := hc.ev 52 6 rfl
                  rw [show vs 6 = _ from (hp 6 (by kernel_rfl)).2] at e1
                  have e2 := hc.ev 53 7 rfl
                  rw [show vs 7 = _ from (hp 7 (by kernel_rfl)).2] at e2
                  unfold Oper.wp execOp
                  simp only [e1, e2]
                  go_simp
                  exact hK _ _ trivial rfl (by simpa [upd] using hG)
                · have n10 : fl 10 = false := by
                    cases h : fl 10 with
                    | false => rfl
                    | true =>
                      have h := hcl 10 9 (by kernel_rfl) h
                      rw [show fl 9 = false from hfi] at h
                      cases h
                  have hW := hG.1 n10
                  have e1 := hc.ev 54 8 rfl
                  rw [show vs 8 = _ from (hp 8 (by kernel_rfl)).2] at e1
                  have ec : wr.cell? ⟨gO, b, none⟩ = some (.slice ks[b].A ks[b].xs.length ks[b].c) := by rw [hW]; exact HCb.out
                  clear hW n10
                  unfold Oper.wp execOp
                  simp only [e1]
                  go_simp
                  exact hK _ _ trivial rfl (by simpa [upd] using hG)
                · have n10 : fl 10 = false := hfi
                  have hW := hG.1 n10
                  have n12 : fl 12 = false := by
                    cases h : fl 12 with
                    | false => rfl
                    | true => have h := hcl 12 10 (by kernel_rfl) h; rw [n10] at h; cases h
                  subst hW
                  have e1 := hc.ev 51 5 rfl
                  rw [show vs 5 = _ from (hp 5 (by kernel_rfl)).2] at e1
                  have e2 := hc.ev 55 9 rfl
                  rw [show vs 9 = _ from (hp 9 (by kernel_rfl)).2] at e2
                  have HS2 := HCH.out.drewN 1
                  have hla := HLX.out ks[a] (List.getElem_mem ha)
                  have hlb := HLX.out ks[b] (List.getElem_mem hb)
                  refine wp_append_any wD.drew (.tmp 51) (.tmp 55) _ rfl lo 3 i0 _ 1 8 Try.underlying36 hi0 hz0 hz1 hz2 rfl (by omega) (.slice ks[a].A ks[a].xs.length ks[a].c) ks[a].xs.length (nums .i64 ks[a].xs) e1 (HS2.inner _ (List.getElem_mem ha)) wD.heap.size ks[b].A ks[b].xs.length ks[b].c (nums .i64 ks[b].xs) e2 (HS2.readsIn _ (List.getElem_mem hb)) (nums_one _ _) (by unfold maxLen; omega) (by omega) hloz ?_
                  intro v' w6 ho hg hat
                  obtain ⟨A', c', rfl⟩ := own_sliceC ho
                  have hob : ∀ (A : Option Addr) (n c : Nat), Value.ownBlock (.slice A n c) = A.map (·.block) := fun A n c => by cases A <;> rfl
                  rw [hob] at hg
                  rw [hob, hob] at hat
                  have hkk : Ch.Own (⟨A', c', ks[a].xs ++ ks[b].xs⟩ : Ch) w6 lo := by
                    have e : nums .i64 ks[a].xs ++ nums .i64 ks[b].xs = nums .i64 (ks[a].xs ++ ks[b].xs) := by simp [nums]
                    rw [e] at ho
                    unfold Ch.Own
                    simp only [List.length_append]
                    exact ho
                  have hst := HS2.append ha hg (⟨A', c', ks[a].xs ++ ks[b].xs⟩ : Ch) hkk (fun x hx => by
                    have hx' : A' = some x := hx
                    rw [hx'] at hat
                    rcases hat with hat | hat
                    · cases hA : ks[a].A with
                      | none => rw [hA] at hat; cases hat
                      | some y => rw [hA] at hat; exact .inl ⟨y, rfl, by simpa using hat.symm⟩
                    · exact .inr (Nat.le_of_eq (by have h := hat; simp at h; exact h.symm)))
                  have HE2 : wD.drew.ownsRow lo 33 3 (.slice (some ⟨bE, oE, none⟩) n cE) n ys := own_below HED.out (below_drewN (Below.refl _ _) 1)
                  have hE6 : w6.ownsRow lo 33 3 (.slice (some ⟨bE, oE, none⟩) n cE) n ys := own_other HE2 hg (own_types_neC HE2 (HS2.inner _ (List.getElem_mem ha)) (by decide))
                  have hB6 : Below B0 w w6 := (below_drewN HBE.out 1).grown hg (by show B0 ≤ wD.heap.size; omega) (fun q hq => by
                    cases hA : ks[a].A with
                    | none => rw [hA] at hq; cases hq
                    | some y =>
                      rw [hA] at hq
                      have := (HS2.up (List.getElem_mem ha) y hA).1
                      have : y.block = q := by simpa using hq
                      omega)
                  exact hK _ _ trivial trivial ⟨fun h => by simp [upd] at h, fun _ => ⟨A', c', by simp [upd], fun _ => ⟨hst, hE6, hB6⟩, fun h => by simp [upd, n12] at h⟩⟩
                · have e1 := hc.ev 46 0 rfl
                  rw [show vs 0 = _ from (hp 0 (by kernel_rfl)).2] at e1
                  have e2 := hc.ev 47 1 rfl
                  rw [show vs 1 = _ from (hp 1 (by kernel_rfl)).2] at e2
                  unfold Oper.wp execOp
                  simp only [e1, e2]
                  go_simp
                  exact hK _ _ trivial rfl (by simpa [upd] using hG)
                · have n12 : fl 12 = false := hfi
                  have t10 := (hp 10 (by kernel_rfl)).1
                  obtain ⟨A', c', hv, hB, _⟩ := hG.2 t10
                  obtain ⟨hst, hE6, hB6⟩ := hB n12
                  have e1 := hc.ev 57 11 rfl
                  rw [show vs 11 = _ from (hp 11 (by kernel_rfl)).2] at e1
                  have e2 := hc.ev 56 10 rfl
                  rw [hv] at e2
                  have ec : wr.cell? ⟨gO, a, none⟩ = some (.slice ks[a].A ks[a].xs.length ks[a].c) := (hst.outer.cellAt a (by simp; omega)).trans (ch_get ha)
                  have ef : wr.frozen? ⟨gO, a, none⟩ = false := hst.outer.frozenAt a
                  have hup := hst.outer.lt gO rfl
                  have HP : Hid (Chs lo (some ⟨gO, 0, none⟩) oc ((ks.set a (⟨A', c', ks[a].xs ++ ks[b].xs⟩ : Ch)).map Ch.val) (ks.set a (⟨A', c', ks[a].xs ++ ks[b].xs⟩ : Ch)) (wr.setCell ⟨gO, a, none⟩ (.slice A' (ks[a].xs.length + ks[b].xs.length) c')) ∧ (wr.setCell ⟨gO, a, none⟩ (.slice A' (ks[a].xs.length + ks[b].xs.length) c')).ownsRow lo 33 3 (.slice (some ⟨bE, oE, none⟩) n cE) n ys ∧ Below B0 w (wr.setCell ⟨gO, a, none⟩ (.slice A' (ks[a].xs.length + ks[b].xs.length) c'))) := by
                    have h := hst.store a (.slice A' (ks[a].xs.length + ks[b].xs.length) c')
                    refine ⟨?_, own_other hE6 (hst.outer.stored a _).2 (A2 := some ⟨gO, 0, none⟩) (own_types_neC hE6 hst.outer (by decide)), hB6.setCell (by simp only; omega) _⟩
                    rw [List.map_set]
                    have e : Ch.val (⟨A', c', ks[a].xs ++ ks[b].xs⟩ : Ch) = .slice A' (ks[a].xs.length + ks[b].xs.length) c' := by simp [Ch.val]
                    rw [e]
                    exact h
                  clear hst hE6 hB6 hup hB
                  unfold Oper.wp execOp
                  simp only [e1, e2]
                  go_simp
                  exact hK undef _ trivial trivial ⟨fun h => by simp [upd, t10] at h, fun _ => ⟨A', c', by simpa [upd] using hv, fun h => by simp [upd] at h, fun _ => HP.out⟩⟩
              · intro fl vs w9 hfl hG hF
                obtain ⟨A', c', hv, _, hD⟩ := hG.2 (hfl 10 (by simp))
                obtain ⟨d1, d2, d3⟩ := hD (hfl 12 (by simp))
                have HD1 := Lib.hid d1
                have HD2 := Lib.hid d2
                have HD3 := Lib.hid d3
                have HL9 : Hid (w9.heap.size ≥ lo) := by have := (d1.outer.lt gO rfl); rw [Hid]; omega
                clear hG hF hfl hv hD d1 d2 d3 HCH HED HBE
                simp only [fill]
                go_simp
                have hyb : IntKind.i64.wrap ((b : Int) + 1) = (b : Int) + 1 := IntWalk.i64_in _ (by omega)
                have hls : (ks.set a (⟨A', c', ks[a].xs ++ ks[b].xs⟩ : Ch)).length = ks.length := List.length_set
                have HDL := Lib.hid (delCh_any (ks.set a (⟨A', c', ks[a].xs ++ ks[b].xs⟩ : Ch)) b w9 HD1.out (by omega))
                rw [hls] at HDL
                clear HD1
                go_wp2_with fail
                refine HDL.out.mono ?_
                rintro e w10 ⟨rfl, hch, hgr⟩
                have HCH := Lib.hid hch
                have HED : Hid (w10.ownsRow lo 33 3 (.slice (some ⟨bE, oE, none⟩) n cE) n ys) := own_other HD2.out hgr (A2 := some ⟨gO, 0, none⟩) (fun x y hx hy => by injection hy with hy; subst hy; exact HNEO.out x hx)
                have HBE : Hid (Below B0 w w10) := HD3.out.grown hgr (by have := HL9.out; omega) (fun q hq => by
                  have : gO = q := by simpa using hq
                  omega)
                have HXS : Hid (((ks.set a (⟨A', c', ks[a].xs ++ ks[b].xs⟩ : Ch)).eraseIdx b).map Ch.xs = (ss.take (i + 1)).foldl joinE (chains0 m)) := by
                  rw [Hid, joinC_map ha hb]
                  exact HXSn.out hab
                have HEN : Hid (((ks.set a (⟨A', c', ks[a].xs ++ ks[b].xs⟩ : Ch)).eraseIdx b).length ≤ 8) := by
                  rw [Hid, List.length_eraseIdx_of_lt (by omega), hls]; omega
                clear hch hgr HDL HD2 HD3 hls
                generalize ((ks.set a (⟨A', c', ks[a].xs ++ ks[b].xs⟩ : Ch)).eraseIdx b) = ks2 at *
                have HXS2 : Hid (ks2.map Ch.xs = (ss.take (i + 1)).foldl joinE (chains0 m)) := HXS.out
                have HCH2 : Hid (Chs w.heap.size (some ⟨gO, 0, none⟩) oc (ks2.map Ch.val) ks2 w10) := by rw [← HLO.out]; exact HCH.out
                have HED2 : Hid (w10.ownsRow w.heap.size 33 3 (.slice (some ⟨bE, oE, none⟩) ss.length cE) ss.length (ss.flatMap Edg.cells)) := by rw [← HLO.out, ← HNO.out, ← HYO.out]; exact HED.out
                have HBE2 : Hid (Below w.heap.size w w10) := by rw [← HBO.out]; exact HBE.out
                have hk2 : ks2.length ≤ 8 := HEN.out
                clear HCH HED HBE HXS HXSa HXSn HEN
                go_wp2
                go_roundw
                case rel => exact ⟨i + 1, some ⟨gO, 0, none⟩, oc, ks2, by omega, hk2, by go_num, rfl, HXS2, HCH2, HED2, HBE2⟩
                case measure => simp [intOf]; omega
          · have hii : ¬ (i : Int) < (ss.length : Int) := by omega
            have HFX : Hid (flatC ks = ordR (m : Int) es) := by
              rw [Hid, HOR.out]
              unfold flatC
              rw [HX.out, List.take_of_length_le (by omega)]
            have HRD := Lib.hid HC.out.reads
            have hHH := HC.out.readsIn
            have HCT := Lib.hid (concat_any (oc := oc) ks wr HC.out.reads (Nat.le_refl _) HC.out.readsIn (by omega) (by have := HTOT.out; omega) (by have := HTOT.out; omega))
            rw [HFX.out] at HCT
            clear hHH HRD HX HC HED HFX HOR
            go_wp2_with fail
            refine HCT.out.mono ?_
            rintro e w9 ⟨A9, c9, rfl, ho9, hb9⟩
            have HO9 := Lib.hid (own_base ho9 hbz)
            have HB9 : Hid (Below w.heap.size w w9) := HB.out.trans (hb9.mono hbz)
            clear ho9 hb9 HCT
            go_wp2
            go_ret
            exact ⟨A9, c9, rfl, HO9.out, HB9.out⟩
end Go.Proofs.Ytgibmbjdnppiaaa
