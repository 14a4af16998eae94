/- Contract of the program's ScriptText, where the words of the kinds are as its text lays them. Condition: the size. -/
import Derived.Test.YthjjbgpeajeneaaDoorRows
import Derived.Test.YthjjbgpeajeneaaDoorBase
import Derived.Test.YthjjbgpeajeneaaDoorBase2
import Derived.Test.YthjjbgpeajeneaaDoorIn
import Derived.Test.YthjjbgpeajeneaaDoorPart
import Derived.Test.YthjjbgpeajeneaaDoorScrV
import Derived.Test.YthjjbgpeajeneaaDoorScr3
import Derived.Test.YthjjbgpeajeneaaDoorDec
import Derived.Test.YthjjbgpeajeneaaDoorDecS
import Derived.Test.YthjjbgpeajeneaaDoorStx
import Derived.Test.YthjjbgpeajeneaaDoorStf
import Derived.Test.YthjjbgpeajeneaaDoorWds
import Derived.Test.YthjjbgpeajeneaaDoorReg
import Derived.Test.YthjjbgpeajeneaaDoorRegS
import Derived.Test.YthjjbgpeajeneaaDoorLibR
import Derived.WalkKit
import Derived.WalkSpells
import Derived.WalkLawsBesides
import Derived.Handy
import Derived.BigQuiet
import Derived.Deep.RegionHeld3
import Derived.Deep.DrawnRows
import Derived.Deep.QuietTactic
namespace Go.Proofs.YthjjbgpeajeneaaDoor
open Go Go.RowKit

/-- The words of the kinds lie where the program has them. -/
def KwOk (w : World) : Prop := ∀ k : Int, 1 ≤ k → k ≤ 3 → w.cell? ⟨0, k.toNat - 1, none⟩ = some (.string (kwB k))
theorem KwOk.below {w w' : World} (h : KwOk w) (b : Below w.heap.size w w') : KwOk w' := fun k h1 h3 => (b.cell (block_lt_of_cell (h k h1 h3))).trans (h k h1 h3)
def prtS (p : Prt) : ByteArray := kwB p.kind ++ ⟨#[58]⟩ ++ decS p.align.toNat
theorem prtS_list (p : Prt) : (prtS p).data.toList = prtL p := by
  unfold prtS prtL kwB decS
  simp [ByteArray.data_append]
theorem join_prtS (xs : List Prt) : (⟨(Lib.join ((xs.map prtS).map (·.data.toList)) (⟨#[32]⟩ : ByteArray).data.toList).toArray⟩ : ByteArray) = accB xs := by
  unfold accB
  rw [List.map_map]
  have e : ((fun x : ByteArray => x.data.toList) ∘ prtS) = prtL := by
    funext p
    exact prtS_list p
  rw [e]
theorem texts_cell {w : World} {base g n c : Nat} {ws : List ByteArray} (h : w.ownsRow base 9 1 (.slice (some ⟨g, 0, none⟩) n c) n (texts ws)) (j : Nat) (x : ByteArray) (hj : ws[j]? = some x) : w.cell? ⟨g, 0 + j, none⟩ = some (.string x) := by
  rw [Nat.zero_add]
  obtain ⟨hl, e⟩ := List.getElem?_eq_some_iff.1 hj
  have hn : ws.length = n := by
    have := h.1
    simpa [texts] using this
  rw [h.cellAt j (by omega)]
  rw [texts_get _ _ hl, e]
set_option maxRecDepth 100000 in
set_option maxHeartbeats 1600000 in
theorem implScrText_any {A : Option Addr} {c1 B : Nat} (xs : List Prt) (w : World) (h1 : Reads w B 2 A xs.length (xs.flatMap Prt.cells)) (hB : B ≤ w.heap.size) (hm : xs.length ≤ maxLen) (hkwok : KwOk w) :
    Calls Tryd.prog 10 #[.slice A xs.length c1] w (Gives w (.string (scrText xs))) := by
  obtain ⟨i0, hi0, hz0, hz1, hz2⟩ := info_parts str_info
  have HV := Lib.hid (implScriptValid_any (c1 := c1) xs w h1 hB hm)
  have HKW := Lib.hid hkwok
  clear hkwok
  unfold maxLen at hm
  cases hok : scriptOk xs with
  | false =>
    rw [scrText_no hok]
    rw [hok] at HV
    clear hok
    go_enter Tryd.func10, Tryd.ntmps10
    go_wp2_with fail
    refine HV.out.mono ?_
    rintro e w2 ⟨rfl, hb2⟩
    go_wp2
    go_ret
    exact ⟨rfl, hb2⟩
  | true =>
    rw [scrText_acc hok]
    rw [hok] at HV
    have hl3 : xs.length ≤ 3 := by have := script_len hok; omega
    have hl1 : 0 < xs.length := by have := script_len hok; omega
    have HAT := Lib.hid (fun k (hk : k < xs.length) => script_at hok hk)
    have HALL := Lib.hid (prt_all hok)
    clear hok
    go_enter Tryd.func10, Tryd.ntmps10
    go_wp2_with fail
    refine HV.out.mono ?_
    rintro e w2 ⟨rfl, hb2⟩
    have HB2 := Lib.hid (hb2.alloc hb2.size (.cells #[] 9))
    have HO2 := Lib.hid (World.ownsRow_lit (base := w.heap.size) (e := 9) (size := 1) w2 #[] 0 hb2.size (by unfold maxLen; omega) rfl)
    clear hb2 HV
    go_wp2
    go_loopw [3, 12] (fun av kv wr => ∃ (k : Nat) (A : Option Addr) (c : Nat), av = .slice A k c ∧ kv = .int .i64 (k : Int) ∧ k ≤ xs.length ∧ Hid (wr.ownsRow w.heap.size 9 1 (.slice A k c) k (texts ((xs.take k).map prtS))) ∧ Hid (Below w.heap.size w wr)) (fun _ kv _ => xs.length - (intOf kv).toNat)
    case atStart => exact ⟨0, _, 0, rfl, rfl, Nat.zero_le _, HO2, HB2⟩
    case round =>
      obtain ⟨k, A, c, rfl, rfl, hk, HO, HB⟩ := hrel
      clear HO2 HB2
      by_cases hlt : k < xs.length
      · obtain ⟨b, off, rfl, hbB, e0, e1x⟩ := Prt.at_ h1 hlt
        have hbw : b < w.heap.size := by omega
        obtain ⟨⟨hk1, hk3⟩, ha⟩ := HAT.out k hlt
        have ha64 := alOk_bd ha
        have HWS : Hid ((xs.take (k + 1)).map prtS = (xs.take k).map prtS ++ [prtS xs[k]]) := by
          unfold Hid
          rw [List.take_succ_eq_append_getElem hlt, List.map_append]
          rfl
        have HP : Hid (prtS xs[k] = kwB xs[k].kind ++ ⟨#[58]⟩ ++ decS xs[k].align.toNat) := rfl
        have hkwc := HKW.out xs[k].kind hk1 hk3
        generalize hx : prtS xs[k] = x at *
        generalize hkd : xs[k].kind = kd at *
        obtain ⟨al, hal0⟩ : ∃ al : Nat, xs[k].align = (al : Int) := ⟨xs[k].align.toNat, by omega⟩
        rw [hal0] at e1x ha64 HP
        rw [Int.toNat_natCast] at HP
        have HXE := HP
        have hal : al < 100 := by omega
        have hkw := kwB_size hk1 hk3
        have hdz := decS_size hal
        have hkwl := block_lt_of_cell hkwc
        have c0 := (HB.out.cell (p := ⟨b, off + k * 2, none⟩) hbw).trans e0
        have c1x := (HB.out.cell (p := ⟨b, off + k * 2 + 1, none⟩) hbw).trans e1x
        obtain ⟨ws, hws⟩ : ∃ ws, ws = (xs.take k).map prtS := ⟨_, rfl⟩
        rw [← hws] at HWS HO
        have HB3 := Lib.hid (HB.out.alloc HB.out.size (.cells #[.int .i64 kd, .int .i64 (al : Int)] 41))
        have K3 := Lib.hid (Blk.new wr 41 #[.int .i64 kd, .int .i64 (al : Int)])
        have HO3 := Lib.hid (HO.out.alloc (.cells #[.int .i64 kd, .int .i64 (al : Int)] 41))
        clear hal0 hkd ha hws HP e0 e1x HB HO hx
        go_wp2
        generalize hw3 : wr.alloc (.cells #[.int .i64 kd, .int .i64 (al : Int)] 41) = w3 at *
        generalize hg : wr.heap.size = g at *
        clear hw3
        refine wp_region_facts2 (fun i v _ => match i with
          | 0 => v = .slice A k c
          | 1 => v = .pointer (some ⟨g, 0, none⟩)
          | 2 => v = .int .i64 kd
          | 3 => v = .int .i64 (kd - 1)
          | 4 => v = .pointer (some ⟨0, kd.toNat - 1, none⟩)
          | 5 => v = .string (kwB kd)
          | 6 => v = .string (kwB kd ++ ⟨#[58]⟩)
          | 7 => v = .pointer (some ⟨g, 1, none⟩)
          | 8 => v = .int .i64 (al : Int)
          | 9 => v = .string (decS al)
          | 10 => v = .string x
          | _ => True)
          (fun fl vs wq => (Below w.heap.size w wq ∧ Blk wq g 41 #[.int .i64 kd, .int .i64 (al : Int)] ∧ (fl 12 = false → wq.ownsRow w.heap.size 9 1 (.slice A k c) k (texts ws)) ∧ (fl 12 = true → ∃ A2 c2, vs 12 = .slice A2 (k + 1) c2 ∧ wq.ownsRow w.heap.size 9 1 (.slice A2 (k + 1) c2) (k + 1) (texts (ws ++ [x]))) ∧ (fl 11 = true → fl 12 = false → ∃ g2, vs 11 = .slice (some ⟨g2, 0, none⟩) 1 1 ∧ Blk wq g2 9 #[.string x]) ∧ (fl 13 = false → vs 13 = .slice A k c) ∧ (fl 13 = true → vs 13 = vs 12))) (fun _ _ => True) (by kernel_rfl) (by kernel_rfl) ?_ ?_ ?_ ?_
        · intro i v u u' _ h
          exact h
        · intro fl vs hfl hvs
          have z11 := hfl 11 (by simp)
          have z12 := hfl 12 (by simp)
          have z13 := hfl 13 (by simp)
          exact ⟨HB3.out.drew, K3.out.drew, fun _ => HO3.out, fun h => absurd h (by simp [z12]), fun h => absurd h (by simp [z11]), fun _ => hvs 13 3 rfl, fun h => absurd h (by simp [z13])⟩
        · refine ⟨?_, ?_, ?_, ?_, ?_, ?_, ?_, ?_, ?_, ?_, ?_, ?_, ?_, ?_, trivial⟩
          all_goals intro fl vs w5 a1 hc' hG hfi hcl hp K hK
          · have n13 : fl 13 = false := by cases h : fl 13 with
              | false => rfl
              | true => have := hcl 13 0 (by kernel_rfl) h; rw [show fl 0 = false from hfi] at this; cases this
            refine op_move rfl ?_
            rw [hc'.ev 3 13 rfl, hG.2.2.2.2.2.1 n13]
            exact hK _ _ trivial rfl (by simpa [upd] using hG)
          · have e5 : a1.eval (.tmp 5) = .pointer (some ⟨g, 0, none⟩) := hc'.ev0 5 rfl
            unfold Oper.wp execOp
            simp only [e5]
            go_simp
            exact hK _ _ trivial rfl (by simpa [upd] using hG)
          · have h1 : vs 1 = _ := (hp 1 (by kernel_rfl)).2
            have e1 := hc'.ev 17 1 rfl
            rw [h1] at e1
            unfold Oper.wp execOp
            simp only [e1]
            have hcell := hG.2.1.cell 0
            go_simp
            exact hK _ _ trivial (rfl) (by simpa [upd] using hG)
          · have h2 : vs 2 = _ := (hp 2 (by kernel_rfl)).2
            have e2 := hc'.ev 18 2 rfl
            rw [h2] at e2
            unfold Oper.wp execOp
            simp only [e2]
            go_simp
            exact hK _ _ trivial (by show Value.int _ _ = Value.int _ _; first | rfl | (congr 1; omega) | (rw [IntWalk.i64_in _ (by omega)] <;> first | rfl | (congr 1; omega))) (by simpa [upd] using hG)
          · have h3 : vs 3 = _ := (hp 3 (by kernel_rfl)).2
            have e3 := hc'.ev 19 3 rfl
            rw [h3] at e3
            unfold Oper.wp execOp
            simp only [e3]
            have y0 : (0 : Int) ≤ kd - 1 := by omega
            have y1 : kd - 1 < 3 := by omega
            go_simp
            exact hK _ _ trivial (rfl) (by simpa [upd] using hG)
          · have h4 : vs 4 = _ := (hp 4 (by kernel_rfl)).2
            have e4 := hc'.ev 20 4 rfl
            rw [h4] at e4
            unfold Oper.wp execOp
            simp only [e4]
            have hcell := (hG.1.cell (p := ⟨0, kd.toNat - 1, none⟩) hkwl).trans hkwc
            go_simp
            exact hK _ _ trivial (rfl) (by simpa [upd] using hG)
          · have h5 : vs 5 = _ := (hp 5 (by kernel_rfl)).2
            have e5 := hc'.ev 21 5 rfl
            rw [h5] at e5
            unfold Oper.wp execOp
            simp only [e5]
            have y0 : ¬ 9223372036854775807 < (kwB kd).size + 1 := by omega
            go_simp
            exact hK _ _ trivial (rfl) (by simpa [upd] using hG)
          · have e5 : a1.eval (.tmp 5) = .pointer (some ⟨g, 0, none⟩) := hc'.ev0 5 rfl
            unfold Oper.wp execOp
            simp only [e5]
            go_simp
            exact hK _ _ trivial rfl (by simpa [upd] using hG)
          · have h7 : vs 7 = _ := (hp 7 (by kernel_rfl)).2
            have e7 := hc'.ev 23 7 rfl
            rw [h7] at e7
            unfold Oper.wp execOp
            simp only [e7]
            have hcell := hG.2.1.cell 1
            go_simp
            exact hK _ _ trivial (rfl) (by simpa [upd] using hG)
          · have h8 : vs 8 = _ := (hp 8 (by kernel_rfl)).2
            have e8 := hc'.ev 24 8 rfl
            rw [h8] at e8
            obtain ⟨g1, g2, g3, g4, g5, g6, g7⟩ := hG
            refine op_call rfl (by simp only [List.map_toArray, List.map_cons, List.map_nil, e8]) (by kernel_rfl) (itoa_small al _ hal) ?_
            rintro e w' ⟨rfl, hb⟩
            refine ⟨_, rfl, hK _ _ trivial rfl ⟨g1.trans (hb.mono g1.size), g2.below hb g2.lt, fun h => own_below (g3 (by simpa [upd] using h)) hb, fun h => ?_, fun h h2 => ?_, by simpa [upd] using g6, by simpa [upd] using g7⟩⟩
            · obtain ⟨A2, c2, k1, k2⟩ := g4 (by simpa [upd] using h)
              exact ⟨A2, c2, by simpa [upd] using k1, own_below k2 hb⟩
            · obtain ⟨g', k1, k2⟩ := g5 (by simpa [upd] using h) (by simpa [upd] using h2)
              exact ⟨g', by simpa [upd] using k1, k2.below hb k2.lt⟩
          · have h6 : vs 6 = _ := (hp 6 (by kernel_rfl)).2
            have h9 : vs 9 = _ := (hp 9 (by kernel_rfl)).2
            have e6 := hc'.ev 22 6 rfl
            have e9 := hc'.ev 25 9 rfl
            rw [h6] at e6
            rw [h9] at e9
            unfold Oper.wp execOp
            simp only [e6, e9]
            have y0 : ¬ 9223372036854775807 < (kwB kd).size + 1 + (decS al).size := by omega
            go_simp
            refine hK _ _ trivial ?_ (by simpa [upd] using hG)
            show Value.string _ = Value.string x
            rw [HXE.out]
          · have h10 : vs 10 = _ := (hp 10 (by kernel_rfl)).2
            have e10 := hc'.ev 26 10 rfl
            rw [h10] at e10
            obtain ⟨g1, g2, g3, g4, g5, g6, g7⟩ := hG
            unfold Oper.wp execOp
            simp only [e10, List.map_toArray, List.map_cons, List.map_nil]
            go_simp
            refine hK _ _ trivial trivial ⟨g1.alloc g1.size _, g2.alloc _, fun h => (g3 (by simpa [upd] using h)).alloc _, fun h => ?_, fun _ _ => ⟨_, by rw [upd_at], Blk.new _ _ _⟩, by simpa [upd] using g6, by simpa [upd] using g7⟩
            obtain ⟨A2, c2, k1, k2⟩ := g4 (by simpa [upd] using h)
            exact ⟨A2, c2, by simpa [upd] using k1, k2.alloc _⟩
          · have h0 : vs 0 = _ := (hp 0 (by kernel_rfl)).2
            have f11 := (hp 11 (by kernel_rfl)).1
            have e0 := hc'.ev 16 0 rfl
            have e11 := hc'.ev 27 11 rfl
            rw [h0] at e0
            obtain ⟨g1, g2, g3, g4, g5, g6, g7⟩ := hG
            obtain ⟨g', k1, k2⟩ := g5 f11 hfi
            rw [k1] at e11
            have O := g3 hfi
            have hob : Value.ownBlock (.slice A k c) = A.map (·.block) := by cases A <;> rfl
            have hne : Value.ownBlock (.slice A k c) ≠ some g := own_blk_ne O (t := 41) g2 (by decide)
            rw [hob] at hne
            refine op_push _ _ _ rfl w.heap.size 9 i0 _ 1 16 Tryd.underlying39 hi0 hz0 hz1 hz2 rfl (by omega) (by omega) A k c 1 1 _ [.string x] O e0 ⟨g', 0, none⟩ e11 rfl (fun j u hu => by
              have hj : j = 0 := by
                have := (List.getElem?_eq_some_iff.1 hu).1
                simp at this
                omega
              subst hj
              have hc9 := k2.cell 0
              simp at hu
              rw [← hu]
              simpa [Addr.add] using hc9) (by simp [Value.oneCell']) (by omega) (by omega) g1.size ?_
            intro A' c' w6 ho hg hat _
            refine hK _ _ trivial trivial ⟨below_push g1 O (Nat.le_refl _) g1.size hg, g2.grown hg (fun e => hne e.symm), fun h => by simp [upd] at h, fun _ => ⟨A', c', by rw [upd_at], by
              have e : texts (ws ++ [x]) = texts ws ++ [.string x] := by simp [texts]
              rw [e]
              exact ho⟩, fun _ h => by simp [upd] at h, by simpa [upd] using g6, fun h => ?_⟩
            have n13 : fl 13 = false := by cases h : fl 13 with
              | false => rfl
              | true => have := hcl 13 12 (by kernel_rfl) h; rw [show fl 12 = false from hfi] at this; cases this
            simp [upd, n13] at h
          · refine op_assign rfl ?_
            rw [hc'.ev 28 12 rfl]
            obtain ⟨g1, g2, g3, g4, g5, g6, g7⟩ := hG
            exact hK _ _ trivial trivial ⟨g1, g2, by simpa [upd] using g3, by simpa [upd] using g4, by simpa [upd] using g5, fun h => by simp [upd] at h, fun _ => by simp [upd]⟩
        · intro fl vs w5 hfl hG hF
          obtain ⟨g1, g2, g3, g4, g5, g6, g7⟩ := hG
          obtain ⟨A2, c2, k1, k2⟩ := g4 (hfl 12 (by simp))
          have h13 := g7 (hfl 13 (by simp))
          rw [k1] at h13
          have HB5 := Lib.hid g1
          have HO5 := Lib.hid k2
          rw [← HWS.out] at HO5
          clear g1 g2 g3 g4 g5 g6 g7 k1 k2 hF hfl
          simp only [fill]
          go_simp
          try rw [h13]
          clear h13
          go_wp2
          go_roundw
          case rel => exact ⟨k + 1, A2, c2, rfl, by go_num, by omega, HO5, HB5⟩
          case measure => simp [intOf]; omega
      · obtain rfl : k = xs.length := by omega
        have hfull : xs.take xs.length = xs := List.take_of_length_le (Nat.le_refl _)
        rw [hfull] at HO
        obtain ⟨g, rfl, hg1, hg2⟩ := own_addr HO.out hl1
        have hcap : xs.length ≤ c ∧ c ≤ maxLen := by
          rcases HO.out.2 with ⟨_, h0⟩ | ⟨g, cap, cur, hv, _, _, hnc, hcm, _⟩
          · omega
          · injection hv with h1 h2 h3
            subst h3
            exact ⟨hnc, hcm⟩
        have hml : (xs.map prtS).length = xs.length := by simp
        have HJ := Lib.hid (fun hlen => Tryd.strings_Join g 0 c (xs.map prtS) ⟨#[32]⟩ wr (texts_cell HO.out) hg2 (by rw [hml]; omega) (by rw [hml]; omega) hlen)
        rw [join_prtS, hml] at HJ
        have hsz := accB_size xs HALL.out
        have HLEN : Hid ((Lib.join ((xs.map prtS).map (·.data.toList)) (⟨#[32]⟩ : ByteArray).data.toList).length ≤ 140737488355328) := by
          have e := congrArg ByteArray.size (join_prtS xs)
          have e2 : (Lib.join ((xs.map prtS).map (·.data.toList)) (⟨#[32]⟩ : ByteArray).data.toList).length = (accB xs).size := by
            rw [← e]
            show _ = (Lib.join ((xs.map prtS).map (·.data.toList)) (⟨#[32]⟩ : ByteArray).data.toList).toArray.size
            rw [List.size_toArray]
          unfold Hid
          rw [e2]
          omega
        clear hfull hml hsz
        go_wp2_with fail
        refine (HJ.out HLEN.out).mono ?_
        rintro e w6 ⟨rfl, hb6⟩
        go_wp2
        go_ret
        exact ⟨rfl, HB.out.trans (hb6.mono HB.out.size)⟩
end Go.Proofs.YthjjbgpeajeneaaDoor
