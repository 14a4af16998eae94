/- Contract of the reference's ReadVersion. Condition: the size. -/
import Derived.Test.YtogdeekjfgbneaaDoorRows
import Derived.Test.YtogdeekjfgbneaaDoorBase
import Derived.Test.YtogdeekjfgbneaaDoorBase2
import Derived.Test.YtogdeekjfgbneaaDoorName
import Derived.Test.YtogdeekjfgbneaaDoorVer
import Derived.Test.YtogdeekjfgbneaaDoorVerP
import Derived.Test.YtogdeekjfgbneaaDoorDec
import Derived.Test.YtogdeekjfgbneaaDoorNum
import Derived.Test.YtogdeekjfgbneaaDoorRead8
import Derived.Test.YtogdeekjfgbneaaDoorVtx
import Derived.Test.YtogdeekjfgbneaaDoorVtf
import Derived.Test.YtogdeekjfgbneaaDoorRdv
import Derived.Test.YtogdeekjfgbneaaDoorReg
import Derived.Test.YtogdeekjfgbneaaDoorRegS
import Derived.WalkKit
import Derived.WalkSpells
import Derived.WalkLawsBesides
import Derived.Handy
import Derived.BigQuiet
import Derived.Deep.RegionHeld3
import Derived.Deep.DrawnRows
import Derived.Deep.QuietTactic
namespace Go.Proofs.YtogdeekjfgbneaaDoor
open Go Go.RowKit

theorem part_at {s : ByteArray} {k : Nat} (hk : k < s.size) : s.data.toList = (s.extract 0 k).data.toList ++ s[k] :: (s.extract (k + 1) s.size).data.toList := by
  have hk' : k < s.data.toList.length := by simpa using hk
  have e : s.data.toList[k] = s[k] := by simp [ByteArray.getElem_eq_getElem_data]
  rw [← e]
  have e1 : (s.extract 0 k).data.toList = s.data.toList.take k := by simp [ByteArray.data_extract, Array.toList_extract, List.extract_eq_take_drop]
  have e2 : (s.extract (k + 1) s.size).data.toList = s.data.toList.drop (k + 1) := by
    simp only [ByteArray.data_extract, Array.toList_extract, List.extract_eq_take_drop]
    rw [List.take_of_length_le (by simp)]
  rw [e1, e2, ← List.drop_eq_getElem_cons hk', List.take_append_drop]
/-- Behind place k is no @. -/
def NoAt (s : ByteArray) (k : Int) : Prop := ∀ j, (h : j < s.size) → k < (j : Int) → s[j] ≠ 64
theorem NoAt.part {s : ByteArray} {k : Nat} (h : NoAt s k) (hk : k < s.size) : (64 : UInt8) ∉ (s.extract (k + 1) s.size).data.toList := fun hm => by
  have e2 : (s.extract (k + 1) s.size).data.toList = s.data.toList.drop (k + 1) := by
    simp only [ByteArray.data_extract, Array.toList_extract, List.extract_eq_take_drop]
    rw [List.take_of_length_le (by simp)]
  rw [e2] at hm
  obtain ⟨i, hi, e⟩ := List.getElem_of_mem hm
  rw [List.getElem_drop] at e
  have hi2 : k + 1 + i < s.size := by simp at hi; omega
  exact h (k + 1 + i) hi2 (by omega) (by rw [← e]; simp [ByteArray.getElem_eq_getElem_data])
theorem NoAt.none_ {s : ByteArray} (h : NoAt s (-1)) : (64 : UInt8) ∉ s.data.toList := fun hm => by
  obtain ⟨i, hi, e⟩ := List.getElem_of_mem hm
  have hi2 : i < s.size := by simpa using hi
  exact h i hi2 (by omega) (by rw [← e]; simp [ByteArray.getElem_eq_getElem_data])
set_option maxRecDepth 100000 in
set_option maxHeartbeats 4000000 in
theorem specReadVer_any (s : ByteArray) (w : World) (hs : s.size ≤ 1048578) : Calls Tryd.prog 15 #[.string s] w (ReadRes s w) := by
  have B0 : Below w.heap.size w (w.alloc (.cells #[.string ⟨#[]⟩, .int .i64 0] 26)) := (Below.refl _ _).alloc (Nat.le_refl _) _
  have K0 := Blk.new w 26 #[.string ⟨#[]⟩, .int .i64 0]
  have hz0 : w.heap.size < (w.alloc (.cells #[.string ⟨#[]⟩, .int .i64 0] 26)).heap.size := by simp
  go_enter Tryd.func15, Tryd.ntmps15
  go_wp2
  obtain ⟨w0, hw0⟩ : ∃ w0, w0 = w.alloc (.cells #[.string ⟨#[]⟩, .int .i64 0] 26) := ⟨_, rfl⟩
  rw [← hw0] at B0 K0 hz0 ⊢
  clear hw0
  go_loop [4] (fun kv => ∃ k : Int, kv = .int .i64 k ∧ -1 ≤ k ∧ k < (s.size : Int) ∧ Hid (NoAt s k)) (fun kv => (intOf kv + 1).toNat)
  case atStart => exact ⟨(s.size : Int) - 1, rfl, by omega, by omega, fun j h1 h2 => by omega⟩
  case round =>
    obtain ⟨k, rfl, hk1, hk2, HN⟩ := hrel
    by_cases hlt : 0 ≤ k
    · obtain ⟨m, rfl⟩ : ∃ m : Nat, k = (m : Int) := ⟨k.toNat, by omega⟩
      have hms : m < s.size := by omega
      by_cases hat : s[m].toNat = 64
      · have hc : (s[m].toNat : Int) = 64 := by omega
        have HP := Lib.hid (part_at hms)
        have HQ := Lib.hid (HN.out.part hms)
        have e64 : s[m] = 64 := UInt8.toNat_inj.1 (hat.trans (by decide))
        rw [e64] at HP
        clear hat e64
        have HH := Lib.hid (show s.extract 0 m = s.extract 0 m ∧ s.extract (m + 1) s.size = s.extract (m + 1) s.size from ⟨rfl, rfl⟩)
        have hqs : (s.extract (m + 1) s.size).size ≤ 1048578 := by rw [ByteArray.size_extract]; omega
        have hps : (s.extract 0 m).size ≤ maxLen := by rw [ByteArray.size_extract]; unfold maxLen; omega
        have HV := Lib.hid (fun n w => specVerValid_any ⟨s.extract 0 m, n⟩ w hps)
        have HT := Lib.hid (fun n w => specVerText_any ⟨s.extract 0 m, n⟩ w hps)
        simp only [Ver.val] at HV HT
        have HR := Lib.hid (fun w => l8Read_any (s.extract (m + 1) s.size) w hqs)
        have HNO := Lib.hid (fun n hn h => specVer_no (s := s) (p := (s.extract 0 m).data.toList) (n := n) HP.out HQ.out hn h)
        have EP : Hid ((⟨(s.extract 0 m).data.toList.toArray⟩ : ByteArray) = s.extract 0 m) := rfl
        rw [EP.out] at HNO
        clear EP HP HQ hqs hps HH
        go_wp2
        generalize hp0 : s.extract 0 m = p at *
        generalize hq0 : s.extract (m + 1) s.size = q at *
        have HP0 := Lib.hid hp0
        have HQ0 := Lib.hid hq0
        clear hp0 hq0
        refine wp_region_facts (fun i v _ => match i with
          | 0 => v = .string s
          | 1 => v = .int .i64 (m : Int)
          | 2 => v = .string p
          | 3 => v = .string s
          | 4 => v = .int .i64 (m : Int)
          | 5 => v = .int .i64 ((m : Int) + 1)
          | 6 => v = .string q
          | 7 => ∃ n, v = .int .i64 n ∧ ReadsDec q.data.toList n
          | 8 => ∃ n, v = .agg #[.string p, .int .i64 n] ∧ ReadsDec q.data.toList n
          | 9 => ∃ g, v = .pointer (some ⟨g, 0, none⟩) ∧ w.heap.size < g
          | _ => True)
          (fun fl vs wq => Below w.heap.size w wq ∧ Blk wq w.heap.size 26 #[.string ⟨#[]⟩, .int .i64 0] ∧ (fl 10 = true → fl 9 = true) ∧ (fl 9 = true → fl 10 = false → ∃ g, vs 9 = .pointer (some ⟨g, 0, none⟩) ∧ Blk wq g 26 #[.string ⟨#[]⟩, .int .i64 0]) ∧ (fl 10 = true → ∃ g n, vs 9 = .pointer (some ⟨g, 0, none⟩) ∧ Blk wq g 26 #[.string p, .int .i64 n] ∧ ReadsDec q.data.toList n))
          (fun _ _ => True) (by kernel_rfl) (by kernel_rfl) ?_ ?_ ?_ ?_
        · intro i v u u' _ h
          exact h
        · intro fl vs hfl
          have z9 := hfl 9 (by simp)
          have z10 := hfl 10 (by simp)
          exact ⟨B0.drew, K0.drew, fun h => absurd h (by simp [z10]), fun h => absurd h (by simp [z9]), fun h => absurd h (by simp [z10])⟩
        · refine ⟨?_, ?_, ?_, ?_, ?_, ?_, ?_, ?_, ?_, ?_, ?_, trivial⟩
          all_goals intro fl vs wr a1 hc hG hfi hcl hp K hK
          · refine op_move rfl ?_
            rw [hc.ev0 _ rfl]
            exact hK _ _ trivial rfl (by simpa [upd] using hG)
          · refine op_move rfl ?_
            rw [hc.ev0 _ rfl]
            exact hK _ _ trivial rfl (by simpa [upd] using hG)
          · have h0 : vs 0 = _ := (hp 0 (by kernel_rfl)).2
            have h1 : vs 1 = _ := (hp 1 (by kernel_rfl)).2
            have e0 := hc.ev 17 0 rfl
            have e1 := hc.ev 18 1 rfl
            rw [h0] at e0
            rw [h1] at e1
            unfold Oper.wp execOp
            simp only [e0, e1, Option.map_some, Option.map_none]
            have y1 : (m : Int) ≤ (s.size : Int) := by omega
            have y0 : (0 : Int) ≤ (m : Int) := by omega
            go_simp
            refine hK _ _ trivial ?_ (by simpa [upd] using hG)
            show Value.string _ = Value.string p
            rw [← HP0.out]
            try rfl
          · refine op_move rfl ?_
            rw [hc.ev0 _ rfl]
            exact hK _ _ trivial rfl (by simpa [upd] using hG)
          · refine op_move rfl ?_
            rw [hc.ev0 _ rfl]
            exact hK _ _ trivial rfl (by simpa [upd] using hG)
          · have h4 : vs 4 = _ := (hp 4 (by kernel_rfl)).2
            have e4 := hc.ev 21 4 rfl
            rw [h4] at e4
            unfold Oper.wp execOp
            simp only [e4]
            go_simp
            exact hK _ _ trivial (by show Value.int _ _ = Value.int _ _; rw [IntWalk.i64_in _ (by omega)]) (by simpa [upd] using hG)
          · have h3 : vs 3 = _ := (hp 3 (by kernel_rfl)).2
            have h5 : vs 5 = _ := (hp 5 (by kernel_rfl)).2
            have e3 := hc.ev 20 3 rfl
            have e5 := hc.ev 22 5 rfl
            rw [h3] at e3
            rw [h5] at e5
            unfold Oper.wp execOp
            simp only [e3, e5, Option.map_some, Option.map_none]
            have y1 : (m : Int) + 1 ≤ (s.size : Int) := by omega
            have y0 : (0 : Int) ≤ (m : Int) + 1 := by omega
            go_simp
            refine hK _ _ trivial ?_ (by simpa [upd] using hG)
            show Value.string _ = Value.string q
            rw [← HQ0.out]
            try rfl
          · have h6 : vs 6 = _ := (hp 6 (by kernel_rfl)).2
            have e6 := hc.ev 23 6 rfl
            rw [h6] at e6
            obtain ⟨g1, g2, g3, g4, g5⟩ := hG
            refine op_call rfl (by simp only [List.map_toArray, List.map_cons, List.map_nil, e6]) (by kernel_rfl) (HR.out _) ?_
            rintro e w' ⟨n, rfl, hn, hb⟩
            refine ⟨_, rfl, hK _ _ trivial ⟨n, rfl, hn⟩ ⟨g1.trans (hb.mono g1.size), g2.below hb g2.lt, by simpa [upd] using g3, fun h9 h10 => ?_, fun h10 => ?_⟩⟩
            · obtain ⟨g, k1, k2⟩ := g4 (by simpa [upd] using h9) (by simpa [upd] using h10)
              exact ⟨g, by simpa [upd] using k1, k2.below hb k2.lt⟩
            · obtain ⟨g, n, k1, k2, k3⟩ := g5 (by simpa [upd] using h10)
              exact ⟨g, n, by simpa [upd] using k1, k2.below hb k2.lt, k3⟩
          · have h2 : vs 2 = _ := (hp 2 (by kernel_rfl)).2
            obtain ⟨n, h7, hn⟩ := (hp 7 (by kernel_rfl)).2
            have e2 := hc.ev 19 2 rfl
            have e7 := hc.ev 24 7 rfl
            rw [h2] at e2
            rw [h7] at e7
            unfold Oper.wp execOp
            simp only [e2, e7, List.map_toArray, List.map_cons, List.map_nil]
            go_simp
            exact hK _ _ trivial ⟨n, rfl, hn⟩ (by simpa [upd] using hG)
          · obtain ⟨g1, g2, g3, g4, g5⟩ := hG
            have n9 : fl 9 = false := hfi
            have n10 : fl 10 = false := by cases h : fl 10 with
              | false => rfl
              | true => rw [g3 h] at n9; cases n9
            have hsz := g2.lt
            unfold Oper.wp execOp
            go_simp
            refine hK _ _ trivial ⟨_, rfl, hsz⟩ ⟨g1.alloc g1.size _, g2.alloc _, fun h => by simp [upd], fun _ _ => ⟨_, by rw [upd_at], Blk.new _ _ _⟩, fun h => by simp [upd, n10] at h⟩
          · obtain ⟨n, h8, hn⟩ := (hp 8 (by kernel_rfl)).2
            have f9 := (hp 9 (by kernel_rfl)).1
            obtain ⟨g', h9', hgw⟩ := (hp 9 (by kernel_rfl)).2
            obtain ⟨g1, g2, g3, g4, g5⟩ := hG
            obtain ⟨g, h9, hB⟩ := g4 f9 hfi
            rw [h9] at h9'
            injection h9' with h9'
            injection h9' with h9'
            injection h9' with h9'
            subst h9'
            have e8 := hc.ev 25 8 rfl
            have e9 := hc.ev 5 9 rfl
            rw [h8] at e8
            rw [h9] at e9
            have c0 := hB.cell 0
            have c1 := (hB.set_ 0 (.string p)).cell 1
            have d1 := hB.cell 1
            have f0 := hB.frozen 0
            have f1 := (hB.set_ 0 (.string p)).frozen 1
            have d2 := hB.frozen 1
            unfold Oper.wp execOp
            simp only [e8, e9]
            go_simp
            refine hK undef _ trivial trivial ⟨(g1.setCell (p := ⟨g, 0, none⟩) (Nat.le_of_lt hgw) _).setCell (p := ⟨g, 1, none⟩) (Nat.le_of_lt hgw) _, (g2.far (p := ⟨g, 0, none⟩) (by show w.heap.size ≠ g; omega) _).far (p := ⟨g, 1, none⟩) (by show w.heap.size ≠ g; omega) _, fun _ => by simpa [upd] using f9, fun _ h => by simp [upd] at h, fun _ => ⟨g, n, by simpa [upd] using h9, (hB.set_ 0 _).set_ 1 _, hn⟩⟩
        · intro fl vs w3 hfl hG hF
          obtain ⟨B3, K3, g3, g4, g5⟩ := hG
          obtain ⟨g', h9', hgw⟩ := hF 9 (by simp)
          obtain ⟨g, n, h9, KV, hn⟩ := g5 (hfl 10 (by simp))
          rw [h9] at h9'
          injection h9' with h9'
          injection h9' with h9'
          injection h9' with h9'
          subst h9'
          clear g3 g4 g5 hfl hF
          simp only [fill]
          go_simp
          try rw [h9]
          clear h9
          have v0 := KV.cell 0
          have v1 := KV.cell 1
          have hgl := KV.lt
          have hRl := K3.lt
          go_wp2_with fail
          refine (HV.out n _).mono ?_
          rintro e w4 ⟨rfl, hb4⟩
          have B4 := B3.trans (hb4.mono B3.size)
          have K4 := K3.below hb4 hRl
          have KV4 := KV.below hb4 hgl
          clear v0 v1 hgl hRl KV K3 B3 hb4
          have hRl := K4.lt
          have hgl := KV4.lt
          rcases Bool.eq_false_or_eq_true (verOk ⟨p, n⟩) with hv | hv
          · rw [hv]
            have v0 := KV4.cell 0
            have v1 := KV4.cell 1
            go_wp2_with fail
            refine (HT.out n _).mono ?_
            rintro e w5 ⟨rfl, hb5⟩
            have B5 := B4.trans (hb5.mono B4.size)
            have K5 := K4.below hb5 hRl
            have KV5 := KV4.below hb5 hgl
            clear v0 v1 hgl hRl KV4 K4 B4 hb5
            have hRl := K5.lt
            have c0 := K5.cell 0
            have c1 := K5.cell 1
            have f0 := K5.frozen 0
            have f1 := K5.frozen 1
            have v0 := KV5.cell 0
            have v1 := KV5.cell 1
            by_cases hts : verText ⟨p, n⟩ = s
            · have e1 : ((verText ⟨p, n⟩).toList == s.toList) = true := by simp [hts]
              have HI : Hid (IsVer s ⟨p, n⟩ true) := .inl ⟨rfl, hv, hts⟩
              have KF := Lib.hid ((K5.set_ 0 (.string p)).set_ 1 (.int .i64 n))
              have BF := Lib.hid ((B5.setCell (p := ⟨w.heap.size, 0, none⟩) (Nat.le_refl _) (.string p)).setCell (p := ⟨w.heap.size, 1, none⟩) (Nat.le_refl _) (.int .i64 n))
              clear hts
              go_wp2
              have d0 : ((w5.setCell ⟨w.heap.size, 0, none⟩ (.string p)).setCell ⟨w.heap.size, 1, none⟩ (.int .i64 n)).cell? ⟨w.heap.size, 0, none⟩ = some (.string p) := KF.out.cell 0
              have d1 : ((w5.setCell ⟨w.heap.size, 0, none⟩ (.string p)).setCell ⟨w.heap.size, 1, none⟩ (.int .i64 n)).cell? ⟨w.heap.size, 1, none⟩ = some (.int .i64 n) := KF.out.cell 1
              refine bodyPost_ret (v := .tuple #[(⟨p, n⟩ : Ver).val, .bool true]) (by simp [results, Tryd.results15, go_sem, Ver.val, d0, d1]) rfl ?_
              exact ⟨⟨p, n⟩, true, rfl, HI.out, BF.out⟩
            · have e1 : ((verText ⟨p, n⟩).toList == s.toList) = false := by
                rw [beq_eq_false_iff_ne]
                exact fun h => hts (toList_inj h)
              have HI := Lib.hid (HNO.out n hn (fun h => hts h.2))
              clear hts
              have KF := Lib.hid ((K5.set_ 0 (.string ⟨#[]⟩)).set_ 1 (.int .i64 0))
              have BF := Lib.hid ((B5.setCell (p := ⟨w.heap.size, 0, none⟩) (Nat.le_refl _) (.string ⟨#[]⟩)).setCell (p := ⟨w.heap.size, 1, none⟩) (Nat.le_refl _) (.int .i64 0))
              go_wp2
              have d0 : ((w5.setCell ⟨w.heap.size, 0, none⟩ (.string ⟨#[]⟩)).setCell ⟨w.heap.size, 1, none⟩ (.int .i64 0)).cell? ⟨w.heap.size, 0, none⟩ = some (.string ⟨#[]⟩) := KF.out.cell 0
              have d1 : ((w5.setCell ⟨w.heap.size, 0, none⟩ (.string ⟨#[]⟩)).setCell ⟨w.heap.size, 1, none⟩ (.int .i64 0)).cell? ⟨w.heap.size, 1, none⟩ = some (.int .i64 0) := KF.out.cell 1
              refine bodyPost_ret (v := .tuple #[noV.val, .bool false]) (by simp [results, Tryd.results15, go_sem, Ver.val, noV, d0, d1]) rfl ?_
              exact ⟨noV, false, rfl, HI.out, BF.out⟩
          · rw [hv]
            have HI := Lib.hid (HNO.out n hn (fun h => by rw [hv] at h; exact absurd h.1 (by simp)))
            have c0 := K4.cell 0
            have c1 := K4.cell 1
            have f0 := K4.frozen 0
            have f1 := K4.frozen 1
            have KF := Lib.hid ((K4.set_ 0 (.string ⟨#[]⟩)).set_ 1 (.int .i64 0))
            have BF := Lib.hid ((B4.setCell (p := ⟨w.heap.size, 0, none⟩) (Nat.le_refl _) (.string ⟨#[]⟩)).setCell (p := ⟨w.heap.size, 1, none⟩) (Nat.le_refl _) (.int .i64 0))
            go_wp2
            have d0 : ((w4.setCell ⟨w.heap.size, 0, none⟩ (.string ⟨#[]⟩)).setCell ⟨w.heap.size, 1, none⟩ (.int .i64 0)).cell? ⟨w.heap.size, 0, none⟩ = some (.string ⟨#[]⟩) := KF.out.cell 0
            have d1 : ((w4.setCell ⟨w.heap.size, 0, none⟩ (.string ⟨#[]⟩)).setCell ⟨w.heap.size, 1, none⟩ (.int .i64 0)).cell? ⟨w.heap.size, 1, none⟩ = some (.int .i64 0) := KF.out.cell 1
            refine bodyPost_ret (v := .tuple #[noV.val, .bool false]) (by simp [results, Tryd.results15, go_sem, Ver.val, noV, d0, d1]) rfl ?_
            exact ⟨noV, false, rfl, HI.out, BF.out⟩
      · have hc : ((s[m].toNat : Int) == 64) = false := by simp; omega
        have HA := Lib.hid (show s[m] ≠ 64 from fun e => hat (by rw [e]; rfl))
        clear hat
        go_wp2
        go_round
        case rel => exact ⟨(m : Int) - 1, by go_num, by omega, by omega, Lib.hid (fun j h1 h2 => by
          by_cases hj : j = m
          · subst hj
            exact HA.out
          · exact HN.out j h1 (by omega))⟩
        case measure => simp [intOf]
    · obtain rfl : k = -1 := by omega
      have HX := Lib.hid (specVer_none HN.out.none_)
      have c0 := K0.cell 0
      have c1 := K0.cell 1
      have f0 := K0.frozen 0
      have f1 := K0.frozen 1
      have KF := Lib.hid ((K0.set_ 0 (.string ⟨#[]⟩)).set_ 1 (.int .i64 0))
      have BF := Lib.hid ((B0.setCell (p := ⟨w.heap.size, 0, none⟩) (Nat.le_refl _) (.string ⟨#[]⟩)).setCell (p := ⟨w.heap.size, 1, none⟩) (Nat.le_refl _) (.int .i64 0))
      clear HN
      go_wp2
      have d0 : ((w0.setCell ⟨w.heap.size, 0, none⟩ (.string ⟨#[]⟩)).setCell ⟨w.heap.size, 1, none⟩ (.int .i64 0)).cell? ⟨w.heap.size, 0, none⟩ = some (.string ⟨#[]⟩) := KF.out.cell 0
      have d1 : ((w0.setCell ⟨w.heap.size, 0, none⟩ (.string ⟨#[]⟩)).setCell ⟨w.heap.size, 1, none⟩ (.int .i64 0)).cell? ⟨w.heap.size, 1, none⟩ = some (.int .i64 0) := KF.out.cell 1
      refine bodyPost_ret (v := .tuple #[noV.val, .bool false]) (by simp [results, Tryd.results15, go_sem, Ver.val, noV, d0, d1]) rfl ?_
      exact ⟨noV, false, rfl, HX.out, BF.out⟩
end Go.Proofs.YtogdeekjfgbneaaDoor
