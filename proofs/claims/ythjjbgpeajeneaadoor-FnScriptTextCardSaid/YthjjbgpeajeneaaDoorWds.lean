/- Contract of l8Words. Condition: the size. -/
import Derived.Test.YthjjbgpeajeneaaDoorRows
import Derived.Test.YthjjbgpeajeneaaDoorBase
import Derived.Test.YthjjbgpeajeneaaDoorBase2
import Derived.Test.YthjjbgpeajeneaaDoorPart
import Derived.Test.YthjjbgpeajeneaaDoorScrV
import Derived.Test.YthjjbgpeajeneaaDoorScr3
import Derived.Test.YthjjbgpeajeneaaDoorDec
import Derived.Test.YthjjbgpeajeneaaDoorStx
import Derived.Test.YthjjbgpeajeneaaDoorReg
import Derived.Test.YthjjbgpeajeneaaDoorRegS
import Derived.WalkKit
import Derived.WalkSpells
import Derived.WalkLawsBesides
import Derived.Handy
import Derived.BigQuiet
import Derived.Deep.RegionHeld3
import Derived.Deep.DrawnRows
import Derived.Deep.QuietTactic
namespace Go.Proofs.YthjjbgpeajeneaaDoor
open Go Go.RowKit

theorem str_info : (Tryd.prog.info? 9).map (fun i => (i.zero, i.size, i.bytes)) = some (some (.string ByteArray.empty), 1, 16) := by kernel_rfl
/-- The words so far, and the one under way. -/
def wst (l : List UInt8) : List (List UInt8) × List UInt8 := l.foldl (fun st c => if c = 32 then (st.1 ++ [st.2], []) else (st.1, st.2 ++ [c])) ([], [])
theorem wst_snoc (l : List UInt8) (c : UInt8) : wst (l ++ [c]) = if c = 32 then ((wst l).1 ++ [(wst l).2], []) else ((wst l).1, (wst l).2 ++ [c]) := by simp [wst]
theorem wst_bd : ∀ (l : List UInt8) (st : List (List UInt8) × List UInt8), (l.foldl (fun st c => if c = 32 then (st.1 ++ [st.2], []) else (st.1, st.2 ++ [c])) st).1.length ≤ st.1.length + l.length ∧ (l.foldl (fun st c => if c = 32 then (st.1 ++ [st.2], []) else (st.1, st.2 ++ [c])) st).2.length ≤ st.2.length + l.length ∧ ∀ M, (∀ x ∈ st.1, x.length ≤ M) → st.2.length + l.length ≤ M → ∀ x ∈ (l.foldl (fun st c => if c = 32 then (st.1 ++ [st.2], []) else (st.1, st.2 ++ [c])) st).1, x.length ≤ M
  | [], st => ⟨by simp, by simp, fun M h _ => h⟩
  | c :: l, st => by
    rw [List.foldl_cons]
    by_cases hc : c = 32
    · rw [if_pos hc]
      obtain ⟨h1, h2, h3⟩ := wst_bd l (st.1 ++ [st.2], [])
      simp only [List.length_append, List.length_cons, List.length_nil] at h1 h2 ⊢
      refine ⟨by omega, by omega, fun M hM hb => h3 M (fun x hx => ?_) (by simp only [List.length_nil]; omega)⟩
      rcases List.mem_append.1 hx with hx | hx
      · exact hM x hx
      · have := List.mem_singleton.1 hx
        subst this
        omega
    · rw [if_neg hc]
      obtain ⟨h1, h2, h3⟩ := wst_bd l (st.1, st.2 ++ [c])
      simp only [List.length_append, List.length_cons, List.length_nil] at h1 h2 ⊢
      exact ⟨by omega, by omega, fun M hM hb => h3 M hM (by simp only [List.length_append, List.length_cons, List.length_nil]; omega)⟩
theorem wst_word : ∀ (a : List UInt8) (st : List (List UInt8) × List UInt8), (32 : UInt8) ∉ a → a.foldl (fun st c => if c = 32 then (st.1 ++ [st.2], []) else (st.1, st.2 ++ [c])) st = (st.1, st.2 ++ a)
  | [], st, _ => by simp
  | c :: a, st, h => by
    have hc : c ≠ 32 := fun e => h (by simp [e])
    have ha : (32 : UInt8) ∉ a := fun e => h (by simp [e])
    rw [List.foldl_cons, if_neg hc, wst_word a _ ha]
    simp
def mkB1 (l : List UInt8) : ByteArray := ⟨l.toArray⟩
def wsOf (l : List UInt8) : List ByteArray := (wst l).1.map mkB1 ++ [mkB1 (wst l).2]
theorem wsOf_len (l : List UInt8) : (wsOf l).length = (wst l).1.length + 1 := by simp [wsOf]
theorem wsOf_three (s : ByteArray) : ThreeW s (wsOf s.data.toList) := fun a b c ha hb hc hs => by
  have e : wst s.data.toList = ([a, b], c) := by
    unfold wst
    rw [hs, List.foldl_append, wst_word a _ ha, List.foldl_cons, if_pos rfl, List.foldl_append, wst_word b _ hb, List.foldl_cons, if_pos rfl, wst_word c _ hc]
    simp
  unfold wsOf
  rw [e]
  rfl
theorem wsOf_size (s : ByteArray) : (wsOf s.data.toList).length ≤ s.size + 1 ∧ ∀ x ∈ wsOf s.data.toList, x.size ≤ s.size := by
  obtain ⟨h1, h2, h3⟩ := wst_bd s.data.toList ([], [])
  have hl : s.data.toList.length = s.size := by simp
  rw [hl] at h1 h2 h3
  simp only [List.length_nil] at h1 h2 h3
  refine ⟨by rw [wsOf_len]; show (wst s.data.toList).1.length + 1 ≤ _; unfold wst; omega, fun x hx => ?_⟩
  unfold wsOf at hx
  rcases List.mem_append.1 hx with hx | hx
  · obtain ⟨y, hy, rfl⟩ := List.mem_map.1 hx
    have := h3 s.size (by simp) (by omega) y hy
    show y.toArray.size ≤ _
    rw [List.size_toArray]
    exact this
  · have := List.mem_singleton.1 hx
    subst this
    show (wst s.data.toList).2.toArray.size ≤ _
    rw [List.size_toArray]
    unfold wst
    omega
theorem take_wst {s : ByteArray} {k : Nat} (hk : k < s.size) : s.data.toList.take (k + 1) = s.data.toList.take k ++ [s[k]] := by
  have hk' : k < s.data.toList.length := by simpa using hk
  rw [List.take_succ_eq_append_getElem hk']
  simp [ByteArray.getElem_eq_getElem_data]
theorem extract_one {s : ByteArray} {k : Nat} (hk : k < s.size) : s.extract k (k + 1) = mkB1 [s[k]] := by
  have e : ∀ a b : ByteArray, a.data = b.data → a = b := fun ⟨_⟩ ⟨_⟩ h => congrArg ByteArray.mk h
  apply e
  apply Array.ext'
  have hk' : k < s.data.toList.length := by simpa using hk
  simp only [ByteArray.data_extract, Array.toList_extract, List.extract_eq_take_drop, mkB1]
  rw [List.drop_eq_getElem_cons hk', show k + 1 - k = 1 from by omega]
  simp [ByteArray.getElem_eq_getElem_data]
theorem mkB1_app (a b : List UInt8) : mkB1 a ++ mkB1 b = mkB1 (a ++ b) := by
  have e : ∀ a b : ByteArray, a.data = b.data → a = b := fun ⟨_⟩ ⟨_⟩ h => congrArg ByteArray.mk h
  apply e
  simp [mkB1, ByteArray.data_append]
theorem texts_set_last (ws : List ByteArray) (x y : ByteArray) : (texts (ws ++ [x])).set ws.length (.string y) = texts (ws ++ [y]) := by
  simp [texts, List.map_append]
theorem texts_last (ws : List ByteArray) (x : ByteArray) : (texts (ws ++ [x]))[ws.length]? = some (.string x) := by simp [texts]
/-- Words in new memory. -/
def GaveW (s : ByteArray) (w : World) (e : Ending) (w' : World) : Prop := ∃ ws : List ByteArray, Fresh 9 1 w ws.length (texts ws) e w' ∧ ThreeW s ws ∧ ws.length ≤ s.size + 1 ∧ ∀ x ∈ ws, x.size ≤ s.size
set_option maxRecDepth 100000 in
set_option maxHeartbeats 4000000 in
theorem l8Words_any (s : ByteArray) (w : World) (hs : s.size ≤ 1048578) : Calls Tryd.prog 35 #[.string s] w (GaveW s w) := by
  obtain ⟨i0, hi0, hz0, hz1, hz2⟩ := info_parts str_info
  have O0 := World.ownsRow_lit (base := w.heap.size) (e := 9) (size := 1) w #[.string ⟨#[]⟩] 1 (Nat.le_refl _) (by unfold maxLen; omega) rfl
  have B0 : Below w.heap.size w (w.alloc (.cells #[.string ⟨#[]⟩] 9)) := (Below.refl _ _).alloc (Nat.le_refl _) _
  go_enter Tryd.func35, Tryd.ntmps35
  go_wp2
  go_loopw [3, 4] (fun av kv wr => ∃ (k : Nat) (A : Option Addr) (c : Nat), av = .slice A (wsOf (s.data.toList.take k)).length c ∧ kv = .int .i64 (k : Int) ∧ k ≤ s.size ∧ Hid (wr.ownsRow w.heap.size 9 1 (.slice A (wsOf (s.data.toList.take k)).length c) (wsOf (s.data.toList.take k)).length (texts (wsOf (s.data.toList.take k)))) ∧ Hid (Below w.heap.size w wr)) (fun _ kv _ => s.size - (intOf kv).toNat)
  case atStart => exact ⟨0, _, 1, rfl, rfl, Nat.zero_le _, O0, B0⟩
  case round =>
    obtain ⟨k, A, c, rfl, rfl, hk, HO, HB⟩ := hrel
    clear O0 B0
    by_cases hlt : k < s.size
    · have HT := Lib.hid (take_wst hlt)
      have hwl := wsOf_len (s.data.toList.take k)
      have hwb := (wst_bd (s.data.toList.take k) ([], [])).1
      have hwb2 := (wst_bd (s.data.toList.take k) ([], [])).2.1
      have htl : (s.data.toList.take k).length = k := by
        rw [List.length_take]
        have : s.data.toList.length = s.size := by simp
        omega
      rw [htl] at hwb hwb2
      have hwb : (wst (s.data.toList.take k)).1.length ≤ k := by unfold wst; simpa using hwb
      have hwb2 : (wst (s.data.toList.take k)).2.length ≤ k := by unfold wst; simpa using hwb2
      by_cases hsp : s[k] = 32
      · have hc : (s[k].toNat : Int) = 32 := by rw [hsp]; rfl
        have HW : Hid (wsOf (s.data.toList.take (k + 1)) = wsOf (s.data.toList.take k) ++ [⟨#[]⟩]) := by
          unfold Hid wsOf
          rw [HT.out, wst_snoc, if_pos hsp]
          simp [mkB1]
        have hwlb : (wsOf (s.data.toList.take k)).length ≤ k + 1 := by omega
        clear hsp HT hwb2 htl hwl hwb
        go_wp2_with (at_builtin; refine wpList_push _ rfl _ _ _ rfl w.heap.size 9 i0 _ 1 16 Tryd.underlying39 hi0 hz0 hz1 hz2 rfl (by omega) (by omega) A (wsOf (s.data.toList.take k)).length c 1 1 _ [.string ⟨#[]⟩] (HO.out.alloc _) rfl ⟨wr.heap.size, 0, none⟩ rfl rfl (fun j u hu => by
          have hj : j = 0 := by
            have := (List.getElem?_eq_some_iff.1 hu).1
            simp at this
            omega
          subst hj
          simp at hu
          rw [← hu]
          simp [Addr.add]) (by simp [Value.oneCell']) (by omega) (by omega) (by have := HB.out.size; simp; omega) ?_; intro A' c' w6 ho hg hat _)
        have HB6 := Lib.hid (below_push (HB.out.alloc HB.out.size (.cells #[.string ⟨#[]⟩] 9)) (HO.out.alloc (.cells #[.string ⟨#[]⟩] 9)) (Nat.le_refl _) (by have := HB.out.size; simp; omega) hg)
        have HO6 : Hid (w6.ownsRow w.heap.size 9 1 (.slice A' (wsOf (s.data.toList.take (k + 1))).length c') (wsOf (s.data.toList.take (k + 1))).length (texts (wsOf (s.data.toList.take (k + 1))))) := by
          unfold Hid
          rw [HW.out, List.length_append]
          have e : texts (wsOf (s.data.toList.take k) ++ [⟨#[]⟩]) = texts (wsOf (s.data.toList.take k)) ++ [.string ⟨#[]⟩] := by simp [texts]
          rw [e]
          exact ho
        have hl2 : (wsOf (s.data.toList.take k)).length + 1 = (wsOf (s.data.toList.take (k + 1))).length := by rw [HW.out, List.length_append]; rfl
        rw [hl2]
        clear ho hg hat HW hl2 HO HB
        go_wp2
        go_roundw
        case rel => exact ⟨k + 1, A', c', rfl, by go_num, by omega, HO6, HB6⟩
        case measure => simp [intOf]; omega
      · have hc : ((s[k].toNat : Int) == 32) = false := by
          simp only [beq_eq_false_iff_ne, ne_eq]
          intro h
          exact hsp (UInt8.toNat_inj.1 (by have : (32 : UInt8).toNat = 32 := rfl; omega))
        have HW : Hid (wsOf (s.data.toList.take (k + 1)) = (wst (s.data.toList.take k)).1.map mkB1 ++ [mkB1 (wst (s.data.toList.take k)).2 ++ s.extract k (k + 1)]) := by
          unfold Hid wsOf
          rw [HT.out, wst_snoc, if_neg hsp, extract_one hlt, mkB1_app]
        have HW0 : Hid (wsOf (s.data.toList.take k) = (wst (s.data.toList.take k)).1.map mkB1 ++ [mkB1 (wst (s.data.toList.take k)).2]) := rfl
        have hxs : (s.extract k (k + 1)).size ≤ 1 := by rw [ByteArray.size_extract]; omega
        have hls : (mkB1 (wst (s.data.toList.take k)).2).size ≤ k := by
          show (wst (s.data.toList.take k)).2.toArray.size ≤ k
          rw [List.size_toArray]
          exact hwb2
        have hml : ((wst (s.data.toList.take k)).1.map mkB1).length = (wst (s.data.toList.take k)).1.length := by simp
        obtain ⟨g, rfl, hg1, hg2⟩ := own_addr HO.out (by omega)
        have hpl : ((wst (s.data.toList.take k)).1.map mkB1).length ≤ 1048578 := by omega
        replace HO : Hid (wr.ownsRow w.heap.size 9 1 (.slice (some ⟨g, 0, none⟩) (((wst (s.data.toList.take k)).1.map mkB1).length + 1) c) (((wst (s.data.toList.take k)).1.map mkB1).length + 1) (texts ((wst (s.data.toList.take k)).1.map mkB1 ++ [mkB1 (wst (s.data.toList.take k)).2]))) := by
          have h := HO.out
          rw [HW0.out, List.length_append] at h
          exact h
        have hl2 : (wsOf (s.data.toList.take (k + 1))).length = (wsOf (s.data.toList.take k)).length := by rw [HW.out, HW0.out]; simp
        generalize hpre : (wst (s.data.toList.take k)).1.map mkB1 = pre at *
        generalize hlast : mkB1 (wst (s.data.toList.take k)).2 = last at *
        generalize hx : s.extract k (k + 1) = x at *
        have HXE := Lib.hid hx
        generalize hn : (wsOf (s.data.toList.take k)).length = n at *
        have hnm : n = pre.length + 1 := by omega
        clear hsp HT HW0 hpre hlast hx hwb hwb2 htl hwl hml
        subst hnm
        go_wp2
        refine wp_region_facts (fun i v _ => match i with
          | 0 => v = .slice (some ⟨g, 0, none⟩) (pre.length + 1) c
          | 1 => v = .slice (some ⟨g, 0, none⟩) (pre.length + 1) c
          | 2 => v = .int .i64 ((pre.length : Int) + 1)
          | 3 => v = .int .i64 (pre.length : Int)
          | 4 => v = .slice (some ⟨g, 0, none⟩) (pre.length + 1) c
          | 5 => v = .slice (some ⟨g, 0, none⟩) (pre.length + 1) c
          | 6 => v = .int .i64 ((pre.length : Int) + 1)
          | 7 => v = .int .i64 (pre.length : Int)
          | 8 => v = .pointer (some ⟨g, pre.length, none⟩)
          | 9 => v = .string last
          | 10 => v = .string s
          | 11 => v = .int .i64 (k : Int)
          | 12 => v = .int .i64 (k : Int)
          | 13 => v = .int .i64 ((k : Int) + 1)
          | 14 => v = .string x
          | 15 => v = .string (last ++ x)
          | 16 => v = .pointer (some ⟨g, pre.length, none⟩)
          | _ => True)
          (fun fl vs wq => Below w.heap.size w wq ∧ (fl 17 = false → wq.ownsRow w.heap.size 9 1 (.slice (some ⟨g, 0, none⟩) (pre.length + 1) c) (pre.length + 1) (texts (pre ++ [last]))) ∧ (fl 17 = true → wq.ownsRow w.heap.size 9 1 (.slice (some ⟨g, 0, none⟩) (pre.length + 1) c) (pre.length + 1) (texts (pre ++ [last ++ x]))))
          (fun _ _ => True) (by kernel_rfl) (by kernel_rfl) ?_ ?_ ?_ ?_
        · intro i v u u' _ h
          exact h
        · intro fl vs hfl
          have z17 := hfl 17 (by simp)
          exact ⟨HB.out.drew, fun _ => HO.out, fun h => absurd h (by simp [z17])⟩
        · refine ⟨?_, ?_, ?_, ?_, ?_, ?_, ?_, ?_, ?_, ?_, ?_, ?_, ?_, ?_, ?_, ?_, ?_, ?_, trivial⟩
          all_goals intro fl vs w5 a1 hc' hG hfi hcl hp K hK
          · refine op_move rfl ?_
            rw [hc'.ev0 _ rfl]
            exact hK _ _ trivial rfl (by simpa [upd] using hG)
          · refine op_move rfl ?_
            rw [hc'.ev0 _ rfl]
            exact hK _ _ trivial rfl (by simpa [upd] using hG)
          · have h1 : vs 1 = _ := (hp 1 (by kernel_rfl)).2
            have e1 := hc'.ev 20 1 rfl
            rw [h1] at e1
            unfold Oper.wp execOp
            simp only [resolve, invoke, builtin, Sem.run_bind, Sem.run_pure, Result.andThen_ok, List.map_toArray, List.map_cons, List.map_nil, e1]
            go_simp
            exact hK _ _ trivial (by show Value.int _ _ = Value.int _ _; first | rfl | (congr 1; omega) | (rw [IntWalk.i64_in _ (by omega)] <;> first | rfl | (congr 1; omega))) (by simpa [upd] using hG)
          · have h2 : vs 2 = _ := (hp 2 (by kernel_rfl)).2
            have e2 := hc'.ev 21 2 rfl
            rw [h2] at e2
            unfold Oper.wp execOp
            simp only [e2]
            go_simp
            exact hK _ _ trivial (by show Value.int _ _ = Value.int _ _; first | rfl | (congr 1; omega) | (rw [IntWalk.i64_in _ (by omega)] <;> first | rfl | (congr 1; omega))) (by simpa [upd] using hG)
          · refine op_move rfl ?_
            rw [hc'.ev0 _ rfl]
            exact hK _ _ trivial rfl (by simpa [upd] using hG)
          · refine op_move rfl ?_
            rw [hc'.ev0 _ rfl]
            exact hK _ _ trivial rfl (by simpa [upd] using hG)
          · have h5 : vs 5 = _ := (hp 5 (by kernel_rfl)).2
            have e5 := hc'.ev 24 5 rfl
            rw [h5] at e5
            unfold Oper.wp execOp
            simp only [resolve, invoke, builtin, Sem.run_bind, Sem.run_pure, Result.andThen_ok, List.map_toArray, List.map_cons, List.map_nil, e5]
            go_simp
            exact hK _ _ trivial (by show Value.int _ _ = Value.int _ _; first | rfl | (congr 1; omega) | (rw [IntWalk.i64_in _ (by omega)] <;> first | rfl | (congr 1; omega))) (by simpa [upd] using hG)
          · have h6 : vs 6 = _ := (hp 6 (by kernel_rfl)).2
            have e6 := hc'.ev 25 6 rfl
            rw [h6] at e6
            unfold Oper.wp execOp
            simp only [e6]
            go_simp
            exact hK _ _ trivial (by show Value.int _ _ = Value.int _ _; first | rfl | (congr 1; omega) | (rw [IntWalk.i64_in _ (by omega)] <;> first | rfl | (congr 1; omega))) (by simpa [upd] using hG)
          · have h4 : vs 4 = _ := (hp 4 (by kernel_rfl)).2
            have h7 : vs 7 = _ := (hp 7 (by kernel_rfl)).2
            have e4 := hc'.ev 23 4 rfl
            have e7 := hc'.ev 26 7 rfl
            rw [h4] at e4
            rw [h7] at e7
            unfold Oper.wp execOp
            simp only [e4, e7]
            have y0 : (0 : Int) ≤ (pre.length : Int) := by omega
            have y1 : (pre.length : Int) < ((pre.length + 1 : Nat) : Int) := by omega
            have y2 : (pre.length : Int) < (pre.length : Int) + 1 := by omega
            go_simp
            exact hK _ _ trivial (rfl) (by simpa [upd] using hG)
          · have h8 : vs 8 = _ := (hp 8 (by kernel_rfl)).2
            have e8 := hc'.ev 27 8 rfl
            rw [h8] at e8
            have hfi9 : fl 9 = false := hfi
            have n15 : fl 15 = false := by cases h : fl 15 with
              | false => rfl
              | true => have := hcl 15 9 (by kernel_rfl) h; rw [hfi9] at this; cases this
            have n17 : fl 17 = false := by cases h : fl 17 with
              | false => rfl
              | true => have := hcl 17 15 (by kernel_rfl) h; rw [n15] at this; cases this
            have hcell : w5.cell? ⟨g, pre.length, none⟩ = some (.string last) := ((hG.2.1 n17).cellAt pre.length (by omega)).trans (texts_last pre last)
            unfold Oper.wp execOp
            simp only [e8]
            go_simp
            exact hK _ _ trivial rfl (by simpa [upd] using hG)
          · refine op_move rfl ?_
            rw [hc'.ev0 _ rfl]
            exact hK _ _ trivial rfl (by simpa [upd] using hG)
          · refine op_move rfl ?_
            rw [hc'.ev0 _ rfl]
            exact hK _ _ trivial rfl (by simpa [upd] using hG)
          · refine op_move rfl ?_
            rw [hc'.ev0 _ rfl]
            exact hK _ _ trivial rfl (by simpa [upd] using hG)
          · have h12 : vs 12 = _ := (hp 12 (by kernel_rfl)).2
            have e12 := hc'.ev 31 12 rfl
            rw [h12] at e12
            unfold Oper.wp execOp
            simp only [e12]
            go_simp
            exact hK _ _ trivial (by show Value.int _ _ = Value.int _ _; first | rfl | (congr 1; omega) | (rw [IntWalk.i64_in _ (by omega)] <;> first | rfl | (congr 1; omega))) (by simpa [upd] using hG)
          · have h10 : vs 10 = _ := (hp 10 (by kernel_rfl)).2
            have h11 : vs 11 = _ := (hp 11 (by kernel_rfl)).2
            have h13 : vs 13 = _ := (hp 13 (by kernel_rfl)).2
            have e10 := hc'.ev 29 10 rfl
            have e11 := hc'.ev 30 11 rfl
            have e13 := hc'.ev 32 13 rfl
            rw [h10] at e10
            rw [h11] at e11
            rw [h13] at e13
            unfold Oper.wp execOp
            simp only [e10, e11, e13, Option.map_some, Option.map_none]
            have y0 : (0 : Int) ≤ (k : Int) := by omega
            have y1 : (k : Int) ≤ (k : Int) + 1 := by omega
            have y2 : (k : Int) + 1 ≤ (s.size : Int) := by omega
            go_simp
            refine hK _ _ trivial ?_ (by simpa [upd] using hG)
            show Value.string _ = Value.string x
            rw [← HXE.out]
            try rfl
          · have h9 : vs 9 = _ := (hp 9 (by kernel_rfl)).2
            have h14 : vs 14 = _ := (hp 14 (by kernel_rfl)).2
            have e9 := hc'.ev 28 9 rfl
            have e14 := hc'.ev 33 14 rfl
            rw [h9] at e9
            rw [h14] at e14
            unfold Oper.wp execOp
            simp only [e9, e14]
            have y0 : ¬ 9223372036854775807 < last.size + x.size := by omega
            go_simp
            exact hK _ _ trivial (rfl) (by simpa [upd] using hG)
          · have h0 : vs 0 = _ := (hp 0 (by kernel_rfl)).2
            have h3 : vs 3 = _ := (hp 3 (by kernel_rfl)).2
            have e0 := hc'.ev 19 0 rfl
            have e3 := hc'.ev 22 3 rfl
            rw [h0] at e0
            rw [h3] at e3
            unfold Oper.wp execOp
            simp only [e0, e3]
            have y0 : (0 : Int) ≤ (pre.length : Int) := by omega
            have y1 : (pre.length : Int) < ((pre.length + 1 : Nat) : Int) := by omega
            have y2 : (pre.length : Int) < (pre.length : Int) + 1 := by omega
            go_simp
            exact hK _ _ trivial (rfl) (by simpa [upd] using hG)
          · have h16 : vs 16 = _ := (hp 16 (by kernel_rfl)).2
            have h15 : vs 15 = _ := (hp 15 (by kernel_rfl)).2
            have e16 := hc'.ev 35 16 rfl
            have e15 := hc'.ev 34 15 rfl
            rw [h16] at e16
            rw [h15] at e15
            obtain ⟨g1, g2, g3⟩ := hG
            have O := g2 hfi
            have hcell : w5.cell? ⟨g, pre.length, none⟩ = some (.string last) := (O.cellAt pre.length (by omega)).trans (texts_last pre last)
            have hfr : w5.frozen? ⟨g, pre.length, none⟩ = false := O.frozenAt pre.length
            have hst := O.stored pre.length (.string (last ++ x))
            rw [texts_set_last] at hst
            unfold Oper.wp execOp
            simp only [e16, e15]
            go_simp
            exact hK undef _ trivial trivial ⟨g1.setCell (p := ⟨g, pre.length, none⟩) hg1 _, fun h => by simp [upd] at h, fun _ => hst.1⟩
        · intro fl vs w5 hfl hG hF
          have HB5 := Lib.hid hG.1
          have HO5 := Lib.hid (hG.2.2 (hfl 17 (by simp)))
          rw [← HW.out] at HO5
          clear hG hF hfl HW HXE HO HB
          simp only [fill]
          go_simp
          rw [← hl2]
          rw [← hl2] at HO5
          go_wp2
          go_roundw
          case rel => exact ⟨k + 1, _, c, rfl, by go_num, by omega, HO5, HB5⟩
          case measure => simp [intOf]; omega
    · obtain rfl : k = s.size := by omega
      have hfull : s.data.toList.take s.size = s.data.toList := List.take_of_length_le (by simp)
      rw [hfull] at HO
      have HF := Lib.hid hfull
      clear hfull
      have HWZ := Lib.hid (wsOf_size s)
      go_wp2
      go_ret
      refine ⟨wsOf s.data.toList, ⟨A, c, congrArg (fun l => Ending.returned (Value.slice A (wsOf l).length c)) HF.out, HO.out, HB.out⟩, wsOf_three s, HWZ.out.1, HWZ.out.2⟩
end Go.Proofs.YthjjbgpeajeneaaDoor
