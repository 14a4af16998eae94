/- Contract of the program's ReadScript. Condition: the size, and the package's variables. -/
import Derived.Test.YthjjbgpeajeneaaDoorRows
import Derived.Test.YthjjbgpeajeneaaDoorBase
import Derived.Test.YthjjbgpeajeneaaDoorBase2
import Derived.Test.YthjjbgpeajeneaaDoorIn
import Derived.Test.YthjjbgpeajeneaaDoorPart
import Derived.Test.YthjjbgpeajeneaaDoorScrV
import Derived.Test.YthjjbgpeajeneaaDoorScr3
import Derived.Test.YthjjbgpeajeneaaDoorDec
import Derived.Test.YthjjbgpeajeneaaDoorDecS
import Derived.Test.YthjjbgpeajeneaaDoorStx
import Derived.Test.YthjjbgpeajeneaaDoorStf
import Derived.Test.YthjjbgpeajeneaaDoorStI
import Derived.Test.YthjjbgpeajeneaaDoorLibR
import Derived.WalkKit
import Derived.WalkSpells
import Derived.WalkLawsBesides
import Derived.Handy
import Derived.BigQuiet
import Derived.Deep.RegionHeld3
import Derived.Deep.DrawnRows
import Derived.Deep.QuietTactic
import Derived.Lib.Split
namespace Go.Proofs.YthjjbgpeajeneaaDoor
open Go Go.RowKit

theorem rpart_info : (Tryd.prog.info? 41).map (fun i => (i.zero, i.size, i.bytes)) = some (some (.agg #[Value.int .i64 0, Value.int .i64 0]), 2, 16) := by kernel_rfl
theorem split2 {a b c : List UInt8} (ha : (32 : UInt8) ∉ a) (hb : (32 : UInt8) ∉ b) : Lib.splitK [32] 0 2 (a ++ 32 :: (b ++ 32 :: c)) = [a, b, c] := by
  have i1 := index_at a (b ++ 32 :: c) ha
  have i2 := index_at b c hb
  have e1 : (a ++ 32 :: (b ++ 32 :: c)).drop (a.length + 1) = b ++ 32 :: c := by simp
  have e2 : (b ++ 32 :: c).drop (b.length + 1) = c := by simp
  have n1 : ((a.length : Int) == -1) = false := by simp
  have n2 : ((b.length : Int) == -1) = false := by simp
  simp only [Lib.splitK, i1, n1, Bool.false_eq_true, if_false, Int.toNat_natCast, Nat.add_zero, List.length_singleton, e1, i2, n2, e2]
  simp
theorem map_list_inj : ∀ (x y : List ByteArray), x.map (fun b : ByteArray => b.data.toList) = y.map (fun b : ByteArray => b.data.toList) → x = y
  | [], [], _ => rfl
  | [], _ :: _, h => by cases h
  | _ :: _, [], h => by cases h
  | a :: x, b :: y, h => by
    simp only [List.map_cons, List.cons.injEq] at h
    rw [map_list_inj x y h.2, bytes_eq h.1]
theorem splitN_any3 (s : ByteArray) : ThreeW s (Lib.splitB ⟨#[32]⟩ 0 (min 4 (s.size + 1) - 1) s) := fun a b c ha hb hc hs => by
  by_cases h3 : 3 ≤ s.size
  · exact splitN_three s h3 a b c ha hb hc hs
  · have hl : s.data.toList.length = s.size := by simp
    rw [hs] at hl
    simp only [List.length_append, List.length_cons] at hl
    have e : min 4 (s.size + 1) - 1 = 2 := by omega
    rw [e]
    have h := Lib.splitB_data ⟨#[32]⟩ 0 2 s
    have h2 : (⟨#[32]⟩ : ByteArray).data.toList = [32] := rfl
    rw [h2, hs, split2 ha hb] at h
    exact map_list_inj _ _ (by rw [h]; simp)
theorem splitB_sizes : ∀ (k : Nat) (s : ByteArray), ∀ x ∈ Lib.splitB ⟨#[32]⟩ 0 k s, x.size ≤ s.size
  | 0, s, x, h => by
    have := List.mem_singleton.1 h
    subst this
    exact Nat.le_refl _
  | k + 1, s, x, h => by
    unfold Lib.splitB at h
    split at h
    · have := List.mem_singleton.1 h
      subst this
      exact Nat.le_refl _
    · rcases List.mem_cons.1 h with h | h
      · subst h
        rw [ByteArray.size_extract]
        omega
      · have := splitB_sizes k _ x h
        rw [ByteArray.size_extract] at this
        omega
/-- Words in a block of strings. -/
def SplitRes (s : ByteArray) (w : World) (e : Ending) (w' : World) : Prop := ∃ (ws : List ByteArray) (c : Nat) (C : Array Value), e = .returned (.slice (some ⟨w.heap.size, 0, none⟩) ws.length c) ∧ Blk w' w.heap.size 9 C ∧ (∀ j (h : j < ws.length), C[j]? = some (.string ws[j])) ∧ Below w.heap.size w w' ∧ ThreeW s ws ∧ ws.length ≤ 4 ∧ (∀ x ∈ ws, x.size ≤ s.size)
theorem splitN_any (s : ByteArray) (w : World) (hs : s.size ≤ 1048578) (hL : LibW w) : Calls Tryd.prog 31 #[.string s, .string ⟨#[32]⟩, .int .i64 4] w (SplitRes s w) := by
  obtain ⟨m, hm⟩ := hL.ml
  refine (Tryd.strings_SplitN s ⟨#[32]⟩ 4 m w (by omega) hm (by decide) (by omega) (by omega)).mono ?_
  rintro e w' ⟨rfl, hw⟩
  have hlen := Lib.splitB_length_le ⟨#[32]⟩ 0 (min 4 (s.size + 1) - 1) s
  refine ⟨_, _, _, rfl, by rw [hw]; exact Blk.new _ _ _, fun j h => ?_, by rw [hw]; exact (Below.refl _ _).alloc (Nat.le_refl _) _, splitN_any3 s, by omega, splitB_sizes _ _⟩
  unfold Lib.cellsOf
  rw [List.getElem?_toArray, List.getElem?_append_left (by simpa using h), List.getElem?_map, List.getElem?_eq_getElem h]
  rfl
theorem kwsIdx_bd (x : ByteArray) : -1 ≤ Lib.idxOfS kws x ∧ Lib.idxOfS kws x ≤ 2 := by
  simp only [Lib.idxOfS, kws, Lib.idxFromS]
  split
  · omega
  · split
    · omega
    · split <;> omega
theorem kwIndex_any (x : ByteArray) (w : World) (h : KwOk w) : Calls Tryd.prog 34 #[.slice (some ⟨0, 0, none⟩) 3 3, .string x] w fun e w' => e = .returned (.int .i64 (Lib.idxOfS kws x)) ∧ w' = w :=
  Tryd.slices_Index_string 0 0 3 3 kws x w (by decide) (by omega) (fun j hj => by
    have hj3 : j < 3 := hj
    rw [Nat.zero_add]
    rcases (by omega : j = 0 ∨ j = 1 ∨ j = 2) with rfl | rfl | rfl
    · exact h 1 (by omega) (by omega)
    · exact h 2 (by omega) (by omega)
    · exact h 3 (by omega) (by omega))
/-- A script that was read. -/
def ReadScr (s : ByteArray) (w : World) (e : Ending) (w' : World) : Prop := ∃ (A : Option Addr) (c : Nat) (ps : List Prt) (b : Bool), e = .returned (.tuple #[.slice A ps.length c, .bool b]) ∧ IsScr s ps b ∧ w'.ownsRow w.heap.size 41 2 (.slice A ps.length c) ps.length (ps.flatMap Prt.cells) ∧ Below w.heap.size w w'
theorem ReadScr.no {s : ByteArray} {w w' : World} (h : IsScr s [] false) (b : Below w.heap.size w w') : ReadScr s w (.returned (.tuple #[.slice none 0 0, .bool false])) w' := ⟨none, 0, [], false, rfl, h, ⟨rfl, .inl ⟨rfl, rfl⟩⟩, b⟩
set_option maxRecDepth 100000 in
set_option maxHeartbeats 2000000 in
theorem implReadScr_any (s : ByteArray) (w : World) (hs : s.size ≤ 1048578) (hL : LibW w) (hK : KwOk w) : Calls Tryd.prog 15 #[.string s] w (ReadScr s w) := by
  obtain ⟨i0, hi0, hz0, hz1, hz2⟩ := info_parts rpart_info
  have B0 := Lib.hid ((Below.refl w.heap.size w).alloc (Nat.le_refl _) (.cells #[] 41))
  have O0 := Lib.hid (World.ownsRow_lit (base := w.heap.size) (e := 41) (size := 2) w #[] 0 (Nat.le_refl _) (by unfold maxLen; omega) rfl)
  have HL := Lib.hid hL
  have HK := Lib.hid hK
  clear hL hK
  go_enter Tryd.func15, Tryd.ntmps15
  go_wp2_with fail
  refine (splitN_any s _ hs (HL.out.below B0.out)).mono ?_
  rintro e w1 ⟨ws, cw, C, rfl, hblk, hC, hb1, h3, hw4, hwsz⟩
  have HB1 := Lib.hid (B0.out.trans (hb1.mono (by simp)))
  have HO1 := Lib.hid (own_below O0.out hb1)
  have HK1 := Lib.hid hblk
  have HC := Lib.hid hC
  have HW3 := Lib.hid h3
  have HWS := Lib.hid hwsz
  generalize hh : (w.alloc (.cells #[] 41)).heap.size = h at *
  have hhw : w.heap.size < h := by rw [← hh]; simp
  clear hblk hC hb1 h3 hwsz B0 O0 hh
  go_wp2
  go_loopw [4, 16] (fun av kv wr => ∃ (k : Nat) (A : Option Addr) (c : Nat) (ps : List Prt), av = .slice A ps.length c ∧ kv = .int .i64 (k : Int) ∧ k ≤ ws.length ∧ ps.length ≤ k ∧ Hid (PrtsRead (ws.take k) ps) ∧ Hid (wr.ownsRow w.heap.size 41 2 (.slice A ps.length c) ps.length (ps.flatMap Prt.cells)) ∧ Hid (Blk wr h 9 C) ∧ Hid (Below w.heap.size w wr)) (fun _ kv _ => ws.length - (intOf kv).toNat)
  case atStart => exact ⟨0, _, 0, [], rfl, rfl, Nat.zero_le _, Nat.le_refl _, PrtsRead.nil, HO1, HK1, HB1⟩
  case round =>
    obtain ⟨k, A, c, ps, rfl, rfl, hk, hpk, HP, HO, HKB, HB⟩ := hrel
    clear HO1 HK1 HB1
    by_cases hlt : k < ws.length
    · have hcell := (HKB.out.cell k).trans (HC.out k hlt)
      have hxs := HWS.out ws[k] (List.getElem_mem _)
      have HBAD : Hid ((∀ n, Lib.atoiAll (cutB ws[k] 58).data.toList ≠ .ok n) → IsScr s [] false) := fun hb => implScr_bad HW3.out hlt hb
      have HOK : Hid (∀ n, Lib.atoiAll (cutB ws[k] 58).data.toList = .ok n → PrtsRead (ws.take (k + 1)) (ps ++ [⟨1 + Lib.idxOfS kws (cutA ws[k] 58), n⟩])) := fun n hn => by
        rw [List.take_succ_eq_append_getElem hlt]
        exact HP.out.snoc ⟨hn, rfl⟩
      have HC1 := Lib.hid (fun wq hl => cut_any ws[k] 58 wq (by omega) hl)
      have hbs := cutB_size ws[k] 58
      have HC2 := Lib.hid (fun wq hl => atoi_any (cutB ws[k] 58) wq (by omega) hl)
      have HC3 := Lib.hid (fun wq hl => kwIndex_any (cutA ws[k] 58) wq hl)
      have hzb := kwsIdx_bd (cutA ws[k] 58)
      unfold AtoiRes at HC2
      generalize hx : ws[k] = x at *
      generalize hca : cutA x 58 = ca at *
      generalize hcb : cutB x 58 = cb at *
      generalize hz : Lib.idxOfS kws ca = z at *
      clear hx hca hcb hz hbs HP
      go_wp2_with fail
      refine (HC1.out _ (HL.out.below HB.out)).mono ?_
      rintro e w3 ⟨z3, rfl, b3⟩
      have HB3 := Lib.hid (HB.out.trans (b3.mono HB.out.size))
      have HO3 := Lib.hid (own_below HO.out b3)
      have HK3 := Lib.hid (HKB.out.below b3 HKB.out.lt)
      clear b3 HB HO HKB HC1 hcell
      go_wp2_with fail
      refine (HC2.out _ (HL.out.below HB3.out)).mono ?_
      rintro e w4 ⟨n, ev, rfl, b4, hev⟩
      have HB4 := Lib.hid (HB3.out.trans (b4.mono HB3.out.size))
      have HO4 := Lib.hid (own_below HO3.out b4)
      have HK4 := Lib.hid (HK3.out.below b4 HK3.out.lt)
      clear b4 HB3 HO3 HK3 HC2
      rcases hev with ⟨rfl, ha⟩ | ⟨⟨t, a, rfl⟩, hna⟩
      · have HP2 := Lib.hid (HOK.out n ha)
        clear ha HOK HBAD
        go_wp2_with fail
        refine (HC3.out _ (HK.out.below HB4.out)).mono ?_
        rintro e w5 ⟨rfl, hw5⟩
        subst hw5
        clear HC3
        have hne : Value.ownBlock (.slice A ps.length c) ≠ some h := own_blk_ne HO4.out (t := 9) HK4.out (by decide)
        have hob : Value.ownBlock (.slice A ps.length c) = A.map (·.block) := by cases A <;> rfl
        rw [hob] at hne
        have HNE := Lib.hid hne
        clear hne hob
        go_wp2_with (at_builtin; refine wpList_push _ rfl _ _ _ rfl w.heap.size 41 i0 _ 2 16 Tryd.underlying25 hi0 hz0 hz1 hz2 rfl (by omega) (by omega) A ps.length c 1 1 _ [.int .i64 (1 + z), .int .i64 n] (HO4.out.alloc _) rfl ⟨w5.heap.size, 0, none⟩ rfl rfl (fun j u hu => by
          have hj : j = 0 ∨ j = 1 := by
            have := (List.getElem?_eq_some_iff.1 hu).1
            simp at this
            omega
          rcases hj with rfl | rfl
          · simp at hu
            rw [← hu]
            simp [Addr.add]
          · simp at hu
            rw [← hu]
            simp [Addr.add]) (by simp [Value.oneCell']) (by omega) (by omega) (by have := HB4.out.size; simp; omega) ?_; intro A' c' w6 ho hg hat _)
        have HB6 := Lib.hid (below_push (HB4.out.alloc HB4.out.size (.cells #[.int .i64 (1 + z), .int .i64 n] 41)) (HO4.out.alloc (.cells #[.int .i64 (1 + z), .int .i64 n] 41)) (Nat.le_refl _) (by have := HB4.out.size; simp; omega) hg)
        have HK6 := Lib.hid ((HK4.out.alloc (.cells #[.int .i64 (1 + z), .int .i64 n] 41)).grown hg (fun e => HNE.out e.symm))
        have hl2 : ps.length + 1 = (ps ++ [(⟨1 + z, n⟩ : Prt)]).length := by simp
        have HO6 : Hid (w6.ownsRow w.heap.size 41 2 (.slice A' (ps ++ [(⟨1 + z, n⟩ : Prt)]).length c') (ps ++ [(⟨1 + z, n⟩ : Prt)]).length ((ps ++ [(⟨1 + z, n⟩ : Prt)]).flatMap Prt.cells)) := by
          unfold Hid
          rw [← hl2, List.flatMap_append]
          exact ho
        rw [hl2]
        have hpk2 : (ps ++ [(⟨1 + z, n⟩ : Prt)]).length ≤ k + 1 := by rw [← hl2]; omega
        generalize ps ++ [(⟨1 + z, n⟩ : Prt)] = qs at *
        clear ho hg hat hl2 HB4 HO4 HK4 HNE
        go_wp2
        go_roundw
        case rel => exact ⟨k + 1, A', c', qs, rfl, by go_num, by omega, hpk2, HP2, HO6, HK6, HB6⟩
        case measure => simp [intOf]; omega
      · have HF := Lib.hid (HBAD.out hna)
        clear hna HBAD HOK
        go_wp2
        refine bodyPost_ret (v := .tuple #[.slice none 0 0, .bool false]) (by simp [results, Tryd.results15, go_sem]) rfl ?_
        exact ReadScr.no HF.out HB4.out
    · obtain rfl : k = ws.length := by omega
      have hfull : ws.take ws.length = ws := List.take_of_length_le (Nat.le_refl _)
      rw [hfull] at HP
      clear hfull
      by_cases h0 : s.size = 0
      · have HF := Lib.hid (implScr_empty h0)
        have hemp : s = ⟨#[]⟩ := bytes_eq (by
          have h2 : s.data.toList.length = s.size := by simp
          exact List.eq_nil_of_length_eq_zero (by omega))
        have hq : s.toList.isEmpty = true := by rw [hemp, Go.ByteArray.toList_eq]; rfl
        clear hemp h0
        go_wp2
        all_goals
          refine bodyPost_ret (v := .tuple #[.slice none 0 0, .bool false]) (by simp [results, Tryd.results15, go_sem]) rfl ?_
          exact ReadScr.no HF.out HB.out
      · have hemp : s.toList.isEmpty = false := by
          rw [Go.ByteArray.toList_eq, List.isEmpty_eq_false_iff]
          intro h
          have h2 : s.data.toList.length = s.size := by simp
          rw [h] at h2
          simp at h2
          omega
        have HY : Hid (scrText ps = s → IsScr s ps true) := fun e => implScr_yes h0 e
        have HN : Hid (scrText ps ≠ s → IsScr s [] false) := fun e => implScr_no HW3.out HP.out e
        have HT := Lib.hid (implScrText_any (c1 := c) ps wr (Reads.of_own HO.out) (Nat.le_refl _) (by unfold maxLen; omega) (HK.out.below HB.out))
        clear h0
        go_wp2_with fail
        refine HT.out.mono ?_
        rintro e w7 ⟨rfl, b7⟩
        have HB7 := Lib.hid (HB.out.trans (b7.mono HB.out.size))
        have HO7 := Lib.hid (own_below HO.out b7)
        by_cases hts : scrText ps = s
        · have e1 : ((scrText ps).toList == s.toList) = true := by simp [hts]
          have HI := Lib.hid (HY.out hts)
          clear hts HY HN
          go_wp2
          refine bodyPost_ret (v := .tuple #[.slice A ps.length c, .bool true]) (by simp [results, Tryd.results15, go_sem]) rfl ?_
          exact ⟨A, c, ps, true, rfl, HI.out, HO7.out, HB7.out⟩
        · have e1 : ((scrText ps).toList == s.toList) = false := by
            rw [beq_eq_false_iff_ne]
            exact fun h => hts (toList_inj h)
          have HI := Lib.hid (HN.out hts)
          clear hts HY HN
          go_wp2
          refine bodyPost_ret (v := .tuple #[.slice none 0 0, .bool false]) (by simp [results, Tryd.results15, go_sem]) rfl ?_
          exact ReadScr.no HI.out HB7.out
end Go.Proofs.YthjjbgpeajeneaaDoor
