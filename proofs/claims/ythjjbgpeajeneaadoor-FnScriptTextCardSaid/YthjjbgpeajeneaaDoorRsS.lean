/- Contract of the reference's ReadScript. Condition: the size. -/
import Derived.Test.YthjjbgpeajeneaaDoorRows
import Derived.Test.YthjjbgpeajeneaaDoorBase
import Derived.Test.YthjjbgpeajeneaaDoorBase2
import Derived.Test.YthjjbgpeajeneaaDoorIn
import Derived.Test.YthjjbgpeajeneaaDoorPart
import Derived.Test.YthjjbgpeajeneaaDoorScrV
import Derived.Test.YthjjbgpeajeneaaDoorScrW
import Derived.Test.YthjjbgpeajeneaaDoorScr3
import Derived.Test.YthjjbgpeajeneaaDoorDec
import Derived.Test.YthjjbgpeajeneaaDoorNum
import Derived.Test.YthjjbgpeajeneaaDoorRead8
import Derived.Test.YthjjbgpeajeneaaDoorDecS
import Derived.Test.YthjjbgpeajeneaaDoorStx
import Derived.Test.YthjjbgpeajeneaaDoorStf
import Derived.Test.YthjjbgpeajeneaaDoorWds
import Derived.Test.YthjjbgpeajeneaaDoorStS
import Derived.Test.YthjjbgpeajeneaaDoorRsI
import Derived.WalkKit
import Derived.WalkSpells
import Derived.WalkLawsBesides
import Derived.Handy
import Derived.BigQuiet
import Derived.Deep.RegionHeld3
import Derived.Deep.DrawnRows
import Derived.Deep.QuietTactic
namespace Go.Proofs.YthjjbgpeajeneaaDoor
open Go Go.RowKit

/-- A kind's word and the colon. -/
def nmB (k : Int) : ByteArray := ⟨(kwL k ++ [58]).toArray⟩
theorem nm_cell {w : World} {g : Nat} {k : Int} (h : Blk w g 9 #[.string ⟨#[99, 111, 100, 101, 58]⟩, .string ⟨#[100, 97, 116, 97, 58]⟩, .string ⟨#[98, 108, 97, 110, 107, 58]⟩]) (h1 : 1 ≤ k) (h3 : k ≤ 3) : w.cell? ⟨g, k.toNat - 1, none⟩ = some (.string (nmB k)) := by
  rcases (by omega : k = 1 ∨ k = 2 ∨ k = 3) with rfl | rfl | rfl
  · exact h.cell 0
  · exact h.cell 1
  · exact h.cell 2
theorem nmB_size {k : Int} (h1 : 1 ≤ k) (h3 : k ≤ 3) : (nmB k).size = (kwL k).length + 1 ∧ (nmB k).size ≤ 6 := by
  have h := (kw_letters h1 h3).2.2
  have e : (nmB k).size = (kwL k).length + 1 := by
    show (kwL k ++ [58]).toArray.size = _
    rw [List.size_toArray]
    simp
  omega
theorem ext_take (x : ByteArray) (n : Nat) : (x.extract 0 n).data.toList = x.data.toList.take n := by simp [ByteArray.data_extract, Array.toList_extract, List.extract_eq_take_drop]
theorem ext_drop (x : ByteArray) (n : Nat) : (x.extract n x.size).data.toList = x.data.toList.drop n := by
  simp only [ByteArray.data_extract, Array.toList_extract, List.extract_eq_take_drop]
  rw [List.take_of_length_le (by simp)]
theorem nm_hit {x : ByteArray} {k : Int} (h : x.extract 0 (nmB k).size = nmB k) : x.data.toList = kwL k ++ 58 :: (x.extract (nmB k).size x.size).data.toList := by
  have h1 := congrArg (fun b : ByteArray => b.data.toList) h
  simp only [ext_take] at h1
  have h2 : (nmB k).data.toList = kwL k ++ [58] := by simp [nmB]
  rw [ext_drop]
  have h3 := List.take_append_drop (nmB k).size x.data.toList
  rw [h1, h2] at h3
  exact h3.symm.trans (by simp)
theorem nm_of {x : ByteArray} {q : Prt} (hq : prtOk q) (h : x.data.toList = prtL q) : (nmB q.kind).size < x.size ∧ x.extract 0 (nmB q.kind).size = nmB q.kind := by
  obtain ⟨h1, h2⟩ := nmB_size hq.1.1 hq.1.2
  have ha := prtOk_al hq
  have hd := (dec2_len (n := q.align.toNat) (by omega)).1
  have hl : x.data.toList.length = x.size := by simp
  have e : prtL q = (kwL q.kind ++ [58]) ++ dec2 q.align.toNat := by simp [prtL]
  refine ⟨?_, ?_⟩
  · rw [h, e] at hl
    simp only [List.length_append, List.length_cons, List.length_nil] at hl
    omega
  · apply bytes_eq
    rw [ext_take, h, e, h1]
    have h2 : (nmB q.kind).data.toList = kwL q.kind ++ [58] := by simp [nmB]
    rw [h2]
    exact List.take_left' (by simp)
/-- What the part is, the kinds before kd tried. -/
def SpecTill (x : ByteArray) (kd a b : Int) : Prop := ∀ q, prtOk q → x.data.toList = prtL q → q.kind < kd → (⟨a, b⟩ : Prt) = q
theorem SpecTill.start (x : ByteArray) : SpecTill x 1 0 0 := fun q hq _ h => by have := hq.1.1; omega
theorem SpecTill.hit {x : ByteArray} {kd n : Int} (h1 : 1 ≤ kd) (h3 : kd ≤ 3) (h : x.extract 0 (nmB kd).size = nmB kd) (hn : ReadsDec (x.extract (nmB kd).size x.size).data.toList n) : SpecTill x (kd + 1) kd n := fun q hq hx _ => by
  have e := nm_hit h
  rw [hx] at e
  unfold prtL at e
  obtain ⟨a, b⟩ := first_at e (kw_no hq.1.1 hq.1.2 (by decide)) (kw_no h1 h3 (by decide))
  have hk := kw_inj hq.1.1 hq.1.2 h1 h3 a
  have ha := prtOk_al hq
  have hv := hn.2 q.align.toNat (by omega) b.symm
  obtain ⟨qk, qa⟩ := q
  simp only at *
  congr 1
  · omega
  · omega
theorem SpecTill.miss {x : ByteArray} {kd a b : Int} (h : SpecTill x kd a b) (hne : ¬ ((nmB kd).size < x.size ∧ x.extract 0 (nmB kd).size = nmB kd)) : SpecTill x (kd + 1) a b := fun q hq hx hk => by
  by_cases he : q.kind = kd
  · exact absurd (by rw [← he]; exact nm_of hq hx) hne
  · exact h q hq hx (by omega)
theorem SpecTill.end_ {x : ByteArray} {a b : Int} (h : SpecTill x 4 a b) : SpecRead x.data.toList ⟨a, b⟩ := fun q hq hx => h q hq hx (by have := hq.1.2; omega)
def SpecsRead (ws : List ByteArray) (ps : List Prt) : Prop := ws.length = ps.length ∧ ∀ j (h1 : j < ws.length) (h2 : j < ps.length), SpecRead ws[j].data.toList ps[j]
theorem SpecsRead.nil : SpecsRead [] [] := ⟨rfl, fun j h => by simp at h⟩
theorem SpecsRead.snoc {ws : List ByteArray} {ps : List Prt} {w : ByteArray} {p : Prt} (h : SpecsRead ws ps) (hp : SpecRead w.data.toList p) : SpecsRead (ws ++ [w]) (ps ++ [p]) := by
  refine ⟨by simp [h.1], fun j h1 h2 => ?_⟩
  by_cases hj : j < ws.length
  · rw [List.getElem_append_left hj, List.getElem_append_left (by rw [← h.1]; exact hj)]
    exact h.2 j hj _
  · have e : j = ws.length := by simp at h1; omega
    subst e
    rw [List.getElem_append_right (Nat.le_refl _)]
    rw [List.getElem_append_right (by rw [← h.1]; exact Nat.le_refl _)]
    simpa [h.1] using hp
/-- The block of a row of strings. -/
theorem row_blk {w : World} {base n c : Nat} {A : Option Addr} {ws : List ByteArray} (h : w.ownsRow base 9 1 (.slice A n c) n (texts ws)) (h0 : 0 < n) : ∃ g C, A = some ⟨g, 0, none⟩ ∧ base ≤ g ∧ Blk w g 9 C ∧ ∀ j (hj : j < ws.length), C[j]? = some (.string ws[j]) := by
  rcases h.2 with ⟨_, h1⟩ | ⟨g, cap, cur, hv, hb, hh, _⟩
  · omega
  · injection hv with h1 h2 h3
    have hB : Blk w g 9 cur := hh
    refine ⟨g, cur, h1, hb, hB, fun j hj => ?_⟩
    have hn : ws.length = n := by
      have := h.1
      simpa [texts] using this
    subst h1
    have e := h.cellAt j (by omega)
    rw [hB.cell j] at e
    rw [e]
    exact texts_get _ _ hj
theorem own_setFar {w : World} {base size n c : Nat} {t : TypeId} {A : Option Addr} {xs : List Value} {p : Addr} (h : w.ownsRow base t size (.slice A n c) n xs) (hne : ∀ a, A = some a → a.block ≠ p.block) (u : Value) : (w.setCell p u).ownsRow base t size (.slice A n c) n xs :=
  own_other (A2 := some p) h ⟨rfl, rfl, rfl, by simp [World.setCell], fun k _ hk => Below.heap_setCell w p u k (fun e => hk (by rw [e]; rfl))⟩ (fun a a2 h1 h2 => by injection h2 with h2; subst h2; exact hne a h1)
theorem ReadScr.lit {s : ByteArray} {w w' : World} (h : IsScr s [] false) (b : Below w.heap.size w w') : ReadScr s w (.returned (.tuple #[.slice (some ⟨w'.heap.size, 0, none⟩) 0 0, .bool false])) (w'.alloc (.cells #[] 41)) :=
  ⟨some ⟨w'.heap.size, 0, none⟩, 0, [], false, rfl, h, World.ownsRow_lit (base := w.heap.size) (e := 41) (size := 2) w' #[] 0 b.size (by unfold maxLen; omega) rfl, b.alloc b.size _⟩
set_option maxRecDepth 100000 in
set_option maxHeartbeats 4000000 in
theorem specReadScr_any (s : ByteArray) (w : World) (hs : s.size ≤ 1048578) : Calls Tryd.prog 17 #[.string s] w (ReadScr s w) := by
  obtain ⟨i0, hi0, hz0, hz1, hz2⟩ := info_parts rpart_info
  have B0 := Lib.hid ((Below.refl w.heap.size w).alloc (Nat.le_refl _) (.cells #[] 41))
  have O0 := Lib.hid (World.ownsRow_lit (base := w.heap.size) (e := 41) (size := 2) w #[] 0 (Nat.le_refl _) (by unfold maxLen; omega) rfl)
  go_enter Tryd.func17, Tryd.ntmps17
  go_wp2_with fail
  refine (l8Words_any s _ hs).mono ?_
  rintro e w1 ⟨ws, ⟨AW, cW, rfl, hrow, hb1⟩, h3, hwl, hwsz⟩
  have HB1 := Lib.hid (B0.out.trans (hb1.mono (by simp)))
  have HO1 := Lib.hid (own_below O0.out hb1)
  have HR := Lib.hid hrow
  have HW3 := Lib.hid h3
  have HWS := Lib.hid hwsz
  clear hrow hb1 h3 hwsz B0 O0
  obtain ⟨n, hn⟩ : ∃ n, ws.length = n := ⟨_, rfl⟩
  have HN := Lib.hid hn
  rw [hn] at HR hwl ⊢
  clear hn
  by_cases hn3 : n = 3
  · subst hn3
    obtain ⟨wb, C, rfl, hwb, hblk, hC⟩ := row_blk HR.out (by omega)
    have HC := Lib.hid hC
    have HK1 := Lib.hid hblk
    clear hC hblk HR
    go_wp2
    go_loopw [4, 6] (fun av kv wr => ∃ (k : Nat) (A : Option Addr) (c : Nat) (ps : List Prt), av = .slice A ps.length c ∧ kv = .int .i64 (k : Int) ∧ k ≤ 3 ∧ ps.length ≤ k ∧ Hid (SpecsRead (ws.take k) ps) ∧ Hid (wr.ownsRow w.heap.size 41 2 (.slice A ps.length c) ps.length (ps.flatMap Prt.cells)) ∧ Hid (Blk wr wb 9 C) ∧ Hid (Below w.heap.size w wr)) (fun _ kv _ => 3 - (intOf kv).toNat)
    case atStart => exact ⟨0, _, 0, [], rfl, rfl, by omega, Nat.le_refl _, SpecsRead.nil, HO1, HK1, HB1⟩
    case round =>
      obtain ⟨k, A, c, ps, rfl, rfl, hk, hpk, HP, HO, HKB, HB⟩ := hrel
      clear HO1 HK1 HB1
      by_cases hlt : k < 3
      · have hltw : k < ws.length := by rw [HN.out]; exact hlt
        have hxs := HWS.out ws[k] (List.getElem_mem _)
        have HCK := Lib.hid (HC.out k hltw)
        have HEND : Hid (∀ a b : Int, SpecTill ws[k] 4 a b → SpecsRead (ws.take (k + 1)) (ps ++ [⟨a, b⟩])) := fun a b h => by
          rw [List.take_succ_eq_append_getElem hltw]
          exact HP.out.snoc h.end_
        generalize hx : ws[k] = x at *
        clear hx hltw HP
        have HKG := Lib.hid (Blk.new wr 41 #[.int .i64 0, .int .i64 0])
        have HBG := Lib.hid (HB.out.alloc HB.out.size (.cells #[.int .i64 0, .int .i64 0] 41))
        have HOG := Lib.hid (HO.out.alloc (.cells #[.int .i64 0, .int .i64 0] 41))
        have HKBG := Lib.hid (HKB.out.alloc (.cells #[.int .i64 0, .int .i64 0] 41))
        have hgw := HB.out.size
        have hup := Lib.hid (own_up HO.out)
        have hwbl := HKB.out.lt
        clear HB HO HKB
        go_wp2
        generalize wr.heap.size = g at *
        go_loopw [8] (fun kv wr => ∃ (kd a b : Int), kv = .int .i64 kd ∧ 1 ≤ kd ∧ kd ≤ 4 ∧ Hid (SpecTill x kd a b) ∧ Hid (Blk wr g 41 #[.int .i64 a, .int .i64 b]) ∧ Hid (wr.ownsRow w.heap.size 41 2 (.slice A ps.length c) ps.length (ps.flatMap Prt.cells)) ∧ Hid (Blk wr wb 9 C) ∧ Hid (Below w.heap.size w wr)) (fun kv _ => (4 - intOf kv).toNat)
        case atStart => exact ⟨1, 0, 0, rfl, by omega, by omega, SpecTill.start x, HKG, HOG, HKBG, HBG⟩
        case round =>
          obtain ⟨kd, a, b, rfl, hk1, hk4, HS, HKA, HO, HKB, HB⟩ := hrel
          clear HKG HBG HOG HKBG
          by_cases hk3 : kd ≤ 3
          · have hlit := nm_cell (Blk.new wr 9 #[.string ⟨#[99, 111, 100, 101, 58]⟩, .string ⟨#[100, 97, 116, 97, 58]⟩, .string ⟨#[98, 108, 97, 110, 107, 58]⟩]) hk1 hk3
            have hcellx := ((HKB.out.alloc (.cells #[.string ⟨#[99, 111, 100, 101, 58]⟩, .string ⟨#[100, 97, 116, 97, 58]⟩, .string ⟨#[98, 108, 97, 110, 107, 58]⟩] 9)).cell k).trans HCK.out
            have hns := (nmB_size hk1 hk3).2
            have HHIT : Hid (x.extract 0 (nmB kd).size = nmB kd → ∀ m, ReadsDec (x.extract (nmB kd).size x.size).data.toList m → SpecTill x (kd + 1) kd m) := fun h m hm => SpecTill.hit hk1 hk3 h hm
            have HMISS : Hid (¬ ((nmB kd).size < x.size ∧ x.extract 0 (nmB kd).size = nmB kd) → SpecTill x (kd + 1) a b) := fun h => HS.out.miss h
            generalize nmB kd = nm at *
            have HBL := Lib.hid (HB.out.alloc HB.out.size (.cells #[.string ⟨#[99, 111, 100, 101, 58]⟩, .string ⟨#[100, 97, 116, 97, 58]⟩, .string ⟨#[98, 108, 97, 110, 107, 58]⟩] 9))
            have HOL := Lib.hid (HO.out.alloc (.cells #[.string ⟨#[99, 111, 100, 101, 58]⟩, .string ⟨#[100, 97, 116, 97, 58]⟩, .string ⟨#[98, 108, 97, 110, 107, 58]⟩] 9))
            have HKAL := Lib.hid (HKA.out.alloc (.cells #[.string ⟨#[99, 111, 100, 101, 58]⟩, .string ⟨#[100, 97, 116, 97, 58]⟩, .string ⟨#[98, 108, 97, 110, 107, 58]⟩] 9))
            have HKBL := Lib.hid (HKB.out.alloc (.cells #[.string ⟨#[99, 111, 100, 101, 58]⟩, .string ⟨#[100, 97, 116, 97, 58]⟩, .string ⟨#[98, 108, 97, 110, 107, 58]⟩] 9))
            have hzi : wr.heap.size < (wr.alloc (.cells #[.string ⟨#[99, 111, 100, 101, 58]⟩, .string ⟨#[100, 97, 116, 97, 58]⟩, .string ⟨#[98, 108, 97, 110, 107, 58]⟩] 9)).heap.size := by simp
            clear HB HO HKA HKB HS
            by_cases hl : nm.size < x.size
            · have hli : (nm.size : Int) < (x.size : Int) := by omega
              have hli2 : (nm.size : Int) ≤ (x.size : Int) := by omega
              by_cases he : x.extract 0 nm.size = nm
              · have e1 : ((x.extract 0 nm.size).toList == nm.toList) = true := by rw [he]; simp
                have HH := Lib.hid (HHIT.out he)
                have hrs : (x.extract nm.size x.size).size ≤ 1048578 := by rw [ByteArray.size_extract]; omega
                have HRD := Lib.hid (fun wq => l8Read_any (x.extract nm.size x.size) wq hrs)
                clear he HHIT HMISS hrs
                go_wp2_with fail
                refine (HRD.out _).mono ?_
                rintro e w5 ⟨m, rfl, hm, b5⟩
                have HM := Lib.hid (HH.out m hm)
                have KA5 := HKAL.out.below b5 HKAL.out.lt
                have c0 := KA5.cell 0
                have c1 := KA5.cell 1
                have f0 := KA5.frozen 0
                have f1 := KA5.frozen 1
                have d1 := (KA5.set_ 0 (.int .i64 kd)).cell 1
                have g1 := (KA5.set_ 0 (.int .i64 kd)).frozen 1
                have HK6 := Lib.hid ((KA5.set_ 0 (.int .i64 kd)).set_ 1 (.int .i64 m))
                have HO6 := Lib.hid (own_setFar (p := ⟨g, 1, none⟩) (own_setFar (p := ⟨g, 0, none⟩) (own_below HOL.out b5) (fun z hz => by have := (hup.out z hz).2; show z.block ≠ g; omega) (.int .i64 kd)) (fun z hz => by have := (hup.out z hz).2; show z.block ≠ g; omega) (.int .i64 m))
                have HKB6 := Lib.hid (((HKBL.out.below b5 HKBL.out.lt).far (p := ⟨g, 0, none⟩) (by show wb ≠ g; omega) (.int .i64 kd)).far (p := ⟨g, 1, none⟩) (by show wb ≠ g; omega) (.int .i64 m))
                have HB6 := Lib.hid (((HBL.out.trans (b5.mono HBL.out.size)).setCell (p := ⟨g, 0, none⟩) hgw (.int .i64 kd)).setCell (p := ⟨g, 1, none⟩) hgw (.int .i64 m))
                clear hm b5 HBL HOL HKAL HKBL KA5 HH HRD
                go_wp2
                go_roundw
                case rel => exact ⟨kd + 1, kd, m, rfl, by omega, by omega, HM, HK6, HO6, HKB6, HB6⟩
                case measure => simp [intOf]; omega
              · have e1 : ((x.extract 0 nm.size).toList == nm.toList) = false := by
                  rw [beq_eq_false_iff_ne]
                  exact fun h => he (toList_inj h)
                have HM := Lib.hid (HMISS.out (fun h => he h.2))
                clear he HHIT HMISS
                go_wp2
                go_roundw
                case rel => exact ⟨kd + 1, a, b, rfl, by omega, by omega, HM, HKAL, HOL, HKBL, HBL⟩
                case measure => simp [intOf]; omega
            · have hli : ¬ (nm.size : Int) < (x.size : Int) := by omega
              have HM := Lib.hid (HMISS.out (fun h => hl h.1))
              clear hl HHIT HMISS
              go_wp2
              go_roundw
              case rel => exact ⟨kd + 1, a, b, rfl, by omega, by omega, HM, HKAL, HOL, HKBL, HBL⟩
              case measure => simp [intOf]; omega
          · obtain rfl : kd = 4 := by omega
            have HM := Lib.hid (HEND.out a b HS.out)
            have c0 := HKA.out.cell 0
            have c1 := HKA.out.cell 1
            have hne : Value.ownBlock (.slice A ps.length c) ≠ some wb := own_blk_ne HO.out (t := 9) HKB.out (by decide)
            have hob : Value.ownBlock (.slice A ps.length c) = A.map (·.block) := by cases A <;> rfl
            rw [hob] at hne
            have HNE := Lib.hid hne
            clear hne hob HS HEND
            go_wp2_with (at_builtin; refine wpList_push _ rfl _ _ _ rfl w.heap.size 41 i0 _ 2 16 Tryd.underlying25 hi0 hz0 hz1 hz2 rfl (by omega) (by omega) A ps.length c 1 1 _ [.int .i64 a, .int .i64 b] (HO.out.alloc _) rfl ⟨wr.heap.size, 0, none⟩ rfl rfl (fun j u hu => by
              have hj : j = 0 ∨ j = 1 := by
                have := (List.getElem?_eq_some_iff.1 hu).1
                simp at this
                omega
              rcases hj with rfl | rfl
              · simp at hu
                rw [← hu]
                simp [Addr.add]
              · simp at hu
                rw [← hu]
                simp [Addr.add]) (by simp [Value.oneCell']) (by omega) (by omega) (by have := HB.out.size; simp; omega) ?_; intro A' c' w6 ho hgr hat _)
            have HB6 := Lib.hid (below_push (HB.out.alloc HB.out.size (.cells #[.int .i64 a, .int .i64 b] 41)) (HO.out.alloc (.cells #[.int .i64 a, .int .i64 b] 41)) (Nat.le_refl _) (by have := HB.out.size; simp; omega) hgr)
            have HK6 := Lib.hid ((HKB.out.alloc (.cells #[.int .i64 a, .int .i64 b] 41)).grown hgr (fun e => HNE.out e.symm))
            have hl2 : ps.length + 1 = (ps ++ [(⟨a, b⟩ : Prt)]).length := by simp
            have HO6 : Hid (w6.ownsRow w.heap.size 41 2 (.slice A' (ps ++ [(⟨a, b⟩ : Prt)]).length c') (ps ++ [(⟨a, b⟩ : Prt)]).length ((ps ++ [(⟨a, b⟩ : Prt)]).flatMap Prt.cells)) := by
              unfold Hid
              rw [← hl2, List.flatMap_append]
              exact ho
            rw [hl2]
            have hpk2 : (ps ++ [(⟨a, b⟩ : Prt)]).length ≤ k + 1 := by rw [← hl2]; omega
            generalize ps ++ [(⟨a, b⟩ : Prt)] = qs at *
            clear ho hgr hat hl2 HB HO HKB HKA HNE c0 c1
            go_wp2
            go_roundw
            case rel => exact ⟨k + 1, A', c', qs, rfl, by go_num, by omega, hpk2, HM, HO6, HK6, HB6⟩
            case measure => simp [intOf]; omega
      · obtain rfl : k = 3 := by omega
        have HPF : Hid (SpecsRead ws ps) := by
          have h := HP.out
          rw [← HN.out, List.take_of_length_le (Nat.le_refl _)] at h
          exact h
        have HV := Lib.hid (specScriptValid_any (c1 := c) ps wr (Reads.of_own HO.out) (Nat.le_refl _) (by unfold maxLen; omega))
        have HT := Lib.hid (fun wq (hb : Below wr.heap.size wr wq) => specScrText_any (c1 := c) ps wq ((Reads.of_own HO.out).below hb) hb.size (by unfold maxLen; omega))
        have HNO : Hid (¬ (scriptOk ps = true ∧ scrText ps = s) → IsScr s [] false) := fun h => specScr_no HW3.out HPF.out.1.symm (fun j h1 h2 => HPF.out.2 j h1 h2) h
        have HYE : Hid (scriptOk ps = true → scrText ps = s → IsScr s ps true) := fun h1 h2 => .inl ⟨rfl, h1, h2⟩
        clear HP HPF
        go_wp2_with fail
        refine HV.out.mono ?_
        rintro e w7 ⟨rfl, b7⟩
        have HB7 := Lib.hid (HB.out.trans (b7.mono HB.out.size))
        have HO7 := Lib.hid (own_below HO.out b7)
        clear HV
        rcases Bool.eq_false_or_eq_true (scriptOk ps) with hv | hv
        · rw [hv]
          have HT2 := Lib.hid (HT.out w7 b7)
          clear HT b7
          go_wp2_with fail
          refine HT2.out.mono ?_
          rintro e w8 ⟨rfl, b8⟩
          have HB8 := Lib.hid (HB7.out.trans (b8.mono HB7.out.size))
          have HO8 := Lib.hid (own_below HO7.out b8)
          by_cases hts : scrText ps = s
          · have e1 : ((scrText ps).toList == s.toList) = true := by simp [hts]
            have HI := Lib.hid (HYE.out hv hts)
            clear hts HNO HYE hv
            go_wp2
            refine bodyPost_ret (v := .tuple #[.slice A ps.length c, .bool true]) (by simp [results, Tryd.results17, go_sem]) rfl ?_
            exact ⟨A, c, ps, true, rfl, HI.out, HO8.out, HB8.out⟩
          · have e1 : ((scrText ps).toList == s.toList) = false := by
              rw [beq_eq_false_iff_ne]
              exact fun h => hts (toList_inj h)
            have HI := Lib.hid (HNO.out (fun h => hts h.2))
            clear hts HNO HYE hv
            go_wp2
            refine bodyPost_ret (v := .tuple #[.slice (some ⟨w8.heap.size, 0, none⟩) 0 0, .bool false]) (by simp [results, Tryd.results17, go_sem]) rfl ?_
            exact ReadScr.lit HI.out HB8.out
        · rw [hv]
          have HI := Lib.hid (HNO.out (fun h => by rw [hv] at h; exact absurd h.1 (by simp)))
          clear HT b7 HNO HYE hv
          go_wp2
          refine bodyPost_ret (v := .tuple #[.slice (some ⟨w7.heap.size, 0, none⟩) 0 0, .bool false]) (by simp [results, Tryd.results17, go_sem]) rfl ?_
          exact ReadScr.lit HI.out HB7.out
  · have HI : Hid (IsScr s [] false) := specScr_len HW3.out (by rw [HN.out]; exact hn3)
    have hne3 : ((n : Int) == 3) = false := by simp; omega
    have HV := Lib.hid (specScriptValid_any (A := some ⟨w.heap.size, 0, none⟩) (c1 := 0) ([] : List Prt) w1 Reads.none_ (Nat.le_refl _) (by unfold maxLen; simp))
    have hv0 : scriptOk [] = false := rfl
    rw [hv0] at HV
    clear hn3 hv0
    go_wp2
    go_loopw [4, 6] (fun av kv wr => av = .slice (some ⟨w.heap.size, 0, none⟩) 0 0 ∧ kv = .int .i64 0 ∧ wr = w1) (fun _ _ _ => 0)
    case atStart => exact ⟨rfl, rfl, rfl⟩
    case round =>
      obtain ⟨rfl, rfl, rfl⟩ := hrel
      by_cases h0 : 0 < n
      · have h0i : (0 : Int) < (n : Int) := by omega
        go_wp2_with fail
        refine HV.out.mono ?_
        rintro e w7 ⟨rfl, b7⟩
        have HB7 := Lib.hid (HB1.out.trans (b7.mono HB1.out.size))
        go_wp2
        refine bodyPost_ret (v := .tuple #[.slice (some ⟨w7.heap.size, 0, none⟩) 0 0, .bool false]) (by simp [results, Tryd.results17, go_sem]) rfl ?_
        exact ReadScr.lit HI.out HB7.out
      · have h0i : ¬ (0 : Int) < (n : Int) := by omega
        go_wp2_with fail
        refine HV.out.mono ?_
        rintro e w7 ⟨rfl, b7⟩
        have HB7 := Lib.hid (HB1.out.trans (b7.mono HB1.out.size))
        go_wp2
        refine bodyPost_ret (v := .tuple #[.slice (some ⟨w7.heap.size, 0, none⟩) 0 0, .bool false]) (by simp [results, Tryd.results17, go_sem]) rfl ?_
        exact ReadScr.lit HI.out HB7.out
end Go.Proofs.YthjjbgpeajeneaaDoor
