/- Contracts of the two ChangesText. Condition: sizes. -/
import Derived.Test.YtdaamgonendkkaaRows
import Derived.Test.YtdaamgonendkkaaBase
import Derived.Test.YtdaamgonendkkaaBase2
import Derived.WalkKit
import Derived.WalkSpells
import Derived.WalkLawsBesides
import Derived.Handy
import Derived.BigQuiet
import Derived.Deep.RegionHeld3
import Derived.Deep.DrawnRows
import Derived.Deep.QuietTactic
namespace Go.Proofs.Ytdaamgonendkkaa
open Go Go.RowKit


def tagS (t : ByteArray) (xs : List ByteArray) : List ByteArray := xs.map fun s => t ++ s
theorem tagS_len (t : ByteArray) (xs : List ByteArray) : (tagS t xs).length = xs.length := by simp [tagS]
theorem tagS_take (t : ByteArray) (xs : List ByteArray) {k : Nat} (h : k < xs.length) : tagS t (xs.take (k + 1)) = tagS t (xs.take k) ++ [t ++ xs[k]] := by
  unfold tagS
  rw [List.take_succ_eq_append_getElem h, List.map_append]
  rfl
def chTexts (xs ys zs : List ByteArray) : List ByteArray := tagS ⟨#[43, 32]⟩ xs ++ tagS ⟨#[45, 32]⟩ ys ++ tagS ⟨#[33, 32]⟩ zs
theorem chTexts_len (xs ys zs : List ByteArray) : (chTexts xs ys zs).length = xs.length + ys.length + zs.length := by simp [chTexts, tagS]; omega
theorem text_info : (Try.prog.info? 9).map (fun i => (i.zero, i.size, i.bytes)) = some (some (.string ByteArray.empty), 1, 16) := by kernel_rfl

theorem own_empty1 (w : World) (o : Obj) (t : TypeId) : ((w.alloc o).alloc (.cells #[] t)).ownsRow (w.heap.size + 1) t 1 (.slice (some ⟨w.heap.size + 1, 0, none⟩) 0 0) 0 (texts []) := by
  have h := World.ownsRow_lit (base := w.heap.size + 1) (e := t) (size := 1) (w.alloc o) #[] 0 (by simp) (by unfold maxLen; omega) rfl
  have e : (w.alloc o).heap.size = w.heap.size + 1 := by simp
  rw [e] at h
  exact h


set_option maxRecDepth 100000 in
set_option maxHeartbeats 8000000 in
theorem implChangesText_any {A1 A2 A3 : Option Addr} {c1 c2 c3 B1 B2 B3 : Nat} (xs ys zs : List ByteArray) (w : World) (h1 : Reads w B1 1 A1 xs.length (texts xs)) (hB1 : B1 ≤ w.heap.size) (h2 : Reads w B2 1 A2 ys.length (texts ys)) (hB2 : B2 ≤ w.heap.size) (h3 : Reads w B3 1 A3 zs.length (texts zs)) (hB3 : B3 ≤ w.heap.size)
    (hm1 : xs.length ≤ 1048576) (hm2 : ys.length ≤ 1048576) (hm3 : zs.length ≤ 1048576) (hs1 : ∀ s ∈ xs, s.size ≤ 1048576) (hs2 : ∀ s ∈ ys, s.size ≤ 1048576) (hs3 : ∀ s ∈ zs, s.size ≤ 1048576) :
    Calls Try.prog 10 #[.agg #[.slice A1 xs.length c1, .slice A2 ys.length c2, .slice A3 zs.length c3]] w (Fresh 9 1 w (chTexts xs ys zs).length (texts (chTexts xs ys zs))) := by
  obtain ⟨i0, hi0, hz0, hz1, hz2⟩ := info_parts text_info
  have HS1 := Lib.hid hs1
  have HS2 := Lib.hid hs2
  have HS3 := Lib.hid hs3
  clear hs1 hs2 hs3
  go_enter Try.func10, Try.ntmps10
  go_wp2

  go_loopw [3, 14] (fun v iv wr => ∃ (k n : Nat) (A : Option Addr) (c : Nat) (pre : List ByteArray), k ≤ xs.length ∧ iv = .int .i64 k ∧ v = .slice A n c ∧ Below w.heap.size w wr ∧ wr.ownsRow (w.heap.size + 1) 9 1 (.slice A n c) n (texts pre) ∧ Blk wr w.heap.size 25 #[.slice A1 xs.length c1, .slice A2 ys.length c2, .slice A3 zs.length c3] ∧ n ≤ 0 + k ∧ w.heap.size + 1 ≤ wr.heap.size ∧ Hid (pre = [] ++ tagS ⟨#[43, 32]⟩ (xs.take k))) (fun _ iv _ => xs.length - (intOf iv).toNat)
  case atStart => exact ⟨0, 0, _, _, [], Nat.zero_le _, rfl, rfl, ((Below.refl _ _).alloc (Nat.le_refl _) _).alloc (by simp) _, own_empty1 w _ _, (Blk.new w _ _).alloc _, by omega, by simp, Lib.hid (by simp [tagS])⟩
  case round =>
    skip
    obtain ⟨k, n, A, c, pre, hk, rfl, rfl, hb, ho, hK, hn, hz, HP⟩ := hrel
    have e0 : wr.cell? ⟨w.heap.size, 0, none⟩ = some (.slice A1 xs.length c1) := hK.cell 0
    by_cases hlt : k < xs.length
    · obtain ⟨ad, u1, rfl, hbl, hx1, hc1⟩ := ((h1.more hB1).below hb).at_ hlt
      rw [texts_get _ _ hlt] at hx1
      injection hx1 with hx1
      subst hx1
      have hsk := HS1.out _ (List.getElem_mem hlt)
      have HO := Lib.hid ho
      have HB := Lib.hid hb
      have HK := Lib.hid hK
      clear ho hb hK
      go_wp2_with (at_builtin; refine wpList_push _ rfl (.tmp 18) (.tmp 21) _ rfl (w.heap.size + 1) 9 i0 _ 1 16 Try.underlying23 hi0 hz0 hz1 hz2 rfl (by omega) (by omega) A n c 1 1 (texts pre) [.string ((⟨#[43, 32]⟩ : ByteArray) ++ xs[k])] (by exact HO.out.alloc _) rfl ⟨wr.heap.size, 0, none⟩ rfl rfl (World.news_of_block (cs := #[.string ((⟨#[43, 32]⟩ : ByteArray) ++ xs[k])]) (t := 9) (fr := (0, 0)) (by exact heap_alloc_new wr _)) (by simp [Value.oneCell']) (by omega) (by omega) (by simp; omega) ?_; intro A' c' w1 hown1 hgrow hat hkeep)
      go_roundw
      case rel =>
        have ho1 : (wr.alloc (Obj.cells #[.string ((⟨#[43, 32]⟩ : ByteArray) ++ xs[k])] 9)).ownsRow (w.heap.size + 1) 9 1 (.slice A n c) n (texts pre) := HO.out.alloc _
        have hu := own_up ho1
        have hgs := hgrow.size
        refine ⟨k + 1, n + 1, A', c', pre ++ [(⟨#[43, 32]⟩ : ByteArray) ++ xs[k]], by omega, by go_num, rfl, ?_, ?_, ?_, by omega, by simp at hgs; omega, Lib.hid ?_⟩
        · have hb1 : Below w.heap.size w (wr.alloc (Obj.cells #[.string ((⟨#[43, 32]⟩ : ByteArray) ++ xs[k])] 9)) := HB.out.alloc HB.out.size _
          exact below_push hb1 ho1 (by omega) hb1.size (by exact ⟨hgrow.os, hgrow.tape, hgrow.output, hgrow.size, hgrow.block⟩)
        · have e : texts (pre ++ [(⟨#[43, 32]⟩ : ByteArray) ++ xs[k]]) = texts pre ++ [.string ((⟨#[43, 32]⟩ : ByteArray) ++ xs[k])] := by simp [texts]
          rw [e]
          exact hown1
        · refine (HK.out.alloc _).grown (by exact ⟨hgrow.os, hgrow.tape, hgrow.output, hgrow.size, hgrow.block⟩) ?_
          intro he
          cases hA : A with
          | none => rw [hA] at he; cases he
          | some a =>
            rw [hA] at he
            have h3 := hu a hA
            have h4 : w.heap.size = a.block := by simpa using he
            omega
        · rw [HP.out, tagS_take _ _ hlt]
          simp
      case measure => simp [intOf]; omega
    · skip
      have HPP : Hid (pre = tagS ⟨#[43, 32]⟩ xs ++ tagS ⟨#[45, 32]⟩ (ys.take 0)) := by
        have hx : xs.take k = xs := List.take_of_length_le (by omega)
        have hp := HP.out
        rw [hx] at hp
        rw [hp]
        simp [tagS, Hid]
      have e1 : wr.cell? ⟨w.heap.size, 1, none⟩ = some (.slice A2 ys.length c2) := hK.cell 1
      have HO := Lib.hid ho
      have HB := Lib.hid hb
      have HK := Lib.hid hK
      clear ho hb hK
      go_wp2
      obtain ⟨wo, rfl⟩ : ∃ wo : World, wo = wr := ⟨_, rfl⟩
      go_loopw [3, 27] (fun v iv wr => ∃ (k n : Nat) (A : Option Addr) (c : Nat) (pre : List ByteArray), k ≤ ys.length ∧ iv = .int .i64 k ∧ v = .slice A n c ∧ Below w.heap.size w wr ∧ wr.ownsRow (w.heap.size + 1) 9 1 (.slice A n c) n (texts pre) ∧ Blk wr w.heap.size 25 #[.slice A1 xs.length c1, .slice A2 ys.length c2, .slice A3 zs.length c3] ∧ n ≤ 0 + xs.length + k ∧ w.heap.size + 1 ≤ wr.heap.size ∧ Hid (pre = tagS ⟨#[43, 32]⟩ xs ++ tagS ⟨#[45, 32]⟩ (ys.take k))) (fun _ iv _ => ys.length - (intOf iv).toNat)
      case atStart => exact ⟨0, n, A, c, pre, Nat.zero_le _, rfl, rfl, HB.out, HO.out, HK.out, by omega, by omega, Lib.hid HPP.out⟩
      case round =>
        clear HB HO HK HPP
        obtain ⟨k, n, A, c, pre, hk, rfl, rfl, hb, ho, hK, hn, hz, HP⟩ := hrel
        have e1 : wr.cell? ⟨w.heap.size, 1, none⟩ = some (.slice A2 ys.length c2) := hK.cell 1
        by_cases hlt : k < ys.length
        · obtain ⟨ad, u1, rfl, hbl, hx1, hc1⟩ := ((h2.more hB2).below hb).at_ hlt
          rw [texts_get _ _ hlt] at hx1
          injection hx1 with hx1
          subst hx1
          have hsk := HS2.out _ (List.getElem_mem hlt)
          have HO := Lib.hid ho
          have HB := Lib.hid hb
          have HK := Lib.hid hK
          clear ho hb hK
          go_wp2_with (at_builtin; refine wpList_push _ rfl (.tmp 31) (.tmp 34) _ rfl (w.heap.size + 1) 9 i0 _ 1 16 Try.underlying23 hi0 hz0 hz1 hz2 rfl (by omega) (by omega) A n c 1 1 (texts pre) [.string ((⟨#[45, 32]⟩ : ByteArray) ++ ys[k])] (by exact HO.out.alloc _) rfl ⟨wr.heap.size, 0, none⟩ rfl rfl (World.news_of_block (cs := #[.string ((⟨#[45, 32]⟩ : ByteArray) ++ ys[k])]) (t := 9) (fr := (0, 0)) (by exact heap_alloc_new wr _)) (by simp [Value.oneCell']) (by omega) (by omega) (by simp; omega) ?_; intro A' c' w1 hown1 hgrow hat hkeep)
          go_roundw
          case rel =>
            have ho1 : (wr.alloc (Obj.cells #[.string ((⟨#[45, 32]⟩ : ByteArray) ++ ys[k])] 9)).ownsRow (w.heap.size + 1) 9 1 (.slice A n c) n (texts pre) := HO.out.alloc _
            have hu := own_up ho1
            have hgs := hgrow.size
            refine ⟨k + 1, n + 1, A', c', pre ++ [(⟨#[45, 32]⟩ : ByteArray) ++ ys[k]], by omega, by go_num, rfl, ?_, ?_, ?_, by omega, by simp at hgs; omega, Lib.hid ?_⟩
            · have hb1 : Below w.heap.size w (wr.alloc (Obj.cells #[.string ((⟨#[45, 32]⟩ : ByteArray) ++ ys[k])] 9)) := HB.out.alloc HB.out.size _
              exact below_push hb1 ho1 (by omega) hb1.size (by exact ⟨hgrow.os, hgrow.tape, hgrow.output, hgrow.size, hgrow.block⟩)
            · have e : texts (pre ++ [(⟨#[45, 32]⟩ : ByteArray) ++ ys[k]]) = texts pre ++ [.string ((⟨#[45, 32]⟩ : ByteArray) ++ ys[k])] := by simp [texts]
              rw [e]
              exact hown1
            · refine (HK.out.alloc _).grown (by exact ⟨hgrow.os, hgrow.tape, hgrow.output, hgrow.size, hgrow.block⟩) ?_
              intro he
              cases hA : A with
              | none => rw [hA] at he; cases he
              | some a =>
                rw [hA] at he
                have h3 := hu a hA
                have h4 : w.heap.size = a.block := by simpa using he
                omega
            · rw [HP.out, tagS_take _ _ hlt]
              simp
          case measure => simp [intOf]; omega
        · skip
          have HPP : Hid (pre = tagS ⟨#[43, 32]⟩ xs ++ tagS ⟨#[45, 32]⟩ ys ++ tagS ⟨#[33, 32]⟩ (zs.take 0)) := by
            have hx : ys.take k = ys := List.take_of_length_le (by omega)
            have hp := HP.out
            rw [hx] at hp
            rw [hp]
            simp [tagS, Hid]
          have e2 : wr.cell? ⟨w.heap.size, 2, none⟩ = some (.slice A3 zs.length c3) := hK.cell 2
          have HO := Lib.hid ho
          have HB := Lib.hid hb
          have HK := Lib.hid hK
          clear ho hb hK
          go_wp2
          obtain ⟨wo, rfl⟩ : ∃ wo : World, wo = wr := ⟨_, rfl⟩
          go_loopw [3, 40] (fun v iv wr => ∃ (k n : Nat) (A : Option Addr) (c : Nat) (pre : List ByteArray), k ≤ zs.length ∧ iv = .int .i64 k ∧ v = .slice A n c ∧ Below w.heap.size w wr ∧ wr.ownsRow (w.heap.size + 1) 9 1 (.slice A n c) n (texts pre) ∧ Blk wr w.heap.size 25 #[.slice A1 xs.length c1, .slice A2 ys.length c2, .slice A3 zs.length c3] ∧ n ≤ 0 + xs.length + ys.length + k ∧ w.heap.size + 1 ≤ wr.heap.size ∧ Hid (pre = tagS ⟨#[43, 32]⟩ xs ++ tagS ⟨#[45, 32]⟩ ys ++ tagS ⟨#[33, 32]⟩ (zs.take k))) (fun _ iv _ => zs.length - (intOf iv).toNat)
          case atStart => exact ⟨0, n, A, c, pre, Nat.zero_le _, rfl, rfl, HB.out, HO.out, HK.out, by omega, by omega, Lib.hid HPP.out⟩
          case round =>
            clear HB HO HK HPP
            obtain ⟨k, n, A, c, pre, hk, rfl, rfl, hb, ho, hK, hn, hz, HP⟩ := hrel
            have e2 : wr.cell? ⟨w.heap.size, 2, none⟩ = some (.slice A3 zs.length c3) := hK.cell 2
            by_cases hlt : k < zs.length
            · obtain ⟨ad, u1, rfl, hbl, hx1, hc1⟩ := ((h3.more hB3).below hb).at_ hlt
              rw [texts_get _ _ hlt] at hx1
              injection hx1 with hx1
              subst hx1
              have hsk := HS3.out _ (List.getElem_mem hlt)
              have HO := Lib.hid ho
              have HB := Lib.hid hb
              have HK := Lib.hid hK
              clear ho hb hK
              go_wp2_with (at_builtin; refine wpList_push _ rfl (.tmp 44) (.tmp 47) _ rfl (w.heap.size + 1) 9 i0 _ 1 16 Try.underlying23 hi0 hz0 hz1 hz2 rfl (by omega) (by omega) A n c 1 1 (texts pre) [.string ((⟨#[33, 32]⟩ : ByteArray) ++ zs[k])] (by exact HO.out.alloc _) rfl ⟨wr.heap.size, 0, none⟩ rfl rfl (World.news_of_block (cs := #[.string ((⟨#[33, 32]⟩ : ByteArray) ++ zs[k])]) (t := 9) (fr := (0, 0)) (by exact heap_alloc_new wr _)) (by simp [Value.oneCell']) (by omega) (by omega) (by simp; omega) ?_; intro A' c' w1 hown1 hgrow hat hkeep)
              go_roundw
              case rel =>
                have ho1 : (wr.alloc (Obj.cells #[.string ((⟨#[33, 32]⟩ : ByteArray) ++ zs[k])] 9)).ownsRow (w.heap.size + 1) 9 1 (.slice A n c) n (texts pre) := HO.out.alloc _
                have hu := own_up ho1
                have hgs := hgrow.size
                refine ⟨k + 1, n + 1, A', c', pre ++ [(⟨#[33, 32]⟩ : ByteArray) ++ zs[k]], by omega, by go_num, rfl, ?_, ?_, ?_, by omega, by simp at hgs; omega, Lib.hid ?_⟩
                · have hb1 : Below w.heap.size w (wr.alloc (Obj.cells #[.string ((⟨#[33, 32]⟩ : ByteArray) ++ zs[k])] 9)) := HB.out.alloc HB.out.size _
                  exact below_push hb1 ho1 (by omega) hb1.size (by exact ⟨hgrow.os, hgrow.tape, hgrow.output, hgrow.size, hgrow.block⟩)
                · have e : texts (pre ++ [(⟨#[33, 32]⟩ : ByteArray) ++ zs[k]]) = texts pre ++ [.string ((⟨#[33, 32]⟩ : ByteArray) ++ zs[k])] := by simp [texts]
                  rw [e]
                  exact hown1
                · refine (HK.out.alloc _).grown (by exact ⟨hgrow.os, hgrow.tape, hgrow.output, hgrow.size, hgrow.block⟩) ?_
                  intro he
                  cases hA : A with
                  | none => rw [hA] at he; cases he
                  | some a =>
                    rw [hA] at he
                    have h3 := hu a hA
                    have h4 : w.heap.size = a.block := by simpa using he
                    omega
                · rw [HP.out, tagS_take _ _ hlt]
                  simp
              case measure => simp [intOf]; omega
            · skip
              go_wp2
              go_ret
              have hp := HP.out
              have hx : zs.take k = zs := List.take_of_length_le (by omega)
              rw [hx] at hp
              rw [show chTexts xs ys zs = pre from hp.symm]
              have hn2 : n = pre.length := by have := ho.1; simp [texts_len] at this; omega
              clear hx hp HP
              subst hn2
              exact ⟨A, c, rfl, own_base ho (by omega), hb⟩




set_option maxRecDepth 100000 in
set_option maxHeartbeats 8000000 in
theorem specChangesText_any {A1 A2 A3 : Option Addr} {c1 c2 c3 B1 B2 B3 : Nat} (xs ys zs : List ByteArray) (w : World) (h1 : Reads w B1 1 A1 xs.length (texts xs)) (hB1 : B1 ≤ w.heap.size) (h2 : Reads w B2 1 A2 ys.length (texts ys)) (hB2 : B2 ≤ w.heap.size) (h3 : Reads w B3 1 A3 zs.length (texts zs)) (hB3 : B3 ≤ w.heap.size)
    (hm1 : xs.length ≤ 1048576) (hm2 : ys.length ≤ 1048576) (hm3 : zs.length ≤ 1048576) (hs1 : ∀ s ∈ xs, s.size ≤ 1048576) (hs2 : ∀ s ∈ ys, s.size ≤ 1048576) (hs3 : ∀ s ∈ zs, s.size ≤ 1048576) :
    Calls Try.prog 12 #[.agg #[.slice A1 xs.length c1, .slice A2 ys.length c2, .slice A3 zs.length c3]] w (Fresh 9 1 w (chTexts xs ys zs).length (texts (chTexts xs ys zs))) := by
  obtain ⟨i0, hi0, hz0, hz1, hz2⟩ := info_parts text_info
  have HS1 := Lib.hid hs1
  have HS2 := Lib.hid hs2
  have HS3 := Lib.hid hs3
  clear hs1 hs2 hs3
  go_enter Try.func12, Try.ntmps12
  go_wp2

  go_loopw [3, 4] (fun v iv wr => ∃ (k n : Nat) (A : Option Addr) (c : Nat) (pre : List ByteArray), k ≤ xs.length ∧ iv = .int .i64 k ∧ v = .slice A n c ∧ Below w.heap.size w wr ∧ wr.ownsRow (w.heap.size + 1) 9 1 (.slice A n c) n (texts pre) ∧ Blk wr w.heap.size 25 #[.slice A1 xs.length c1, .slice A2 ys.length c2, .slice A3 zs.length c3] ∧ n ≤ 0 + k ∧ w.heap.size + 1 ≤ wr.heap.size ∧ Hid (pre = [] ++ tagS ⟨#[43, 32]⟩ (xs.take k))) (fun _ iv _ => xs.length - (intOf iv).toNat)
  case atStart => exact ⟨0, 0, _, _, [], Nat.zero_le _, rfl, rfl, ((Below.refl _ _).alloc (Nat.le_refl _) _).alloc (by simp) _, own_empty1 w _ _, (Blk.new w _ _).alloc _, by omega, by simp, Lib.hid (by simp [tagS])⟩
  case round =>
    skip
    obtain ⟨k, n, A, c, pre, hk, rfl, rfl, hb, ho, hK, hn, hz, HP⟩ := hrel
    have e0 : wr.cell? ⟨w.heap.size, 0, none⟩ = some (.slice A1 xs.length c1) := hK.cell 0
    by_cases hlt : k < xs.length
    · obtain ⟨ad, u1, rfl, hbl, hx1, hc1⟩ := ((h1.more hB1).below hb).at_ hlt
      rw [texts_get _ _ hlt] at hx1
      injection hx1 with hx1
      subst hx1
      have hsk := HS1.out _ (List.getElem_mem hlt)
      have HO := Lib.hid ho
      have HB := Lib.hid hb
      have HK := Lib.hid hK
      clear ho hb hK
      go_wp2_with (at_builtin; refine wpList_push _ rfl (.tmp 15) (.tmp 22) _ rfl (w.heap.size + 1) 9 i0 _ 1 16 Try.underlying23 hi0 hz0 hz1 hz2 rfl (by omega) (by omega) A n c 1 1 (texts pre) [.string ((⟨#[43, 32]⟩ : ByteArray) ++ xs[k])] (by exact HO.out.alloc _) rfl ⟨wr.heap.size, 0, none⟩ rfl rfl (World.news_of_block (cs := #[.string ((⟨#[43, 32]⟩ : ByteArray) ++ xs[k])]) (t := 9) (fr := (0, 0)) (by exact heap_alloc_new wr _)) (by simp [Value.oneCell']) (by omega) (by omega) (by simp; omega) ?_; intro A' c' w1 hown1 hgrow hat hkeep)
      go_roundw
      case rel =>
        have ho1 : (wr.alloc (Obj.cells #[.string ((⟨#[43, 32]⟩ : ByteArray) ++ xs[k])] 9)).ownsRow (w.heap.size + 1) 9 1 (.slice A n c) n (texts pre) := HO.out.alloc _
        have hu := own_up ho1
        have hgs := hgrow.size
        refine ⟨k + 1, n + 1, A', c', pre ++ [(⟨#[43, 32]⟩ : ByteArray) ++ xs[k]], by omega, by go_num, rfl, ?_, ?_, ?_, by omega, by simp at hgs; omega, Lib.hid ?_⟩
        · have hb1 : Below w.heap.size w (wr.alloc (Obj.cells #[.string ((⟨#[43, 32]⟩ : ByteArray) ++ xs[k])] 9)) := HB.out.alloc HB.out.size _
          exact below_push hb1 ho1 (by omega) hb1.size (by exact ⟨hgrow.os, hgrow.tape, hgrow.output, hgrow.size, hgrow.block⟩)
        · have e : texts (pre ++ [(⟨#[43, 32]⟩ : ByteArray) ++ xs[k]]) = texts pre ++ [.string ((⟨#[43, 32]⟩ : ByteArray) ++ xs[k])] := by simp [texts]
          rw [e]
          exact hown1
        · refine (HK.out.alloc _).grown (by exact ⟨hgrow.os, hgrow.tape, hgrow.output, hgrow.size, hgrow.block⟩) ?_
          intro he
          cases hA : A with
          | none => rw [hA] at he; cases he
          | some a =>
            rw [hA] at he
            have h3 := hu a hA
            have h4 : w.heap.size = a.block := by simpa using he
            omega
        · rw [HP.out, tagS_take _ _ hlt]
          simp
      case measure => simp [intOf]; omega
    · skip
      have HPP : Hid (pre = tagS ⟨#[43, 32]⟩ xs ++ tagS ⟨#[45, 32]⟩ (ys.take 0)) := by
        have hx : xs.take k = xs := List.take_of_length_le (by omega)
        have hp := HP.out
        rw [hx] at hp
        rw [hp]
        simp [tagS, Hid]
      have e1 : wr.cell? ⟨w.heap.size, 1, none⟩ = some (.slice A2 ys.length c2) := hK.cell 1
      have HO := Lib.hid ho
      have HB := Lib.hid hb
      have HK := Lib.hid hK
      clear ho hb hK
      go_wp2
      obtain ⟨wo, rfl⟩ : ∃ wo : World, wo = wr := ⟨_, rfl⟩
      go_loopw [3, 5] (fun v iv wr => ∃ (k n : Nat) (A : Option Addr) (c : Nat) (pre : List ByteArray), k ≤ ys.length ∧ iv = .int .i64 k ∧ v = .slice A n c ∧ Below w.heap.size w wr ∧ wr.ownsRow (w.heap.size + 1) 9 1 (.slice A n c) n (texts pre) ∧ Blk wr w.heap.size 25 #[.slice A1 xs.length c1, .slice A2 ys.length c2, .slice A3 zs.length c3] ∧ n ≤ 0 + xs.length + k ∧ w.heap.size + 1 ≤ wr.heap.size ∧ Hid (pre = tagS ⟨#[43, 32]⟩ xs ++ tagS ⟨#[45, 32]⟩ (ys.take k))) (fun _ iv _ => ys.length - (intOf iv).toNat)
      case atStart => exact ⟨0, n, A, c, pre, Nat.zero_le _, rfl, rfl, HB.out, HO.out, HK.out, by omega, by omega, Lib.hid HPP.out⟩
      case round =>
        clear HB HO HK HPP
        obtain ⟨k, n, A, c, pre, hk, rfl, rfl, hb, ho, hK, hn, hz, HP⟩ := hrel
        have e1 : wr.cell? ⟨w.heap.size, 1, none⟩ = some (.slice A2 ys.length c2) := hK.cell 1
        by_cases hlt : k < ys.length
        · obtain ⟨ad, u1, rfl, hbl, hx1, hc1⟩ := ((h2.more hB2).below hb).at_ hlt
          rw [texts_get _ _ hlt] at hx1
          injection hx1 with hx1
          subst hx1
          have hsk := HS2.out _ (List.getElem_mem hlt)
          have HO := Lib.hid ho
          have HB := Lib.hid hb
          have HK := Lib.hid hK
          clear ho hb hK
          go_wp2_with (at_builtin; refine wpList_push _ rfl (.tmp 31) (.tmp 38) _ rfl (w.heap.size + 1) 9 i0 _ 1 16 Try.underlying23 hi0 hz0 hz1 hz2 rfl (by omega) (by omega) A n c 1 1 (texts pre) [.string ((⟨#[45, 32]⟩ : ByteArray) ++ ys[k])] (by exact HO.out.alloc _) rfl ⟨wr.heap.size, 0, none⟩ rfl rfl (World.news_of_block (cs := #[.string ((⟨#[45, 32]⟩ : ByteArray) ++ ys[k])]) (t := 9) (fr := (0, 0)) (by exact heap_alloc_new wr _)) (by simp [Value.oneCell']) (by omega) (by omega) (by simp; omega) ?_; intro A' c' w1 hown1 hgrow hat hkeep)
          go_roundw
          case rel =>
            have ho1 : (wr.alloc (Obj.cells #[.string ((⟨#[45, 32]⟩ : ByteArray) ++ ys[k])] 9)).ownsRow (w.heap.size + 1) 9 1 (.slice A n c) n (texts pre) := HO.out.alloc _
            have hu := own_up ho1
            have hgs := hgrow.size
            refine ⟨k + 1, n + 1, A', c', pre ++ [(⟨#[45, 32]⟩ : ByteArray) ++ ys[k]], by omega, by go_num, rfl, ?_, ?_, ?_, by omega, by simp at hgs; omega, Lib.hid ?_⟩
            · have hb1 : Below w.heap.size w (wr.alloc (Obj.cells #[.string ((⟨#[45, 32]⟩ : ByteArray) ++ ys[k])] 9)) := HB.out.alloc HB.out.size _
              exact below_push hb1 ho1 (by omega) hb1.size (by exact ⟨hgrow.os, hgrow.tape, hgrow.output, hgrow.size, hgrow.block⟩)
            · have e : texts (pre ++ [(⟨#[45, 32]⟩ : ByteArray) ++ ys[k]]) = texts pre ++ [.string ((⟨#[45, 32]⟩ : ByteArray) ++ ys[k])] := by simp [texts]
              rw [e]
              exact hown1
            · refine (HK.out.alloc _).grown (by exact ⟨hgrow.os, hgrow.tape, hgrow.output, hgrow.size, hgrow.block⟩) ?_
              intro he
              cases hA : A with
              | none => rw [hA] at he; cases he
              | some a =>
                rw [hA] at he
                have h3 := hu a hA
                have h4 : w.heap.size = a.block := by simpa using he
                omega
            · rw [HP.out, tagS_take _ _ hlt]
              simp
          case measure => simp [intOf]; omega
        · skip
          have HPP : Hid (pre = tagS ⟨#[43, 32]⟩ xs ++ tagS ⟨#[45, 32]⟩ ys ++ tagS ⟨#[33, 32]⟩ (zs.take 0)) := by
            have hx : ys.take k = ys := List.take_of_length_le (by omega)
            have hp := HP.out
            rw [hx] at hp
            rw [hp]
            simp [tagS, Hid]
          have e2 : wr.cell? ⟨w.heap.size, 2, none⟩ = some (.slice A3 zs.length c3) := hK.cell 2
          have HO := Lib.hid ho
          have HB := Lib.hid hb
          have HK := Lib.hid hK
          clear ho hb hK
          go_wp2
          obtain ⟨wo, rfl⟩ : ∃ wo : World, wo = wr := ⟨_, rfl⟩
          go_loopw [3, 6] (fun v iv wr => ∃ (k n : Nat) (A : Option Addr) (c : Nat) (pre : List ByteArray), k ≤ zs.length ∧ iv = .int .i64 k ∧ v = .slice A n c ∧ Below w.heap.size w wr ∧ wr.ownsRow (w.heap.size + 1) 9 1 (.slice A n c) n (texts pre) ∧ Blk wr w.heap.size 25 #[.slice A1 xs.length c1, .slice A2 ys.length c2, .slice A3 zs.length c3] ∧ n ≤ 0 + xs.length + ys.length + k ∧ w.heap.size + 1 ≤ wr.heap.size ∧ Hid (pre = tagS ⟨#[43, 32]⟩ xs ++ tagS ⟨#[45, 32]⟩ ys ++ tagS ⟨#[33, 32]⟩ (zs.take k))) (fun _ iv _ => zs.length - (intOf iv).toNat)
          case atStart => exact ⟨0, n, A, c, pre, Nat.zero_le _, rfl, rfl, HB.out, HO.out, HK.out, by omega, by omega, Lib.hid HPP.out⟩
          case round =>
            clear HB HO HK HPP
            obtain ⟨k, n, A, c, pre, hk, rfl, rfl, hb, ho, hK, hn, hz, HP⟩ := hrel
            have e2 : wr.cell? ⟨w.heap.size, 2, none⟩ = some (.slice A3 zs.length c3) := hK.cell 2
            by_cases hlt : k < zs.length
            · obtain ⟨ad, u1, rfl, hbl, hx1, hc1⟩ := ((h3.more hB3).below hb).at_ hlt
              rw [texts_get _ _ hlt] at hx1
              injection hx1 with hx1
              subst hx1
              have hsk := HS3.out _ (List.getElem_mem hlt)
              have HO := Lib.hid ho
              have HB := Lib.hid hb
              have HK := Lib.hid hK
              clear ho hb hK
              go_wp2_with (at_builtin; refine wpList_push _ rfl (.tmp 47) (.tmp 54) _ rfl (w.heap.size + 1) 9 i0 _ 1 16 Try.underlying23 hi0 hz0 hz1 hz2 rfl (by omega) (by omega) A n c 1 1 (texts pre) [.string ((⟨#[33, 32]⟩ : ByteArray) ++ zs[k])] (by exact HO.out.alloc _) rfl ⟨wr.heap.size, 0, none⟩ rfl rfl (World.news_of_block (cs := #[.string ((⟨#[33, 32]⟩ : ByteArray) ++ zs[k])]) (t := 9) (fr := (0, 0)) (by exact heap_alloc_new wr _)) (by simp [Value.oneCell']) (by omega) (by omega) (by simp; omega) ?_; intro A' c' w1 hown1 hgrow hat hkeep)
              go_roundw
              case rel =>
                have ho1 : (wr.alloc (Obj.cells #[.string ((⟨#[33, 32]⟩ : ByteArray) ++ zs[k])] 9)).ownsRow (w.heap.size + 1) 9 1 (.slice A n c) n (texts pre) := HO.out.alloc _
                have hu := own_up ho1
                have hgs := hgrow.size
                refine ⟨k + 1, n + 1, A', c', pre ++ [(⟨#[33, 32]⟩ : ByteArray) ++ zs[k]], by omega, by go_num, rfl, ?_, ?_, ?_, by omega, by simp at hgs; omega, Lib.hid ?_⟩
                · have hb1 : Below w.heap.size w (wr.alloc (Obj.cells #[.string ((⟨#[33, 32]⟩ : ByteArray) ++ zs[k])] 9)) := HB.out.alloc HB.out.size _
                  exact below_push hb1 ho1 (by omega) hb1.size (by exact ⟨hgrow.os, hgrow.tape, hgrow.output, hgrow.size, hgrow.block⟩)
                · have e : texts (pre ++ [(⟨#[33, 32]⟩ : ByteArray) ++ zs[k]]) = texts pre ++ [.string ((⟨#[33, 32]⟩ : ByteArray) ++ zs[k])] := by simp [texts]
                  rw [e]
                  exact hown1
                · refine (HK.out.alloc _).grown (by exact ⟨hgrow.os, hgrow.tape, hgrow.output, hgrow.size, hgrow.block⟩) ?_
                  intro he
                  cases hA : A with
                  | none => rw [hA] at he; cases he
                  | some a =>
                    rw [hA] at he
                    have h3 := hu a hA
                    have h4 : w.heap.size = a.block := by simpa using he
                    omega
                · rw [HP.out, tagS_take _ _ hlt]
                  simp
              case measure => simp [intOf]; omega
            · skip
              go_wp2
              go_ret
              have hp := HP.out
              have hx : zs.take k = zs := List.take_of_length_le (by omega)
              rw [hx] at hp
              rw [show chTexts xs ys zs = pre from hp.symm]
              have hn2 : n = pre.length := by have := ho.1; simp [texts_len] at this; omega
              clear hx hp HP
              subst hn2
              exact ⟨A, c, rfl, own_base ho (by omega), hb⟩



end Go.Proofs.Ytdaamgonendkkaa
