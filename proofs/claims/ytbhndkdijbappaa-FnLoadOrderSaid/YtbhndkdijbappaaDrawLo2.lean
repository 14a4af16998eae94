/- Contracts of the drawings of the laws on libraries. Condition: the sizes. -/
import Derived.Test.YtbhndkdijbappaaRows
import Derived.Test.YtbhndkdijbappaaBase
import Derived.Test.YtbhndkdijbappaaBase2
import Derived.Test.YtbhndkdijbappaaBase3
import Derived.Test.YtbhndkdijbappaaOnly
import Derived.Test.YtbhndkdijbappaaIn
import Derived.Test.YtbhndkdijbappaaName
import Derived.Test.YtbhndkdijbappaaStrS
import Derived.Test.YtbhndkdijbappaaFindS
import Derived.Test.YtbhndkdijbappaaIdxI
import Derived.Test.YtbhndkdijbappaaIdxS
import Derived.Test.YtbhndkdijbappaaLb
import Derived.Test.YtbhndkdijbappaaFindLb
import Derived.Test.YtbhndkdijbappaaLibs
import Derived.Test.YtbhndkdijbappaaLoadS
import Derived.Test.YtbhndkdijbappaaPick
import Derived.Test.YtbhndkdijbappaaPick2
import Derived.Test.YtbhndkdijbappaaReg
import Derived.Test.YtbhndkdijbappaaRegS
import Derived.Test.YtbhndkdijbappaaDrawLiP
import Derived.Test.YtbhndkdijbappaaDrawLi
import Derived.WalkKit
import Derived.WalkSpells
import Derived.WalkLawsBesides
import Derived.Handy
import Derived.BigQuiet
import Derived.Deep.RegionHeld3
import Derived.Deep.DrawnRows
import Derived.Deep.QuietTactic
namespace Go.Proofs.Ytbhndkdijbappaa
open Go Go.RowKit

def DrewLo (w : World) (e : Ending) (w' : World) : Prop := ∃ (A : Option Addr) (c : Nat) (ls : List Lb) (nm : ByteArray), e = .returned (.tuple #[.slice A ls.length c, .string nm]) ∧ LbRow w' w.heap.size A c ls ∧ ls.length ≤ 6 ∧ (∀ l ∈ ls, l.small) ∧ nm.size ≤ 8 ∧ Below w.heap.size w w'
set_option maxRecDepth 100000 in
set_option maxHeartbeats 4000000 in
theorem DrawLoadOrder_any {A : Option Addr} {c : Nat} (xs : List Int) (w : World) (h1 : Reads w w.heap.size 1 A xs.length (nums .u8 xs)) (hx : ∀ x ∈ xs, 0 ≤ x ∧ x ≤ 255) (hm : xs.length ≤ 1048576) (hc : xs.length ≤ c) (hc2 : c ≤ maxLen) :
    Calls Try.prog 18 #[.slice A xs.length c] w (DrewLo w) := by
  have HO := Lib.hid (open_any xs w h1 hx hm hc hc2)
  clear h1 hx
  go_enter Try.func18, Try.ntmps18
  go_wp2_with fail
  refine HO.out.mono ?_
  rintro e w1 ⟨rfl, hr, hz, hb⟩
  have HZ := Lib.hid hz
  have HB1 := Lib.hid hb
  clear hz hb
  go_wp2_with fail
  refine (l20Libraries_any _ 0 9 _ hr (by omega) (by omega) (by omega)).mono ?_
  rintro e w2 ⟨A2, c2, ls, rfl, hrow, hl6, hsm, hr2, hg2⟩
  have HROW := Lib.hid hrow
  have HSM := Lib.hid hsm
  have HR2 := Lib.hid hr2
  have HG2 := Lib.hid hg2
  have hz2 := hg2.size
  have hrl : w.heap.size < w1.heap.size := by have := HZ.out; omega
  clear hrow hsm hr hr2 hg2 HO
  go_wp2
  refine wp_region_facts (fun i v w' => match i with
      | 0 => v = .slice A2 ls.length c2
      | 1 => ∃ g, v = .slice (some ⟨g, 0, none⟩) 3 3 ∧ g ≠ w.heap.size ∧ Blk w' g 9 (texts [⟨#[97]⟩, ⟨#[98]⟩, ⟨#[120]⟩]).toArray
      | 2 => ∃ g, v = .slice (some ⟨g, 0, none⟩) 5 5 ∧ g ≠ w.heap.size ∧ Blk w' g 3 (nums .i64 [0, 0, 0, 1, 2]).toArray
      | 3 => v = .pointer (some ⟨w.heap.size, 0, none⟩)
      | 4 => ∃ x : Int, v = .int .i64 x ∧ 0 ≤ x ∧ x ≤ 4
      | 5 => ∃ (b o : Nat) (x : Int), v = .pointer (some ⟨b, o, none⟩) ∧ b ≠ w.heap.size ∧ w'.cell? ⟨b, o, none⟩ = some (.int .i64 x) ∧ 0 ≤ x ∧ x ≤ 2
      | 6 => ∃ x : Int, v = .int .i64 x ∧ 0 ≤ x ∧ x ≤ 2
      | 7 => ∃ (b o : Nat) (s : ByteArray), v = .pointer (some ⟨b, o, none⟩) ∧ b ≠ w.heap.size ∧ w'.cell? ⟨b, o, none⟩ = some (.string s) ∧ s.size ≤ 8
      | 8 => ∃ s : ByteArray, v = .string s ∧ s.size ≤ 8
      | 9 => v = .slice A2 ls.length c2
      | _ => ∃ s : ByteArray, v = .string s ∧ s.size ≤ 8)
    (fun fl _ w' => Rdr w' w.heap.size (if fl 4 = true then 101 else 100) ∧ w2.grownBy w' (some w.heap.size)) (Keeps (· ≠ w.heap.size)) (by kernel_rfl) (by kernel_rfl) ?_ ?_ ?_ ?_
  · intro i v u u' hk h
    match i, h with
    | 0, h => exact h
    | 1, ⟨g, h1, h2, h3⟩ => exact ⟨g, h1, h2, h3.keeps hk h2⟩
    | 2, ⟨g, h1, h2, h3⟩ => exact ⟨g, h1, h2, h3.keeps hk h2⟩
    | 3, h => exact h
    | 4, h => exact h
    | 5, ⟨b, o, x, h1, h2, h3, h4⟩ => exact ⟨b, o, x, h1, h2, hk.cell h3 h2, h4⟩
    | 6, h => exact h
    | 7, ⟨b, o, s, h1, h2, h3, h4⟩ => exact ⟨b, o, s, h1, h2, hk.cell h3 h2, h4⟩
    | 8, h => exact h
    | 9, h => exact h
    | _ + 10, h => exact h
  · intro fl _ hfl
    rw [hfl 4 (by simp), if_neg (by simp)]
    exact ⟨HR2.out, ⟨rfl, rfl, rfl, Nat.le_refl _, fun _ _ _ => rfl⟩⟩
  · refine ⟨?_, ?_, ?_, ?_, ?_, ?_, ?_, ?_, ?_, ?_, ?_, trivial⟩
    all_goals intro fl vs wr a1 hc hG hfi hcl hp K hK
    · refine op_move rfl ?_
      rw [hc.ev0 _ rfl]
      exact hK _ _ (Keeps.refl _ _) rfl (by simpa [upd] using hG)
    · go_simp
      refine hK _ _ (Keeps.alloc _ _ _) ⟨_, rfl, ?_, Blk.new _ _ _⟩ ?_
      · have := hG.2.size; omega
      · exact ⟨by simpa [upd] using hG.1.alloc _, gr_alloc hG.2 _⟩
    · go_simp
      refine hK _ _ (Keeps.alloc _ _ _) ⟨_, rfl, ?_, Blk.new _ _ _⟩ ?_
      · have := hG.2.size; omega
      · exact ⟨by simpa [upd] using hG.1.alloc _, gr_alloc hG.2 _⟩
    · refine op_move rfl ?_
      rw [hc.ev0 _ rfl]
      exact hK _ _ (Keeps.refl _ _) rfl (by simpa [upd] using hG)
    · have h3 : vs 3 = _ := (hp 3 (by kernel_rfl)).2
      have e3 := hc.ev 13 3 rfl
      rw [h3] at e3
      rw [hfi, if_neg (by simp)] at hG
      refine op_call rfl (by simp only [List.map_toArray, List.map_cons, List.map_nil, e3]; rfl) (by kernel_rfl) (pick_any _ _ 5 _ hG.1 (by omega) (by omega) (by omega)) ?_
      rintro e w' ⟨v, rfl, ⟨va, vb⟩, hr', hg'⟩
      refine ⟨_, rfl, hK _ _ (Keeps.grown hg' (by simp)) ⟨_, rfl, va, by omega⟩ ⟨?_, gr_trans hG.2 hg'⟩⟩
      rw [upd_at, if_pos rfl]
      exact hr'
    · obtain ⟨g, h2, hg, hb⟩ := (hp 2 (by kernel_rfl)).2
      obtain ⟨x, h4, hx0, hx1⟩ := (hp 4 (by kernel_rfl)).2
      obtain ⟨y, hy, hcy⟩ := lit_at hb hx0 (by simp; omega)
      have e2 := hc.ev 12 2 rfl
      have e4 := hc.ev 14 4 rfl
      rw [h2] at e2
      rw [h4] at e4
      unfold Oper.wp execOp
      simp only [e2, e4]
      have hx2 : x < 5 := by omega
      go_simp
      refine hK _ _ (Keeps.refl _ _) ⟨g, x.toNat, y, rfl, hg, hcy, ?_⟩ (by simpa [upd] using hG)
      simp at hy
      omega
    · obtain ⟨b, o, x, h5, hb, hcx, hx⟩ := (hp 5 (by kernel_rfl)).2
      have e5 := hc.ev 15 5 rfl
      rw [h5] at e5
      unfold Oper.wp execOp
      simp only [e5]
      go_simp
      exact hK _ _ (Keeps.refl _ _) ⟨x, rfl, hx⟩ (by simpa [upd] using hG)
    · obtain ⟨g, h1, hg, hb⟩ := (hp 1 (by kernel_rfl)).2
      obtain ⟨x, h6, hx0, hx1⟩ := (hp 6 (by kernel_rfl)).2
      obtain ⟨y, hy, hcy⟩ := lits_at hb hx0 (by simp; omega)
      have e1 := hc.ev 11 1 rfl
      have e6 := hc.ev 16 6 rfl
      rw [h1] at e1
      rw [h6] at e6
      unfold Oper.wp execOp
      simp only [e1, e6]
      have hx2 : x < 3 := by omega
      go_simp
      refine hK _ _ (Keeps.refl _ _) ⟨g, x.toNat, y, rfl, hg, hcy, ?_⟩ (by simpa [upd] using hG)
      simp at hy
      rcases hy with rfl | rfl | rfl <;> simp [ByteArray.size]
    · obtain ⟨b, o, s, h7, hb, hcs, hs⟩ := (hp 7 (by kernel_rfl)).2
      have e7 := hc.ev 17 7 rfl
      rw [h7] at e7
      unfold Oper.wp execOp
      simp only [e7]
      go_simp
      exact hK _ _ (Keeps.refl _ _) ⟨s, rfl, hs⟩ (by simpa [upd] using hG)
    · have h := (hp 0 (by kernel_rfl)).2
      refine op_assign rfl ?_
      rw [hc.ev 10 0 rfl]
      exact hK _ _ (Keeps.refl _ _) h (by simpa [upd] using hG)
    · have h := (hp 8 (by kernel_rfl)).2
      refine op_assign rfl ?_
      rw [hc.ev 18 8 rfl]
      exact hK _ _ (Keeps.refl _ _) h (by simpa [upd] using hG)
  · intro fl vs w3 hfl hG hF
    have h9 := hF 9 (by simp)
    obtain ⟨s, h10, hs⟩ := hF 10 (by simp)
    simp only [fill]
    go_simp
    rw [show vs 9 = _ from h9]
    clear h9
    go_wp2
    refine bodyPost_ret (v := .tuple #[.slice A2 ls.length c2, .string s]) (by simp [results, Try.results18, go_sem]) rfl ?_
    have hk : Keeps (· ≠ w.heap.size) w2 w3 := Keeps.grown hG.2 (by simp)
    have hl := HROW.out.keeps hk (fun b hb _ => by omega)
    refine ⟨A2, c2, ls, s, rfl, ⟨own_base hl.1 (by omega), fun l hx => ⟨own_base (hl.2 l hx).1 (by omega), own_base (hl.2 l hx).2 (by omega)⟩⟩, hl6, HSM.out, hs, below_gr HB1.out (gr_trans HG2.out hG.2) (Nat.le_refl _)⟩
def DrewLv (w : World) (e : Ending) (w' : World) : Prop := ∃ (A : Option Addr) (c : Nat) (ls : List Lb), e = .returned (.slice A ls.length c) ∧ LbRow w' w.heap.size A c ls ∧ ls.length ≤ 6 ∧ (∀ l ∈ ls, l.small) ∧ Below w.heap.size w w'
set_option maxRecDepth 100000 in
set_option maxHeartbeats 4000000 in
theorem DrawLibrariesValid_any {A : Option Addr} {c : Nat} (xs : List Int) (w : World) (h1 : Reads w w.heap.size 1 A xs.length (nums .u8 xs)) (hx : ∀ x ∈ xs, 0 ≤ x ∧ x ≤ 255) (hm : xs.length ≤ 1048576) (hc : xs.length ≤ c) (hc2 : c ≤ maxLen) :
    Calls Try.prog 11 #[.slice A xs.length c] w (DrewLv w) := by
  have HO := Lib.hid (open_any xs w h1 hx hm hc hc2)
  clear h1 hx
  go_enter Try.func11, Try.ntmps11
  go_wp2_with fail
  refine HO.out.mono ?_
  rintro e w1 ⟨rfl, hr, hz, hb⟩
  have HB := Lib.hid hb
  clear hb hz
  go_wp2_with fail
  refine (l20Libraries_any _ 0 2 _ hr (by omega) (by omega) (by omega)).mono ?_
  rintro e w2 ⟨A2, c2, ls, rfl, hrow, hl6, hsm, hr2, hg2⟩
  have HE : Hid (LbRow w2 w1.heap.size A2 c2 ls ∧ (∀ l ∈ ls, l.small) ∧ w1.grownBy w2 (some w.heap.size)) := ⟨hrow, hsm, hg2⟩
  clear hrow hsm hr2 hg2 hr
  go_wp2
  go_ret
  exact ⟨A2, c2, ls, rfl, HE.out.1.base HB.out.size, hl6, HE.out.2.1, below_gr HB.out HE.out.2.2 (Nat.le_refl _)⟩
set_option maxRecDepth 100000 in
set_option maxHeartbeats 4000000 in
theorem DrawLibrariesMissing_any {A : Option Addr} {c : Nat} (xs : List Int) (w : World) (h1 : Reads w w.heap.size 1 A xs.length (nums .u8 xs)) (hx : ∀ x ∈ xs, 0 ≤ x ∧ x ≤ 255) (hm : xs.length ≤ 1048576) (hc : xs.length ≤ c) (hc2 : c ≤ maxLen) :
    Calls Try.prog 29 #[.slice A xs.length c] w (DrewLo w) := by
  have HO := Lib.hid (DrawLoadOrder_any xs w h1 hx hm hc hc2)
  clear h1 hx
  go_enter Try.func29, Try.ntmps29
  go_wp2_with fail
  refine HO.out.mono ?_
  rintro e w1 ⟨A2, c2, ls, nm, rfl, hrow, hl6, hsm, hn, hb⟩
  have HE : Hid (LbRow w1 w.heap.size A2 c2 ls ∧ (∀ l ∈ ls, l.small) ∧ Below w.heap.size w w1) := ⟨hrow, hsm, hb⟩
  clear hrow hsm hb
  go_wp2
  refine bodyPost_ret (v := .tuple #[.slice A2 ls.length c2, .string nm]) (by simp [results, Try.results29, go_sem]) rfl ?_
  exact ⟨A2, c2, ls, nm, rfl, HE.out.1, hl6, HE.out.2.1, hn, HE.out.2.2⟩
def DrewLg (w : World) (e : Ending) (w' : World) : Prop := ∃ (A : Option Addr) (c : Nat) (ls : List Lb) (nm wt : ByteArray), e = .returned (.tuple #[.slice A ls.length c, .string nm, .string wt]) ∧ LbRow w' w.heap.size A c ls ∧ ls.length ≤ 6 ∧ (∀ l ∈ ls, l.small) ∧ nm.size ≤ 8 ∧ wt.size ≤ 8 ∧ Below w.heap.size w w'
set_option maxRecDepth 100000 in
set_option maxHeartbeats 4000000 in
theorem DrawGiverOf_any {A : Option Addr} {c : Nat} (xs : List Int) (w : World) (h1 : Reads w w.heap.size 1 A xs.length (nums .u8 xs)) (hx : ∀ x ∈ xs, 0 ≤ x ∧ x ≤ 255) (hm : xs.length ≤ 1048576) (hc : xs.length ≤ c) (hc2 : c ≤ maxLen) :
    Calls Try.prog 26 #[.slice A xs.length c] w (DrewLg w) := by
  have HO := Lib.hid (DrawLoadOrder_any xs w h1 hx hm hc hc2)
  have HX := Lib.hid hx
  have HR := Lib.hid h1
  clear h1 hx
  go_enter Try.func26, Try.ntmps26
  go_wp2_with fail
  refine HO.out.mono ?_
  rintro e w1 ⟨A2, c2, ls, nm, rfl, hrow, hl6, hsm, hn, hb⟩
  have HROW := Lib.hid hrow
  have HSM := Lib.hid hsm
  have HB := Lib.hid hb
  clear hrow hsm hb HO
  go_wp2_with fail
  refine (open_any xs w1 ((HR.out.below HB.out).more HB.out.size) HX.out hm hc hc2).mono ?_
  rintro e w2 ⟨rfl, hr2, hz2, hb2⟩
  have HZ := Lib.hid hz2
  have HROW2 := Lib.hid (HROW.out.below hb2)
  have HB2 := Lib.hid (HB.out.trans (hb2.mono HB.out.size))
  have HR2 := Lib.hid hr2
  have hup : ∀ b, w.heap.size ≤ b → b < w1.heap.size → b ≠ w1.heap.size := fun b _ h => by omega
  have hwz : w.heap.size ≤ w1.heap.size := HB.out.size
  have hz22 : w1.heap.size < w2.heap.size := hr2.lt
  have HROW2' : Hid (∀ w', Keeps (· ≠ w1.heap.size) w2 w' → LbRow w' w.heap.size A2 c2 ls) := fun w' hk => by
    have h1 := HROW.out
    have k1 : Keeps (fun b => b < w1.heap.size) w1 w' := ⟨Nat.le_trans hb2.size hk.size, fun b hb ho => (hk.block b (Nat.lt_of_lt_of_le hb hb2.size) (by omega)).trans (hb2.block b hb)⟩
    exact h1.keeps k1 (fun b _ hb => hb)
  clear hr2 hz2 hb2 HROW HB hup HROW2
  go_wp2
  refine wp_region_facts (fun i v w' => match i with
      | 0 => v = .slice A2 ls.length c2
      | 1 => v = .string nm
      | 2 => ∃ g, v = .slice (some ⟨g, 0, none⟩) 4 4 ∧ g ≠ w1.heap.size ∧ Blk w' g 9 (texts [⟨#[112, 117, 116]⟩, ⟨#[103, 101, 116]⟩, ⟨#[109, 97, 105, 110]⟩, ⟨#[97, 98, 115]⟩]).toArray
      | 3 => v = .pointer (some ⟨w1.heap.size, 0, none⟩)
      | 4 => ∃ x : Int, v = .int .i64 x ∧ 0 ≤ x ∧ x ≤ 3
      | 5 => ∃ (b o : Nat) (s : ByteArray), v = .pointer (some ⟨b, o, none⟩) ∧ b ≠ w1.heap.size ∧ w'.cell? ⟨b, o, none⟩ = some (.string s) ∧ s.size ≤ 8
      | 6 => ∃ s : ByteArray, v = .string s ∧ s.size ≤ 8
      | 7 => v = .slice A2 ls.length c2
      | 8 => v = .string nm
      | _ => ∃ s : ByteArray, v = .string s ∧ s.size ≤ 8)
    (fun fl _ w' => Rdr w' w1.heap.size (if fl 4 = true then 1 else 0) ∧ w2.grownBy w' (some w1.heap.size)) (Keeps (· ≠ w1.heap.size)) (by kernel_rfl) (by kernel_rfl) ?_ ?_ ?_ ?_
  · intro i v u u' hk h
    match i, h with
    | 0, h => exact h
    | 1, h => exact h
    | 2, ⟨g, h1, h2, h3⟩ => exact ⟨g, h1, h2, h3.keeps hk h2⟩
    | 3, h => exact h
    | 4, h => exact h
    | 5, ⟨b, o, s, h1, h2, h3, h4⟩ => exact ⟨b, o, s, h1, h2, hk.cell h3 h2, h4⟩
    | 6, h => exact h
    | 7, h => exact h
    | 8, h => exact h
    | _ + 9, h => exact h
  · intro fl _ hfl
    rw [hfl 4 (by simp), if_neg (by simp)]
    exact ⟨HR2.out, ⟨rfl, rfl, rfl, Nat.le_refl _, fun _ _ _ => rfl⟩⟩
  · refine ⟨?_, ?_, ?_, ?_, ?_, ?_, ?_, ?_, ?_, ?_, trivial⟩
    all_goals intro fl vs wr a1 hc hG hfi hcl hp K hK
    · refine op_move rfl ?_
      rw [hc.ev0 _ rfl]
      exact hK _ _ (Keeps.refl _ _) rfl (by simpa [upd] using hG)
    · refine op_move rfl ?_
      rw [hc.ev0 _ rfl]
      exact hK _ _ (Keeps.refl _ _) rfl (by simpa [upd] using hG)
    · go_simp
      refine hK _ _ (Keeps.alloc _ _ _) ⟨_, rfl, ?_, Blk.new _ _ _⟩ ?_
      · have := hG.2.size; omega
      · exact ⟨by simpa [upd] using hG.1.alloc _, gr_alloc hG.2 _⟩
    · refine op_move rfl ?_
      rw [hc.ev0 _ rfl]
      exact hK _ _ (Keeps.refl _ _) rfl (by simpa [upd] using hG)
    · have h3 : vs 3 = _ := (hp 3 (by kernel_rfl)).2
      have e3 := hc.ev 18 3 rfl
      rw [h3] at e3
      rw [hfi, if_neg (by simp)] at hG
      refine op_call rfl (by simp only [List.map_toArray, List.map_cons, List.map_nil, e3]; rfl) (by kernel_rfl) (pick_any _ _ 4 _ hG.1 (by omega) (by omega) (by omega)) ?_
      rintro e w' ⟨v, rfl, ⟨va, vb⟩, hr', hg'⟩
      refine ⟨_, rfl, hK _ _ (Keeps.grown hg' (by simp)) ⟨_, rfl, va, by omega⟩ ⟨?_, gr_trans hG.2 hg'⟩⟩
      rw [upd_at, if_pos rfl]
      exact hr'
    · obtain ⟨g, h1, hg, hb⟩ := (hp 2 (by kernel_rfl)).2
      obtain ⟨x, h6, hx0, hx1⟩ := (hp 4 (by kernel_rfl)).2
      obtain ⟨y, hy, hcy⟩ := lits_at hb hx0 (by simp; omega)
      have e1 := hc.ev 17 2 rfl
      have e6 := hc.ev 19 4 rfl
      rw [h1] at e1
      rw [h6] at e6
      unfold Oper.wp execOp
      simp only [e1, e6]
      have hx2 : x < 4 := by omega
      go_simp
      refine hK _ _ (Keeps.refl _ _) ⟨g, x.toNat, y, rfl, hg, hcy, ?_⟩ (by simpa [upd] using hG)
      simp at hy
      rcases hy with rfl | rfl | rfl | rfl <;> simp [ByteArray.size]
    · obtain ⟨b, o, s, h7, hb, hcs, hs⟩ := (hp 5 (by kernel_rfl)).2
      have e7 := hc.ev 20 5 rfl
      rw [h7] at e7
      unfold Oper.wp execOp
      simp only [e7]
      go_simp
      exact hK _ _ (Keeps.refl _ _) ⟨s, rfl, hs⟩ (by simpa [upd] using hG)
    · have h := (hp 0 (by kernel_rfl)).2
      refine op_assign rfl ?_
      rw [hc.ev 15 0 rfl]
      exact hK _ _ (Keeps.refl _ _) h (by simpa [upd] using hG)
    · have h := (hp 1 (by kernel_rfl)).2
      refine op_assign rfl ?_
      rw [hc.ev 16 1 rfl]
      exact hK _ _ (Keeps.refl _ _) h (by simpa [upd] using hG)
    · have h := (hp 6 (by kernel_rfl)).2
      refine op_assign rfl ?_
      rw [hc.ev 21 6 rfl]
      exact hK _ _ (Keeps.refl _ _) h (by simpa [upd] using hG)
  · intro fl vs w3 hfl hG hF
    have h7 := hF 7 (by simp)
    have h8 := hF 8 (by simp)
    obtain ⟨s, h10, hs⟩ := hF 9 (by simp)
    simp only [fill]
    go_simp
    rw [show vs 7 = _ from h7, show vs 8 = _ from h8]
    clear h7 h8
    go_wp2
    refine bodyPost_ret (v := .tuple #[.slice A2 ls.length c2, .string nm, .string s]) (by simp [results, Try.results26, go_sem]) rfl ?_
    have hk : Keeps (· ≠ w1.heap.size) w2 w3 := Keeps.grown hG.2 (by simp)
    exact ⟨A2, c2, ls, nm, s, rfl, HROW2'.out _ hk, hl6, HSM.out, hn, hs, below_gr HB2.out hG.2 hwz⟩
end Go.Proofs.Ytbhndkdijbappaa
