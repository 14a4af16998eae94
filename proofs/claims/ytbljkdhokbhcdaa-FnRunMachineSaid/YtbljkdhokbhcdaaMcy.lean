/- Contracts of the copies of machines. Condition: the sizes. -/
import Derived.Test.YtbljkdhokbhcdaaRows
import Derived.Test.YtbljkdhokbhcdaaBase
import Derived.Test.YtbljkdhokbhcdaaBase2
import Derived.Test.YtbljkdhokbhcdaaBase3
import Derived.Test.YtbljkdhokbhcdaaOnly
import Derived.Test.YtbljkdhokbhcdaaIn
import Derived.Test.YtbljkdhokbhcdaaIntS
import Derived.Test.YtbljkdhokbhcdaaReg
import Derived.Test.YtbljkdhokbhcdaaRegS
import Derived.Test.YtbljkdhokbhcdaaPick2
import Derived.Test.YtbljkdhokbhcdaaKT
import Derived.Test.YtbljkdhokbhcdaaShelf
import Derived.Test.YtbljkdhokbhcdaaMc
import Derived.WalkKit
import Derived.WalkSpells
import Derived.WalkLawsBesides
import Derived.Handy
import Derived.BigQuiet
import Derived.Deep.RegionHeld3
import Derived.Deep.DrawnRows
import Derived.Deep.QuietTactic
import Derived.Deep.CutBlock
namespace Go.Proofs.Ytbljkdhokbhcdaa
open Go Go.RowKit

theorem own_blkM {w : World} {base size n c : Nat} {t : TypeId} {A : Option Addr} {xs : List Value} (q : w.ownsRow base t size (.slice A n c) n xs) : ∀ g, (Value.slice A n c).ownBlock = some g → base ≤ g ∧ g < w.heap.size := fun g hg => by
  cases A with
  | none => cases hg
  | some a =>
    have h1 : a.block = g := by simpa [Value.ownBlock] using hg
    have := own_up q a rfl
    omega
theorem own_sliceM {w : World} {base size n : Nat} {t : TypeId} {v : Value} {xs : List Value} (h : w.ownsRow base t size v n xs) : ∃ A c, v = .slice A n c := by
  rcases h.2 with ⟨hv, hn⟩ | ⟨g, cap, cur, hv, _⟩
  · exact ⟨none, 0, by rw [hv, hn]⟩
  · exact ⟨_, _, hv⟩
theorem clone_any {A : Option Addr} {c B : Nat} (xs : List Int) (w : World) (h : Reads w B 1 A xs.length (nums .i64 xs)) (hm : xs.length ≤ 1048576) :
    Calls Try.prog 41 #[.slice A xs.length c] w (Fresh 3 1 w xs.length (nums .i64 xs)) := by
  by_cases h0 : xs.length = 0
  · have hx : xs = [] := List.eq_nil_of_length_eq_zero h0
    subst hx
    cases A with
    | none =>
      refine (Try.slices_Clone_int_nil 0 c w).mono ?_
      rintro e w' ⟨rfl, rfl⟩
      exact ⟨none, 0, rfl, ⟨rfl, .inl ⟨rfl, rfl⟩⟩, Below.refl _ _⟩
    | some a =>
      refine (Try.slices_Clone_int_zero a c w).mono ?_
      rintro e w' ⟨v', rfl, ho, _, hb⟩
      obtain ⟨A', c', rfl⟩ := own_sliceM ho
      exact ⟨A', c', rfl, ho, hb⟩
  · obtain ⟨b, off, rfl, _, hc⟩ := h.row_ (by omega) (by omega)
    refine (Try.slices_Clone_int b off xs.length c xs w (Nat.le_refl _) (by omega) (fun j hj => hc j _ (by simp [nums, hj]))).mono ?_
    rintro e w' ⟨v', rfl, ho, _, hb⟩
    obtain ⟨A', c', rfl⟩ := own_sliceM ho
    rw [List.take_length] at ho
    exact ⟨A', c', rfl, ho, hb⟩
theorem mint_info : (Try.prog.info? 3).map (fun i => (i.zero, i.size, i.bytes)) = some (some (.int .i64 0), 1, 8) := by kernel_rfl
/-- While a machine is copied: what stays. -/
structure CpB (w wA : World) (g1 : Nat) (C : Array Value) (sA : Option Addr) (st : List Int) (cA : Option Addr) (ca : List Int) (wq : World) : Prop where
  bl : Below w.heap.size w wq
  sz : wA.heap.size ≤ wq.heap.size
  b1 : Blk wq g1 27 C
  r1 : Reads wq wA.heap.size 1 sA st.length (nums .i64 st)
  r2 : Reads wq wA.heap.size 1 cA ca.length (nums .i64 ca)
  le : w.heap.size ≤ wA.heap.size ∧ g1 < wA.heap.size
section
variable {w wA wq w' : World} {g1 : Nat} {C : Array Value} {sA cA : Option Addr} {st ca : List Int}
theorem CpB.below (h : CpB w wA g1 C sA st cA ca wq) (s : Below wq.heap.size wq w') : CpB w wA g1 C sA st cA ca w' :=
  ⟨h.bl.trans (s.mono h.bl.size), Nat.le_trans h.sz s.size, h.b1.below s h.b1.lt, h.r1.below (s.mono h.sz), h.r2.below (s.mono h.sz), h.le⟩
theorem CpB.grown {row : Option Nat} (h : CpB w wA g1 C sA st cA ca wq) (hg : wq.grownBy w' row) (hr : ∀ k, row = some k → wA.heap.size ≤ k) : CpB w wA g1 C sA st cA ca w' := by
  have hle := h.le
  have hsz := h.sz
  have hb : Below wA.heap.size wq w' := ⟨hg.os, hg.tape, hg.output, hg.size, fun k hk => hg.block k (by omega) (fun e => by have := hr k e.symm; omega)⟩
  exact ⟨h.bl.grown hg h.bl.size (fun k hk => by have := hr k hk; omega), Nat.le_trans hsz hg.size, h.b1.grown hg (fun e => by have := hr g1 e.symm; omega), h.r1.below hb, h.r2.below hb, hle⟩
/-- Two rows that are a call's own and lie apart. -/
structure Tw (lo : Nat) (u1 : Value) (n1 : Nat) (x1 : List Value) (u2 : Value) (n2 : Nat) (x2 : List Value) (wq : World) : Prop where
  o1 : wq.ownsRow lo 3 1 u1 n1 x1
  o2 : wq.ownsRow lo 3 1 u2 n2 x2
  ap : ApV u1 u2
theorem own_lt' {lo n : Nat} {u : Value} {x : List Value} (h : wq.ownsRow lo 3 1 u n x) : ∀ g, u.ownBlock = some g → lo ≤ g ∧ g < wq.heap.size := fun g hg => by
  obtain ⟨A, c, rfl⟩ := own_sliceM h
  exact own_blkM h g hg
theorem own_oth {lo n m : Nat} {u v : Value} {x y : List Value} (h : wq.ownsRow lo 3 1 u n x) (g : wq.ownsRow lo 3 1 v m y) (hg : wq.grownBy w' v.ownBlock) (ha : ApV u v) : w'.ownsRow lo 3 1 u n x := by
  obtain ⟨A, c, rfl⟩ := own_sliceM h
  obtain ⟨A', c', rfl⟩ := own_sliceM g
  have hob : Value.ownBlock (.slice A' m c') = A'.map (·.block) := by cases A' <;> rfl
  rw [hob] at hg
  exact own_other h hg (fun a b h1 h2 => ha.apart a b h1 h2)
theorem Tw.swap {lo n1 n2 : Nat} {u1 u2 : Value} {x1 x2 : List Value} (h : Tw lo u1 n1 x1 u2 n2 x2 wq) : Tw lo u2 n2 x2 u1 n1 x1 wq := ⟨h.o2, h.o1, h.ap.symm⟩
theorem Tw.below {lo n1 n2 : Nat} {u1 u2 : Value} {x1 x2 : List Value} (h : Tw lo u1 n1 x1 u2 n2 x2 wq) (s : Below wq.heap.size wq w') : Tw lo u1 n1 x1 u2 n2 x2 w' := ⟨own_below h.o1 s, own_below h.o2 s, h.ap⟩
/-- The first row is another now, in new memory. -/
theorem Tw.fresh {lo n1 n2 m : Nat} {u1 u2 v : Value} {x1 x2 y : List Value} (h : Tw lo u1 n1 x1 u2 n2 x2 wq) (s : Below wq.heap.size wq w') (hl : lo ≤ wq.heap.size) (ho : w'.ownsRow wq.heap.size 3 1 v m y) : Tw lo v m y u2 n2 x2 w' :=
  ⟨own_base ho hl, own_below h.o2 s, fun g h1 h2 => by have := (own_lt' ho g h1).1; have := (own_lt' h.o2 g h2).2; omega⟩
/-- The first row has grown. -/
theorem Tw.push {lo n1 n2 m : Nat} {u1 u2 v : Value} {x1 x2 y : List Value} (h : Tw lo u1 n1 x1 u2 n2 x2 wq) (hg : wq.grownBy w' u1.ownBlock) (ho : w'.ownsRow lo 3 1 v m y) (hat : v.ownBlock = u1.ownBlock ∨ v.ownBlock = some wq.heap.size) : Tw lo v m y u2 n2 x2 w' :=
  ⟨ho, own_oth h.o2 h.o1 hg h.ap.symm, fun g h1 h2 => by
    rcases hat with hat | hat
    · exact h.ap g (hat ▸ h1) h2
    · rw [hat] at h1; injection h1 with h1; have := (own_lt' h.o2 g h2).2; omega⟩
theorem Tw.set_ {lo n1 n2 g : Nat} {u1 u2 : Value} {x1 x2 : List Value} {cs : Array Value} (h : Tw lo u1 n1 x1 u2 n2 x2 wq) (hb : Blk wq g 27 cs) (i : Nat) (u : Value) : Tw lo u1 n1 x1 u2 n2 x2 (wq.setCell ⟨g, i, none⟩ u) :=
  ⟨(KeepT.of_set (T := TI) hb TI_m i u).own h.o1 rfl, (KeepT.of_set (T := TI) hb TI_m i u).own h.o2 rfl, h.ap⟩
theorem Tw.none_ (lo : Nat) (wq : World) : Tw lo (.slice none 0 0) 0 [] (.slice none 0 0) 0 [] wq := ⟨⟨rfl, .inl ⟨rfl, rfl⟩⟩, ⟨rfl, .inl ⟨rfl, rfl⟩⟩, fun g h => by cases h⟩
end
set_option maxRecDepth 100000 in
set_option maxHeartbeats 8000000 in
theorem implCopy_any {B : Nat} (m : Mc) (w : World) (h : m.At w B) (hB : B ≤ w.heap.size) (hs : m.small) : Calls Try.prog 26 #[m.val] w (fun e w' => ∃ z : Mc, e = .returned z.val ∧ z.v = m.v ∧ z.Own w' w.heap.size ∧ Below w.heap.size w w') := by
  obtain ⟨pc, st, sA, sc, ca, cA, cc⟩ := m
  simp only [Mc.val, Mc.At, Mc.small] at *
  obtain ⟨hs1, hs2⟩ := hs
  obtain ⟨i0, hi0, hz0, hz1, hz2⟩ := info_parts mint_info
  obtain ⟨wA, hwA⟩ : ∃ wA, wA = (w.alloc (.cells #[.int .i64 pc, .slice sA st.length sc, .slice cA ca.length cc] 27)).alloc (.cells #[.int .i64 0, .slice none 0 0, .slice none 0 0] 27) := ⟨_, rfl⟩
  obtain ⟨g1, hg1⟩ : ∃ g1, g1 = w.heap.size := ⟨_, rfl⟩
  obtain ⟨g2, hg2⟩ : ∃ g2, g2 = w.heap.size + 1 := ⟨_, rfl⟩
  have HWA : Hid (Below w.heap.size w wA) := by rw [hwA]; exact ((Below.refl _ _).alloc (Nat.le_refl _) _).alloc (by simp) _
  have H1 : Hid (Blk wA g1 27 #[.int .i64 pc, .slice sA st.length sc, .slice cA ca.length cc]) := by rw [hwA, hg1]; exact (Blk.new _ _ _).alloc _
  have H2 : Hid (Blk wA g2 27 #[.int .i64 0, .slice none 0 0, .slice none 0 0]) := by
    rw [hwA, hg2]
    have h := Blk.new (w.alloc (.cells #[.int .i64 pc, .slice sA st.length sc, .slice cA ca.length cc] 27)) 27 #[.int .i64 0, .slice none 0 0, .slice none 0 0]
    simpa [Hid] using h
  have hgs : w.heap.size ≤ g1 ∧ g1 < g2 := by omega
  have h2l := H2.out.lt
  have h1l := H1.out.lt
  have HCB : Hid (CpB w wA g1 #[.int .i64 pc, .slice sA st.length sc, .slice cA ca.length cc] sA st cA ca wA) := ⟨HWA.out, Nat.le_refl _, H1.out, ((h.1.more hB).below HWA.out).more HWA.out.size, ((h.2.more hB).below HWA.out).more HWA.out.size, HWA.out.size, h1l⟩
  clear h H1
  go_enter Try.func26, Try.ntmps26
  go_upto_region 1 with fail
  rw [← hwA, ← hg2, ← hg1]
  clear hwA hg1 hg2
  go_wp2
  refine wp_region_facts (fun i v wv => match i with
      | 0 => v = .pointer (some ⟨g1, 0, none⟩)
      | 1 => v = .int .i64 pc
      | 2 => v = .pointer (some ⟨g1, 1, none⟩)
      | 3 => v = .slice sA st.length sc
      | 4 => True
      | 5 => v = .pointer (some ⟨g1, 2, none⟩)
      | 6 => v = .slice cA ca.length cc
      | 7 => True
      | 8 => True
      | _ => True)
    (fun fl vs wq => ∃ (u1 : Value) (n1 : Nat) (x1 : List Value) (u2 : Value) (n2 : Nat) (x2 : List Value), (fl 9 = false → CpB w wA g1 #[.int .i64 pc, .slice sA st.length sc, .slice cA ca.length cc] sA st cA ca wq) ∧ Below w.heap.size w wq ∧ Tw wA.heap.size u1 n1 x1 u2 n2 x2 wq ∧ (fl 4 = true → vs 4 = u1 ∧ n1 = st.length ∧ x1 = nums .i64 st) ∧ (fl 7 = true → vs 7 = u2 ∧ n2 = ca.length ∧ x2 = nums .i64 ca) ∧ (fl 8 = true → vs 8 = .agg #[.int .i64 pc, u1, u2]) ∧ (fl 9 = false → Blk wq g2 27 #[.int .i64 0, .slice none 0 0, .slice none 0 0]) ∧ (fl 9 = true → Blk wq g2 27 #[.int .i64 pc, u1, u2])) (fun _ _ => True) (by kernel_rfl) (by kernel_rfl) ?_ ?_ ?_ ?_
  · intro i v u u2 hk h
    exact h
  · intro fl vs hfl
    have z4 := hfl 4 (by simp)
    have z7 := hfl 7 (by simp)
    have z8 := hfl 8 (by simp)
    have z9 := hfl 9 (by simp)
    exact ⟨_, _, _, _, _, _, fun _ => HCB.out.below (below_drewN (Below.refl _ _) 1), below_drewN HWA.out 1, Tw.none_ _ _, fun h => by simp [z4] at h, fun h => by simp [z7] at h, fun h => by simp [z8] at h, fun _ => H2.out, fun h => by simp [z9] at h⟩
  · refine ⟨?_, ?_, ?_, ?_, ?_, ?_, ?_, ?_, ?_, ?_, trivial⟩
    all_goals intro fl vs wr9 a1 hc hG hfi hcl hp K hK
    · have e1 : a1.eval (.tmp 1) = .pointer (some ⟨g1, 0, none⟩) := hc.ev0 1 rfl
      unfold Oper.wp execOp
      simp only [e1]
      go_simp
      exact hK _ _ trivial rfl (by simpa [upd] using hG)
    · have n_9 : fl 9 = false := by cases h : fl 9 with
        | false => rfl
        | true =>
          have h8 := hcl 9 8 (by kernel_rfl) h
          have h1 := hcl 8 1 (by kernel_rfl) h8
          rw [show fl 1 = false from hfi] at h1; cases h1
      obtain ⟨u1, n1, x1, u2, n2, x2, hcb, hrest⟩ := hG
      have e1 := hc.ev 3 0 rfl
      rw [show vs 0 = _ from (hp 0 (by kernel_rfl)).2] at e1
      have c0 : wr9.cell? ⟨g1, 0, none⟩ = some (.int .i64 pc) := (hcb n_9).b1.cell 0
      unfold Oper.wp execOp
      simp only [e1]
      go_simp
      exact hK _ _ trivial rfl ⟨u1, n1, x1, u2, n2, x2, by simpa [upd] using hcb, by simpa [upd] using hrest⟩
    · have e1 : a1.eval (.tmp 1) = .pointer (some ⟨g1, 0, none⟩) := hc.ev0 1 rfl
      unfold Oper.wp execOp
      simp only [e1]
      go_simp
      exact hK _ _ trivial rfl (by simpa [upd] using hG)
    · have n_9 : fl 9 = false := by cases h : fl 9 with
        | false => rfl
        | true =>
          have h8 := hcl 9 8 (by kernel_rfl) h
          have h4 := hcl 8 4 (by kernel_rfl) h8
          have h3 := hcl 4 3 (by kernel_rfl) h4
          rw [show fl 3 = false from hfi] at h3; cases h3
      obtain ⟨u1, n1, x1, u2, n2, x2, hcb, hrest⟩ := hG
      have e1 := hc.ev 5 2 rfl
      rw [show vs 2 = _ from (hp 2 (by kernel_rfl)).2] at e1
      have c0 : wr9.cell? ⟨g1, 1, none⟩ = some (.slice sA st.length sc) := (hcb n_9).b1.cell 1
      unfold Oper.wp execOp
      simp only [e1]
      go_simp
      exact hK _ _ trivial rfl ⟨u1, n1, x1, u2, n2, x2, by simpa [upd] using hcb, by simpa [upd] using hrest⟩
    · have hfi_ : fl 4 = false := hfi
      have n_8 : fl 8 = false := by cases h : fl 8 with
        | false => rfl
        | true =>
          have h4 := hcl 8 4 (by kernel_rfl) h
          rw [show fl 4 = false from hfi] at h4; cases h4
      have n_9 : fl 9 = false := by cases h : fl 9 with
        | false => rfl
        | true =>
          have h8 := hcl 9 8 (by kernel_rfl) h
          have h4 := hcl 8 4 (by kernel_rfl) h8
          rw [show fl 4 = false from hfi] at h4; cases h4
      obtain ⟨u1, n1, x1, u2, n2, x2, hcb, hbl, htw, l1, l2, gb, gz, gf⟩ := hG
      have hcb_ := hcb n_9
      have e1 := hc.ev 6 3 rfl
      rw [show vs 3 = _ from (hp 3 (by kernel_rfl)).2] at e1
      refine op_call rfl (vs := #[.slice sA st.length sc]) (by simp only [List.map_toArray, List.map_cons, List.map_nil, e1]) (by kernel_rfl) (clone_any st wr9 hcb_.r1 (by omega)) ?_
      rintro e w9 ⟨A9, c9, rfl, o9, s9⟩
      exact ⟨_, rfl, hK _ _ trivial trivial ⟨_, _, _, u2, n2, x2, fun _ => hcb_.below s9, (hcb_.below s9).bl, (htw.fresh s9 hcb_.sz o9), fun _ => ⟨by rw [upd_at], rfl, rfl⟩, by simpa [upd] using l2, fun h => by simp [upd, n_8] at h, fun _ => (gz n_9).below s9 (gz n_9).lt, fun h => by simp [upd, n_9] at h⟩⟩
    · have e1 : a1.eval (.tmp 1) = .pointer (some ⟨g1, 0, none⟩) := hc.ev0 1 rfl
      unfold Oper.wp execOp
      simp only [e1]
      go_simp
      exact hK _ _ trivial rfl (by simpa [upd] using hG)
    · have n_9 : fl 9 = false := by cases h : fl 9 with
        | false => rfl
        | true =>
          have h8 := hcl 9 8 (by kernel_rfl) h
          have h7 := hcl 8 7 (by kernel_rfl) h8
          have h6 := hcl 7 6 (by kernel_rfl) h7
          rw [show fl 6 = false from hfi] at h6; cases h6
      obtain ⟨u1, n1, x1, u2, n2, x2, hcb, hrest⟩ := hG
      have e1 := hc.ev 8 5 rfl
      rw [show vs 5 = _ from (hp 5 (by kernel_rfl)).2] at e1
      have c0 : wr9.cell? ⟨g1, 2, none⟩ = some (.slice cA ca.length cc) := (hcb n_9).b1.cell 2
      unfold Oper.wp execOp
      simp only [e1]
      go_simp
      exact hK _ _ trivial rfl ⟨u1, n1, x1, u2, n2, x2, by simpa [upd] using hcb, by simpa [upd] using hrest⟩
    · have hfi_ : fl 7 = false := hfi
      have n_8 : fl 8 = false := by cases h : fl 8 with
        | false => rfl
        | true =>
          have h7 := hcl 8 7 (by kernel_rfl) h
          rw [show fl 7 = false from hfi] at h7; cases h7
      have n_9 : fl 9 = false := by cases h : fl 9 with
        | false => rfl
        | true =>
          have h8 := hcl 9 8 (by kernel_rfl) h
          have h7 := hcl 8 7 (by kernel_rfl) h8
          rw [show fl 7 = false from hfi] at h7; cases h7
      obtain ⟨u1, n1, x1, u2, n2, x2, hcb, hbl, htw, l1, l2, gb, gz, gf⟩ := hG
      have hcb_ := hcb n_9
      have e1 := hc.ev 9 6 rfl
      rw [show vs 6 = _ from (hp 6 (by kernel_rfl)).2] at e1
      refine op_call rfl (vs := #[.slice cA ca.length cc]) (by simp only [List.map_toArray, List.map_cons, List.map_nil, e1]) (by kernel_rfl) (clone_any ca wr9 hcb_.r2 (by omega)) ?_
      rintro e w9 ⟨A9, c9, rfl, o9, s9⟩
      exact ⟨_, rfl, hK _ _ trivial trivial ⟨u1, n1, x1, _, _, _, fun _ => hcb_.below s9, (hcb_.below s9).bl, (htw.swap.fresh s9 hcb_.sz o9).swap, by simpa [upd] using l1, fun _ => ⟨by rw [upd_at], rfl, rfl⟩, fun h => by simp [upd, n_8] at h, fun _ => (gz n_9).below s9 (gz n_9).lt, fun h => by simp [upd, n_9] at h⟩⟩
    · have n_9 : fl 9 = false := by cases h : fl 9 with
        | false => rfl
        | true =>
          have h8 := hcl 9 8 (by kernel_rfl) h
          rw [show fl 8 = false from hfi] at h8; cases h8
      obtain ⟨u1, n1, x1, u2, n2, x2, hcb, hbl, htw, l1, l2, gb, gz, gf⟩ := hG
      have fa := (hp 4 (by kernel_rfl)).1
      have fb := (hp 7 (by kernel_rfl)).1
      have e0 := hc.ev 4 1 rfl
      rw [show vs 1 = _ from (hp 1 (by kernel_rfl)).2] at e0
      have e1 := hc.ev 7 4 rfl
      obtain ⟨hv1, hn1, hx1⟩ := l1 fa
      subst hn1 hx1
      rw [hv1] at e1
      have e2 := hc.ev 10 7 rfl
      obtain ⟨hv2, hn2, hx2⟩ := l2 fb
      subst hn2 hx2
      rw [hv2] at e2
      obtain ⟨A1, c1, rfl⟩ := own_sliceM htw.o1
      obtain ⟨A2, c2, rfl⟩ := own_sliceM htw.o2
      unfold Oper.wp execOp
      simp only [e0, e1, e2, List.map_toArray, List.map_cons, List.map_nil]
      go_simp
      exact hK _ _ trivial trivial ⟨_, _, _, _, _, _, by simpa [upd] using hcb, hbl, htw, by simpa [upd] using l1, by simpa [upd] using l2, fun _ => by rw [upd_at], by simpa [upd] using gz, fun h => by simp [upd, n_9] at h⟩
    · obtain ⟨u1, n1, x1, u2, n2, x2, hcb, hbl, htw, l1, l2, gb, gz, gf⟩ := hG
      have n_ : fl 9 = false := hfi
      have hz0 := gz n_
      have fB := (hp 8 (by kernel_rfl)).1
      have e1 : a1.eval (.tmp 2) = .pointer (some ⟨g2, 0, none⟩) := hc.ev0 2 rfl
      have e2 := hc.ev 11 8 rfl
      rw [gb fB] at e2
      obtain ⟨A1, c1, rfl⟩ := own_sliceM htw.o1
      obtain ⟨A2, c2, rfl⟩ := own_sliceM htw.o2
      have c0_ : wr9.cell? ⟨g2, 0, none⟩ = some (.int .i64 0) := hz0.cell 0
      have c1_ : wr9.cell? ⟨g2, 1, none⟩ = some (.slice none 0 0) := hz0.cell 1
      have c2_ : wr9.cell? ⟨g2, 2, none⟩ = some (.slice none 0 0) := hz0.cell 2
      have f0_ : wr9.frozen? ⟨g2, 0, none⟩ = false := hz0.frozen 0
      have f1_ : wr9.frozen? ⟨g2, 1, none⟩ = false := hz0.frozen 1
      have f2_ : wr9.frozen? ⟨g2, 2, none⟩ = false := hz0.frozen 2
      have HQ := Lib.hid (⟨(((hbl.setCell (p := ⟨g2, 0, none⟩) (by simp only; omega) (.int .i64 pc)).setCell (p := ⟨g2, 1, none⟩) (by simp only; omega) (.slice A1 n1 c1)).setCell (p := ⟨g2, 2, none⟩) (by simp only; omega) (.slice A2 n2 c2)), (((htw.set_ hz0 0 (.int .i64 pc)).set_ (hz0.set_ 0 (.int .i64 pc)) 1 (.slice A1 n1 c1)).set_ ((hz0.set_ 0 (.int .i64 pc)).set_ 1 (.slice A1 n1 c1)) 2 (.slice A2 n2 c2)), (((hz0.set_ 0 (.int .i64 pc)).set_ 1 (.slice A1 n1 c1)).set_ 2 (.slice A2 n2 c2))⟩ : _ ∧ _ ∧ _)
      have HL := Lib.hid (And.intro l1 l2)
      clear hz0 htw hbl gz gf l1 l2 hcb
      unfold Oper.wp execOp
      simp only [e1, e2]
      go_simp
      exact hK undef _ trivial trivial ⟨_, n1, x1, _, n2, x2, fun h => by simp [upd] at h, HQ.out.1, HQ.out.2.1, by simpa [upd] using HL.out.1, by simpa [upd] using HL.out.2, by simpa [upd] using gb, fun h => by simp [upd] at h, fun _ => HQ.out.2.2⟩
  · intro fl vs w9 hfl hG hF
    obtain ⟨u1, n1, x1, u2, n2, x2, hcb, hbl, htw, l1, l2, gb, gz, gf⟩ := hG
    obtain ⟨_, rfl, rfl⟩ := l1 (hfl 4 (by simp))
    obtain ⟨_, rfl, rfl⟩ := l2 (hfl 7 (by simp))
    have hq := gf (hfl 9 (by simp))
    obtain ⟨A1, c1, rfl⟩ := own_sliceM htw.o1
    obtain ⟨A2, c2, rfl⟩ := own_sliceM htw.o2
    have HQ := Lib.hid hq
    have HTW := Lib.hid htw
    have HBL := Lib.hid hbl
    clear hq htw hbl hcb gb gz gf hF hfl l1 l2
    simp only [fill]
    go_simp
    go_wp2
    have y0 : w9.cell? ⟨g2, 0, none⟩ = some (.int .i64 pc) := HQ.out.cell 0
    have y1 : w9.cell? ⟨g2, 1, none⟩ = some (.slice A1 st.length c1) := HQ.out.cell 1
    have y2 : w9.cell? ⟨g2, 2, none⟩ = some (.slice A2 ca.length c2) := HQ.out.cell 2
    refine bodyPost_ret (v := .agg #[.int .i64 pc, .slice A1 st.length c1, .slice A2 ca.length c2]) (by simp [results, Try.results26, go_sem, y0, y1, y2]) rfl ?_
    exact ⟨⟨pc, st, A1, c1, ca, A2, c2⟩, rfl, rfl, ⟨own_base HTW.out.o1 HWA.out.size, own_base HTW.out.o2 HWA.out.size, HTW.out.ap⟩, HBL.out⟩
set_option maxRecDepth 100000 in
set_option maxHeartbeats 8000000 in
theorem specCopy_any {B : Nat} (m : Mc) (w : World) (h : m.At w B) (hB : B ≤ w.heap.size) (hs : m.small) : Calls Try.prog 22 #[m.val] w (fun e w' => ∃ z : Mc, e = .returned z.val ∧ z.v = m.v ∧ z.Own w' w.heap.size ∧ Below w.heap.size w w') := by
  obtain ⟨pc, st, sA, sc, ca, cA, cc⟩ := m
  simp only [Mc.val, Mc.At, Mc.small] at *
  obtain ⟨hs1, hs2⟩ := hs
  obtain ⟨i0, hi0, hz0, hz1, hz2⟩ := info_parts mint_info
  obtain ⟨wA, hwA⟩ : ∃ wA, wA = (w.alloc (.cells #[.int .i64 pc, .slice sA st.length sc, .slice cA ca.length cc] 27)).alloc (.cells #[.int .i64 0, .slice none 0 0, .slice none 0 0] 27) := ⟨_, rfl⟩
  obtain ⟨g1, hg1⟩ : ∃ g1, g1 = w.heap.size := ⟨_, rfl⟩
  obtain ⟨g2, hg2⟩ : ∃ g2, g2 = w.heap.size + 1 := ⟨_, rfl⟩
  have HWA : Hid (Below w.heap.size w wA) := by rw [hwA]; exact ((Below.refl _ _).alloc (Nat.le_refl _) _).alloc (by simp) _
  have H1 : Hid (Blk wA g1 27 #[.int .i64 pc, .slice sA st.length sc, .slice cA ca.length cc]) := by rw [hwA, hg1]; exact (Blk.new _ _ _).alloc _
  have H2 : Hid (Blk wA g2 27 #[.int .i64 0, .slice none 0 0, .slice none 0 0]) := by
    rw [hwA, hg2]
    have h := Blk.new (w.alloc (.cells #[.int .i64 pc, .slice sA st.length sc, .slice cA ca.length cc] 27)) 27 #[.int .i64 0, .slice none 0 0, .slice none 0 0]
    simpa [Hid] using h
  have hgs : w.heap.size ≤ g1 ∧ g1 < g2 := by omega
  have h2l := H2.out.lt
  have h1l := H1.out.lt
  have HCB : Hid (CpB w wA g1 #[.int .i64 pc, .slice sA st.length sc, .slice cA ca.length cc] sA st cA ca wA) := ⟨HWA.out, Nat.le_refl _, H1.out, ((h.1.more hB).below HWA.out).more HWA.out.size, ((h.2.more hB).below HWA.out).more HWA.out.size, HWA.out.size, h1l⟩
  clear h H1
  go_enter Try.func22, Try.ntmps22
  go_upto_region 1 with fail
  rw [← hwA, ← hg2, ← hg1]
  clear hwA hg1 hg2
  go_wp2
  refine wp_region_facts (fun i v wv => match i with
      | 0 => v = .pointer (some ⟨g1, 0, none⟩)
      | 1 => v = .int .i64 pc
      | 2 => True
      | 3 => v = .pointer (some ⟨g1, 1, none⟩)
      | 4 => v = .slice sA st.length sc
      | 5 => True
      | 6 => True
      | 7 => v = .pointer (some ⟨g1, 2, none⟩)
      | 8 => v = .slice cA ca.length cc
      | 9 => True
      | 10 => True
      | _ => True)
    (fun fl vs wq => ∃ (u1 : Value) (n1 : Nat) (x1 : List Value) (u2 : Value) (n2 : Nat) (x2 : List Value), (fl 11 = false → CpB w wA g1 #[.int .i64 pc, .slice sA st.length sc, .slice cA ca.length cc] sA st cA ca wq) ∧ Below w.heap.size w wq ∧ Tw wA.heap.size u1 n1 x1 u2 n2 x2 wq ∧ (fl 2 = true → fl 5 = false → vs 2 = u1 ∧ n1 = 0 ∧ x1 = []) ∧ (fl 5 = true → vs 5 = u1 ∧ n1 = st.length ∧ x1 = nums .i64 st) ∧ (fl 6 = true → fl 9 = false → vs 6 = u2 ∧ n2 = 0 ∧ x2 = []) ∧ (fl 9 = true → vs 9 = u2 ∧ n2 = ca.length ∧ x2 = nums .i64 ca) ∧ (fl 10 = true → vs 10 = .agg #[.int .i64 pc, u1, u2]) ∧ (fl 11 = false → Blk wq g2 27 #[.int .i64 0, .slice none 0 0, .slice none 0 0]) ∧ (fl 11 = true → Blk wq g2 27 #[.int .i64 pc, u1, u2])) (fun _ _ => True) (by kernel_rfl) (by kernel_rfl) ?_ ?_ ?_ ?_
  · intro i v u u2 hk h
    exact h
  · intro fl vs hfl
    have z2 := hfl 2 (by simp)
    have z5 := hfl 5 (by simp)
    have z6 := hfl 6 (by simp)
    have z9 := hfl 9 (by simp)
    have z10 := hfl 10 (by simp)
    have z11 := hfl 11 (by simp)
    exact ⟨_, _, _, _, _, _, fun _ => HCB.out.below (below_drewN (Below.refl _ _) 1), below_drewN HWA.out 1, Tw.none_ _ _, fun h => by simp [z2] at h, fun h => by simp [z5] at h, fun h => by simp [z6] at h, fun h => by simp [z9] at h, fun h => by simp [z10] at h, fun _ => H2.out, fun h => by simp [z11] at h⟩
  · refine ⟨?_, ?_, ?_, ?_, ?_, ?_, ?_, ?_, ?_, ?_, ?_, ?_, trivial⟩
    all_goals intro fl vs wr9 a1 hc hG hfi hcl hp K hK
    · have e1 : a1.eval (.tmp 1) = .pointer (some ⟨g1, 0, none⟩) := hc.ev0 1 rfl
      unfold Oper.wp execOp
      simp only [e1]
      go_simp
      exact hK _ _ trivial rfl (by simpa [upd] using hG)
    · have n_11 : fl 11 = false := by cases h : fl 11 with
        | false => rfl
        | true =>
          have h10 := hcl 11 10 (by kernel_rfl) h
          have h1 := hcl 10 1 (by kernel_rfl) h10
          rw [show fl 1 = false from hfi] at h1; cases h1
      obtain ⟨u1, n1, x1, u2, n2, x2, hcb, hrest⟩ := hG
      have e1 := hc.ev 3 0 rfl
      rw [show vs 0 = _ from (hp 0 (by kernel_rfl)).2] at e1
      have c0 : wr9.cell? ⟨g1, 0, none⟩ = some (.int .i64 pc) := (hcb n_11).b1.cell 0
      unfold Oper.wp execOp
      simp only [e1]
      go_simp
      exact hK _ _ trivial rfl ⟨u1, n1, x1, u2, n2, x2, by simpa [upd] using hcb, by simpa [upd] using hrest⟩
    · have hfi_ : fl 2 = false := hfi
      have n_5 : fl 5 = false := by cases h : fl 5 with
        | false => rfl
        | true =>
          have h2 := hcl 5 2 (by kernel_rfl) h
          rw [show fl 2 = false from hfi] at h2; cases h2
      have n_10 : fl 10 = false := by cases h : fl 10 with
        | false => rfl
        | true =>
          have h5 := hcl 10 5 (by kernel_rfl) h
          have h2 := hcl 5 2 (by kernel_rfl) h5
          rw [show fl 2 = false from hfi] at h2; cases h2
      have n_11 : fl 11 = false := by cases h : fl 11 with
        | false => rfl
        | true =>
          have h10 := hcl 11 10 (by kernel_rfl) h
          have h5 := hcl 10 5 (by kernel_rfl) h10
          have h2 := hcl 5 2 (by kernel_rfl) h5
          rw [show fl 2 = false from hfi] at h2; cases h2
      obtain ⟨u1, n1, x1, u2, n2, x2, hcb, hbl, htw, k1, l1, k2, l2, gb, gz, gf⟩ := hG
      have hcb_ := hcb n_11
      have o9 := World.ownsRow_lit (base := wr9.heap.size) (e := 3) (size := 1) wr9 #[] 0 (Nat.le_refl _) (by unfold maxLen; omega) rfl
      have s9 : Below wr9.heap.size wr9 (wr9.alloc (.cells #[] 3)) := (Below.refl _ _).alloc (Nat.le_refl _) _
      unfold Oper.wp execOp
      go_simp
      exact hK _ _ trivial trivial ⟨_, _, _, u2, n2, x2, fun _ => hcb_.below s9, (hcb_.below s9).bl, (htw.fresh s9 hcb_.sz o9), fun _ _ => ⟨by rw [upd_at], rfl, rfl⟩, fun h => by simp [upd, n_5] at h, by simpa [upd] using k2, by simpa [upd] using l2, fun h => by simp [upd, n_10] at h, fun _ => (gz n_11).below s9 (gz n_11).lt, fun h => by simp [upd, n_11] at h⟩
    · have e1 : a1.eval (.tmp 1) = .pointer (some ⟨g1, 0, none⟩) := hc.ev0 1 rfl
      unfold Oper.wp execOp
      simp only [e1]
      go_simp
      exact hK _ _ trivial rfl (by simpa [upd] using hG)
    · have n_11 : fl 11 = false := by cases h : fl 11 with
        | false => rfl
        | true =>
          have h10 := hcl 11 10 (by kernel_rfl) h
          have h5 := hcl 10 5 (by kernel_rfl) h10
          have h4 := hcl 5 4 (by kernel_rfl) h5
          rw [show fl 4 = false from hfi] at h4; cases h4
      obtain ⟨u1, n1, x1, u2, n2, x2, hcb, hrest⟩ := hG
      have e1 := hc.ev 6 3 rfl
      rw [show vs 3 = _ from (hp 3 (by kernel_rfl)).2] at e1
      have c0 : wr9.cell? ⟨g1, 1, none⟩ = some (.slice sA st.length sc) := (hcb n_11).b1.cell 1
      unfold Oper.wp execOp
      simp only [e1]
      go_simp
      exact hK _ _ trivial rfl ⟨u1, n1, x1, u2, n2, x2, by simpa [upd] using hcb, by simpa [upd] using hrest⟩
    · have hfi_ : fl 5 = false := hfi
      have n_10 : fl 10 = false := by cases h : fl 10 with
        | false => rfl
        | true =>
          have h5 := hcl 10 5 (by kernel_rfl) h
          rw [show fl 5 = false from hfi] at h5; cases h5
      have n_11 : fl 11 = false := by cases h : fl 11 with
        | false => rfl
        | true =>
          have h10 := hcl 11 10 (by kernel_rfl) h
          have h5 := hcl 10 5 (by kernel_rfl) h10
          rw [show fl 5 = false from hfi] at h5; cases h5
      obtain ⟨u1, n1, x1, u2, n2, x2, hcb, hbl, htw, k1, l1, k2, l2, gb, gz, gf⟩ := hG
      have hcb_ := hcb n_11
      have flq : fl 2 = true := (hp 2 (by kernel_rfl)).1
      obtain ⟨hvq, rfl, rfl⟩ := k1 flq hfi_
      have e1 := hc.ev 5 2 rfl
      rw [hvq] at e1
      have e2 := hc.ev 7 4 rfl
      rw [show vs 4 = _ from (hp 4 (by kernel_rfl)).2] at e2
      refine wp_append_any _ _ _ _ rfl wA.heap.size 3 i0 _ 1 8 Try.underlying22 hi0 hz0 hz1 hz2 rfl (by omega) u1 0 [] e1 htw.o1 _ _ _ _ (nums .i64 st) e2 hcb_.r1 (nums_one _ _) (by unfold maxLen; omega) (by omega) hcb_.sz ?_
      intro v' w6 ho hg hat
      rw [Nat.zero_add, List.nil_append] at ho
      have hgr := fun k hk => (own_lt' htw.o1 k hk).1
      exact hK _ _ trivial trivial ⟨v', _, _, u2, n2, x2, fun _ => hcb_.grown hg hgr, (hcb_.grown hg hgr).bl, (htw.push hg ho hat), fun _ h => by simp [upd] at h, fun _ => ⟨by rw [upd_at], rfl, rfl⟩, by simpa [upd] using k2, by simpa [upd] using l2, fun h => by simp [upd, n_10] at h, fun _ => (gz n_11).grown hg (fun e => by have := hgr _ e.symm; omega), fun h => by simp [upd, n_11] at h⟩
    · have hfi_ : fl 6 = false := hfi
      have n_9 : fl 9 = false := by cases h : fl 9 with
        | false => rfl
        | true =>
          have h6 := hcl 9 6 (by kernel_rfl) h
          rw [show fl 6 = false from hfi] at h6; cases h6
      have n_10 : fl 10 = false := by cases h : fl 10 with
        | false => rfl
        | true =>
          have h9 := hcl 10 9 (by kernel_rfl) h
          have h6 := hcl 9 6 (by kernel_rfl) h9
          rw [show fl 6 = false from hfi] at h6; cases h6
      have n_11 : fl 11 = false := by cases h : fl 11 with
        | false => rfl
        | true =>
          have h10 := hcl 11 10 (by kernel_rfl) h
          have h9 := hcl 10 9 (by kernel_rfl) h10
          have h6 := hcl 9 6 (by kernel_rfl) h9
          rw [show fl 6 = false from hfi] at h6; cases h6
      obtain ⟨u1, n1, x1, u2, n2, x2, hcb, hbl, htw, k1, l1, k2, l2, gb, gz, gf⟩ := hG
      have hcb_ := hcb n_11
      have o9 := World.ownsRow_lit (base := wr9.heap.size) (e := 3) (size := 1) wr9 #[] 0 (Nat.le_refl _) (by unfold maxLen; omega) rfl
      have s9 : Below wr9.heap.size wr9 (wr9.alloc (.cells #[] 3)) := (Below.refl _ _).alloc (Nat.le_refl _) _
      unfold Oper.wp execOp
      go_simp
      exact hK _ _ trivial trivial ⟨u1, n1, x1, _, _, _, fun _ => hcb_.below s9, (hcb_.below s9).bl, (htw.swap.fresh s9 hcb_.sz o9).swap, by simpa [upd] using k1, by simpa [upd] using l1, fun _ _ => ⟨by rw [upd_at], rfl, rfl⟩, fun h => by simp [upd, n_9] at h, fun h => by simp [upd, n_10] at h, fun _ => (gz n_11).below s9 (gz n_11).lt, fun h => by simp [upd, n_11] at h⟩
    · have e1 : a1.eval (.tmp 1) = .pointer (some ⟨g1, 0, none⟩) := hc.ev0 1 rfl
      unfold Oper.wp execOp
      simp only [e1]
      go_simp
      exact hK _ _ trivial rfl (by simpa [upd] using hG)
    · have n_11 : fl 11 = false := by cases h : fl 11 with
        | false => rfl
        | true =>
          have h10 := hcl 11 10 (by kernel_rfl) h
          have h9 := hcl 10 9 (by kernel_rfl) h10
          have h8 := hcl 9 8 (by kernel_rfl) h9
          rw [show fl 8 = false from hfi] at h8; cases h8
      obtain ⟨u1, n1, x1, u2, n2, x2, hcb, hrest⟩ := hG
      have e1 := hc.ev 10 7 rfl
      rw [show vs 7 = _ from (hp 7 (by kernel_rfl)).2] at e1
      have c0 : wr9.cell? ⟨g1, 2, none⟩ = some (.slice cA ca.length cc) := (hcb n_11).b1.cell 2
      unfold Oper.wp execOp
      simp only [e1]
      go_simp
      exact hK _ _ trivial rfl ⟨u1, n1, x1, u2, n2, x2, by simpa [upd] using hcb, by simpa [upd] using hrest⟩
    · have hfi_ : fl 9 = false := hfi
      have n_10 : fl 10 = false := by cases h : fl 10 with
        | false => rfl
        | true =>
          have h9 := hcl 10 9 (by kernel_rfl) h
          rw [show fl 9 = false from hfi] at h9; cases h9
      have n_11 : fl 11 = false := by cases h : fl 11 with
        | false => rfl
        | true =>
          have h10 := hcl 11 10 (by kernel_rfl) h
          have h9 := hcl 10 9 (by kernel_rfl) h10
          rw [show fl 9 = false from hfi] at h9; cases h9
      obtain ⟨u1, n1, x1, u2, n2, x2, hcb, hbl, htw, k1, l1, k2, l2, gb, gz, gf⟩ := hG
      have hcb_ := hcb n_11
      have flq : fl 6 = true := (hp 6 (by kernel_rfl)).1
      obtain ⟨hvq, rfl, rfl⟩ := k2 flq hfi_
      have e1 := hc.ev 9 6 rfl
      rw [hvq] at e1
      have e2 := hc.ev 11 8 rfl
      rw [show vs 8 = _ from (hp 8 (by kernel_rfl)).2] at e2
      refine wp_append_any _ _ _ _ rfl wA.heap.size 3 i0 _ 1 8 Try.underlying22 hi0 hz0 hz1 hz2 rfl (by omega) u2 0 [] e1 htw.o2 _ _ _ _ (nums .i64 ca) e2 hcb_.r2 (nums_one _ _) (by unfold maxLen; omega) (by omega) hcb_.sz ?_
      intro v' w6 ho hg hat
      rw [Nat.zero_add, List.nil_append] at ho
      have hgr := fun k hk => (own_lt' htw.o2 k hk).1
      exact hK _ _ trivial trivial ⟨u1, n1, x1, v', _, _, fun _ => hcb_.grown hg hgr, (hcb_.grown hg hgr).bl, (htw.swap.push hg ho hat).swap, by simpa [upd] using k1, by simpa [upd] using l1, fun _ h => by simp [upd] at h, fun _ => ⟨by rw [upd_at], rfl, rfl⟩, fun h => by simp [upd, n_10] at h, fun _ => (gz n_11).grown hg (fun e => by have := hgr _ e.symm; omega), fun h => by simp [upd, n_11] at h⟩
    · have n_11 : fl 11 = false := by cases h : fl 11 with
        | false => rfl
        | true =>
          have h10 := hcl 11 10 (by kernel_rfl) h
          rw [show fl 10 = false from hfi] at h10; cases h10
      obtain ⟨u1, n1, x1, u2, n2, x2, hcb, hbl, htw, k1, l1, k2, l2, gb, gz, gf⟩ := hG
      have fa := (hp 5 (by kernel_rfl)).1
      have fb := (hp 9 (by kernel_rfl)).1
      have e0 := hc.ev 4 1 rfl
      rw [show vs 1 = _ from (hp 1 (by kernel_rfl)).2] at e0
      have e1 := hc.ev 8 5 rfl
      obtain ⟨hv1, hn1, hx1⟩ := l1 fa
      subst hn1 hx1
      rw [hv1] at e1
      have e2 := hc.ev 12 9 rfl
      obtain ⟨hv2, hn2, hx2⟩ := l2 fb
      subst hn2 hx2
      rw [hv2] at e2
      obtain ⟨A1, c1, rfl⟩ := own_sliceM htw.o1
      obtain ⟨A2, c2, rfl⟩ := own_sliceM htw.o2
      unfold Oper.wp execOp
      simp only [e0, e1, e2, List.map_toArray, List.map_cons, List.map_nil]
      go_simp
      exact hK _ _ trivial trivial ⟨_, _, _, _, _, _, by simpa [upd] using hcb, hbl, htw, by simpa [upd] using k1, by simpa [upd] using l1, by simpa [upd] using k2, by simpa [upd] using l2, fun _ => by rw [upd_at], by simpa [upd] using gz, fun h => by simp [upd, n_11] at h⟩
    · obtain ⟨u1, n1, x1, u2, n2, x2, hcb, hbl, htw, k1, l1, k2, l2, gb, gz, gf⟩ := hG
      have n_ : fl 11 = false := hfi
      have hz0 := gz n_
      have fB := (hp 10 (by kernel_rfl)).1
      have e1 : a1.eval (.tmp 2) = .pointer (some ⟨g2, 0, none⟩) := hc.ev0 2 rfl
      have e2 := hc.ev 13 10 rfl
      rw [gb fB] at e2
      obtain ⟨A1, c1, rfl⟩ := own_sliceM htw.o1
      obtain ⟨A2, c2, rfl⟩ := own_sliceM htw.o2
      have c0_ : wr9.cell? ⟨g2, 0, none⟩ = some (.int .i64 0) := hz0.cell 0
      have c1_ : wr9.cell? ⟨g2, 1, none⟩ = some (.slice none 0 0) := hz0.cell 1
      have c2_ : wr9.cell? ⟨g2, 2, none⟩ = some (.slice none 0 0) := hz0.cell 2
      have f0_ : wr9.frozen? ⟨g2, 0, none⟩ = false := hz0.frozen 0
      have f1_ : wr9.frozen? ⟨g2, 1, none⟩ = false := hz0.frozen 1
      have f2_ : wr9.frozen? ⟨g2, 2, none⟩ = false := hz0.frozen 2
      have HQ := Lib.hid (⟨(((hbl.setCell (p := ⟨g2, 0, none⟩) (by simp only; omega) (.int .i64 pc)).setCell (p := ⟨g2, 1, none⟩) (by simp only; omega) (.slice A1 n1 c1)).setCell (p := ⟨g2, 2, none⟩) (by simp only; omega) (.slice A2 n2 c2)), (((htw.set_ hz0 0 (.int .i64 pc)).set_ (hz0.set_ 0 (.int .i64 pc)) 1 (.slice A1 n1 c1)).set_ ((hz0.set_ 0 (.int .i64 pc)).set_ 1 (.slice A1 n1 c1)) 2 (.slice A2 n2 c2)), (((hz0.set_ 0 (.int .i64 pc)).set_ 1 (.slice A1 n1 c1)).set_ 2 (.slice A2 n2 c2))⟩ : _ ∧ _ ∧ _)
      have HL := Lib.hid (And.intro k1 (And.intro l1 (And.intro k2 l2)))
      clear hz0 htw hbl gz gf k1 l1 k2 l2 hcb
      unfold Oper.wp execOp
      simp only [e1, e2]
      go_simp
      exact hK undef _ trivial trivial ⟨_, n1, x1, _, n2, x2, fun h => by simp [upd] at h, HQ.out.1, HQ.out.2.1, by simpa [upd] using HL.out.1, by simpa [upd] using HL.out.2.1, by simpa [upd] using HL.out.2.2.1, by simpa [upd] using HL.out.2.2.2, by simpa [upd] using gb, fun h => by simp [upd] at h, fun _ => HQ.out.2.2⟩
  · intro fl vs w9 hfl hG hF
    obtain ⟨u1, n1, x1, u2, n2, x2, hcb, hbl, htw, k1, l1, k2, l2, gb, gz, gf⟩ := hG
    obtain ⟨_, rfl, rfl⟩ := l1 (hfl 5 (by simp))
    obtain ⟨_, rfl, rfl⟩ := l2 (hfl 9 (by simp))
    have hq := gf (hfl 11 (by simp))
    obtain ⟨A1, c1, rfl⟩ := own_sliceM htw.o1
    obtain ⟨A2, c2, rfl⟩ := own_sliceM htw.o2
    have HQ := Lib.hid hq
    have HTW := Lib.hid htw
    have HBL := Lib.hid hbl
    clear hq htw hbl hcb gb gz gf hF hfl k1 l1 k2 l2
    simp only [fill]
    go_simp
    go_wp2
    have y0 : w9.cell? ⟨g2, 0, none⟩ = some (.int .i64 pc) := HQ.out.cell 0
    have y1 : w9.cell? ⟨g2, 1, none⟩ = some (.slice A1 st.length c1) := HQ.out.cell 1
    have y2 : w9.cell? ⟨g2, 2, none⟩ = some (.slice A2 ca.length c2) := HQ.out.cell 2
    refine bodyPost_ret (v := .agg #[.int .i64 pc, .slice A1 st.length c1, .slice A2 ca.length c2]) (by simp [results, Try.results22, go_sem, y0, y1, y2]) rfl ?_
    exact ⟨⟨pc, st, A1, c1, ca, A2, c2⟩, rfl, rfl, ⟨own_base HTW.out.o1 HWA.out.size, own_base HTW.out.o2 HWA.out.size, HTW.out.ap⟩, HBL.out⟩
end Go.Proofs.Ytbljkdhokbhcdaa
