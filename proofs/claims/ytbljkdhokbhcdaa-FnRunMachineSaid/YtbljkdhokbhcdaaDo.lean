/- Contract of an instruction on a machine. Condition: the sizes. -/
import Derived.Test.YtbljkdhokbhcdaaRows
import Derived.Test.YtbljkdhokbhcdaaBase
import Derived.Test.YtbljkdhokbhcdaaBase2
import Derived.Test.YtbljkdhokbhcdaaBase3
import Derived.Test.YtbljkdhokbhcdaaOnly
import Derived.Test.YtbljkdhokbhcdaaIn
import Derived.Test.YtbljkdhokbhcdaaIn2
import Derived.Test.YtbljkdhokbhcdaaGet2IS
import Derived.Test.YtbljkdhokbhcdaaIntS
import Derived.Test.YtbljkdhokbhcdaaReg
import Derived.Test.YtbljkdhokbhcdaaRegS
import Derived.Test.YtbljkdhokbhcdaaPick2
import Derived.Test.YtbljkdhokbhcdaaKT
import Derived.Test.YtbljkdhokbhcdaaMc
import Derived.Test.YtbljkdhokbhcdaaMcy
import Derived.Test.YtbljkdhokbhcdaaCd
import Derived.Test.YtbljkdhokbhcdaaXm
import Derived.WalkKit
import Derived.WalkSpells
import Derived.WalkLawsBesides
import Derived.Handy
import Derived.BigQuiet
import Derived.Deep.RegionHeld3
import Derived.Deep.DrawnRows
import Derived.Deep.QuietTactic
import Derived.Deep.CutBlock
namespace Go.Proofs.Ytbljkdhokbhcdaa
open Go Go.RowKit

section
variable (pc a : Int) (st ca : List Int)
theorem doV_1 : doV pc st ca 1 a = ((pc, st.take st.length ++ [a], ca), decide (st.length + 1 ≤ 8)) := by simp [doV]
theorem doV_23 {d : Int} (hd : d = 2 ∨ d = 3) (h : ¬ st.length < 2) : doV pc st ca d a = ((pc, st.take (st.length - 2) ++ [arith d (st.getD (st.length - 2) 0) (st.getD (st.length - 1) 0)], ca), true) := by
  unfold doV
  rw [if_neg (by omega), if_pos hd, if_neg h]
theorem doV_23n {d : Int} (hd : d = 2 ∨ d = 3) (h : st.length < 2) : doV pc st ca d a = ((pc, st, ca), false) := by
  unfold doV
  rw [if_neg (by omega), if_pos hd, if_pos h]
theorem doV_4 : doV pc st ca 4 a = ((a, st, ca), true) := by simp [doV]
theorem doV_5 (h : ¬ st.length < 1) : doV pc st ca 5 a = ((if st.getD (st.length - 1) 0 = 0 then a else pc, st.take (st.length - 1), ca), true) := by
  unfold doV
  rw [if_neg (by omega), if_neg (by omega), if_neg (by omega), if_pos rfl, if_neg h]
theorem doV_5n (h : st.length < 1) : doV pc st ca 5 a = ((pc, st, ca), false) := by
  unfold doV
  rw [if_neg (by omega), if_neg (by omega), if_neg (by omega), if_pos rfl, if_pos h]
theorem doV_6 : doV pc st ca 6 a = ((a, st, ca.take ca.length ++ [pc]), decide (ca.length + 1 ≤ 8)) := by simp [doV]
theorem doV_7 (h : ¬ ca.length < 1) : doV pc st ca 7 a = ((ca.getD (ca.length - 1) 0, st, ca.take (ca.length - 1)), true) := by
  unfold doV
  rw [if_neg (by omega), if_neg (by omega), if_neg (by omega), if_neg (by omega), if_neg (by omega), if_pos rfl, if_neg h]
theorem doV_7n (h : ca.length < 1) : doV pc st ca 7 a = ((pc, st, ca), false) := by
  unfold doV
  rw [if_neg (by omega), if_neg (by omega), if_neg (by omega), if_neg (by omega), if_neg (by omega), if_pos rfl, if_pos h]
end
theorem row_at {w : World} {lo n c : Nat} {A : Option Addr} {xs : List Int} (h : w.ownsRow lo 3 1 (.slice A n c) n (nums .i64 xs)) (hn : 0 < n) : ∃ g, A = some ⟨g, 0, none⟩ ∧ ∀ k, k < n → w.cell? ⟨g, k, none⟩ = some (.int .i64 (xs.getD k 0)) := by
  obtain ⟨g, rfl, _, _⟩ := own_addr h hn
  have hl : xs.length = n := by have := h.1; simpa [nums] using this
  refine ⟨g, rfl, fun k hk => ?_⟩
  have h1 := h.cellAt k (by omega)
  rw [h1]
  simp [nums, hl, hk, List.getD_eq_getElem?_getD]
theorem row_cell {w : World} {lo n c : Nat} {A : Option Addr} {g : Nat} {xs : List Int} (h : w.ownsRow lo 3 1 (.slice A n c) n (nums .i64 xs)) (hA : A = some ⟨g, 0, none⟩) {k : Nat} (hk : k < n) : w.cell? ⟨g, k, none⟩ = some (.int .i64 (xs.getD k 0)) := by
  obtain ⟨g', h1, h2⟩ := row_at h (by omega)
  rw [hA] at h1
  injection h1 with h1
  injection h1 with h1
  subst h1
  exact h2 k hk
theorem own_le_cap {w : World} {base size n c : Nat} {t : TypeId} {A : Option Addr} {xs : List Value} (h : w.ownsRow base t size (.slice A n c) n xs) : n ≤ c ∧ c ≤ maxLen := by
  rcases h.2 with ⟨hv, hn⟩ | ⟨g', cap, cur, hv, _, _, hnc, hcm, _⟩
  · injection hv with h1 h2 h3
    unfold maxLen
    omega
  · injection hv with h1 h2 h3
    omega
/-- What the call hands back. -/
def Did (base lo g : Nat) (x : Mc) (d a : Int) (w : World) (e : Ending) (w' : World) : Prop := ∃ z : Mc, e = .returned (.bool (doV x.pc x.st x.ca d a).2) ∧ ((doV x.pc x.st x.ca d a).2 = true → z.v = (doV x.pc x.st x.ca d a).1) ∧ Blk w' g 27 z.cells ∧ z.Own w' lo ∧ Below base w w'
theorem XM.did {w w' : World} {base lo g gc : Nat} {d a : Int} {x z : Mc} (h : XM w base lo g gc d a z w') (hv : (doV x.pc x.st x.ca d a).2 = true → z.v = (doV x.pc x.st x.ca d a).1) {b : Bool} (hb : b = (doV x.pc x.st x.ca d a).2) : Did base lo g x d a w (.returned (.bool b)) w' := by
  subst hb
  exact ⟨z, rfl, hv, h.b, h.own, h.bl⟩
theorem reads_one {w : World} {gl : Nat} {v : Value} (h : Blk w gl 3 #[v]) : Reads w w.heap.size 1 (some ⟨gl, 0, none⟩) 1 [v] := by
  refine ⟨rfl, fun _ => ⟨_, rfl, h.lt, fun j u hu => ?_⟩⟩
  have h2 := (h.cell j).trans (by simpa using hu : _ = some u)
  rw [show (⟨gl, 0, none⟩ : Addr).add j = ⟨gl, j, none⟩ from by cases j <;> simp [Addr.add]]
  exact h2
set_option maxRecDepth 100000 in
set_option maxHeartbeats 16000000 in
theorem do_any (base lo g : Nat) (x : Mc) (d a : Int) (w : World) (hb : Blk w g 27 x.cells) (ho : x.Own w lo) (hbs : base ≤ lo ∧ base ≤ g ∧ base ≤ w.heap.size ∧ lo ≤ w.heap.size) (hd : 1 ≤ d ∧ d ≤ 7) (hok : mOk x.pc x.st x.ca = true) :
    Calls Try.prog 43 #[.pointer (some ⟨g, 0, none⟩), .agg #[.int .i64 d, .int .i64 a]] w (Did base lo g x d a w) := by
  obtain ⟨p1, p2, p3, p4, p5⟩ := mOk_parts hok
  have HP4 := Lib.hid p4
  have HP5 := Lib.hid p5
  clear p4 p5 hok
  obtain ⟨i0, hi0, hz0, hz1, hz2⟩ := info_parts mint_info
  have HZZ := Lib.hid hz0
  obtain ⟨w1, hw1⟩ : ∃ w1, w1 = w.alloc (.cells #[.int .i64 d, .int .i64 a] 57) := ⟨_, rfl⟩
  obtain ⟨gc, hgc⟩ : ∃ gc, gc = w.heap.size := ⟨_, rfl⟩
  have HM0 : Hid (XM w base lo g gc d a x w1) := by
    rw [hw1, hgc]
    have hal : Below w.heap.size w (w.alloc (.cells #[.int .i64 d, .int .i64 a] 57)) := (Below.refl _ _).alloc (Nat.le_refl _) _
    exact ⟨hb.alloc _, Blk.new _ _ _, ho.below hal, hal.mono hbs.2.2.1, hbs.1, hbs.2.1, hbs.2.2.1, by have := hbs.2.2.2; simp; omega⟩
  clear hb ho
  have ys : IntKind.i64.wrap ((x.st.length : Int) - 1) = (x.st.length : Int) - 1 := IntWalk.i64_in _ (by omega)
  have yc : IntKind.i64.wrap ((x.ca.length : Int) - 1) = (x.ca.length : Int) - 1 := IntWalk.i64_in _ (by omega)
  go_enter Try.func43, Try.ntmps43
  go_upto_region 1 with fail
  rw [← hw1, ← hgc]
  clear hw1 hgc
  go_wp2
  refine wp_region_facts (fun i v wv => match i with
      | 0 => v = .pointer (some ⟨g, 0, none⟩)
      | 1 => v = .pointer (some ⟨g, 0, none⟩)
      | 2 => v = .pointer (some ⟨g, 1, none⟩)
      | 3 => v = .slice x.sA x.st.length x.sc
      | 4 => v = .int .i64 (x.st.length : Int)
      | 5 => v = .int .i64 ((x.st.length : Int) - 1)
      | 6 => v = .pointer (some ⟨g, 0, none⟩)
      | 7 => v = .pointer (some ⟨g, 0, none⟩)
      | 8 => v = .pointer (some ⟨g, 2, none⟩)
      | 9 => v = .slice x.cA x.ca.length x.cc
      | 10 => v = .int .i64 (x.ca.length : Int)
      | 11 => v = .int .i64 ((x.ca.length : Int) - 1)
      | 12 => v = .int .i64 ((x.st.length : Int) - 1)
      | _ => v = .int .i64 ((x.ca.length : Int) - 1))
    (fun fl vs wq => XM w base lo g gc d a x wq) (fun _ _ => True) (by kernel_rfl) (by kernel_rfl) ?_ ?_ ?_ ?_
  · intro i v u u2 hk h
    exact h
  · intro fl vs hfl
    exact HM0.out.below (below_drewN (Below.refl _ _) 1)
  · refine ⟨?_, ?_, ?_, ?_, ?_, ?_, ?_, ?_, ?_, ?_, ?_, ?_, ?_, ?_, trivial⟩
    all_goals intro fl vs wr9 a1 hc hG hfi hcl hp K hK
    · refine op_move rfl ?_
      rw [hc.ev0 _ rfl]
      exact hK _ _ trivial rfl hG
    · have e0 := hc.ev 9 0 rfl
      rw [show vs 0 = _ from (hp 0 (by kernel_rfl)).2] at e0
      unfold Oper.wp execOp
      simp only [e0]
      go_simp
      exact hK _ _ trivial rfl hG
    · have e0 := hc.ev 10 1 rfl
      rw [show vs 1 = _ from (hp 1 (by kernel_rfl)).2] at e0
      unfold Oper.wp execOp
      simp only [e0]
      go_simp
      exact hK _ _ trivial rfl hG
    · have e0 := hc.ev 11 2 rfl
      rw [show vs 2 = _ from (hp 2 (by kernel_rfl)).2] at e0
      have c0 : wr9.cell? ⟨g, 1, none⟩ = some (.slice x.sA x.st.length x.sc) := hG.b.cell 1
      unfold Oper.wp execOp
      simp only [e0]
      go_simp
      exact hK _ _ trivial rfl hG
    · have e0 := hc.ev 12 3 rfl
      rw [show vs 3 = _ from (hp 3 (by kernel_rfl)).2] at e0
      unfold Oper.wp execOp
      simp only [resolve, invoke, builtin, Sem.run_bind, Sem.run_pure, Result.andThen_ok, List.map_toArray, List.map_cons, List.map_nil, e0]
      go_simp
      exact hK _ _ trivial rfl hG
    · have e0 := hc.ev 13 4 rfl
      rw [show vs 4 = _ from (hp 4 (by kernel_rfl)).2] at e0
      unfold Oper.wp execOp
      simp only [e0]
      go_simp
      exact hK _ _ trivial rfl hG
    · refine op_move rfl ?_
      rw [hc.ev0 _ rfl]
      exact hK _ _ trivial rfl hG
    · have e0 := hc.ev 15 6 rfl
      rw [show vs 6 = _ from (hp 6 (by kernel_rfl)).2] at e0
      unfold Oper.wp execOp
      simp only [e0]
      go_simp
      exact hK _ _ trivial rfl hG
    · have e0 := hc.ev 16 7 rfl
      rw [show vs 7 = _ from (hp 7 (by kernel_rfl)).2] at e0
      unfold Oper.wp execOp
      simp only [e0]
      go_simp
      exact hK _ _ trivial rfl hG
    · have e0 := hc.ev 17 8 rfl
      rw [show vs 8 = _ from (hp 8 (by kernel_rfl)).2] at e0
      have c0 : wr9.cell? ⟨g, 2, none⟩ = some (.slice x.cA x.ca.length x.cc) := hG.b.cell 2
      unfold Oper.wp execOp
      simp only [e0]
      go_simp
      exact hK _ _ trivial rfl hG
    · have e0 := hc.ev 18 9 rfl
      rw [show vs 9 = _ from (hp 9 (by kernel_rfl)).2] at e0
      unfold Oper.wp execOp
      simp only [resolve, invoke, builtin, Sem.run_bind, Sem.run_pure, Result.andThen_ok, List.map_toArray, List.map_cons, List.map_nil, e0]
      go_simp
      exact hK _ _ trivial rfl hG
    · have e0 := hc.ev 19 10 rfl
      rw [show vs 10 = _ from (hp 10 (by kernel_rfl)).2] at e0
      unfold Oper.wp execOp
      simp only [e0]
      go_simp
      exact hK _ _ trivial rfl hG
    · refine op_assign rfl ?_
      rw [hc.ev 14 5 rfl]
      exact hK _ _ trivial (hp 5 (by kernel_rfl)).2 hG
    · refine op_assign rfl ?_
      rw [hc.ev 20 11 rfl]
      exact hK _ _ trivial (hp 11 (by kernel_rfl)).2 hG
  · intro fl vs w2 hfl hG hF
    have h12 := hF 12 (by simp)
    have h13 := hF 13 (by simp)
    have HM := Lib.hid hG
    clear hG hF hfl HM0
    simp only [fill]
    go_simp
    try rw [h12]
    try rw [h13]
    clear h12 h13
    rcases (by omega : d = 1 ∨ d = 2 ∨ d = 3 ∨ d = 4 ∨ d = 5 ∨ d = 6 ∨ d = 7) with hd1 | hd1 | hd1 | hd1 | hd1 | hd1 | hd1
    · subst hd1
      have b0 : w2.cell? ⟨g, 0, none⟩ = some (.int .i64 x.pc) := HM.out.b.cell 0
      have b1 : w2.cell? ⟨g, 1, none⟩ = some (.slice x.sA x.st.length x.sc) := HM.out.b.cell 1
      have b2 : w2.cell? ⟨g, 2, none⟩ = some (.slice x.cA x.ca.length x.cc) := HM.out.b.cell 2
      have k0 : w2.cell? ⟨gc, 0, none⟩ = some (.int .i64 1) := HM.out.c.cell 0
      have k1 : w2.cell? ⟨gc, 1, none⟩ = some (.int .i64 a) := HM.out.c.cell 1
      have f0 : w2.frozen? ⟨g, 0, none⟩ = false := HM.out.b.frozen 0
      have f1 : w2.frozen? ⟨g, 1, none⟩ = false := HM.out.b.frozen 1
      have f2 : w2.frozen? ⟨g, 2, none⟩ = false := HM.out.b.frozen 2
      go_wp2
      clear b0 b1 b2 k0 k1 f0 f1 f2
      refine wp_region_facts (fun i v wv => match i with
          | 0 => v = .pointer (some ⟨g, 0, none⟩)
          | 1 => v = .pointer (some ⟨g, 0, none⟩)
          | 2 => v = .pointer (some ⟨g, 0, none⟩)
          | 3 => v = .pointer (some ⟨g, 1, none⟩)
          | 4 => v = .slice x.sA x.st.length x.sc
          | 5 => v = .pointer (some ⟨gc, 1, none⟩)
          | 6 => v = .int .i64 a
          | 7 => True
          | 8 => True
          | 9 => v = .pointer (some ⟨g, 0, none⟩)
          | 10 => v = .pointer (some ⟨g, 1, none⟩)
          | _ => True)
        (fun fl vs wq => (fl 8 = false → XM w base lo g gc 1 a x wq) ∧ (fl 7 = true → fl 8 = false → ∃ gl, vs 7 = .slice (some ⟨gl, 0, none⟩) 1 1 ∧ Blk wq gl 3 #[.int .i64 a]) ∧ (fl 8 = true → ∃ (A9 : Option Addr) (c9 : Nat), vs 8 = .slice A9 (x.st.length + 1) c9 ∧ XC w base lo g gc 1 a #[.int .i64 x.pc, (if fl 11 = true then Value.slice A9 (x.st.length + 1) c9 else .slice x.sA x.st.length x.sc), .slice x.cA x.ca.length x.cc] { x with st := x.st.take x.st.length ++ [a], sA := A9, sc := c9 } wq)) (fun _ _ => True) (by kernel_rfl) (by kernel_rfl) ?_ ?_ ?_ ?_
      · intro i v u u2 hk h
        exact h
      · intro fl vs hfl
        have z7 := hfl 7 (by simp)
        have z8 := hfl 8 (by simp)
        exact ⟨fun _ => HM.out.below (below_drewN (Below.refl _ _) 1), fun h => by simp [z7] at h, fun h => by simp [z8] at h⟩
      · refine ⟨?_, ?_, ?_, ?_, ?_, ?_, ?_, ?_, ?_, ?_, ?_, ?_, trivial⟩
        all_goals intro fl vs wr9 a1 hc hG hfi hcl hp K hK
        · refine op_move rfl ?_
          rw [hc.ev0 _ rfl]
          exact hK _ _ trivial rfl (by simpa [upd] using hG)
        · refine op_move rfl ?_
          rw [hc.ev0 _ rfl]
          exact hK _ _ trivial rfl (by simpa [upd] using hG)
        · have e0 := hc.ev 26 1 rfl
          rw [show vs 1 = _ from (hp 1 (by kernel_rfl)).2] at e0
          unfold Oper.wp execOp
          simp only [e0]
          go_simp
          exact hK _ _ trivial rfl (by simpa [upd] using hG)
        · have e0 := hc.ev 27 2 rfl
          rw [show vs 2 = _ from (hp 2 (by kernel_rfl)).2] at e0
          unfold Oper.wp execOp
          simp only [e0]
          go_simp
          exact hK _ _ trivial rfl (by simpa [upd] using hG)
        · have n_8 : fl 8 = false := by cases h : fl 8 with
            | false => rfl
            | true =>
              have h4 := hcl 8 4 (by kernel_rfl) h
              rw [show fl 4 = false from hfi] at h4; cases h4
          have e0 := hc.ev 28 3 rfl
          rw [show vs 3 = _ from (hp 3 (by kernel_rfl)).2] at e0
          have c0 : wr9.cell? ⟨g, 1, none⟩ = some (.slice x.sA x.st.length x.sc) := (hG.1 n_8).b.cell 1
          unfold Oper.wp execOp
          simp only [e0]
          go_simp
          exact hK _ _ trivial rfl (by simpa [upd] using hG)
        · have g0_ : a1.eval (.tmp 3) = .pointer (some ⟨gc, 0, none⟩) := hc.ev0 3 rfl
          unfold Oper.wp execOp
          simp only [g0_]
          go_simp
          exact hK _ _ trivial rfl (by simpa [upd] using hG)
        · have n_8 : fl 8 = false := by cases h : fl 8 with
            | false => rfl
            | true =>
              have h7 := hcl 8 7 (by kernel_rfl) h
              have h6 := hcl 7 6 (by kernel_rfl) h7
              rw [show fl 6 = false from hfi] at h6; cases h6
          have e0 := hc.ev 30 5 rfl
          rw [show vs 5 = _ from (hp 5 (by kernel_rfl)).2] at e0
          have c0 : wr9.cell? ⟨gc, 1, none⟩ = some (.int .i64 a) := (hG.1 n_8).c.cell 1
          unfold Oper.wp execOp
          simp only [e0]
          go_simp
          exact hK _ _ trivial rfl (by simpa [upd] using hG)
        · have n_8 : fl 8 = false := by cases h : fl 8 with
            | false => rfl
            | true =>
              have h7 := hcl 8 7 (by kernel_rfl) h
              rw [show fl 7 = false from hfi] at h7; cases h7
          have e0 := hc.ev 31 6 rfl
          rw [show vs 6 = _ from (hp 6 (by kernel_rfl)).2] at e0
          have hM := hG.1 n_8
          unfold Oper.wp execOp
          simp only [e0, List.map_toArray, List.map_cons, List.map_nil]
          go_simp
          exact hK _ _ trivial trivial ⟨fun _ => hM.below ((Below.refl _ _).alloc (Nat.le_refl _) _), fun _ _ => ⟨_, by rw [upd_at], Blk.new _ _ _⟩, fun h => by simp [upd, n_8] at h⟩
        · have n_8 : fl 8 = false := hfi
          have n_11 : fl 11 = false := by cases h : fl 11 with
            | false => rfl
            | true => have := hcl 11 8 (by kernel_rfl) h; rw [n_8] at this; cases this
          have hM := hG.1 n_8
          obtain ⟨gl, hv, hbl⟩ := hG.2.1 (hp 7 (by kernel_rfl)).1 n_8
          have e1 := hc.ev 29 4 rfl
          rw [show vs 4 = _ from (hp 4 (by kernel_rfl)).2] at e1
          have e2 := hc.ev 32 7 rfl
          rw [hv] at e2
          have hR : Reads wr9 wr9.heap.size 1 (some ⟨gl, 0, none⟩) 1 [.int .i64 a] := reads_one hbl
          refine wp_append_any _ _ _ _ rfl lo 3 i0 _ 1 8 Try.underlying22 hi0 hz0 hz1 hz2 rfl (by omega) (.slice x.sA x.st.length x.sc) x.st.length (nums .i64 (x.st.take x.st.length)) e1 (by rw [List.take_length]; exact hM.own.os) _ _ _ _ [.int .i64 a] e2 hR (by simp [Value.oneCell']) (by unfold maxLen; omega) (by omega) hM.lt.2.2.2 ?_
          intro v' w6 ho hg hat
          obtain ⟨A9, c9, rfl⟩ := own_sliceM ho
          have hX := hM.pushSt0 (Nat.le_refl _) hg ho hat
          exact hK _ _ trivial trivial ⟨fun h => by simp [upd] at h, fun _ h => by simp [upd] at h, fun _ => ⟨A9, c9, by rw [upd_at], by simpa [upd, n_11, Mc.cells] using hX⟩⟩
        · have e0 := hc.ev 25 0 rfl
          rw [show vs 0 = _ from (hp 0 (by kernel_rfl)).2] at e0
          unfold Oper.wp execOp
          simp only [e0]
          go_simp
          exact hK _ _ trivial rfl (by simpa [upd] using hG)
        · have e0 := hc.ev 34 9 rfl
          rw [show vs 9 = _ from (hp 9 (by kernel_rfl)).2] at e0
          unfold Oper.wp execOp
          simp only [e0]
          go_simp
          exact hK _ _ trivial rfl (by simpa [upd] using hG)
        · have n_11 : fl 11 = false := hfi
          obtain ⟨A9, c9, hv, hX⟩ := hG.2.2 (hp 8 (by kernel_rfl)).1
          have p8 := (hp 8 (by kernel_rfl)).1
          have e1 := hc.ev 35 10 rfl
          rw [show vs 10 = _ from (hp 10 (by kernel_rfl)).2] at e1
          have e2 := hc.ev 33 8 rfl
          rw [hv] at e2
          have hX0 : XC w base lo g gc 1 a #[.int .i64 x.pc, .slice x.sA x.st.length x.sc, .slice x.cA x.ca.length x.cc] { x with st := x.st.take x.st.length ++ [a], sA := A9, sc := c9 } wr9 := by simpa [n_11] using hX
          have c1_ : wr9.cell? ⟨g, 1, none⟩ = some (.slice x.sA x.st.length x.sc) := hX0.b.cell 1
          have f1_ : wr9.frozen? ⟨g, 1, none⟩ = false := hX0.b.frozen 1
          have HQ := Lib.hid (hX0.set_ 1 (.slice A9 (x.st.length + 1) c9))
          clear hX hX0 hG
          unfold Oper.wp execOp
          simp only [e1, e2]
          go_simp
          exact hK undef _ trivial trivial ⟨fun h => by simp [upd, p8] at h, fun _ h => by simp [upd, p8] at h, fun _ => ⟨A9, c9, by simpa [upd] using hv, by simpa [upd] using HQ.out⟩⟩
      · intro fl vs w9 hfl hG hF
        obtain ⟨A9, c9, hv, hX⟩ := hG.2.2 (hfl 8 (by simp))
        have q11 := hfl 11 (by simp)
        simp only [q11, if_true] at hX
        have HM9 : Hid (XM w base lo g gc 1 a { x with st := x.st.take x.st.length ++ [a], sA := A9, sc := c9 } w9) := hX.toXM (by simp [Mc.cells])
        clear hX hv hG hF hfl q11 HM
        simp only [fill]
        go_simp
        have b1 : w9.cell? ⟨g, 1, none⟩ = some (.slice A9 (x.st.length + 1) c9) := by
          have := HM9.out.b.cell 1
          simpa [Mc.cells] using this
        have HV := Lib.hid (doV_1 x.pc a x.st x.ca)
        by_cases h8 : x.st.length + 1 ≤ 8
        · have h8' : ((x.st.length + 1 : Nat) : Int) ≤ 8 := by omega
          have h8'' : (x.st.length : Int) + 1 ≤ 8 := by omega
          go_wp2
          go_ret
          exact HM9.out.did (fun _ => by rw [HV.out]; rfl) (by rw [HV.out]; simp [h8])
        · have h8' : ¬ ((x.st.length + 1 : Nat) : Int) ≤ 8 := by omega
          have h8'' : ¬ (x.st.length : Int) + 1 ≤ 8 := by omega
          go_wp2
          go_ret
          exact HM9.out.did (fun _ => by rw [HV.out]; rfl) (by rw [HV.out]; simp [h8])
    · subst hd1
      have HV := Lib.hid (fun h => doV_23 x.pc a x.st x.ca (d := 2) (by omega) h)
      have HVN := Lib.hid (fun h => doV_23n x.pc a x.st x.ca (d := 2) (by omega) h)
      have b0 : w2.cell? ⟨g, 0, none⟩ = some (.int .i64 x.pc) := HM.out.b.cell 0
      have b1 : w2.cell? ⟨g, 1, none⟩ = some (.slice x.sA x.st.length x.sc) := HM.out.b.cell 1
      have b2 : w2.cell? ⟨g, 2, none⟩ = some (.slice x.cA x.ca.length x.cc) := HM.out.b.cell 2
      have k0 : w2.cell? ⟨gc, 0, none⟩ = some (.int .i64 2) := HM.out.c.cell 0
      have k1 : w2.cell? ⟨gc, 1, none⟩ = some (.int .i64 a) := HM.out.c.cell 1
      have f0 : w2.frozen? ⟨g, 0, none⟩ = false := HM.out.b.frozen 0
      have f1 : w2.frozen? ⟨g, 1, none⟩ = false := HM.out.b.frozen 1
      have f2 : w2.frozen? ⟨g, 2, none⟩ = false := HM.out.b.frozen 2
      by_cases hl : x.st.length < 2
      · have hq : (x.st.length : Int) - 1 < 1 := by omega
        have HVV := Lib.hid (HVN.out hl)
        clear HV HVN
        go_wp2
        go_ret
        exact HM.out.did (fun h => by rw [HVV.out] at h; simp at h) (by rw [HVV.out])
      · have hq : ¬ (x.st.length : Int) - 1 < 1 := by omega
        have HVV := Lib.hid (HV.out hl)
        obtain ⟨n, hn1, hn2⟩ : ∃ n, x.st.length ≤ n + 2 ∧ n + 2 ≤ x.st.length := ⟨x.st.length - 2, by omega, by omega⟩
        have e5 : (x.st.length : Int) - 1 = (n : Int) + 1 := by omega
        obtain ⟨gs, hA, hcell⟩ := row_at HM.out.own.os (by omega)
        have HA := Lib.hid hA
        have HX0 : Hid (0 ≤ x.st.getD n 0 ∧ x.st.getD n 0 ≤ 65535) := HP4.out _ (getD_mem (by omega))
        have HY0 : Hid (0 ≤ x.st.getD (n + 1) 0 ∧ x.st.getD (n + 1) 0 ≤ 65535) := HP4.out _ (getD_mem (by omega))
        have HW : Hid ((doV x.pc x.st x.ca 2 a) = ((x.pc, x.st.take n ++ [arith 2 (x.st.getD n 0) (x.st.getD (n + 1) 0)], x.ca), true)) := by
          have h := HVV.out
          rw [show x.st.length - 2 = n from by omega, show x.st.length - 1 = n + 1 from by omega] at h
          exact h
        obtain ⟨u, hu⟩ : ∃ u, u = x.st.getD n 0 := ⟨_, rfl⟩
        obtain ⟨y, hy⟩ : ∃ y, y = x.st.getD (n + 1) 0 := ⟨_, rfl⟩
        have HCU : Hid (∀ wq, x.Own wq lo → wq.cell? ⟨gs, n, none⟩ = some (.int .i64 u)) := fun wq ho => by rw [hu]; exact row_cell ho.os HA.out (by omega)
        have HCY : Hid (∀ wq, x.Own wq lo → wq.cell? ⟨gs, n + 1, none⟩ = some (.int .i64 y)) := fun wq ho => by rw [hy]; exact row_cell ho.os HA.out (by omega)
        rw [← hu] at HX0 HW
        rw [← hy] at HY0 HW
        clear HV HVN HVV hcell hA hu hy
        go_wp2
        try rw [e5]
        clear b0 b1 b2 k0 k1 f0 f1 f2 e5 hq hl
        refine wp_region_facts (fun i v wv => match i with
            | 0 => v = .pointer (some ⟨g, 0, none⟩)
            | 1 => v = .pointer (some ⟨g, 0, none⟩)
            | 2 => v = .pointer (some ⟨g, 1, none⟩)
            | 3 => v = .slice x.sA x.st.length x.sc
            | 4 => v = .int .i64 ((n : Int) + 1)
            | 5 => v = .int .i64 (n : Int)
            | 6 => v = .pointer (some ⟨gs, n, none⟩)
            | 7 => v = .int .i64 u
            | 8 => v = .pointer (some ⟨g, 0, none⟩)
            | 9 => v = .pointer (some ⟨g, 0, none⟩)
            | 10 => v = .pointer (some ⟨g, 1, none⟩)
            | 11 => v = .slice x.sA x.st.length x.sc
            | 12 => v = .int .i64 ((n : Int) + 1)
            | 13 => v = .pointer (some ⟨gs, n + 1, none⟩)
            | 14 => v = .int .i64 y
            | 15 => v = .int .i64 u
            | _ => v = .int .i64 y)
          (fun fl vs wq => XM w base lo g gc 2 a x wq) (fun _ _ => True) (by kernel_rfl) (by kernel_rfl) ?_ ?_ ?_ ?_
        · intro i v u u2 hk h
          exact h
        · intro fl vs hfl
          exact HM.out.below (below_drewN (Below.refl _ _) 1)
        · refine ⟨?_, ?_, ?_, ?_, ?_, ?_, ?_, ?_, ?_, ?_, ?_, ?_, ?_, ?_, ?_, ?_, ?_, trivial⟩
          all_goals intro fl vs wr9 a1 hc hG hfi hcl hp K hK
          · refine op_move rfl ?_
            rw [hc.ev0 _ rfl]
            exact hK _ _ trivial rfl hG
          · have e0 := hc.ev 47 0 rfl
            rw [show vs 0 = _ from (hp 0 (by kernel_rfl)).2] at e0
            unfold Oper.wp execOp
            simp only [e0]
            go_simp
            exact hK _ _ trivial rfl hG
          · have e0 := hc.ev 48 1 rfl
            rw [show vs 1 = _ from (hp 1 (by kernel_rfl)).2] at e0
            unfold Oper.wp execOp
            simp only [e0]
            go_simp
            exact hK _ _ trivial rfl hG
          · have e0 := hc.ev 49 2 rfl
            rw [show vs 2 = _ from (hp 2 (by kernel_rfl)).2] at e0
            have c0 : wr9.cell? ⟨g, 1, none⟩ = some (.slice x.sA x.st.length x.sc) := hG.b.cell 1
            unfold Oper.wp execOp
            simp only [e0]
            go_simp
            exact hK _ _ trivial rfl hG
          · refine op_move rfl ?_
            rw [hc.ev0 _ rfl]
            exact hK _ _ trivial rfl hG
          · have e0 := hc.ev 51 4 rfl
            rw [show vs 4 = _ from (hp 4 (by kernel_rfl)).2] at e0
            have ww : IntKind.i64.wrap (n : Int) = (n : Int) := IntWalk.i64_in _ (by omega)
            unfold Oper.wp execOp
            simp only [e0]
            go_simp
            exact hK _ _ trivial rfl hG
          · have e0 := hc.ev 50 3 rfl
            rw [show vs 3 = _ from (hp 3 (by kernel_rfl)).2, HA.out] at e0
            have e1 := hc.ev 52 5 rfl
            rw [show vs 5 = _ from (hp 5 (by kernel_rfl)).2] at e1
            have i1 : (0 : Int) ≤ (n : Int) := Int.natCast_nonneg _
            have i2 : (n : Int) < (x.st.length : Int) := by omega
            have i3 : (n : Int) + 1 < (x.st.length : Int) := by omega
            have i4 : (0 : Int) ≤ (n : Int) + 1 := by omega
            unfold Oper.wp execOp
            simp only [e0, e1]
            go_simp
            exact hK _ _ trivial (by first | rfl | simp) hG
          · have e0 := hc.ev 53 6 rfl
            rw [show vs 6 = _ from (hp 6 (by kernel_rfl)).2] at e0
            have c0 : wr9.cell? ⟨gs, n, none⟩ = some (.int .i64 u) := HCU.out _ hG.own
            unfold Oper.wp execOp
            simp only [e0]
            go_simp
            exact hK _ _ trivial rfl hG
          · refine op_move rfl ?_
            rw [hc.ev0 _ rfl]
            exact hK _ _ trivial rfl hG
          · have e0 := hc.ev 55 8 rfl
            rw [show vs 8 = _ from (hp 8 (by kernel_rfl)).2] at e0
            unfold Oper.wp execOp
            simp only [e0]
            go_simp
            exact hK _ _ trivial rfl hG
          · have e0 := hc.ev 56 9 rfl
            rw [show vs 9 = _ from (hp 9 (by kernel_rfl)).2] at e0
            unfold Oper.wp execOp
            simp only [e0]
            go_simp
            exact hK _ _ trivial rfl hG
          · have e0 := hc.ev 57 10 rfl
            rw [show vs 10 = _ from (hp 10 (by kernel_rfl)).2] at e0
            have c0 : wr9.cell? ⟨g, 1, none⟩ = some (.slice x.sA x.st.length x.sc) := hG.b.cell 1
            unfold Oper.wp execOp
            simp only [e0]
            go_simp
            exact hK _ _ trivial rfl hG
          · refine op_move rfl ?_
            rw [hc.ev0 _ rfl]
            exact hK _ _ trivial rfl hG
          · have e0 := hc.ev 58 11 rfl
            rw [show vs 11 = _ from (hp 11 (by kernel_rfl)).2, HA.out] at e0
            have e1 := hc.ev 59 12 rfl
            rw [show vs 12 = _ from (hp 12 (by kernel_rfl)).2] at e1
            have i1 : (0 : Int) ≤ (n : Int) := Int.natCast_nonneg _
            have i2 : (n : Int) < (x.st.length : Int) := by omega
            have i3 : (n : Int) + 1 < (x.st.length : Int) := by omega
            have i4 : (0 : Int) ≤ (n : Int) + 1 := by omega
            unfold Oper.wp execOp
            simp only [e0, e1]
            go_simp
            exact hK _ _ trivial (by first | rfl | simp) hG
          · have e0 := hc.ev 60 13 rfl
            rw [show vs 13 = _ from (hp 13 (by kernel_rfl)).2] at e0
            have c0 : wr9.cell? ⟨gs, n + 1, none⟩ = some (.int .i64 y) := HCY.out _ hG.own
            unfold Oper.wp execOp
            simp only [e0]
            go_simp
            exact hK _ _ trivial rfl hG
          · refine op_assign rfl ?_
            rw [hc.ev 54 7 rfl]
            exact hK _ _ trivial (hp 7 (by kernel_rfl)).2 hG
          · refine op_assign rfl ?_
            rw [hc.ev 61 14 rfl]
            exact hK _ _ trivial (hp 14 (by kernel_rfl)).2 hG
        · intro fl vs w3 hfl hG hF
          have h15 := hF 15 (by simp)
          have h16 := hF 16 (by simp)
          have HM3 := Lib.hid hG
          clear hG hF hfl HM
          simp only [fill]
          go_simp
          try rw [h15]
          try rw [h16]
          clear h15 h16
          have hu0 := HX0.out
          have hy0 := HY0.out
          have HQ1 : Hid (arith 2 u y = ((u + y) % 65536)) := by
            show arith 2 _ _ = _
            unfold arith
            simp
          rw [HQ1.out] at HW
          have hz0' : 0 ≤ ((u + y) % 65536) ∧ ((u + y) % 65536) ≤ 65535 := by omega
          have w1_ : IntKind.i64.wrap (65536 - y) = 65536 - y := IntWalk.i64_in _ (by omega)
          have w2_ : IntKind.i64.wrap (u + y) = u + y := IntWalk.i64_in _ (by omega)
          have w3_ : IntKind.i64.wrap (u + (65536 - y)) = u + (65536 - y) := IntWalk.i64_in _ (by omega)
          have w4_ : IntKind.i64.wrap ((u + y).tmod 65536) = ((u + y) % 65536) := by rw [Int.tmod_eq_emod_of_nonneg (by omega)]; exact IntWalk.i64_in _ (by omega)
          have w4b_ : IntKind.i64.wrap ((u + y) % 65536) = ((u + y) % 65536) := IntWalk.i64_in _ (by omega)
          have w5_ : IntKind.i64.wrap (n : Int) = (n : Int) := IntWalk.i64_in _ (by omega)
          obtain ⟨hcap, hcm⟩ := own_le_cap HM3.out.own.os
          unfold maxLen at hcm
          have y1 : (n : Int) ≤ (x.sc : Int) := by omega
          have y2 : (0 : Int) ≤ (n : Int) := Int.natCast_nonneg _
          have y3 : (n : Int) ≤ (x.st.length : Int) := by omega
          have y4 : (x.st.length : Int) ≤ (x.sc : Int) := by omega
          have b0 : w3.cell? ⟨g, 0, none⟩ = some (.int .i64 x.pc) := HM3.out.b.cell 0
          have b1 : w3.cell? ⟨g, 1, none⟩ = some (.slice x.sA x.st.length x.sc) := HM3.out.b.cell 1
          have b2 : w3.cell? ⟨g, 2, none⟩ = some (.slice x.cA x.ca.length x.cc) := HM3.out.b.cell 2
          have k0 : w3.cell? ⟨gc, 0, none⟩ = some (.int .i64 2) := HM3.out.c.cell 0
          have k1 : w3.cell? ⟨gc, 1, none⟩ = some (.int .i64 a) := HM3.out.c.cell 1
          have f0 : w3.frozen? ⟨g, 0, none⟩ = false := HM3.out.b.frozen 0
          have f1 : w3.frozen? ⟨g, 1, none⟩ = false := HM3.out.b.frozen 1
          have f2 : w3.frozen? ⟨g, 2, none⟩ = false := HM3.out.b.frozen 2
          rw [HA.out] at b1
          have HRL : Hid (∀ wl, wl = w3.alloc (.cells #[.int .i64 ((u + y) % 65536)] 3) → Reads wl wl.heap.size 1 (some ⟨w3.heap.size, 0, none⟩) 1 [.int .i64 ((u + y) % 65536)]) := fun wl hwl => by rw [hwl]; exact reads_one (Blk.new _ _ _)
          have HML := Lib.hid (HM3.out.below ((Below.refl _ _).alloc (Nat.le_refl _) (.cells #[.int .i64 ((u + y) % 65536)] 3)))
          have HOW : Hid ((w3.alloc (.cells #[.int .i64 ((u + y) % 65536)] 3)).ownsRow lo 3 1 (.slice x.sA n x.sc) n (nums .i64 (x.st.take n))) := own_pre HML.out.own.os (by omega)
          go_wp2_with (at_builtin; refine wpList_append_any _ rfl (.tmp 74) (.tmp 79) _ rfl lo 3 i0 _ 1 8 Try.underlying22 hi0 HZZ.out hz1 hz2 rfl (by omega) (.slice (some ⟨gs, 0, none⟩) n x.sc) n (nums .i64 (x.st.take n)) rfl (by rw [← HA.out]; exact HOW.out) (w3.alloc (.cells #[.int .i64 ((u + y) % 65536)] 3)).heap.size (some ⟨w3.heap.size, 0, none⟩) 1 1 [.int .i64 ((u + y) % 65536)] rfl (by exact HRL.out _ rfl) (by simp [Value.oneCell']) (by unfold maxLen; omega) (by omega) (by exact HML.out.lt.2.2.2) ?_; intro v' w6 ho hg hat; obtain ⟨A9, c9, rfl⟩ := own_sliceM ho; rw [← HA.out] at hg hat; have hX := HML.out.pushSt0 (k := n) (by omega) hg ho hat; have c1_ : w6.cell? ⟨g, 1, none⟩ = some (.slice x.sA x.st.length x.sc) := hX.b.cell 1; have f1_ : w6.frozen? ⟨g, 1, none⟩ = false := hX.b.frozen 1; have HX9 := Lib.hid (hX.set_ 1 (.slice A9 (n + 1) c9)); clear ho hg hat hX)
          go_ret
          exact (HX9.out.toXM (by simp [Mc.cells]; omega)).did (fun _ => by rw [HW.out]; rfl) (by rw [HW.out])
    · subst hd1
      have HV := Lib.hid (fun h => doV_23 x.pc a x.st x.ca (d := 3) (by omega) h)
      have HVN := Lib.hid (fun h => doV_23n x.pc a x.st x.ca (d := 3) (by omega) h)
      have b0 : w2.cell? ⟨g, 0, none⟩ = some (.int .i64 x.pc) := HM.out.b.cell 0
      have b1 : w2.cell? ⟨g, 1, none⟩ = some (.slice x.sA x.st.length x.sc) := HM.out.b.cell 1
      have b2 : w2.cell? ⟨g, 2, none⟩ = some (.slice x.cA x.ca.length x.cc) := HM.out.b.cell 2
      have k0 : w2.cell? ⟨gc, 0, none⟩ = some (.int .i64 3) := HM.out.c.cell 0
      have k1 : w2.cell? ⟨gc, 1, none⟩ = some (.int .i64 a) := HM.out.c.cell 1
      have f0 : w2.frozen? ⟨g, 0, none⟩ = false := HM.out.b.frozen 0
      have f1 : w2.frozen? ⟨g, 1, none⟩ = false := HM.out.b.frozen 1
      have f2 : w2.frozen? ⟨g, 2, none⟩ = false := HM.out.b.frozen 2
      by_cases hl : x.st.length < 2
      · have hq : (x.st.length : Int) - 1 < 1 := by omega
        have HVV := Lib.hid (HVN.out hl)
        clear HV HVN
        go_wp2
        go_ret
        exact HM.out.did (fun h => by rw [HVV.out] at h; simp at h) (by rw [HVV.out])
      · have hq : ¬ (x.st.length : Int) - 1 < 1 := by omega
        have HVV := Lib.hid (HV.out hl)
        obtain ⟨n, hn1, hn2⟩ : ∃ n, x.st.length ≤ n + 2 ∧ n + 2 ≤ x.st.length := ⟨x.st.length - 2, by omega, by omega⟩
        have e5 : (x.st.length : Int) - 1 = (n : Int) + 1 := by omega
        obtain ⟨gs, hA, hcell⟩ := row_at HM.out.own.os (by omega)
        have HA := Lib.hid hA
        have HX0 : Hid (0 ≤ x.st.getD n 0 ∧ x.st.getD n 0 ≤ 65535) := HP4.out _ (getD_mem (by omega))
        have HY0 : Hid (0 ≤ x.st.getD (n + 1) 0 ∧ x.st.getD (n + 1) 0 ≤ 65535) := HP4.out _ (getD_mem (by omega))
        have HW : Hid ((doV x.pc x.st x.ca 3 a) = ((x.pc, x.st.take n ++ [arith 3 (x.st.getD n 0) (x.st.getD (n + 1) 0)], x.ca), true)) := by
          have h := HVV.out
          rw [show x.st.length - 2 = n from by omega, show x.st.length - 1 = n + 1 from by omega] at h
          exact h
        obtain ⟨u, hu⟩ : ∃ u, u = x.st.getD n 0 := ⟨_, rfl⟩
        obtain ⟨y, hy⟩ : ∃ y, y = x.st.getD (n + 1) 0 := ⟨_, rfl⟩
        have HCU : Hid (∀ wq, x.Own wq lo → wq.cell? ⟨gs, n, none⟩ = some (.int .i64 u)) := fun wq ho => by rw [hu]; exact row_cell ho.os HA.out (by omega)
        have HCY : Hid (∀ wq, x.Own wq lo → wq.cell? ⟨gs, n + 1, none⟩ = some (.int .i64 y)) := fun wq ho => by rw [hy]; exact row_cell ho.os HA.out (by omega)
        rw [← hu] at HX0 HW
        rw [← hy] at HY0 HW
        clear HV HVN HVV hcell hA hu hy
        go_wp2
        try rw [e5]
        clear b0 b1 b2 k0 k1 f0 f1 f2 e5 hq hl
        refine wp_region_facts (fun i v wv => match i with
            | 0 => v = .pointer (some ⟨g, 0, none⟩)
            | 1 => v = .pointer (some ⟨g, 0, none⟩)
            | 2 => v = .pointer (some ⟨g, 1, none⟩)
            | 3 => v = .slice x.sA x.st.length x.sc
            | 4 => v = .int .i64 ((n : Int) + 1)
            | 5 => v = .int .i64 (n : Int)
            | 6 => v = .pointer (some ⟨gs, n, none⟩)
            | 7 => v = .int .i64 u
            | 8 => v = .pointer (some ⟨g, 0, none⟩)
            | 9 => v = .pointer (some ⟨g, 0, none⟩)
            | 10 => v = .pointer (some ⟨g, 1, none⟩)
            | 11 => v = .slice x.sA x.st.length x.sc
            | 12 => v = .int .i64 ((n : Int) + 1)
            | 13 => v = .pointer (some ⟨gs, n + 1, none⟩)
            | 14 => v = .int .i64 y
            | 15 => v = .int .i64 u
            | _ => v = .int .i64 y)
          (fun fl vs wq => XM w base lo g gc 3 a x wq) (fun _ _ => True) (by kernel_rfl) (by kernel_rfl) ?_ ?_ ?_ ?_
        · intro i v u u2 hk h
          exact h
        · intro fl vs hfl
          exact HM.out.below (below_drewN (Below.refl _ _) 1)
        · refine ⟨?_, ?_, ?_, ?_, ?_, ?_, ?_, ?_, ?_, ?_, ?_, ?_, ?_, ?_, ?_, ?_, ?_, trivial⟩
          all_goals intro fl vs wr9 a1 hc hG hfi hcl hp K hK
          · refine op_move rfl ?_
            rw [hc.ev0 _ rfl]
            exact hK _ _ trivial rfl hG
          · have e0 := hc.ev 47 0 rfl
            rw [show vs 0 = _ from (hp 0 (by kernel_rfl)).2] at e0
            unfold Oper.wp execOp
            simp only [e0]
            go_simp
            exact hK _ _ trivial rfl hG
          · have e0 := hc.ev 48 1 rfl
            rw [show vs 1 = _ from (hp 1 (by kernel_rfl)).2] at e0
            unfold Oper.wp execOp
            simp only [e0]
            go_simp
            exact hK _ _ trivial rfl hG
          · have e0 := hc.ev 49 2 rfl
            rw [show vs 2 = _ from (hp 2 (by kernel_rfl)).2] at e0
            have c0 : wr9.cell? ⟨g, 1, none⟩ = some (.slice x.sA x.st.length x.sc) := hG.b.cell 1
            unfold Oper.wp execOp
            simp only [e0]
            go_simp
            exact hK _ _ trivial rfl hG
          · refine op_move rfl ?_
            rw [hc.ev0 _ rfl]
            exact hK _ _ trivial rfl hG
          · have e0 := hc.ev 51 4 rfl
            rw [show vs 4 = _ from (hp 4 (by kernel_rfl)).2] at e0
            have ww : IntKind.i64.wrap (n : Int) = (n : Int) := IntWalk.i64_in _ (by omega)
            unfold Oper.wp execOp
            simp only [e0]
            go_simp
            exact hK _ _ trivial rfl hG
          · have e0 := hc.ev 50 3 rfl
            rw [show vs 3 = _ from (hp 3 (by kernel_rfl)).2, HA.out] at e0
            have e1 := hc.ev 52 5 rfl
            rw [show vs 5 = _ from (hp 5 (by kernel_rfl)).2] at e1
            have i1 : (0 : Int) ≤ (n : Int) := Int.natCast_nonneg _
            have i2 : (n : Int) < (x.st.length : Int) := by omega
            have i3 : (n : Int) + 1 < (x.st.length : Int) := by omega
            have i4 : (0 : Int) ≤ (n : Int) + 1 := by omega
            unfold Oper.wp execOp
            simp only [e0, e1]
            go_simp
            exact hK _ _ trivial (by first | rfl | simp) hG
          · have e0 := hc.ev 53 6 rfl
            rw [show vs 6 = _ from (hp 6 (by kernel_rfl)).2] at e0
            have c0 : wr9.cell? ⟨gs, n, none⟩ = some (.int .i64 u) := HCU.out _ hG.own
            unfold Oper.wp execOp
            simp only [e0]
            go_simp
            exact hK _ _ trivial rfl hG
          · refine op_move rfl ?_
            rw [hc.ev0 _ rfl]
            exact hK _ _ trivial rfl hG
          · have e0 := hc.ev 55 8 rfl
            rw [show vs 8 = _ from (hp 8 (by kernel_rfl)).2] at e0
            unfold Oper.wp execOp
            simp only [e0]
            go_simp
            exact hK _ _ trivial rfl hG
          · have e0 := hc.ev 56 9 rfl
            rw [show vs 9 = _ from (hp 9 (by kernel_rfl)).2] at e0
            unfold Oper.wp execOp
            simp only [e0]
            go_simp
            exact hK _ _ trivial rfl hG
          · have e0 := hc.ev 57 10 rfl
            rw [show vs 10 = _ from (hp 10 (by kernel_rfl)).2] at e0
            have c0 : wr9.cell? ⟨g, 1, none⟩ = some (.slice x.sA x.st.length x.sc) := hG.b.cell 1
            unfold Oper.wp execOp
            simp only [e0]
            go_simp
            exact hK _ _ trivial rfl hG
          · refine op_move rfl ?_
            rw [hc.ev0 _ rfl]
            exact hK _ _ trivial rfl hG
          · have e0 := hc.ev 58 11 rfl
            rw [show vs 11 = _ from (hp 11 (by kernel_rfl)).2, HA.out] at e0
            have e1 := hc.ev 59 12 rfl
            rw [show vs 12 = _ from (hp 12 (by kernel_rfl)).2] at e1
            have i1 : (0 : Int) ≤ (n : Int) := Int.natCast_nonneg _
            have i2 : (n : Int) < (x.st.length : Int) := by omega
            have i3 : (n : Int) + 1 < (x.st.length : Int) := by omega
            have i4 : (0 : Int) ≤ (n : Int) + 1 := by omega
            unfold Oper.wp execOp
            simp only [e0, e1]
            go_simp
            exact hK _ _ trivial (by first | rfl | simp) hG
          · have e0 := hc.ev 60 13 rfl
            rw [show vs 13 = _ from (hp 13 (by kernel_rfl)).2] at e0
            have c0 : wr9.cell? ⟨gs, n + 1, none⟩ = some (.int .i64 y) := HCY.out _ hG.own
            unfold Oper.wp execOp
            simp only [e0]
            go_simp
            exact hK _ _ trivial rfl hG
          · refine op_assign rfl ?_
            rw [hc.ev 54 7 rfl]
            exact hK _ _ trivial (hp 7 (by kernel_rfl)).2 hG
          · refine op_assign rfl ?_
            rw [hc.ev 61 14 rfl]
            exact hK _ _ trivial (hp 14 (by kernel_rfl)).2 hG
        · intro fl vs w3 hfl hG hF
          have h15 := hF 15 (by simp)
          have h16 := hF 16 (by simp)
          have HM3 := Lib.hid hG
          clear hG hF hfl HM
          simp only [fill]
          go_simp
          try rw [h15]
          try rw [h16]
          clear h15 h16
          have hu0 := HX0.out
          have hy0 := HY0.out
          have HQ1 : Hid (arith 3 u y = ((u + (65536 - y)) % 65536)) := by
            show arith 3 _ _ = _
            unfold arith
            simp
          rw [HQ1.out] at HW
          have hz0' : 0 ≤ ((u + (65536 - y)) % 65536) ∧ ((u + (65536 - y)) % 65536) ≤ 65535 := by omega
          have w1_ : IntKind.i64.wrap (65536 - y) = 65536 - y := IntWalk.i64_in _ (by omega)
          have w2_ : IntKind.i64.wrap (u + y) = u + y := IntWalk.i64_in _ (by omega)
          have w3_ : IntKind.i64.wrap (u + (65536 - y)) = u + (65536 - y) := IntWalk.i64_in _ (by omega)
          have w4_ : IntKind.i64.wrap ((u + (65536 - y)).tmod 65536) = ((u + (65536 - y)) % 65536) := by rw [Int.tmod_eq_emod_of_nonneg (by omega)]; exact IntWalk.i64_in _ (by omega)
          have w4b_ : IntKind.i64.wrap ((u + (65536 - y)) % 65536) = ((u + (65536 - y)) % 65536) := IntWalk.i64_in _ (by omega)
          have w5_ : IntKind.i64.wrap (n : Int) = (n : Int) := IntWalk.i64_in _ (by omega)
          obtain ⟨hcap, hcm⟩ := own_le_cap HM3.out.own.os
          unfold maxLen at hcm
          have y1 : (n : Int) ≤ (x.sc : Int) := by omega
          have y2 : (0 : Int) ≤ (n : Int) := Int.natCast_nonneg _
          have y3 : (n : Int) ≤ (x.st.length : Int) := by omega
          have y4 : (x.st.length : Int) ≤ (x.sc : Int) := by omega
          have b0 : w3.cell? ⟨g, 0, none⟩ = some (.int .i64 x.pc) := HM3.out.b.cell 0
          have b1 : w3.cell? ⟨g, 1, none⟩ = some (.slice x.sA x.st.length x.sc) := HM3.out.b.cell 1
          have b2 : w3.cell? ⟨g, 2, none⟩ = some (.slice x.cA x.ca.length x.cc) := HM3.out.b.cell 2
          have k0 : w3.cell? ⟨gc, 0, none⟩ = some (.int .i64 3) := HM3.out.c.cell 0
          have k1 : w3.cell? ⟨gc, 1, none⟩ = some (.int .i64 a) := HM3.out.c.cell 1
          have f0 : w3.frozen? ⟨g, 0, none⟩ = false := HM3.out.b.frozen 0
          have f1 : w3.frozen? ⟨g, 1, none⟩ = false := HM3.out.b.frozen 1
          have f2 : w3.frozen? ⟨g, 2, none⟩ = false := HM3.out.b.frozen 2
          rw [HA.out] at b1
          have HRL : Hid (∀ wl, wl = w3.alloc (.cells #[.int .i64 ((u + (65536 - y)) % 65536)] 3) → Reads wl wl.heap.size 1 (some ⟨w3.heap.size, 0, none⟩) 1 [.int .i64 ((u + (65536 - y)) % 65536)]) := fun wl hwl => by rw [hwl]; exact reads_one (Blk.new _ _ _)
          have HML := Lib.hid (HM3.out.below ((Below.refl _ _).alloc (Nat.le_refl _) (.cells #[.int .i64 ((u + (65536 - y)) % 65536)] 3)))
          have HOW : Hid ((w3.alloc (.cells #[.int .i64 ((u + (65536 - y)) % 65536)] 3)).ownsRow lo 3 1 (.slice x.sA n x.sc) n (nums .i64 (x.st.take n))) := own_pre HML.out.own.os (by omega)
          go_wp2_with (at_builtin; refine wpList_append_any _ rfl (.tmp 74) (.tmp 79) _ rfl lo 3 i0 _ 1 8 Try.underlying22 hi0 HZZ.out hz1 hz2 rfl (by omega) (.slice (some ⟨gs, 0, none⟩) n x.sc) n (nums .i64 (x.st.take n)) rfl (by rw [← HA.out]; exact HOW.out) (w3.alloc (.cells #[.int .i64 ((u + (65536 - y)) % 65536)] 3)).heap.size (some ⟨w3.heap.size, 0, none⟩) 1 1 [.int .i64 ((u + (65536 - y)) % 65536)] rfl (by exact HRL.out _ rfl) (by simp [Value.oneCell']) (by unfold maxLen; omega) (by omega) (by exact HML.out.lt.2.2.2) ?_; intro v' w6 ho hg hat; obtain ⟨A9, c9, rfl⟩ := own_sliceM ho; rw [← HA.out] at hg hat; have hX := HML.out.pushSt0 (k := n) (by omega) hg ho hat; have c1_ : w6.cell? ⟨g, 1, none⟩ = some (.slice x.sA x.st.length x.sc) := hX.b.cell 1; have f1_ : w6.frozen? ⟨g, 1, none⟩ = false := hX.b.frozen 1; have HX9 := Lib.hid (hX.set_ 1 (.slice A9 (n + 1) c9)); clear ho hg hat hX)
          go_ret
          exact (HX9.out.toXM (by simp [Mc.cells]; omega)).did (fun _ => by rw [HW.out]; rfl) (by rw [HW.out])
    · subst hd1
      have HV := Lib.hid (doV_4 x.pc a x.st x.ca)
      have b0 : w2.cell? ⟨g, 0, none⟩ = some (.int .i64 x.pc) := HM.out.b.cell 0
      have b1 : w2.cell? ⟨g, 1, none⟩ = some (.slice x.sA x.st.length x.sc) := HM.out.b.cell 1
      have b2 : w2.cell? ⟨g, 2, none⟩ = some (.slice x.cA x.ca.length x.cc) := HM.out.b.cell 2
      have k0 : w2.cell? ⟨gc, 0, none⟩ = some (.int .i64 4) := HM.out.c.cell 0
      have k1 : w2.cell? ⟨gc, 1, none⟩ = some (.int .i64 a) := HM.out.c.cell 1
      have f0 : w2.frozen? ⟨g, 0, none⟩ = false := HM.out.b.frozen 0
      have f1 : w2.frozen? ⟨g, 1, none⟩ = false := HM.out.b.frozen 1
      have f2 : w2.frozen? ⟨g, 2, none⟩ = false := HM.out.b.frozen 2
      go_wp2
      go_ret
      exact (HM.out.pc a).did (fun _ => by rw [HV.out]; rfl) (by rw [HV.out])
    · subst hd1
      have HV := Lib.hid (fun h => doV_5 x.pc a x.st x.ca h)
      have HVN := Lib.hid (fun h => doV_5n x.pc a x.st x.ca h)
      have b0 : w2.cell? ⟨g, 0, none⟩ = some (.int .i64 x.pc) := HM.out.b.cell 0
      have b1 : w2.cell? ⟨g, 1, none⟩ = some (.slice x.sA x.st.length x.sc) := HM.out.b.cell 1
      have b2 : w2.cell? ⟨g, 2, none⟩ = some (.slice x.cA x.ca.length x.cc) := HM.out.b.cell 2
      have k0 : w2.cell? ⟨gc, 0, none⟩ = some (.int .i64 5) := HM.out.c.cell 0
      have k1 : w2.cell? ⟨gc, 1, none⟩ = some (.int .i64 a) := HM.out.c.cell 1
      have f0 : w2.frozen? ⟨g, 0, none⟩ = false := HM.out.b.frozen 0
      have f1 : w2.frozen? ⟨g, 1, none⟩ = false := HM.out.b.frozen 1
      have f2 : w2.frozen? ⟨g, 2, none⟩ = false := HM.out.b.frozen 2
      by_cases hl : x.st.length < 1
      · have hq : (x.st.length : Int) - 1 < 0 := by omega
        have HVV := Lib.hid (HVN.out hl)
        clear HV HVN
        go_wp2
        go_ret
        exact HM.out.did (fun h => by rw [HVV.out] at h; simp at h) (by rw [HVV.out])
      · have hq : ¬ (x.st.length : Int) - 1 < 0 := by omega
        have HVV := Lib.hid (HV.out hl)
        obtain ⟨n, hn1, hn2⟩ : ∃ n, x.st.length ≤ n + 1 ∧ n + 1 ≤ x.st.length := ⟨x.st.length - 1, by omega, by omega⟩
        have e5 : (x.st.length : Int) - 1 = (n : Int) := by omega
        obtain ⟨gs, hA, hcell⟩ := row_at HM.out.own.os (by omega)
        have hc0 := hcell n (by omega)
        have HA := Lib.hid hA
        rw [show x.st.length - 1 = n from by omega] at HVV
        have i1 : (0 : Int) ≤ (n : Int) := Int.natCast_nonneg _
        have i2 : (n : Int) < (x.st.length : Int) := by omega
        obtain ⟨hcap, hcm⟩ := own_le_cap HM.out.own.os
        unfold maxLen at hcm
        have y1 : (n : Int) ≤ (x.sc : Int) := by omega
        have y3 : (n : Int) ≤ (x.st.length : Int) := by omega
        have y4 : (x.st.length : Int) ≤ (x.sc : Int) := by omega
        have HQ1 : Hid (∀ v, XM w base lo g gc 5 a { x with pc := v, st := x.st.take n } ((w2.setCell ⟨g, 0, none⟩ (.int .i64 v)).setCell ⟨g, 1, none⟩ (.slice x.sA n x.sc))) := fun v => (HM.out.pc v).stTo (k := n) (by simp; omega)
        have HQ2 : Hid (XM w base lo g gc 5 a { x with st := x.st.take n } (w2.setCell ⟨g, 1, none⟩ (.slice x.sA n x.sc))) := HM.out.stTo (k := n) (by omega)
        rw [hA] at HQ1 HQ2
        rw [hA] at b1
        clear hcell hA HV HVN hq
        try rw [e5]
        obtain ⟨z, hz⟩ : ∃ z, z = x.st.getD n 0 := ⟨_, rfl⟩
        rw [← hz] at hc0 HVV
        clear hz
        by_cases hz0 : z = 0
        · subst hz0
          go_wp2
          go_ret
          exact (HQ1.out a).did (fun _ => by rw [HVV.out]; rfl) (by rw [HVV.out])
        · have hzb : (z == 0) = false := by rw [beq_eq_false_iff_ne]; exact hz0
          have HVW : Hid ((doV x.pc x.st x.ca 5 a) = ((x.pc, x.st.take n, x.ca), true)) := by
            have h := HVV.out
            rw [if_neg hz0] at h
            exact h
          clear hz0 HVV
          go_wp2
          go_ret
          exact HQ2.out.did (fun _ => by rw [HVW.out]; rfl) (by rw [HVW.out])
    · subst hd1
      have HV := Lib.hid (doV_6 x.pc a x.st x.ca)
      have b0 : w2.cell? ⟨g, 0, none⟩ = some (.int .i64 x.pc) := HM.out.b.cell 0
      have b1 : w2.cell? ⟨g, 1, none⟩ = some (.slice x.sA x.st.length x.sc) := HM.out.b.cell 1
      have b2 : w2.cell? ⟨g, 2, none⟩ = some (.slice x.cA x.ca.length x.cc) := HM.out.b.cell 2
      have k0 : w2.cell? ⟨gc, 0, none⟩ = some (.int .i64 6) := HM.out.c.cell 0
      have k1 : w2.cell? ⟨gc, 1, none⟩ = some (.int .i64 a) := HM.out.c.cell 1
      have f0 : w2.frozen? ⟨g, 0, none⟩ = false := HM.out.b.frozen 0
      have f1 : w2.frozen? ⟨g, 1, none⟩ = false := HM.out.b.frozen 1
      have f2 : w2.frozen? ⟨g, 2, none⟩ = false := HM.out.b.frozen 2
      go_wp2
      clear b0 b1 b2 k0 k1 f0 f1 f2
      refine wp_region_facts (fun i v wv => match i with
          | 0 => v = .pointer (some ⟨g, 0, none⟩)
          | 1 => v = .pointer (some ⟨g, 0, none⟩)
          | 2 => v = .pointer (some ⟨g, 0, none⟩)
          | 3 => v = .pointer (some ⟨g, 0, none⟩)
          | 4 => v = .pointer (some ⟨g, 2, none⟩)
          | 5 => v = .slice x.cA x.ca.length x.cc
          | 6 => v = .pointer (some ⟨g, 0, none⟩)
          | 7 => v = .pointer (some ⟨g, 0, none⟩)
          | 8 => v = .pointer (some ⟨g, 0, none⟩)
          | 9 => v = .int .i64 x.pc
          | 10 => True
          | 11 => True
          | 12 => v = .pointer (some ⟨gc, 1, none⟩)
          | 13 => v = .int .i64 a
          | 14 => v = .pointer (some ⟨g, 0, none⟩)
          | 15 => v = .pointer (some ⟨g, 2, none⟩)
          | 16 => True
          | 17 => v = .pointer (some ⟨g, 0, none⟩)
          | 18 => v = .pointer (some ⟨g, 0, none⟩)
          | _ => True)
        (fun fl vs wq => (fl 11 = false → XM w base lo g gc 6 a x wq) ∧ (fl 10 = true → fl 11 = false → ∃ gl, vs 10 = .slice (some ⟨gl, 0, none⟩) 1 1 ∧ Blk wq gl 3 #[.int .i64 x.pc]) ∧ (fl 11 = true → ∃ (A9 : Option Addr) (c9 : Nat), vs 11 = .slice A9 (x.ca.length + 1) c9 ∧ XC w base lo g gc 6 a #[(if fl 19 = true then Value.int .i64 a else .int .i64 x.pc), .slice x.sA x.st.length x.sc, (if fl 16 = true then Value.slice A9 (x.ca.length + 1) c9 else .slice x.cA x.ca.length x.cc)] { x with ca := x.ca.take x.ca.length ++ [x.pc], cA := A9, cc := c9, pc := a } wq)) (fun _ _ => True) (by kernel_rfl) (by kernel_rfl) ?_ ?_ ?_ ?_
      · intro i v u u2 hk h
        exact h
      · intro fl vs hfl
        have z10 := hfl 10 (by simp)
        have z11 := hfl 11 (by simp)
        exact ⟨fun _ => HM.out.below (below_drewN (Below.refl _ _) 1), fun h => by simp [z10] at h, fun h => by simp [z11] at h⟩
      · refine ⟨?_, ?_, ?_, ?_, ?_, ?_, ?_, ?_, ?_, ?_, ?_, ?_, ?_, ?_, ?_, ?_, ?_, ?_, ?_, ?_, trivial⟩
        all_goals intro fl vs wr9 a1 hc hG hfi hcl hp K hK
        · refine op_move rfl ?_
          rw [hc.ev0 _ rfl]
          exact hK _ _ trivial rfl (by simpa [upd] using hG)
        · refine op_move rfl ?_
          rw [hc.ev0 _ rfl]
          exact hK _ _ trivial rfl (by simpa [upd] using hG)
        · refine op_move rfl ?_
          rw [hc.ev0 _ rfl]
          exact hK _ _ trivial rfl (by simpa [upd] using hG)
        · have e0 := hc.ev 120 2 rfl
          rw [show vs 2 = _ from (hp 2 (by kernel_rfl)).2] at e0
          unfold Oper.wp execOp
          simp only [e0]
          go_simp
          exact hK _ _ trivial rfl (by simpa [upd] using hG)
        · have e0 := hc.ev 121 3 rfl
          rw [show vs 3 = _ from (hp 3 (by kernel_rfl)).2] at e0
          unfold Oper.wp execOp
          simp only [e0]
          go_simp
          exact hK _ _ trivial rfl (by simpa [upd] using hG)
        · have n_11 : fl 11 = false := by cases h : fl 11 with
            | false => rfl
            | true =>
              have h5 := hcl 11 5 (by kernel_rfl) h
              rw [show fl 5 = false from hfi] at h5; cases h5
          have e0 := hc.ev 122 4 rfl
          rw [show vs 4 = _ from (hp 4 (by kernel_rfl)).2] at e0
          have c0 : wr9.cell? ⟨g, 2, none⟩ = some (.slice x.cA x.ca.length x.cc) := (hG.1 n_11).b.cell 2
          unfold Oper.wp execOp
          simp only [e0]
          go_simp
          exact hK _ _ trivial rfl (by simpa [upd] using hG)
        · refine op_move rfl ?_
          rw [hc.ev0 _ rfl]
          exact hK _ _ trivial rfl (by simpa [upd] using hG)
        · have e0 := hc.ev 124 6 rfl
          rw [show vs 6 = _ from (hp 6 (by kernel_rfl)).2] at e0
          unfold Oper.wp execOp
          simp only [e0]
          go_simp
          exact hK _ _ trivial rfl (by simpa [upd] using hG)
        · have e0 := hc.ev 125 7 rfl
          rw [show vs 7 = _ from (hp 7 (by kernel_rfl)).2] at e0
          unfold Oper.wp execOp
          simp only [e0]
          go_simp
          exact hK _ _ trivial rfl (by simpa [upd] using hG)
        · have n_11 : fl 11 = false := by cases h : fl 11 with
            | false => rfl
            | true =>
              have h10 := hcl 11 10 (by kernel_rfl) h
              have h9 := hcl 10 9 (by kernel_rfl) h10
              rw [show fl 9 = false from hfi] at h9; cases h9
          have e0 := hc.ev 126 8 rfl
          rw [show vs 8 = _ from (hp 8 (by kernel_rfl)).2] at e0
          have c0 : wr9.cell? ⟨g, 0, none⟩ = some (.int .i64 x.pc) := (hG.1 n_11).b.cell 0
          unfold Oper.wp execOp
          simp only [e0]
          go_simp
          exact hK _ _ trivial rfl (by simpa [upd] using hG)
        · have n_11 : fl 11 = false := by cases h : fl 11 with
            | false => rfl
            | true =>
              have h10 := hcl 11 10 (by kernel_rfl) h
              rw [show fl 10 = false from hfi] at h10; cases h10
          have e0 := hc.ev 127 9 rfl
          rw [show vs 9 = _ from (hp 9 (by kernel_rfl)).2] at e0
          have hM := hG.1 n_11
          unfold Oper.wp execOp
          simp only [e0, List.map_toArray, List.map_cons, List.map_nil]
          go_simp
          exact hK _ _ trivial trivial ⟨fun _ => hM.below ((Below.refl _ _).alloc (Nat.le_refl _) _), fun _ _ => ⟨_, by rw [upd_at], Blk.new _ _ _⟩, fun h => by simp [upd, n_11] at h⟩
        · have n_11 : fl 11 = false := hfi
          have n_16 : fl 16 = false := by cases h : fl 16 with
            | false => rfl
            | true => have := hcl 16 11 (by kernel_rfl) h; rw [n_11] at this; cases this
          have n_19 : fl 19 = false := by cases h : fl 19 with
            | false => rfl
            | true => have := hcl 19 11 (by kernel_rfl) h; rw [n_11] at this; cases this
          have hM := hG.1 n_11
          obtain ⟨gl, hv, hbl⟩ := hG.2.1 (hp 10 (by kernel_rfl)).1 n_11
          have e1 := hc.ev 123 5 rfl
          rw [show vs 5 = _ from (hp 5 (by kernel_rfl)).2] at e1
          have e2 := hc.ev 128 10 rfl
          rw [hv] at e2
          have hR : Reads wr9 wr9.heap.size 1 (some ⟨gl, 0, none⟩) 1 [.int .i64 x.pc] := reads_one hbl
          refine wp_append_any _ _ _ _ rfl lo 3 i0 _ 1 8 Try.underlying22 hi0 hz0 hz1 hz2 rfl (by omega) (.slice x.cA x.ca.length x.cc) x.ca.length (nums .i64 (x.ca.take x.ca.length)) e1 (by rw [List.take_length]; exact hM.own.oc) _ _ _ _ [.int .i64 x.pc] e2 hR (by simp [Value.oneCell']) (by unfold maxLen; omega) (by omega) hM.lt.2.2.2 ?_
          intro v' w6 ho hg hat
          obtain ⟨A9, c9, rfl⟩ := own_sliceM ho
          have hX := hM.pushCa0 (Nat.le_refl _) hg ho hat
          have hX2 : XC w base lo g gc 6 a x.cells { x with ca := x.ca.take x.ca.length ++ [x.pc], cA := A9, cc := c9, pc := a } w6 := ⟨hX.b, hX.c, ⟨hX.own.os, hX.own.oc, hX.own.ap⟩, hX.bl, hX.lt⟩
          exact hK _ _ trivial trivial ⟨fun h => by simp [upd] at h, fun _ h => by simp [upd] at h, fun _ => ⟨A9, c9, by rw [upd_at], by simpa [upd, n_16, n_19, Mc.cells] using hX2⟩⟩
        · have g0_ : a1.eval (.tmp 3) = .pointer (some ⟨gc, 0, none⟩) := hc.ev0 3 rfl
          unfold Oper.wp execOp
          simp only [g0_]
          go_simp
          exact hK _ _ trivial rfl (by simpa [upd] using hG)
        · have hcc : wr9.cell? ⟨gc, 1, none⟩ = some (.int .i64 a) := by
            cases h11 : fl 11 with
            | false => exact (hG.1 h11).c.cell 1
            | true =>
              obtain ⟨A9, c9, _, hX⟩ := hG.2.2 h11
              exact hX.c.cell 1
          have e0 := hc.ev 130 12 rfl
          rw [show vs 12 = _ from (hp 12 (by kernel_rfl)).2] at e0
          have c0 : wr9.cell? ⟨gc, 1, none⟩ = some (.int .i64 a) := hcc
          unfold Oper.wp execOp
          simp only [e0]
          go_simp
          exact hK _ _ trivial rfl (by simpa [upd] using hG)
        · have e0 := hc.ev 118 0 rfl
          rw [show vs 0 = _ from (hp 0 (by kernel_rfl)).2] at e0
          unfold Oper.wp execOp
          simp only [e0]
          go_simp
          exact hK _ _ trivial rfl (by simpa [upd] using hG)
        · have e0 := hc.ev 132 14 rfl
          rw [show vs 14 = _ from (hp 14 (by kernel_rfl)).2] at e0
          unfold Oper.wp execOp
          simp only [e0]
          go_simp
          exact hK _ _ trivial rfl (by simpa [upd] using hG)
        · have n_16 : fl 16 = false := hfi
          obtain ⟨A9, c9, hv, hX⟩ := hG.2.2 (hp 11 (by kernel_rfl)).1
          have p11 := (hp 11 (by kernel_rfl)).1
          have e1 := hc.ev 133 15 rfl
          rw [show vs 15 = _ from (hp 15 (by kernel_rfl)).2] at e1
          have e2 := hc.ev 129 11 rfl
          rw [hv] at e2
          simp only [n_16] at hX
          have c1_ : wr9.cell? ⟨g, 2, none⟩ = some (.slice x.cA x.ca.length x.cc) := hX.b.cell 2
          have f1_ : wr9.frozen? ⟨g, 2, none⟩ = false := hX.b.frozen 2
          have HQ := Lib.hid (hX.set_ 2 (.slice A9 (x.ca.length + 1) c9))
          clear hX hG
          unfold Oper.wp execOp
          simp only [e1, e2]
          go_simp
          exact hK undef _ trivial trivial ⟨fun h => by simp [upd, p11] at h, fun _ h => by simp [upd, p11] at h, fun _ => ⟨A9, c9, by simpa [upd] using hv, by simpa [upd] using HQ.out⟩⟩
        · have e0 := hc.ev 119 1 rfl
          rw [show vs 1 = _ from (hp 1 (by kernel_rfl)).2] at e0
          unfold Oper.wp execOp
          simp only [e0]
          go_simp
          exact hK _ _ trivial rfl (by simpa [upd] using hG)
        · have e0 := hc.ev 134 17 rfl
          rw [show vs 17 = _ from (hp 17 (by kernel_rfl)).2] at e0
          unfold Oper.wp execOp
          simp only [e0]
          go_simp
          exact hK _ _ trivial rfl (by simpa [upd] using hG)
        · have n_19 : fl 19 = false := hfi
          have p11 : fl 11 = true := (hp 11 (by kernel_rfl)).1
          obtain ⟨A9, c9, hv, hX⟩ := hG.2.2 p11
          have e1 := hc.ev 135 18 rfl
          rw [show vs 18 = _ from (hp 18 (by kernel_rfl)).2] at e1
          have e2 := hc.ev 131 13 rfl
          rw [show vs 13 = _ from (hp 13 (by kernel_rfl)).2] at e2
          simp only [n_19] at hX
          have c1_ : wr9.cell? ⟨g, 0, none⟩ = some (.int .i64 x.pc) := hX.b.cell 0
          have f1_ : wr9.frozen? ⟨g, 0, none⟩ = false := hX.b.frozen 0
          have HQ := Lib.hid (hX.set_ 0 (.int .i64 a))
          clear hX hG
          unfold Oper.wp execOp
          simp only [e1, e2]
          go_simp
          exact hK undef _ trivial trivial ⟨fun h => by simp [upd, p11] at h, fun _ h => by simp [upd, p11] at h, fun _ => ⟨A9, c9, by simpa [upd] using hv, by simpa [upd] using HQ.out⟩⟩
      · intro fl vs w9 hfl hG hF
        obtain ⟨A9, c9, hv, hX⟩ := hG.2.2 (hfl 11 (by simp))
        have q16 := hfl 16 (by simp)
        have q19 := hfl 19 (by simp)
        simp only [q16, q19, if_true] at hX
        have HM9 : Hid (XM w base lo g gc 6 a { x with ca := x.ca.take x.ca.length ++ [x.pc], cA := A9, cc := c9, pc := a } w9) := hX.toXM (by simp [Mc.cells])
        clear hX hv hG hF hfl q16 q19 HM
        simp only [fill]
        go_simp
        have b1 : w9.cell? ⟨g, 2, none⟩ = some (.slice A9 (x.ca.length + 1) c9) := by
          have := HM9.out.b.cell 2
          simpa [Mc.cells] using this
        by_cases h8 : x.ca.length + 1 ≤ 8
        · have h8' : ((x.ca.length + 1 : Nat) : Int) ≤ 8 := by omega
          have h8'' : (x.ca.length : Int) + 1 ≤ 8 := by omega
          go_wp2
          go_ret
          exact HM9.out.did (fun _ => by rw [HV.out]; rfl) (by rw [HV.out]; simp [h8])
        · have h8' : ¬ ((x.ca.length + 1 : Nat) : Int) ≤ 8 := by omega
          have h8'' : ¬ (x.ca.length : Int) + 1 ≤ 8 := by omega
          go_wp2
          go_ret
          exact HM9.out.did (fun _ => by rw [HV.out]; rfl) (by rw [HV.out]; simp [h8])
    · subst hd1
      have HV := Lib.hid (fun h => doV_7 x.pc a x.st x.ca h)
      have HVN := Lib.hid (fun h => doV_7n x.pc a x.st x.ca h)
      have b0 : w2.cell? ⟨g, 0, none⟩ = some (.int .i64 x.pc) := HM.out.b.cell 0
      have b1 : w2.cell? ⟨g, 1, none⟩ = some (.slice x.sA x.st.length x.sc) := HM.out.b.cell 1
      have b2 : w2.cell? ⟨g, 2, none⟩ = some (.slice x.cA x.ca.length x.cc) := HM.out.b.cell 2
      have k0 : w2.cell? ⟨gc, 0, none⟩ = some (.int .i64 7) := HM.out.c.cell 0
      have k1 : w2.cell? ⟨gc, 1, none⟩ = some (.int .i64 a) := HM.out.c.cell 1
      have f0 : w2.frozen? ⟨g, 0, none⟩ = false := HM.out.b.frozen 0
      have f1 : w2.frozen? ⟨g, 1, none⟩ = false := HM.out.b.frozen 1
      have f2 : w2.frozen? ⟨g, 2, none⟩ = false := HM.out.b.frozen 2
      by_cases hl : x.ca.length < 1
      · have hq : (x.ca.length : Int) - 1 < 0 := by omega
        have HVV := Lib.hid (HVN.out hl)
        clear HV HVN
        go_wp2
        go_ret
        exact HM.out.did (fun h => by rw [HVV.out] at h; simp at h) (by rw [HVV.out])
      · have hq : ¬ (x.ca.length : Int) - 1 < 0 := by omega
        have HVV := Lib.hid (HV.out hl)
        obtain ⟨n, hn1, hn2⟩ : ∃ n, x.ca.length ≤ n + 1 ∧ n + 1 ≤ x.ca.length := ⟨x.ca.length - 1, by omega, by omega⟩
        have e6 : (x.ca.length : Int) - 1 = (n : Int) := by omega
        obtain ⟨gs, hA, _⟩ := row_at HM.out.own.oc (by omega)
        have HA := Lib.hid hA
        rw [show x.ca.length - 1 = n from by omega] at HVV
        obtain ⟨hcap, hcm⟩ := own_le_cap HM.out.own.oc
        unfold maxLen at hcm
        obtain ⟨z, hz⟩ : ∃ z, z = x.ca.getD n 0 := ⟨_, rfl⟩
        have HCZ : Hid (∀ wq, x.Own wq lo → wq.cell? ⟨gs, n, none⟩ = some (.int .i64 z)) := fun wq ho => by rw [hz]; exact row_cell ho.oc HA.out (by omega)
        rw [← hz] at HVV
        clear hA HV HVN hz
        go_wp2
        try rw [e6]
        clear b0 b1 b2 k0 k1 f0 f1 f2 hq e6 hl
        refine wp_region_facts (fun i v wv => match i with
            | 0 => v = .pointer (some ⟨g, 0, none⟩)
            | 1 => v = .pointer (some ⟨g, 0, none⟩)
            | 2 => v = .pointer (some ⟨g, 0, none⟩)
            | 3 => v = .pointer (some ⟨g, 0, none⟩)
            | 4 => v = .pointer (some ⟨g, 2, none⟩)
            | 5 => v = .slice x.cA x.ca.length x.cc
            | 6 => v = .int .i64 (n : Int)
            | 7 => v = .slice x.cA n x.cc
            | 8 => v = .pointer (some ⟨g, 0, none⟩)
            | 9 => v = .pointer (some ⟨g, 0, none⟩)
            | 10 => v = .pointer (some ⟨g, 2, none⟩)
            | 11 => v = .slice x.cA x.ca.length x.cc
            | 12 => v = .int .i64 (n : Int)
            | 13 => v = .pointer (some ⟨gs, n, none⟩)
            | 14 => v = .int .i64 z
            | 15 => v = .pointer (some ⟨g, 0, none⟩)
            | 16 => v = .pointer (some ⟨g, 2, none⟩)
            | 17 => True
            | 18 => v = .pointer (some ⟨g, 0, none⟩)
            | 19 => v = .pointer (some ⟨g, 0, none⟩)
            | _ => True)
          (fun fl vs wq => XC w base lo g gc 7 a #[(if fl 20 = true then Value.int .i64 z else .int .i64 x.pc), .slice x.sA x.st.length x.sc, (if fl 17 = true then Value.slice x.cA n x.cc else .slice x.cA x.ca.length x.cc)] x wq) (fun _ _ => True) (by kernel_rfl) (by kernel_rfl) ?_ ?_ ?_ ?_
        · intro i v u u2 hk h
          exact h
        · intro fl vs hfl
          have z17 := hfl 17 (by simp)
          have z20 := hfl 20 (by simp)
          have h := HM.out.below (below_drewN (Below.refl _ _) 1)
          exact (show XC w base lo g gc 7 a _ x _ from ⟨by simp only [z17, z20]; exact h.b, h.c, h.own, h.bl, h.lt⟩)
        · refine ⟨?_, ?_, ?_, ?_, ?_, ?_, ?_, ?_, ?_, ?_, ?_, ?_, ?_, ?_, ?_, ?_, ?_, ?_, ?_, ?_, ?_, trivial⟩
          all_goals intro fl vs wr9 a1 hc hG hfi hcl hp K hK
          · refine op_move rfl ?_
            rw [hc.ev0 _ rfl]
            exact hK _ _ trivial rfl (by simpa [upd] using hG)
          · refine op_move rfl ?_
            rw [hc.ev0 _ rfl]
            exact hK _ _ trivial rfl (by simpa [upd] using hG)
          · refine op_move rfl ?_
            rw [hc.ev0 _ rfl]
            exact hK _ _ trivial rfl (by simpa [upd] using hG)
          · have e0 := hc.ev 148 2 rfl
            rw [show vs 2 = _ from (hp 2 (by kernel_rfl)).2] at e0
            unfold Oper.wp execOp
            simp only [e0]
            go_simp
            exact hK _ _ trivial rfl (by simpa [upd] using hG)
          · have e0 := hc.ev 149 3 rfl
            rw [show vs 3 = _ from (hp 3 (by kernel_rfl)).2] at e0
            unfold Oper.wp execOp
            simp only [e0]
            go_simp
            exact hK _ _ trivial rfl (by simpa [upd] using hG)
          · have n_17 : fl 17 = false := by cases h : fl 17 with
              | false => rfl
              | true =>
                have h7 := hcl 17 7 (by kernel_rfl) h
                have h5 := hcl 7 5 (by kernel_rfl) h7
                rw [show fl 5 = false from hfi] at h5; cases h5
            have hcc : wr9.cell? ⟨g, 2, none⟩ = some (.slice x.cA x.ca.length x.cc) := by
              have h := hG.b.cell 2
              simpa [n_17] using h
            have e0 := hc.ev 150 4 rfl
            rw [show vs 4 = _ from (hp 4 (by kernel_rfl)).2] at e0
            have c0 : wr9.cell? ⟨g, 2, none⟩ = some (.slice x.cA x.ca.length x.cc) := hcc
            unfold Oper.wp execOp
            simp only [e0]
            go_simp
            exact hK _ _ trivial rfl (by simpa [upd] using hG)
          · refine op_move rfl ?_
            rw [hc.ev0 _ rfl]
            exact hK _ _ trivial rfl (by simpa [upd] using hG)
          · have e0 := hc.ev 151 5 rfl
            rw [show vs 5 = _ from (hp 5 (by kernel_rfl)).2] at e0
            have e1 := hc.ev 152 6 rfl
            rw [show vs 6 = _ from (hp 6 (by kernel_rfl)).2] at e1
            have i1 : (0 : Int) ≤ (n : Int) := Int.natCast_nonneg _
            have i2 : (n : Int) < (x.ca.length : Int) := by omega
            have y1 : (n : Int) ≤ (x.cc : Int) := by omega
            have y3 : (n : Int) ≤ (x.ca.length : Int) := by omega
            have y4 : (x.ca.length : Int) ≤ (x.cc : Int) := by omega
            unfold Oper.wp execOp
            simp only [e0, e1, Option.map_some, Option.map_none]
            go_simp
            exact hK _ _ trivial (by first | rfl | simp) (by simpa [upd] using hG)
          · refine op_move rfl ?_
            rw [hc.ev0 _ rfl]
            exact hK _ _ trivial rfl (by simpa [upd] using hG)
          · have e0 := hc.ev 154 8 rfl
            rw [show vs 8 = _ from (hp 8 (by kernel_rfl)).2] at e0
            unfold Oper.wp execOp
            simp only [e0]
            go_simp
            exact hK _ _ trivial rfl (by simpa [upd] using hG)
          · have e0 := hc.ev 155 9 rfl
            rw [show vs 9 = _ from (hp 9 (by kernel_rfl)).2] at e0
            unfold Oper.wp execOp
            simp only [e0]
            go_simp
            exact hK _ _ trivial rfl (by simpa [upd] using hG)
          · have n_17 : fl 17 = false := by cases h : fl 17 with
              | false => rfl
              | true =>
                have h14 := hcl 17 14 (by kernel_rfl) h
                have h13 := hcl 14 13 (by kernel_rfl) h14
                have h11 := hcl 13 11 (by kernel_rfl) h13
                rw [show fl 11 = false from hfi] at h11; cases h11
            have hcc : wr9.cell? ⟨g, 2, none⟩ = some (.slice x.cA x.ca.length x.cc) := by
              have h := hG.b.cell 2
              simpa [n_17] using h
            have e0 := hc.ev 156 10 rfl
            rw [show vs 10 = _ from (hp 10 (by kernel_rfl)).2] at e0
            have c0 : wr9.cell? ⟨g, 2, none⟩ = some (.slice x.cA x.ca.length x.cc) := hcc
            unfold Oper.wp execOp
            simp only [e0]
            go_simp
            exact hK _ _ trivial rfl (by simpa [upd] using hG)
          · refine op_move rfl ?_
            rw [hc.ev0 _ rfl]
            exact hK _ _ trivial rfl (by simpa [upd] using hG)
          · have e0 := hc.ev 157 11 rfl
            rw [show vs 11 = _ from (hp 11 (by kernel_rfl)).2, HA.out] at e0
            have e1 := hc.ev 158 12 rfl
            rw [show vs 12 = _ from (hp 12 (by kernel_rfl)).2] at e1
            have i1 : (0 : Int) ≤ (n : Int) := Int.natCast_nonneg _
            have i2 : (n : Int) < (x.ca.length : Int) := by omega
            have y1 : (n : Int) ≤ (x.cc : Int) := by omega
            have y3 : (n : Int) ≤ (x.ca.length : Int) := by omega
            have y4 : (x.ca.length : Int) ≤ (x.cc : Int) := by omega
            unfold Oper.wp execOp
            simp only [e0, e1]
            go_simp
            exact hK _ _ trivial (by first | rfl | simp) (by simpa [upd] using hG)
          · have e0 := hc.ev 159 13 rfl
            rw [show vs 13 = _ from (hp 13 (by kernel_rfl)).2] at e0
            have c0 : wr9.cell? ⟨gs, n, none⟩ = some (.int .i64 z) := HCZ.out _ hG.own
            unfold Oper.wp execOp
            simp only [e0]
            go_simp
            exact hK _ _ trivial rfl (by simpa [upd] using hG)
          · have e0 := hc.ev 146 0 rfl
            rw [show vs 0 = _ from (hp 0 (by kernel_rfl)).2] at e0
            unfold Oper.wp execOp
            simp only [e0]
            go_simp
            exact hK _ _ trivial rfl (by simpa [upd] using hG)
          · have e0 := hc.ev 161 15 rfl
            rw [show vs 15 = _ from (hp 15 (by kernel_rfl)).2] at e0
            unfold Oper.wp execOp
            simp only [e0]
            go_simp
            exact hK _ _ trivial rfl (by simpa [upd] using hG)
          · have n_17 : fl 17 = false := hfi
            have e1 := hc.ev 162 16 rfl
            rw [show vs 16 = _ from (hp 16 (by kernel_rfl)).2] at e1
            have e2 := hc.ev 153 7 rfl
            rw [show vs 7 = _ from (hp 7 (by kernel_rfl)).2] at e2
            have hX := hG
            simp only [n_17] at hX
            have c1_ : wr9.cell? ⟨g, 2, none⟩ = some (.slice x.cA x.ca.length x.cc) := hX.b.cell 2
            have f1_ : wr9.frozen? ⟨g, 2, none⟩ = false := hX.b.frozen 2
            have HQ := Lib.hid (hX.set_ 2 (.slice x.cA n x.cc))
            clear hX hG
            unfold Oper.wp execOp
            simp only [e1, e2]
            go_simp
            exact hK undef _ trivial trivial (by simpa [upd] using HQ.out)
          · have e0 := hc.ev 147 1 rfl
            rw [show vs 1 = _ from (hp 1 (by kernel_rfl)).2] at e0
            unfold Oper.wp execOp
            simp only [e0]
            go_simp
            exact hK _ _ trivial rfl (by simpa [upd] using hG)
          · have e0 := hc.ev 163 18 rfl
            rw [show vs 18 = _ from (hp 18 (by kernel_rfl)).2] at e0
            unfold Oper.wp execOp
            simp only [e0]
            go_simp
            exact hK _ _ trivial rfl (by simpa [upd] using hG)
          · have n_20 : fl 20 = false := hfi
            have e1 := hc.ev 164 19 rfl
            rw [show vs 19 = _ from (hp 19 (by kernel_rfl)).2] at e1
            have e2 := hc.ev 160 14 rfl
            rw [show vs 14 = _ from (hp 14 (by kernel_rfl)).2] at e2
            have hX := hG
            simp only [n_20] at hX
            have c1_ : wr9.cell? ⟨g, 0, none⟩ = some (.int .i64 x.pc) := hX.b.cell 0
            have f1_ : wr9.frozen? ⟨g, 0, none⟩ = false := hX.b.frozen 0
            have HQ := Lib.hid (hX.set_ 0 (.int .i64 z))
            clear hX hG
            unfold Oper.wp execOp
            simp only [e1, e2]
            go_simp
            exact hK undef _ trivial trivial (by simpa [upd] using HQ.out)
        · intro fl vs w9 hfl hG hF
          have q17 := hfl 17 (by simp)
          have q20 := hfl 20 (by simp)
          simp only [q17, q20, if_true] at hG
          have e : (x.ca.take n).length = n := by simp; omega
          have HM9 : Hid (XM w base lo g gc 7 a { x with ca := x.ca.take n, pc := z } w9) := ⟨by simp only [Mc.cells, e]; exact hG.b, hG.c, ⟨hG.own.os, by simp only [e]; exact own_pre hG.own.oc (by omega), (apv_pre hG.own.ap.symm).symm |> fun h => by simpa [e] using h⟩, hG.bl, hG.lt⟩
          clear hG hF hfl q17 q20 HM
          simp only [fill]
          go_simp
          go_wp2
          go_ret
          exact HM9.out.did (fun _ => by rw [HVV.out]; rfl) (by rw [HVV.out])
end Go.Proofs.Ytbljkdhokbhcdaa
