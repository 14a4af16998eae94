/- Machines step by step, in plain words; a machine in a block of its own. No condition. -/
import Derived.Test.YtbljkdhokbhcdaaRows
import Derived.Test.YtbljkdhokbhcdaaBase
import Derived.Test.YtbljkdhokbhcdaaBase2
import Derived.Test.YtbljkdhokbhcdaaBase3
import Derived.Test.YtbljkdhokbhcdaaOnly
import Derived.Test.YtbljkdhokbhcdaaIn
import Derived.Test.YtbljkdhokbhcdaaIn2
import Derived.Test.YtbljkdhokbhcdaaGet2IS
import Derived.Test.YtbljkdhokbhcdaaIntS
import Derived.Test.YtbljkdhokbhcdaaReg
import Derived.Test.YtbljkdhokbhcdaaRegS
import Derived.Test.YtbljkdhokbhcdaaPick2
import Derived.Test.YtbljkdhokbhcdaaKT
import Derived.Test.YtbljkdhokbhcdaaMc
import Derived.Test.YtbljkdhokbhcdaaMcy
import Derived.Test.YtbljkdhokbhcdaaCd
import Derived.WalkKit
import Derived.WalkSpells
import Derived.WalkLawsBesides
import Derived.Handy
import Derived.BigQuiet
import Derived.Deep.RegionHeld3
import Derived.Deep.DrawnRows
import Derived.Deep.QuietTactic
namespace Go.Proofs.Ytbljkdhokbhcdaa
open Go Go.RowKit

/-- What an instruction makes of two numbers. -/
def arith (d x y : Int) : Int := if d = 3 then (x + (65536 - y)) % 65536 else (x + y) % 65536
/-- An instruction on a machine whose place is the one behind it, and whether it can. -/
def doV (pc : Int) (st ca : List Int) (d a : Int) : McV × Bool :=
  if d = 1 then ((pc, st.take st.length ++ [a], ca), decide (st.length + 1 ≤ 8))
  else if d = 2 ∨ d = 3 then (if st.length < 2 then ((pc, st, ca), false) else ((pc, st.take (st.length - 2) ++ [arith d (st.getD (st.length - 2) 0) (st.getD (st.length - 1) 0)], ca), true))
  else if d = 4 then ((a, st, ca), true)
  else if d = 5 then (if st.length < 1 then ((pc, st, ca), false) else ((if st.getD (st.length - 1) 0 = 0 then a else pc, st.take (st.length - 1), ca), true))
  else if d = 6 then ((a, st, ca.take ca.length ++ [pc]), decide (ca.length + 1 ≤ 8))
  else if d = 7 then (if ca.length < 1 then ((pc, st, ca), false) else ((ca.getD (ca.length - 1) 0, st, ca.take (ca.length - 1)), true))
  else ((pc, st, ca), true)
/-- A machine after a step, and how it ended. -/
def stepV (bs : List Int) (v : McV) : McV × Int :=
  if (codeAt bs v.1).2.2 < 0 then (v, 2)
  else if (codeAt bs v.1).1 = 0 then (v, 1)
  else if (doV (codeAt bs v.1).2.2 v.2.1 v.2.2 (codeAt bs v.1).1 (codeAt bs v.1).2.1).2 = true then ((doV (codeAt bs v.1).2.2 v.2.1 v.2.2 (codeAt bs v.1).1 (codeAt bs v.1).2.1).1, 0)
  else (v, 2)
def vOk (v : McV) : Bool := mOk v.1 v.2.1 v.2.2
theorem mOk_of {pc : Int} {st ca : List Int} (h1 : 0 ≤ pc) (h2 : st.length ≤ 8) (h3 : ca.length ≤ 8) (h4 : ∀ x ∈ st, 0 ≤ x ∧ x ≤ 65535) (h5 : ∀ x ∈ ca, 0 ≤ x) : mOk pc st ca = true := by
  unfold mOk
  rw [decide_eq_true h1, decide_eq_true h2, decide_eq_true h3]
  simp only [Bool.true_and, Bool.and_eq_true, List.all_eq_true]
  exact ⟨fun x hx => inB_true (h4 x hx).1 (h4 x hx).2, fun x hx => by have := h5 x hx; simp; omega⟩
theorem mOk_iff {pc : Int} {st ca : List Int} : mOk pc st ca = true ↔ (0 ≤ pc ∧ st.length ≤ 8 ∧ ca.length ≤ 8 ∧ (∀ x ∈ st, 0 ≤ x ∧ x ≤ 65535) ∧ ∀ x ∈ ca, 0 ≤ x) := ⟨mOk_parts, fun ⟨h1, h2, h3, h4, h5⟩ => mOk_of h1 h2 h3 h4 h5⟩
theorem getD_mem {l : List Int} {k : Nat} (h : k < l.length) : l.getD k 0 ∈ l := by
  rw [List.getD_eq_getElem?_getD, List.getElem?_eq_getElem h]
  exact List.getElem_mem h
theorem arith_bd (d x y : Int) : 0 ≤ arith d x y ∧ arith d x y ≤ 65535 := by
  unfold arith
  split <;> omega
/-- A valid machine stays valid where the instruction can. -/
theorem doV_ok {pc : Int} {st ca : List Int} {d a : Int} (h : mOk pc st ca = true) (ha : 0 ≤ a ∧ a ≤ 65535) (hr : (doV pc st ca d a).2 = true) : vOk (doV pc st ca d a).1 = true := by
  obtain ⟨h1, h2, h3, h4, h5⟩ := mOk_parts h
  unfold vOk
  unfold doV at hr ⊢
  by_cases d1 : d = 1
  · rw [if_pos d1] at hr ⊢
    simp only [decide_eq_true_eq] at hr
    refine mOk_of h1 (by simp; omega) h3 (fun x hx => ?_) h5
    rcases List.mem_append.1 hx with hx | hx
    · exact h4 x (List.mem_of_mem_take hx)
    · rw [List.mem_singleton.1 hx]; exact ha
  rw [if_neg d1] at hr ⊢
  by_cases d2 : d = 2 ∨ d = 3
  · rw [if_pos d2] at hr ⊢
    by_cases hl : st.length < 2
    · rw [if_pos hl] at hr; simp at hr
    · rw [if_neg hl]
      refine mOk_of h1 (by simp; omega) h3 (fun x hx => ?_) h5
      rcases List.mem_append.1 hx with hx | hx
      · exact h4 x (List.mem_of_mem_take hx)
      · rw [List.mem_singleton.1 hx]; exact arith_bd _ _ _
  rw [if_neg d2] at hr ⊢
  by_cases d4 : d = 4
  · rw [if_pos d4]; exact mOk_of ha.1 h2 h3 h4 h5
  rw [if_neg d4] at hr ⊢
  by_cases d5 : d = 5
  · rw [if_pos d5] at hr ⊢
    by_cases hl : st.length < 1
    · rw [if_pos hl] at hr; simp at hr
    · rw [if_neg hl]
      refine mOk_of (by simp only; split <;> omega) (by simp; omega) h3 (fun x hx => h4 x (List.mem_of_mem_take hx)) h5
  rw [if_neg d5] at hr ⊢
  by_cases d6 : d = 6
  · rw [if_pos d6] at hr ⊢
    simp only [decide_eq_true_eq] at hr
    refine mOk_of ha.1 h2 (by simp; omega) h4 (fun x hx => ?_)
    rcases List.mem_append.1 hx with hx | hx
    · exact h5 x (List.mem_of_mem_take hx)
    · rw [List.mem_singleton.1 hx]; exact h1
  rw [if_neg d6] at hr ⊢
  by_cases d7 : d = 7
  · rw [if_pos d7] at hr ⊢
    by_cases hl : ca.length < 1
    · rw [if_pos hl] at hr; simp at hr
    · rw [if_neg hl]
      exact mOk_of (h5 _ (getD_mem (by omega))) h2 (by simp; omega) h4 (fun x hx => h5 x (List.mem_of_mem_take hx))
  rw [if_neg d7]
  exact mOk_of h1 h2 h3 h4 h5
/-- The only invalid machines that an instruction makes are those that are too deep. -/
theorem doV_bad1 {pc : Int} {st ca : List Int} {a : Int} (h : ¬ st.length + 1 ≤ 8) : mOk pc (st.take st.length ++ [a]) ca = false := by
  cases hq : mOk pc (st.take st.length ++ [a]) ca with
  | false => rfl
  | true => have := (mOk_parts hq).2.1; simp at this; omega
theorem doV_bad6 {pc : Int} {st ca : List Int} {a : Int} (h : ¬ ca.length + 1 ≤ 8) : mOk a st (ca.take ca.length ++ [pc]) = false := by
  cases hq : mOk a st (ca.take ca.length ++ [pc]) with
  | false => rfl
  | true => have := (mOk_parts hq).2.2.1; simp at this; omega
theorem stepV_ok {bs : List Int} (hx : ∀ x ∈ bs, 0 ≤ x ∧ x ≤ 255) {v : McV} (h : vOk v = true) : vOk (stepV bs v).1 = true := by
  unfold stepV
  by_cases h0 : (codeAt bs v.1).2.2 < 0
  · rw [if_pos h0]; exact h
  · rw [if_neg h0]
    by_cases h1 : (codeAt bs v.1).1 = 0
    · rw [if_pos h1]; exact h
    · rw [if_neg h1]
      split
      · rename_i h2
        obtain ⟨p1, p2, p3, p4, p5⟩ := mOk_parts h
        have hg := codeAt_good (pc := v.1) hx (by omega)
        exact doV_ok (mOk_of (by omega) p2 p3 p4 p5) ⟨hg.2.2.1, hg.2.2.2.1⟩ h2
      · exact h
/-- A row's beginning is a row. -/
theorem own_pre {w : World} {lo n c k : Nat} {A : Option Addr} {xs : List Int} (h : w.ownsRow lo 3 1 (.slice A n c) n (nums .i64 xs)) (hk : k ≤ n) : w.ownsRow lo 3 1 (.slice A k c) k (nums .i64 (xs.take k)) := by
  have hl : xs.length = n := by have := h.1; simpa [nums] using this
  refine ⟨by simp [nums]; omega, ?_⟩
  rcases h.2 with ⟨hv, h0⟩ | ⟨g, cap, cur, hv, hb, hh, hnc, hcm, hcs, htk⟩
  · injection hv with h1 h2 h3
    subst h1 h3
    have : k = 0 := by omega
    subst this
    exact .inl ⟨rfl, rfl⟩
  · injection hv with h1 h2 h3
    subst h1 h3
    refine .inr ⟨g, _, cur, rfl, hb, hh, by omega, hcm, hcs, ?_⟩
    have e : cur.toList.take (k * 1) = (cur.toList.take (n * 1)).take (k * 1) := by rw [List.take_take]; congr 1; omega
    rw [e, htk]
    simp [nums, List.map_take]
/-- A machine in a block of its own, with an instruction beside it. -/
structure XM (w0 : World) (base lo g gc : Nat) (d a : Int) (x : Mc) (wq : World) : Prop where
  b : Blk wq g 27 x.cells
  c : Blk wq gc 57 #[.int .i64 d, .int .i64 a]
  own : x.Own wq lo
  bl : Below base w0 wq
  lt : base ≤ lo ∧ base ≤ g ∧ base ≤ w0.heap.size ∧ lo ≤ wq.heap.size
section
variable {w0 wq w' : World} {base lo g gc : Nat} {d a : Int} {x : Mc}
theorem XM.below (h : XM w0 base lo g gc d a x wq) (s : Below wq.heap.size wq w') : XM w0 base lo g gc d a x w' :=
  ⟨h.b.below s h.b.lt, h.c.below s h.c.lt, h.own.below s, h.bl.trans (s.mono (Nat.le_trans h.lt.2.2.1 h.bl.size)), h.lt.1, h.lt.2.1, h.lt.2.2.1, Nat.le_trans h.lt.2.2.2 s.size⟩
theorem XM.cNe (h : XM w0 base lo g gc d a x wq) : gc ≠ g := fun e => by
  have h1 := h.b
  have h2 := h.c
  unfold Blk at h1 h2
  rw [e, h1] at h2
  injection h2 with h2
  injection h2 with _ h2
  exact absurd h2 (by decide)
theorem XM.setc (h : XM w0 base lo g gc d a x wq) (i : Nat) (u : Value) {x' : Mc} (he : x'.cells = x.cells.setIfInBounds i u) (ho : x'.Own wq lo) : XM w0 base lo g gc d a x' (wq.setCell ⟨g, i, none⟩ u) :=
  ⟨by rw [he]; exact h.b.set_ i u, h.c.far (by have := h.cNe; simp only [ne_eq]; omega) _, ho.keep (.of_set h.b TI_m i u), h.bl.setCell h.lt.2.1 _, h.lt.1, h.lt.2.1, h.lt.2.2.1, by simpa using h.lt.2.2.2⟩
theorem XM.pc (h : XM w0 base lo g gc d a x wq) (v : Int) : XM w0 base lo g gc d a { x with pc := v } (wq.setCell ⟨g, 0, none⟩ (.int .i64 v)) := h.setc 0 _ (by simp [Mc.cells]) ⟨h.own.os, h.own.oc, h.own.ap⟩
theorem apv_pre {A B : Option Addr} {n m c e k : Nat} (h : ApV (.slice A n c) (.slice B m e)) : ApV (.slice A k c) (.slice B m e) := fun g h1 h2 => h g (by
  cases A with
  | none => simp [Value.ownBlock] at h1
  | some a => simpa [Value.ownBlock] using h1) h2
theorem XM.stTo (h : XM w0 base lo g gc d a x wq) {k : Nat} (hk : k ≤ x.st.length) : XM w0 base lo g gc d a { x with st := x.st.take k } (wq.setCell ⟨g, 1, none⟩ (.slice x.sA k x.sc)) := by
  have e : (x.st.take k).length = k := by simp; omega
  refine h.setc 1 _ (by simp [Mc.cells, e]) ⟨?_, h.own.oc, ?_⟩
  · simp only [e]; exact own_pre h.own.os hk
  · exact apv_pre h.own.ap
theorem XM.caTo (h : XM w0 base lo g gc d a x wq) {k : Nat} (hk : k ≤ x.ca.length) : XM w0 base lo g gc d a { x with ca := x.ca.take k } (wq.setCell ⟨g, 2, none⟩ (.slice x.cA k x.cc)) := by
  have e : (x.ca.take k).length = k := by simp; omega
  refine h.setc 2 _ (by simp [Mc.cells, e]) ⟨h.own.os, ?_, ?_⟩
  · simp only [e]; exact own_pre h.own.oc hk
  · exact (apv_pre h.own.ap.symm).symm
theorem row_blk_keep {g : Nat} {t : TypeId} {cs : Array Value} {n m c : Nat} {A : Option Addr} {xs : List Value} (hb : Blk wq g t cs) (ho : wq.ownsRow lo 3 1 (.slice A n c) n xs) (hne : 3 ≠ t) (hg : wq.grownBy w' (Value.ownBlock (.slice A m c))) : Blk w' g t cs := by
  have hob : Value.ownBlock (.slice A m c) = A.map (·.block) := by cases A <;> rfl
  rw [hob] at hg
  exact hb.grown hg (blk_row_ne hb ho hne)
/-- A number was put on the first numbers of the stack. -/
theorem XM.pushSt (h : XM w0 base lo g gc d a x wq) {k : Nat} (hk : k ≤ x.st.length) {A' : Option Addr} {c' : Nat} {v : Int} (hg : wq.grownBy w' (Value.ownBlock (.slice x.sA k x.sc)))
    (ho : w'.ownsRow lo 3 1 (.slice A' (k + 1) c') (k + 1) (nums .i64 (x.st.take k) ++ [.int .i64 v])) (hat : Value.ownBlock (.slice A' (k + 1) c') = Value.ownBlock (.slice x.sA k x.sc) ∨ Value.ownBlock (.slice A' (k + 1) c') = some wq.heap.size) :
    Blk w' g 27 x.cells ∧ Blk w' gc 57 #[.int .i64 d, .int .i64 a] ∧ XM w0 base lo g gc d a { x with st := x.st.take k ++ [v], sA := A', sc := c' } (w'.setCell ⟨g, 1, none⟩ (.slice A' (k + 1) c')) := by
  have hb' := row_blk_keep h.b h.own.os (by decide) hg
  have hc' := row_blk_keep h.c h.own.os (by decide) hg
  have hlt := h.lt
  have e : (x.st.take k ++ [v]).length = k + 1 := by simp; omega
  have tw : Tw lo (.slice x.sA k x.sc) k (nums .i64 (x.st.take k)) (.slice x.cA x.ca.length x.cc) x.ca.length (nums .i64 x.ca) wq := ⟨own_pre h.own.os hk, h.own.oc, apv_pre h.own.ap⟩
  have tw' := tw.push hg ho hat
  have hbl : Below base w0 w' := h.bl.grown hg (Nat.le_trans hlt.2.2.1 h.bl.size) (fun q hq => by have := (own_lt' tw.o1 q hq).1; omega)
  refine ⟨hb', hc', ?_, hc'.far (by have := h.cNe; simp only [ne_eq]; omega) _, ?_, hbl.setCell hlt.2.1 _, hlt.1, hlt.2.1, hlt.2.2.1, by have := hg.size; simp; omega⟩
  · have := hb'.set_ 1 (.slice A' (k + 1) c')
    simpa [Mc.cells, e] using this
  · have o : Mc.Own { x with st := x.st.take k ++ [v], sA := A', sc := c' } w' lo := ⟨by simp only [e]; simpa [nums] using tw'.o1, tw'.o2, by simp only [e]; exact tw'.ap⟩
    exact o.keep (.of_set hb' TI_m 1 _)
theorem XM.pushCa (h : XM w0 base lo g gc d a x wq) {k : Nat} (hk : k ≤ x.ca.length) {A' : Option Addr} {c' : Nat} {v : Int} (hg : wq.grownBy w' (Value.ownBlock (.slice x.cA k x.cc)))
    (ho : w'.ownsRow lo 3 1 (.slice A' (k + 1) c') (k + 1) (nums .i64 (x.ca.take k) ++ [.int .i64 v])) (hat : Value.ownBlock (.slice A' (k + 1) c') = Value.ownBlock (.slice x.cA k x.cc) ∨ Value.ownBlock (.slice A' (k + 1) c') = some wq.heap.size) :
    Blk w' g 27 x.cells ∧ Blk w' gc 57 #[.int .i64 d, .int .i64 a] ∧ XM w0 base lo g gc d a { x with ca := x.ca.take k ++ [v], cA := A', cc := c' } (w'.setCell ⟨g, 2, none⟩ (.slice A' (k + 1) c')) := by
  have hb' := row_blk_keep h.b h.own.oc (by decide) hg
  have hc' := row_blk_keep h.c h.own.oc (by decide) hg
  have hlt := h.lt
  have e : (x.ca.take k ++ [v]).length = k + 1 := by simp; omega
  have tw : Tw lo (.slice x.cA k x.cc) k (nums .i64 (x.ca.take k)) (.slice x.sA x.st.length x.sc) x.st.length (nums .i64 x.st) wq := ⟨own_pre h.own.oc hk, h.own.os, apv_pre h.own.ap.symm⟩
  have tw' := tw.push hg ho hat
  have hbl : Below base w0 w' := h.bl.grown hg (Nat.le_trans hlt.2.2.1 h.bl.size) (fun q hq => by have := (own_lt' tw.o1 q hq).1; omega)
  refine ⟨hb', hc', ?_, hc'.far (by have := h.cNe; simp only [ne_eq]; omega) _, ?_, hbl.setCell hlt.2.1 _, hlt.1, hlt.2.1, hlt.2.2.1, by have := hg.size; simp; omega⟩
  · have := hb'.set_ 2 (.slice A' (k + 1) c')
    simpa [Mc.cells, e] using this
  · have o : Mc.Own { x with ca := x.ca.take k ++ [v], cA := A', cc := c' } w' lo := ⟨tw'.o2, by simp only [e]; simpa [nums] using tw'.o1, by simp only [e]; exact tw'.ap.symm⟩
    exact o.keep (.of_set hb' TI_m 2 _)
/-- The same while its block does not tell its rows yet. -/
structure XC (w0 : World) (base lo g gc : Nat) (d a : Int) (cs : Array Value) (y : Mc) (wq : World) : Prop where
  b : Blk wq g 27 cs
  c : Blk wq gc 57 #[.int .i64 d, .int .i64 a]
  own : y.Own wq lo
  bl : Below base w0 wq
  lt : base ≤ lo ∧ base ≤ g ∧ base ≤ w0.heap.size ∧ lo ≤ wq.heap.size
theorem XC.set_ {cs : Array Value} (h : XC w0 base lo g gc d a cs x wq) (i : Nat) (u : Value) : XC w0 base lo g gc d a (cs.setIfInBounds i u) x (wq.setCell ⟨g, i, none⟩ u) := by
  have hne : gc ≠ g := fun e => by
    have h1 := h.b
    have h2 := h.c
    unfold Blk at h1 h2
    rw [e, h1] at h2
    injection h2 with h2
    injection h2 with _ h2
    exact absurd h2 (by decide)
  exact ⟨h.b.set_ i u, h.c.far (by simp only [ne_eq]; omega) _, h.own.keep (.of_set h.b TI_m i u), h.bl.setCell h.lt.2.1 _, h.lt.1, h.lt.2.1, h.lt.2.2.1, by simpa using h.lt.2.2.2⟩
theorem XC.toXM {cs : Array Value} (h : XC w0 base lo g gc d a cs x wq) (he : cs = x.cells) : XM w0 base lo g gc d a x wq := by
  subst he
  exact ⟨h.b, h.c, h.own, h.bl, h.lt⟩
theorem XC.below {cs : Array Value} (h : XC w0 base lo g gc d a cs x wq) (s : Below wq.heap.size wq w') : XC w0 base lo g gc d a cs x w' :=
  ⟨h.b.below s h.b.lt, h.c.below s h.c.lt, h.own.below s, h.bl.trans (s.mono (Nat.le_trans h.lt.2.2.1 h.bl.size)), h.lt.1, h.lt.2.1, h.lt.2.2.1, Nat.le_trans h.lt.2.2.2 s.size⟩
theorem XM.pushSt0 (h : XM w0 base lo g gc d a x wq) {k : Nat} (hk : k ≤ x.st.length) {A' : Option Addr} {c' : Nat} {v : Int} (hg : wq.grownBy w' (Value.ownBlock (.slice x.sA k x.sc)))
    (ho : w'.ownsRow lo 3 1 (.slice A' (k + 1) c') (k + 1) (nums .i64 (x.st.take k) ++ [.int .i64 v])) (hat : Value.ownBlock (.slice A' (k + 1) c') = Value.ownBlock (.slice x.sA k x.sc) ∨ Value.ownBlock (.slice A' (k + 1) c') = some wq.heap.size) :
    XC w0 base lo g gc d a x.cells { x with st := x.st.take k ++ [v], sA := A', sc := c' } w' := by
  have hb' := row_blk_keep h.b h.own.os (by decide) hg
  have hc' := row_blk_keep h.c h.own.os (by decide) hg
  have hlt := h.lt
  have e : (x.st.take k ++ [v]).length = k + 1 := by simp; omega
  have tw : Tw lo (.slice x.sA k x.sc) k (nums .i64 (x.st.take k)) (.slice x.cA x.ca.length x.cc) x.ca.length (nums .i64 x.ca) wq := ⟨own_pre h.own.os hk, h.own.oc, apv_pre h.own.ap⟩
  have tw' := tw.push hg ho hat
  have hbl : Below base w0 w' := h.bl.grown hg (Nat.le_trans hlt.2.2.1 h.bl.size) (fun q hq => by have := (own_lt' tw.o1 q hq).1; omega)
  exact ⟨hb', hc', ⟨by simp only [e]; simpa [nums] using tw'.o1, tw'.o2, by simp only [e]; exact tw'.ap⟩, hbl, hlt.1, hlt.2.1, hlt.2.2.1, by have := hg.size; omega⟩
theorem XM.pushCa0 (h : XM w0 base lo g gc d a x wq) {k : Nat} (hk : k ≤ x.ca.length) {A' : Option Addr} {c' : Nat} {v : Int} (hg : wq.grownBy w' (Value.ownBlock (.slice x.cA k x.cc)))
    (ho : w'.ownsRow lo 3 1 (.slice A' (k + 1) c') (k + 1) (nums .i64 (x.ca.take k) ++ [.int .i64 v])) (hat : Value.ownBlock (.slice A' (k + 1) c') = Value.ownBlock (.slice x.cA k x.cc) ∨ Value.ownBlock (.slice A' (k + 1) c') = some wq.heap.size) :
    XC w0 base lo g gc d a x.cells { x with ca := x.ca.take k ++ [v], cA := A', cc := c' } w' := by
  have hb' := row_blk_keep h.b h.own.oc (by decide) hg
  have hc' := row_blk_keep h.c h.own.oc (by decide) hg
  have hlt := h.lt
  have e : (x.ca.take k ++ [v]).length = k + 1 := by simp; omega
  have tw : Tw lo (.slice x.cA k x.cc) k (nums .i64 (x.ca.take k)) (.slice x.sA x.st.length x.sc) x.st.length (nums .i64 x.st) wq := ⟨own_pre h.own.oc hk, h.own.os, apv_pre h.own.ap.symm⟩
  have tw' := tw.push hg ho hat
  have hbl : Below base w0 w' := h.bl.grown hg (Nat.le_trans hlt.2.2.1 h.bl.size) (fun q hq => by have := (own_lt' tw.o1 q hq).1; omega)
  exact ⟨hb', hc', ⟨tw'.o2, by simp only [e]; simpa [nums] using tw'.o1, by simp only [e]; exact tw'.ap.symm⟩, hbl, hlt.1, hlt.2.1, hlt.2.2.1, by have := hg.size; omega⟩
end
end Go.Proofs.Ytbljkdhokbhcdaa
