/- Contract of the drawing of a machine. Condition: the reader. -/
import Derived.Test.YtbljkdhokbhcdaaRows
import Derived.Test.YtbljkdhokbhcdaaBase
import Derived.Test.YtbljkdhokbhcdaaBase2
import Derived.Test.YtbljkdhokbhcdaaBase3
import Derived.Test.YtbljkdhokbhcdaaOnly
import Derived.Test.YtbljkdhokbhcdaaIn
import Derived.Test.YtbljkdhokbhcdaaIn2
import Derived.Test.YtbljkdhokbhcdaaPick
import Derived.Test.YtbljkdhokbhcdaaPick2
import Derived.Test.YtbljkdhokbhcdaaReg
import Derived.Test.YtbljkdhokbhcdaaRegS
import Derived.Test.YtbljkdhokbhcdaaRegI
import Derived.Test.YtbljkdhokbhcdaaKT
import Derived.Test.YtbljkdhokbhcdaaMc
import Derived.Test.YtbljkdhokbhcdaaMcy
import Derived.WalkKit
import Derived.WalkSpells
import Derived.WalkLawsBesides
import Derived.Handy
import Derived.BigQuiet
import Derived.Deep.RegionHeld3
import Derived.Deep.DrawnRows
import Derived.Deep.QuietTactic
import Derived.Deep.CutBlock
namespace Go.Proofs.Ytbljkdhokbhcdaa
open Go Go.RowKit

/-- The types of the blocks that a machine has. -/
def TM (t : TypeId) : Prop := t = 3
theorem TM_r : ¬ TM 62 := by unfold TM; decide
theorem TM_m : ¬ TM 27 := by unfold TM; decide
theorem Mc.Own.keepM {m : Mc} {w w' : World} {lo : Nat} (h : m.Own w lo) (k : KeepT TM w w') : m.Own w' lo := ⟨k.own h.os rfl, k.own h.oc rfl, h.ap⟩
/-- While a machine is drawn: the result's place, the machine's block and rows, the reader. -/
structure DMc (W : World) (r q g4 g : Nat) (cs : Array Value) (y : Mc) (wq : World) : Prop where
  z : Blk wq g4 27 #[.int .i64 0, .slice none 0 0, .slice none 0 0]
  b : Blk wq g 27 cs
  own : y.Own wq W.heap.size
  rd : Rdr wq r q
  gr : W.grownBy wq (some r)
  lt : r < W.heap.size ∧ W.heap.size ≤ g4 ∧ g4 < g
def okM (r g : Nat) (A : Option Addr) (b : Nat) : Prop := b ≠ r ∧ b ≠ g ∧ some b ≠ A.map (·.block)
section
variable {W wq w' : World} {r q g4 g : Nat} {cs : Array Value} {y : Mc}
theorem DMc.alloc (h : DMc W r q g4 g cs y wq) (o : Go.Obj) : DMc W r q g4 g cs y (wq.alloc o) := ⟨h.z.alloc _, h.b.alloc _, h.own.keepM (.of_alloc _ _ _), h.rd.alloc _, gr_alloc h.gr _, h.lt⟩
theorem DMc.more {q' : Nat} (h : DMc W r q g4 g cs y wq) (hq : q ≤ q') : DMc W r q' g4 g cs y wq := ⟨h.z, h.b, h.own, h.rd.more hq, h.gr, h.lt⟩
theorem DMc.drewN (h : DMc W r q g4 g cs y wq) (n : Nat) : DMc W r q g4 g cs y (wq.drewN n) := ⟨h.z.drewN n, h.b.drewN n, h.own.keepM ⟨Nat.le_refl _, fun _ _ _ _ _ => rfl⟩, h.rd, gr_drewN h.gr n, h.lt⟩
theorem DMc.pick {q' : Nat} (h : DMc W r q g4 g cs y wq) (hr' : Rdr w' r q') (hg : wq.grownBy w' (some r)) : DMc W r q' g4 g cs y w' :=
  ⟨h.z.grown hg (by have := h.lt; simp; omega), h.b.grown hg (by have := h.lt; simp; omega), h.own.keepM (.of_pick h.rd hg TM_r), hr', gr_trans h.gr hg, h.lt⟩
theorem DMc.set_ (h : DMc W r q g4 g cs y wq) (i : Nat) (u : Value) : DMc W r q g4 g (cs.setIfInBounds i u) y (wq.setCell ⟨g, i, none⟩ u) :=
  ⟨h.z.far (by have := h.lt; simp only [ne_eq]; omega) _, h.b.set_ i u, h.own.keepM (.of_set h.b TM_m i u), h.rd.setCell (by have := h.lt; simp only; omega) _, gr_setCell h.gr (by have := h.lt; simp only; omega) _, h.lt⟩
theorem DMc.put (h : DMc W r q g4 g cs y wq) (i : Nat) (u : Value) {cs' : Array Value} (he : cs' = cs.setIfInBounds i u) : DMc W r q g4 g cs' y (wq.setCell ⟨g, i, none⟩ u) := by subst he; exact h.set_ i u
theorem DMc.pc (h : DMc W r q g4 g cs y wq) (v : Int) : DMc W r q g4 g cs { y with pc := v } wq := ⟨h.z, h.b, ⟨h.own.os, h.own.oc, h.own.ap⟩, h.rd, h.gr, h.lt⟩
theorem DMc.cell (h : DMc W r q g4 g cs y wq) (i : Nat) : wq.cell? ⟨g, i, none⟩ = cs[i]? := h.b.cell i
theorem DMc.free (h : DMc W r q g4 g cs y wq) (i : Nat) : wq.frozen? ⟨g, i, none⟩ = false := h.b.frozen i
theorem DMc.size (h : DMc W r q g4 g cs y wq) : W.heap.size ≤ wq.heap.size ∧ r < wq.heap.size ∧ g < wq.heap.size := ⟨h.gr.size, by have := h.gr.size; have := h.lt; omega, h.b.lt⟩
theorem DMc.new_ (h : DMc W r q g4 g cs y wq) (A : Option Addr) (hA : ∀ a, A = some a → a.block < wq.heap.size) : okM r g A wq.heap.size :=
  ⟨by have := h.size; omega, by have := h.size; omega, fun e => by
    cases A with
    | none => cases e
    | some a =>
      have := hA a rfl
      have e' : wq.heap.size = a.block := by simpa using e
      omega⟩
theorem DMc.upS (h : DMc W r q g4 g cs y wq) : ∀ a, y.sA = some a → a.block < wq.heap.size := fun a ha => (own_up h.own.os a ha).2
theorem DMc.upC (h : DMc W r q g4 g cs y wq) : ∀ a, y.cA = some a → a.block < wq.heap.size := fun a ha => (own_up h.own.oc a ha).2
theorem apv_push {A A' B : Option Addr} {n c n' c' m d : Nat} {H : Nat} (h : ApV (.slice A n c) (.slice B m d)) (hB : ∀ b, B = some b → b.block < H) (hat : ∀ b, A' = some b → (∃ b0, A = some b0 ∧ b0.block = b.block) ∨ H ≤ b.block) : ApV (.slice A' n' c') (.slice B m d) := fun g h1 h2 => by
  cases A' with
  | none => cases h1
  | some a =>
    cases B with
    | none => cases h2
    | some b =>
      have e1 : a.block = g := by simpa [Value.ownBlock] using h1
      have e2 : b.block = g := by simpa [Value.ownBlock] using h2
      rcases hat a rfl with ⟨b0, e3, e4⟩ | e3
      · subst e3
        exact h g (by simp [Value.ownBlock, e4, e1]) (by simp [Value.ownBlock, e2])
      · have := hB b rfl
        omega
theorem DMc.pushSt {A' : Option Addr} {c' : Nat} {v : Int} (h : DMc W r q g4 g cs y wq) (ho : w'.ownsRow W.heap.size 3 1 (.slice A' (y.st.length + 1) c') (y.st.length + 1) (nums .i64 y.st ++ [.int .i64 v])) (hg : wq.grownBy w' (y.sA.map (·.block)))
    (hat : ∀ b, A' = some b → (∃ b0, y.sA = some b0 ∧ b0.block = b.block) ∨ wq.heap.size ≤ b.block) : DMc W r q g4 g cs { y with st := y.st ++ [v], sA := A', sc := c' } w' :=
  ⟨h.z.grown hg (blk_row_ne h.z h.own.os (by decide)), h.b.grown hg (blk_row_ne h.b h.own.os (by decide)), ⟨by simpa [nums] using ho, own_other h.own.oc hg (fun a a2 h1 h2 => h.own.ap.symm.apart a a2 h1 h2), apv_push h.own.ap h.upC hat⟩, h.rd.row hg h.own.os h.lt.1, gr_row h.gr hg h.own.os (Nat.le_refl _), h.lt⟩
theorem DMc.pushCa {A' : Option Addr} {c' : Nat} {v : Int} (h : DMc W r q g4 g cs y wq) (ho : w'.ownsRow W.heap.size 3 1 (.slice A' (y.ca.length + 1) c') (y.ca.length + 1) (nums .i64 y.ca ++ [.int .i64 v])) (hg : wq.grownBy w' (y.cA.map (·.block)))
    (hat : ∀ b, A' = some b → (∃ b0, y.cA = some b0 ∧ b0.block = b.block) ∨ wq.heap.size ≤ b.block) : DMc W r q g4 g cs { y with ca := y.ca ++ [v], cA := A', cc := c' } w' :=
  ⟨h.z.grown hg (blk_row_ne h.z h.own.oc (by decide)), h.b.grown hg (blk_row_ne h.b h.own.oc (by decide)), ⟨own_other h.own.os hg (fun a a2 h1 h2 => h.own.ap.apart a a2 h1 h2), by simpa [nums] using ho, (apv_push h.own.ap.symm h.upS hat).symm⟩, h.rd.row hg h.own.oc h.lt.1, gr_row h.gr hg h.own.oc (Nat.le_refl _), h.lt⟩
theorem DMc.newSt (h : DMc W r q g4 g cs y wq) {H : Nat} (hH : H = wq.heap.size) (xs : List Int) {us : Array Value} (hu : us = (nums .i64 xs).toArray) {n : Nat} (hn : n = xs.length) (hx : xs.length ≤ 100) : DMc W r q g4 g cs { y with st := xs, sA := some ⟨H, 0, none⟩, sc := n } (wq.alloc (.cells us 3)) := by
  subst hu hn hH
  have a := h.alloc (.cells (nums .i64 xs).toArray 3)
  refine ⟨a.z, a.b, ⟨?_, a.own.oc, fun k h1 h2 => ?_⟩, a.rd, a.gr, a.lt⟩
  · have o := World.ownsRow_lit (base := W.heap.size) (e := 3) (size := 1) wq (nums .i64 xs).toArray xs.length h.gr.size (by unfold maxLen; omega) (by simp [nums])
    simpa using o
  · have e1 : wq.heap.size = k := by simpa [Value.ownBlock] using h1
    have := (own_lt' h.own.oc k h2).2
    omega
theorem DMc.newCa (h : DMc W r q g4 g cs y wq) {H : Nat} (hH : H = wq.heap.size) (xs : List Int) {us : Array Value} (hu : us = (nums .i64 xs).toArray) {n : Nat} (hn : n = xs.length) (hx : xs.length ≤ 100) : DMc W r q g4 g cs { y with ca := xs, cA := some ⟨H, 0, none⟩, cc := n } (wq.alloc (.cells us 3)) := by
  subst hu hn hH
  have a := h.alloc (.cells (nums .i64 xs).toArray 3)
  refine ⟨a.z, a.b, ⟨a.own.os, ?_, fun k h1 h2 => ?_⟩, a.rd, a.gr, a.lt⟩
  · have o := World.ownsRow_lit (base := W.heap.size) (e := 3) (size := 1) wq (nums .i64 xs).toArray xs.length h.gr.size (by unfold maxLen; omega) (by simp [nums])
    simpa using o
  · have e1 : wq.heap.size = k := by simpa [Value.ownBlock] using h2
    have := (own_lt' h.own.os k h1).2
    omega
end
theorem dmint_info : (Try.prog.info? 3).map (fun i => (i.zero, i.size, i.bytes)) = some (some (.int .i64 0), 1, 8) := by kernel_rfl
/-- A machine was drawn. -/
def DrewMc (w : World) (r P : Nat) (e : Ending) (w' : World) : Prop := ∃ x : Mc, e = .returned x.val ∧ x.Own w' w.heap.size ∧ (x.st.length ≤ 9 ∧ x.ca.length ≤ 9) ∧ Rdr w' r (P + 100) ∧ w.grownBy w' (some r)
theorem DMc.fin {W wq : World} {r q g4 g : Nat} {x : Mc} (h : DMc W r q g4 g x.cells x wq) :
    Blk (((wq.setCell ⟨g4, 0, none⟩ (.int .i64 x.pc)).setCell ⟨g4, 1, none⟩ (.slice x.sA x.st.length x.sc)).setCell ⟨g4, 2, none⟩ (.slice x.cA x.ca.length x.cc)) g4 27 x.cells ∧ x.Own (((wq.setCell ⟨g4, 0, none⟩ (.int .i64 x.pc)).setCell ⟨g4, 1, none⟩ (.slice x.sA x.st.length x.sc)).setCell ⟨g4, 2, none⟩ (.slice x.cA x.ca.length x.cc)) W.heap.size ∧ Rdr (((wq.setCell ⟨g4, 0, none⟩ (.int .i64 x.pc)).setCell ⟨g4, 1, none⟩ (.slice x.sA x.st.length x.sc)).setCell ⟨g4, 2, none⟩ (.slice x.cA x.ca.length x.cc)) r q ∧ W.grownBy (((wq.setCell ⟨g4, 0, none⟩ (.int .i64 x.pc)).setCell ⟨g4, 1, none⟩ (.slice x.sA x.st.length x.sc)).setCell ⟨g4, 2, none⟩ (.slice x.cA x.ca.length x.cc)) (some r) := by
  have b0 := h.z.set_ 0 (.int .i64 x.pc)
  have b1 := b0.set_ 1 (.slice x.sA x.st.length x.sc)
  have hl := h.lt
  refine ⟨?_, ((h.own.keepM (.of_set h.z TM_m 0 _)).keepM (.of_set b0 TM_m 1 _)).keepM (.of_set b1 TM_m 2 _), ((h.rd.setCell (by simp only; omega) _).setCell (by simp only; omega) _).setCell (by simp only; omega) _, gr_setCell (gr_setCell (gr_setCell h.gr (by simp only; omega) _) (by simp only; omega) _) (by simp only; omega) _⟩
  have := b1.set_ 2 (.slice x.cA x.ca.length x.cc)
  simpa [Mc.cells] using this
set_option maxRecDepth 100000 in
set_option maxHeartbeats 8000000 in
theorem l20Machine_any (r P : Nat) (n : Int) (w : World) (hr : Rdr w r P) (hP : P ≤ 1000) (hn0 : 0 ≤ n) (hn : n ≤ 1000) : Calls Try.prog 32 #[.pointer (some ⟨r, 0, none⟩), .int .i64 n] w (DrewMc w r P) := by
  obtain ⟨i0, hi0, hz0, hz1, hz2⟩ := info_parts dmint_info
  have hrl := hr.lt
  have HR0 : Hid (Rdr (w.alloc (.cells #[.int .i64 0, .slice none 0 0, .slice none 0 0] 27)) r P) := hr.alloc _
  clear hr
  go_enter Try.func32, Try.ntmps32
  go_wp2_with fail
  refine (pick_any r P 6 _ HR0.out (by omega) (by omega) (by omega)).mono ?_
  rintro e w1 ⟨pc, rfl, ⟨pa, pb⟩, hr1, hg1⟩
  have HM0 : Hid (DMc w r (P + 1) w.heap.size (w1.heap.size + 1 + 1) #[.int .i64 pc, .slice (some ⟨w1.heap.size, 0, none⟩) 0 0, .slice (some ⟨w1.heap.size + 1, 0, none⟩) 0 0] ⟨pc, [], some ⟨w1.heap.size, 0, none⟩, 0, [], some ⟨w1.heap.size + 1, 0, none⟩, 0⟩ (((w1.alloc (.cells #[] 3)).alloc (.cells #[] 3)).alloc (.cells #[.int .i64 pc, .slice (some ⟨w1.heap.size, 0, none⟩) 0 0, .slice (some ⟨w1.heap.size + 1, 0, none⟩) 0 0] 27))) := by
    have hz := hg1.size
    simp only [World.size_alloc] at hz
    have o1 := ((World.ownsRow_lit (base := w.heap.size) (e := 3) (size := 1) w1 #[] 0 (by omega) (by unfold maxLen; omega) rfl))
    have o2 := ((World.ownsRow_lit (base := w.heap.size) (e := 3) (size := 1) (w1.alloc (.cells #[] 3)) #[] 0 (by simp; omega) (by unfold maxLen; omega) rfl))
    rw [World.size_alloc] at o2
    have k1 : KeepT TM (w1.alloc (.cells #[] 3)) ((w1.alloc (.cells #[] 3)).alloc (.cells #[] 3)) := .of_alloc _ _ _
    have oo : Mc.Own ⟨pc, [], some ⟨w1.heap.size, 0, none⟩, 0, [], some ⟨w1.heap.size + 1, 0, none⟩, 0⟩ ((w1.alloc (.cells #[] 3)).alloc (.cells #[] 3)) w.heap.size := ⟨k1.own o1 rfl, o2, fun g h1 h2 => by
      have e1 : w1.heap.size = g := by simpa [Value.ownBlock] using h1
      have e2 : w1.heap.size + 1 = g := by simpa [Value.ownBlock] using h2
      omega⟩
    have zz : Blk w1 w.heap.size 27 #[.int .i64 0, .slice none 0 0, .slice none 0 0] := (Blk.new w 27 _).grown hg1 (by simp; omega)
    have hgg : w.grownBy w1 (some r) := gr_trans (gr_alloc (grown_refl w (some r)) _) hg1
    have hb := Blk.new ((w1.alloc (.cells #[] 3)).alloc (.cells #[] 3)) 27 #[.int .i64 pc, .slice (some ⟨w1.heap.size, 0, none⟩) 0 0, .slice (some ⟨w1.heap.size + 1, 0, none⟩) 0 0]
    rw [World.size_alloc, World.size_alloc] at hb
    exact ⟨((zz.alloc _).alloc _).alloc _, hb, oo.keepM (.of_alloc _ _ _), ((hr1.alloc _).alloc _).alloc _, gr_alloc (gr_alloc (gr_alloc hgg _) _) _, hrl, Nat.le_refl _, by omega⟩
  go_upto_region 2 with fail
  obtain ⟨x0, hx0⟩ : ∃ x0 : Mc, x0 = ⟨pc, [], some ⟨w1.heap.size, 0, none⟩, 0, [], some ⟨w1.heap.size + 1, 0, none⟩, 0⟩ := ⟨_, rfl⟩
  obtain ⟨g, hg⟩ : ∃ g, g = w1.heap.size + 1 + 1 := ⟨_, rfl⟩
  obtain ⟨g4, hg4⟩ : ∃ g4, g4 = w.heap.size := ⟨_, rfl⟩
  have hl0 : x0.st.length = 0 ∧ x0.ca.length = 0 := by rw [hx0]; exact ⟨rfl, rfl⟩
  have HM1 : Hid (DMc w r (P + 1) g4 g x0.cells x0 (((w1.alloc (.cells #[] 3)).alloc (.cells #[] 3)).alloc (.cells #[.int .i64 pc, .slice (some ⟨w1.heap.size, 0, none⟩) 0 0, .slice (some ⟨w1.heap.size + 1, 0, none⟩) 0 0] 27))) := by
    subst hx0 hg hg4
    exact HM0.out
  clear HM0 hr1 hg1 HR0
  rw [← hg4, ← hg]
  generalize ((w1.alloc (.cells #[] 3)).alloc (.cells #[] 3)).alloc _ = w2 at HM1 ⊢
  clear hx0 hg hg4 pa pb
  obtain ⟨W, hW⟩ : ∃ W, W = w := ⟨_, rfl⟩
  rw [← hW] at HM1
  subst hW
  go_wp2_with fail
  refine (pick_any r _ 9 _ HM1.out.rd (by omega) (by omega) (by omega)).mono ?_
  rintro e w3 ⟨v, rfl, ⟨va, vb⟩, hr3, hg3⟩
  obtain ⟨k0, rfl⟩ := Int.eq_ofNat_of_zero_le va
  have HM3 := Lib.hid (HM1.out.pick hr3 hg3)
  clear HM1 hr3 hg3
  go_wp2
  go_loopw [6] (fun kv wr => ∃ (j q : Nat) (x : Mc), kv = .int .i64 (j : Int) ∧ (j ≤ 8 ∧ q + 2 * j ≤ P + 2 + 16) ∧ (x.st.length + j ≤ 8 ∧ x.ca.length = 0) ∧ Hid (DMc W r q g4 g x.cells x wr)) (fun kv _ => (intOf kv).toNat)
  case atStart => exact ⟨k0, P + 1 + 1, x0, rfl, by omega, by omega, HM3⟩
  case round =>
    obtain ⟨j, q, x, rfl, hj, hlx, HM⟩ := hrel
    clear HM3
    by_cases hj0 : 0 < j
    · have hji : (0 : Int) < (j : Int) := by omega
      go_wp2
      refine wp_region_facts (fun i v wf => match i with
          | 0 => v = .pointer (some ⟨g, 1, none⟩)
          | 1 => v = .slice x.sA x.st.length x.sc
          | 2 => v = .pointer (some ⟨r, 0, none⟩)
          | 3 => IsInt 0 (9 - 1) v
          | 4 => LitI (okM r g x.sA) 3 0 65535 v wf
          | 5 => v = .pointer (some ⟨r, 0, none⟩)
          | 6 => IsInt 0 (3 - 1) v
          | 7 => AdI (okM r g x.sA) 0 65535 v wf
          | 8 => IsInt 0 65535 v
          | 9 => LitI (okM r g x.sA) 1 0 65535 v wf
          | 10 => True
          | 11 => v = .pointer (some ⟨g, 1, none⟩)
          | _ => True)
        (fun fl vs wq => (fl 10 = false → DMc W r (q + (b1 (fl 3) 1 + b1 (fl 6) 1)) g4 g x.cells x wq) ∧ (fl 10 = true → ∃ (A' : Option Addr) (c' : Nat) (v : Int), vs 10 = .slice A' (x.st.length + 1) c' ∧ (fl 12 = false → DMc W r (q + 2) g4 g x.cells { x with st := x.st ++ [v], sA := A', sc := c' } wq) ∧ (fl 12 = true → DMc W r (q + 2) g4 g (Mc.cells { x with st := x.st ++ [v], sA := A', sc := c' }) { x with st := x.st ++ [v], sA := A', sc := c' } wq))) (Keeps (okM r g x.sA)) (by kernel_rfl) (by kernel_rfl) ?_ ?_ ?_ ?_
      · intro i v u u2 hk h
        match i, h with
        | 0, h => exact h
        | 1, h => exact h
        | 2, h => exact h
        | 3, h => exact h
        | 4, h => exact h.keeps hk
        | 5, h => exact h
        | 6, h => exact h
        | 7, h => exact h.keeps hk
        | 8, h => exact h
        | 9, h => exact h.keeps hk
        | 10, h => trivial
        | 11, h => exact h
        | _ + 12, h => trivial
      · intro fl vs hfl
        exact ⟨fun _ => (HM.out.drewN 1).more (by omega), fun h => by rw [hfl 10 (by simp)] at h; cases h⟩
      · refine ⟨?_, ?_, ?_, ?_, ?_, ?_, ?_, ?_, ?_, ?_, ?_, ?_, ?_, trivial⟩
        all_goals intro fl vs wr a1 hc hG hfi hcl hp K hK
        · have e1 : a1.eval (.tmp 5) = .pointer (some ⟨g, 0, none⟩) := hc.ev0 5 rfl
          unfold Oper.wp execOp
          simp only [e1]
          go_simp
          exact hK _ _ (Keeps.refl _ _) rfl (by simpa [upd] using hG)
        · have n10 : fl 10 = false := by
            cases h : fl 10 with
            | false => rfl
            | true =>
              have h := hcl 10 1 (by kernel_rfl) h
              rw [show fl 1 = false from hfi] at h
              cases h
          have hS := hG.1 n10
          have e1 := hc.ev 19 0 rfl
          rw [show vs 0 = _ from (hp 0 (by kernel_rfl)).2] at e1
          have ec : wr.cell? ⟨g, 1, none⟩ = some (.slice x.sA x.st.length x.sc) := hS.cell 1
          unfold Oper.wp execOp
          simp only [e1]
          go_simp
          exact hK _ _ (Keeps.refl _ _) rfl (by simpa [upd] using hG)
        · refine op_move rfl ?_
          rw [hc.ev0 _ rfl]
          exact hK _ _ (Keeps.refl _ _) rfl (by simpa [upd] using hG)
        · have n10 : fl 10 = false := by
            cases h : fl 10 with
            | false => rfl
            | true =>
              have h := hcl 10 9 (by kernel_rfl) h
              have h := hcl 9 8 (by kernel_rfl) h
              have h := hcl 8 7 (by kernel_rfl) h
              have h := hcl 7 4 (by kernel_rfl) h
              have h := hcl 4 3 (by kernel_rfl) h
              rw [show fl 3 = false from hfi] at h
              cases h
          have hS := hG.1 n10
          have hfi2 : fl 3 = false := hfi
          have hcnt3 := b1_le (fl 3) 1
          have hcnt6 := b1_le (fl 6) 1
          have e1 := hc.ev 21 2 rfl
          rw [show vs 2 = _ from (hp 2 (by kernel_rfl)).2] at e1
          refine op_pick rfl e1 rfl hS.rd (by omega) (by omega) (by omega) ?_
          intro v w9 va vb hr9 hg9
          exact hK _ _ (Keeps.grown hg9 (fun k e h => by injection e with e; exact h.1 e.symm)) ⟨v, rfl, va, vb⟩ ⟨fun _ => (hS.pick hr9 hg9).more (by simp [upd, b1_true, b1_false, hfi2] <;> omega), fun h => by simp [upd, n10] at h⟩
        · have n10 : fl 10 = false := by
            cases h : fl 10 with
            | false => rfl
            | true =>
              have h := hcl 10 9 (by kernel_rfl) h
              have h := hcl 9 8 (by kernel_rfl) h
              have h := hcl 8 7 (by kernel_rfl) h
              have h := hcl 7 4 (by kernel_rfl) h
              rw [show fl 4 = false from hfi] at h
              cases h
          have hS := hG.1 n10
          obtain ⟨x0, hx0, xa0, xb0⟩ := (hp 3 (by kernel_rfl)).2
          have e0 := hc.ev 22 3 rfl
          rw [hx0] at e0
          unfold Oper.wp execOp
          simp only [e0, List.map_toArray, List.map_cons, List.map_nil]
          go_simp
          exact hK _ _ (Keeps.alloc _ _ _) ⟨_, [x0, 0, 65535], rfl, hS.new_ _ hS.upS, rfl, by intro y hy; simp at hy; omega, Blk.new _ _ _⟩ ⟨fun _ => by simpa [upd] using hS.alloc _, fun h => by simp [upd, n10] at h⟩
        · refine op_move rfl ?_
          rw [hc.ev0 _ rfl]
          exact hK _ _ (Keeps.refl _ _) rfl (by simpa [upd] using hG)
        · have n10 : fl 10 = false := by
            cases h : fl 10 with
            | false => rfl
            | true =>
              have h := hcl 10 9 (by kernel_rfl) h
              have h := hcl 9 8 (by kernel_rfl) h
              have h := hcl 8 7 (by kernel_rfl) h
              have h := hcl 7 6 (by kernel_rfl) h
              rw [show fl 6 = false from hfi] at h
              cases h
          have hS := hG.1 n10
          have hfi2 : fl 6 = false := hfi
          have hcnt3 := b1_le (fl 3) 1
          have hcnt6 := b1_le (fl 6) 1
          have e1 := hc.ev 24 5 rfl
          rw [show vs 5 = _ from (hp 5 (by kernel_rfl)).2] at e1
          refine op_pick rfl e1 rfl hS.rd (by omega) (by omega) (by omega) ?_
          intro v w9 va vb hr9 hg9
          exact hK _ _ (Keeps.grown hg9 (fun k e h => by injection e with e; exact h.1 e.symm)) ⟨v, rfl, va, vb⟩ ⟨fun _ => (hS.pick hr9 hg9).more (by simp [upd, b1_true, b1_false, hfi2] <;> omega), fun h => by simp [upd, n10] at h⟩
        · obtain ⟨u, hx, xa, xb⟩ := (hp 6 (by kernel_rfl)).2
          have hx2 : u < 3 := by omega
          obtain ⟨gg, hgg, hget⟩ := LitI.get (hp 4 (by kernel_rfl)).2 xa (by omega)
          have e1 := hc.ev 23 4 rfl
          rw [hgg] at e1
          have e2 := hc.ev 25 6 rfl
          rw [hx] at e2
          unfold Oper.wp execOp
          simp only [e1, e2]
          go_simp
          exact hK _ _ (Keeps.refl _ _) hget (by simpa [upd] using hG)
        · obtain ⟨b, o, u, hv, hb, hcx, xa, xb⟩ := (hp 7 (by kernel_rfl)).2
          have e1 := hc.ev 26 7 rfl
          rw [hv] at e1
          unfold Oper.wp execOp
          simp only [e1]
          go_simp
          exact hK _ _ (Keeps.refl _ _) ⟨u, rfl, xa, xb⟩ (by simpa [upd] using hG)
        · have n10 : fl 10 = false := by
            cases h : fl 10 with
            | false => rfl
            | true =>
              have h := hcl 10 9 (by kernel_rfl) h
              rw [show fl 9 = false from hfi] at h
              cases h
          have hS := hG.1 n10
          obtain ⟨x0, hx0, xa0, xb0⟩ := (hp 8 (by kernel_rfl)).2
          have e0 := hc.ev 27 8 rfl
          rw [hx0] at e0
          unfold Oper.wp execOp
          simp only [e0, List.map_toArray, List.map_cons, List.map_nil]
          go_simp
          exact hK _ _ (Keeps.alloc _ _ _) ⟨_, [x0], rfl, hS.new_ _ hS.upS, rfl, by intro y hy; simp at hy; omega, Blk.new _ _ _⟩ ⟨fun _ => by simpa [upd] using hS.alloc _, fun h => by simp [upd, n10] at h⟩
        · have n10 : fl 10 = false := hfi
          have hS := hG.1 n10
          have n12 : fl 12 = false := by
            cases h : fl 12 with
            | false => rfl
            | true => have h := hcl 12 10 (by kernel_rfl) h; rw [n10] at h; cases h
          have p3 : fl 3 = true := hcl 4 3 (by kernel_rfl) (hcl 7 4 (by kernel_rfl) (hcl 8 7 (by kernel_rfl) (hcl 9 8 (by kernel_rfl) (hp 9 (by kernel_rfl)).1)))
          have p6 : fl 6 = true := hcl 7 6 (by kernel_rfl) (hcl 8 7 (by kernel_rfl) (hcl 9 8 (by kernel_rfl) (hp 9 (by kernel_rfl)).1))
          obtain ⟨gl, xl, hu, hok, hln, hbd, hbl⟩ := (hp 9 (by kernel_rfl)).2
          obtain ⟨v, rfl⟩ : ∃ v, xl = [v] := by
            match xl, hln with
            | [v], _ => exact ⟨v, rfl⟩
          have e1 := hc.ev 20 1 rfl
          rw [show vs 1 = _ from (hp 1 (by kernel_rfl)).2] at e1
          have e2 := hc.ev 28 9 rfl
          rw [hu] at e2
          refine op_push (.tmp 20) (.tmp 28) _ rfl W.heap.size 3 i0 _ 1 8 Try.underlying22 hi0 hz0 hz1 hz2 rfl (by omega) (by omega) x.sA x.st.length x.sc 1 1 (nums .i64 x.st) [.int .i64 v] hS.own.os e1 ⟨gl, 0, none⟩ e2 rfl (World.news_of_block (cs := #[.int .i64 v]) (t := 3) (fr := (0, 0)) hbl) (by simp [Value.oneCell']) (by omega) (by omega) hS.size.1 ?_
          intro A' c' w6 ho hg hat hkeep
          refine hK _ _ (Keeps.grown hg (fun k hk2 hok2 => hok2.2.2 hk2.symm)) trivial ⟨fun h => by simp [upd] at h, fun _ => ⟨A', c', v, by simp [upd], fun _ => ?_, fun h => by simp [upd, n12] at h⟩⟩
          have hD := hS.pushSt ho hg hat
          rw [p3, p6] at hD
          exact hD
        · have e1 : a1.eval (.tmp 5) = .pointer (some ⟨g, 0, none⟩) := hc.ev0 5 rfl
          unfold Oper.wp execOp
          simp only [e1]
          go_simp
          exact hK _ _ (Keeps.refl _ _) rfl (by simpa [upd] using hG)
        · have n12 : fl 12 = false := hfi
          obtain ⟨A', c', v, hv, hB, _⟩ := hG.2 (hp 10 (by kernel_rfl)).1
          have hS := hB n12
          have e1 := hc.ev 30 11 rfl
          rw [show vs 11 = _ from (hp 11 (by kernel_rfl)).2] at e1
          have e2 := hc.ev 29 10 rfl
          rw [hv] at e2
          have ec : wr.cell? ⟨g, 1, none⟩ = some (.slice x.sA x.st.length x.sc) := hS.cell 1
          have ef : wr.frozen? ⟨g, 1, none⟩ = false := hS.free 1
          have HP := Lib.hid (hS.put 1 (.slice A' (x.st.length + 1) c') (cs' := Mc.cells { x with st := x.st ++ [v], sA := A', sc := c' }) (by simp [Mc.cells]))
          unfold Oper.wp execOp
          simp only [e1, e2]
          go_simp
          exact hK undef _ (Keeps.set_ (fun h => h.2.1 rfl) _) trivial ⟨fun h => by have ht := (hp 10 (by kernel_rfl)).1; simp [upd, ht] at h, fun _ => ⟨A', c', v, by simpa [upd] using hv, fun h => by simp [upd] at h, fun _ => HP.out⟩⟩
      · intro fl vs w9 hfl hG hF
        obtain ⟨A', c', v, hv, _, hD⟩ := hG.2 (hfl 10 (by simp))
        have HD := Lib.hid (hD (hfl 12 (by simp)))
        clear hG hF hfl hv hD HM
        simp only [fill]
        go_simp
        go_wp2
        go_roundw
        case rel => exact ⟨j - 1, q + 2, { x with st := x.st ++ [v], sA := A', sc := c' }, by go_num, by omega, ⟨by simp only [List.length_append, List.length_singleton]; omega, hlx.2⟩, HD⟩
        case measure => simp [intOf]; omega
    · have hji : ¬ (0 : Int) < (j : Int) := by omega
      go_wp2_with fail
      refine (pick_any r _ 4 _ HM.out.rd (by omega) (by omega) (by omega)).mono ?_
      rintro e w3 ⟨v, rfl, ⟨va, vb⟩, hr3, hg3⟩
      obtain ⟨k1, rfl⟩ := Int.eq_ofNat_of_zero_le va
      have HM3 := Lib.hid (HM.out.pick hr3 hg3)
      clear HM hr3 hg3
      go_wp2
      go_loopw [7] (fun kv wr => ∃ (j q : Nat) (x : Mc), kv = .int .i64 (j : Int) ∧ (j ≤ 3 ∧ q + j ≤ P + 25) ∧ (x.st.length ≤ 8 ∧ x.ca.length + j ≤ 8) ∧ Hid (DMc W r q g4 g x.cells x wr)) (fun kv _ => (intOf kv).toNat)
      case atStart => exact ⟨k1, _, x, rfl, by omega, by omega, HM3⟩
      case round =>
        clear HM3 hj hlx hj0 hji
        obtain ⟨j, q, x, rfl, hj, hlx, HM⟩ := hrel
        by_cases hj0 : 0 < j
        · have hji : (0 : Int) < (j : Int) := by omega
          go_wp2
          refine wp_region_facts (fun i v wf => match i with
              | 0 => v = .pointer (some ⟨g, 2, none⟩)
              | 1 => v = .slice x.cA x.ca.length x.cc
              | 2 => v = .pointer (some ⟨r, 0, none⟩)
              | 3 => IsInt 0 (9 - 1) v
              | 4 => LitI (okM r g x.cA) 1 0 65535 v wf
              | 5 => True
              | 6 => v = .pointer (some ⟨g, 2, none⟩)
              | _ => True)
            (fun fl vs wq => (fl 5 = false → DMc W r (q + (b1 (fl 3) 1)) g4 g x.cells x wq) ∧ (fl 5 = true → ∃ (A' : Option Addr) (c' : Nat) (v : Int), vs 5 = .slice A' (x.ca.length + 1) c' ∧ (fl 7 = false → DMc W r (q + 1) g4 g x.cells { x with ca := x.ca ++ [v], cA := A', cc := c' } wq) ∧ (fl 7 = true → DMc W r (q + 1) g4 g (Mc.cells { x with ca := x.ca ++ [v], cA := A', cc := c' }) { x with ca := x.ca ++ [v], cA := A', cc := c' } wq))) (Keeps (okM r g x.cA)) (by kernel_rfl) (by kernel_rfl) ?_ ?_ ?_ ?_
          · intro i v u u2 hk h
            match i, h with
            | 0, h => exact h
            | 1, h => exact h
            | 2, h => exact h
            | 3, h => exact h
            | 4, h => exact h.keeps hk
            | 5, h => trivial
            | 6, h => exact h
            | _ + 7, h => trivial
          · intro fl vs hfl
            exact ⟨fun _ => (HM.out.drewN 1).more (by omega), fun h => by rw [hfl 5 (by simp)] at h; cases h⟩
          · refine ⟨?_, ?_, ?_, ?_, ?_, ?_, ?_, ?_, trivial⟩
            all_goals intro fl vs wr a1 hc hG hfi hcl hp K hK
            · have e1 : a1.eval (.tmp 5) = .pointer (some ⟨g, 0, none⟩) := hc.ev0 5 rfl
              unfold Oper.wp execOp
              simp only [e1]
              go_simp
              exact hK _ _ (Keeps.refl _ _) rfl (by simpa [upd] using hG)
            · have n5 : fl 5 = false := by
                cases h : fl 5 with
                | false => rfl
                | true =>
                  have h := hcl 5 1 (by kernel_rfl) h
                  rw [show fl 1 = false from hfi] at h
                  cases h
              have hS := hG.1 n5
              have e1 := hc.ev 37 0 rfl
              rw [show vs 0 = _ from (hp 0 (by kernel_rfl)).2] at e1
              have ec : wr.cell? ⟨g, 2, none⟩ = some (.slice x.cA x.ca.length x.cc) := hS.cell 2
              unfold Oper.wp execOp
              simp only [e1]
              go_simp
              exact hK _ _ (Keeps.refl _ _) rfl (by simpa [upd] using hG)
            · refine op_move rfl ?_
              rw [hc.ev0 _ rfl]
              exact hK _ _ (Keeps.refl _ _) rfl (by simpa [upd] using hG)
            · have n5 : fl 5 = false := by
                cases h : fl 5 with
                | false => rfl
                | true =>
                  have h := hcl 5 4 (by kernel_rfl) h
                  have h := hcl 4 3 (by kernel_rfl) h
                  rw [show fl 3 = false from hfi] at h
                  cases h
              have hS := hG.1 n5
              have hfi2 : fl 3 = false := hfi
              have hcnt3 := b1_le (fl 3) 1
              have e1 := hc.ev 39 2 rfl
              rw [show vs 2 = _ from (hp 2 (by kernel_rfl)).2] at e1
              refine op_pick rfl e1 rfl hS.rd (by omega) (by omega) (by omega) ?_
              intro v w9 va vb hr9 hg9
              exact hK _ _ (Keeps.grown hg9 (fun k e h => by injection e with e; exact h.1 e.symm)) ⟨v, rfl, va, vb⟩ ⟨fun _ => (hS.pick hr9 hg9).more (by simp [upd, b1_true, b1_false, hfi2] <;> omega), fun h => by simp [upd, n5] at h⟩
            · have n5 : fl 5 = false := by
                cases h : fl 5 with
                | false => rfl
                | true =>
                  have h := hcl 5 4 (by kernel_rfl) h
                  rw [show fl 4 = false from hfi] at h
                  cases h
              have hS := hG.1 n5
              obtain ⟨x0, hx0, xa0, xb0⟩ := (hp 3 (by kernel_rfl)).2
              have e0 := hc.ev 40 3 rfl
              rw [hx0] at e0
              unfold Oper.wp execOp
              simp only [e0, List.map_toArray, List.map_cons, List.map_nil]
              go_simp
              exact hK _ _ (Keeps.alloc _ _ _) ⟨_, [x0], rfl, hS.new_ _ hS.upC, rfl, by intro y hy; simp at hy; omega, Blk.new _ _ _⟩ ⟨fun _ => by simpa [upd] using hS.alloc _, fun h => by simp [upd, n5] at h⟩
            · have n5 : fl 5 = false := hfi
              have hS := hG.1 n5
              have n7 : fl 7 = false := by
                cases h : fl 7 with
                | false => rfl
                | true => have h := hcl 7 5 (by kernel_rfl) h; rw [n5] at h; cases h
              have p3 : fl 3 = true := hcl 4 3 (by kernel_rfl) (hp 4 (by kernel_rfl)).1
              obtain ⟨gl, xl, hu, hok, hln, hbd, hbl⟩ := (hp 4 (by kernel_rfl)).2
              obtain ⟨v, rfl⟩ : ∃ v, xl = [v] := by
                match xl, hln with
                | [v], _ => exact ⟨v, rfl⟩
              have e1 := hc.ev 38 1 rfl
              rw [show vs 1 = _ from (hp 1 (by kernel_rfl)).2] at e1
              have e2 := hc.ev 41 4 rfl
              rw [hu] at e2
              refine op_push (.tmp 38) (.tmp 41) _ rfl W.heap.size 3 i0 _ 1 8 Try.underlying22 hi0 hz0 hz1 hz2 rfl (by omega) (by omega) x.cA x.ca.length x.cc 1 1 (nums .i64 x.ca) [.int .i64 v] hS.own.oc e1 ⟨gl, 0, none⟩ e2 rfl (World.news_of_block (cs := #[.int .i64 v]) (t := 3) (fr := (0, 0)) hbl) (by simp [Value.oneCell']) (by omega) (by omega) hS.size.1 ?_
              intro A' c' w6 ho hg hat hkeep
              refine hK _ _ (Keeps.grown hg (fun k hk2 hok2 => hok2.2.2 hk2.symm)) trivial ⟨fun h => by simp [upd] at h, fun _ => ⟨A', c', v, by simp [upd], fun _ => ?_, fun h => by simp [upd, n7] at h⟩⟩
              have hD := hS.pushCa ho hg hat
              rw [p3] at hD
              exact hD
            · have e1 : a1.eval (.tmp 5) = .pointer (some ⟨g, 0, none⟩) := hc.ev0 5 rfl
              unfold Oper.wp execOp
              simp only [e1]
              go_simp
              exact hK _ _ (Keeps.refl _ _) rfl (by simpa [upd] using hG)
            · have n7 : fl 7 = false := hfi
              obtain ⟨A', c', v, hv, hB, _⟩ := hG.2 (hp 5 (by kernel_rfl)).1
              have hS := hB n7
              have e1 := hc.ev 43 6 rfl
              rw [show vs 6 = _ from (hp 6 (by kernel_rfl)).2] at e1
              have e2 := hc.ev 42 5 rfl
              rw [hv] at e2
              have ec : wr.cell? ⟨g, 2, none⟩ = some (.slice x.cA x.ca.length x.cc) := hS.cell 2
              have ef : wr.frozen? ⟨g, 2, none⟩ = false := hS.free 2
              have HP := Lib.hid (hS.put 2 (.slice A' (x.ca.length + 1) c') (cs' := Mc.cells { x with ca := x.ca ++ [v], cA := A', cc := c' }) (by simp [Mc.cells]))
              unfold Oper.wp execOp
              simp only [e1, e2]
              go_simp
              exact hK undef _ (Keeps.set_ (fun h => h.2.1 rfl) _) trivial ⟨fun h => by have ht := (hp 5 (by kernel_rfl)).1; simp [upd, ht] at h, fun _ => ⟨A', c', v, by simpa [upd] using hv, fun h => by simp [upd] at h, fun _ => HP.out⟩⟩
          · intro fl vs w9 hfl hG hF
            obtain ⟨A', c', v, hv, _, hD⟩ := hG.2 (hfl 5 (by simp))
            have HD := Lib.hid (hD (hfl 7 (by simp)))
            clear hG hF hfl hv hD HM
            simp only [fill]
            go_simp
            go_wp2
            go_roundw
            case rel => exact ⟨j - 1, q + 1, { x with ca := x.ca ++ [v], cA := A', cc := c' }, by go_num, by omega, ⟨hlx.1, by simp only [List.length_append, List.length_singleton]; omega⟩, HD⟩
            case measure => simp [intOf]; omega
        · have hji : ¬ (0 : Int) < (j : Int) := by omega
          go_wp2_with fail
          refine (odd_any r _ n _ HM.out.rd (by omega) (by omega) (by omega)).mono ?_
          rintro e w5 ⟨b, rfl, hr5, hg5⟩
          have HM5 := Lib.hid (HM.out.pick hr5 hg5)
          clear HM hr5 hg5
          cases b
          · go_upto_region 19 with fail
            have HM := HM5
            have hlx : x.st.length ≤ 9 ∧ x.ca.length ≤ 9 := by omega
            obtain ⟨w9, hw9⟩ : ∃ w9, w9 = w5 := ⟨_, rfl⟩
            rw [← hw9] at HM ⊢
            clear hw9 HM5
            have v0 : w9.cell? ⟨g, 0, none⟩ = some (.int .i64 x.pc) := HM.out.cell 0
            have v1 : w9.cell? ⟨g, 1, none⟩ = some (.slice x.sA x.st.length x.sc) := HM.out.cell 1
            have v2 : w9.cell? ⟨g, 2, none⟩ = some (.slice x.cA x.ca.length x.cc) := HM.out.cell 2
            have z0 : w9.cell? ⟨g4, 0, none⟩ = some (.int .i64 0) := HM.out.z.cell 0
            have z1 : w9.cell? ⟨g4, 1, none⟩ = some (.slice none 0 0) := HM.out.z.cell 1
            have z2 : w9.cell? ⟨g4, 2, none⟩ = some (.slice none 0 0) := HM.out.z.cell 2
            have f0 : w9.frozen? ⟨g4, 0, none⟩ = false := HM.out.z.frozen 0
            have f1 : w9.frozen? ⟨g4, 1, none⟩ = false := HM.out.z.frozen 1
            have f2 : w9.frozen? ⟨g4, 2, none⟩ = false := HM.out.z.frozen 2
            have HFN := Lib.hid HM.out.fin
            clear HM
            go_wp2
            generalize World.setCell _ ⟨g4, 2, none⟩ _ = WF at HFN ⊢
            have y0 : WF.cell? ⟨g4, 0, none⟩ = some (.int .i64 x.pc) := HFN.out.1.cell 0
            have y1 : WF.cell? ⟨g4, 1, none⟩ = some (.slice x.sA x.st.length x.sc) := HFN.out.1.cell 1
            have y2 : WF.cell? ⟨g4, 2, none⟩ = some (.slice x.cA x.ca.length x.cc) := HFN.out.1.cell 2
            refine bodyPost_ret (v := x.val) (by simp [results, Try.results32, go_sem, y0, y1, y2, Mc.val]) rfl ?_
            exact ⟨x, rfl, HFN.out.2.1, hlx, HFN.out.2.2.1.more (by omega), HFN.out.2.2.2⟩
          · go_wp2_with fail
            refine (pick_any r _ 4 _ HM5.out.rd (by omega) (by omega) (by omega)).mono ?_
            rintro e w6 ⟨v, rfl, ⟨va, vb⟩, hr6, hg6⟩
            have HM6 := Lib.hid (HM5.out.pick hr6 hg6)
            clear HM5 hr6 hg6
            have k0 : w6.cell? ⟨g, 0, none⟩ = some (.int .i64 x.pc) := HM6.out.cell 0
            have k1 : w6.cell? ⟨g, 1, none⟩ = some (.slice x.sA x.st.length x.sc) := HM6.out.cell 1
            have k2 : w6.cell? ⟨g, 2, none⟩ = some (.slice x.cA x.ca.length x.cc) := HM6.out.cell 2
            have t0 : w6.frozen? ⟨g, 0, none⟩ = false := HM6.out.free 0
            have t1 : w6.frozen? ⟨g, 1, none⟩ = false := HM6.out.free 1
            have t2 : w6.frozen? ⟨g, 2, none⟩ = false := HM6.out.free 2
            have hgz := HM6.out.size.2.2
            by_cases hv0 : v = 0
            · subst hv0
              go_upto_region 19 with fail
              have HM := Lib.hid ((HM6.out.put 0 (.int .i64 (-1)) (cs' := Mc.cells { x with pc := -1 }) (by simp [Mc.cells])).pc (-1))
              clear HM6 k0 k1 k2 t0 t1 t2
              generalize World.setCell w6 _ _ = w9 at HM ⊢
              obtain ⟨x, hx⟩ : ∃ y : Mc, y = { x with pc := -1 } := ⟨_, rfl⟩
              rw [← hx] at HM
              have hlx : x.st.length ≤ 9 ∧ x.ca.length ≤ 9 := by rw [hx]; simp only; omega
              clear hx
              have v0 : w9.cell? ⟨g, 0, none⟩ = some (.int .i64 x.pc) := HM.out.cell 0
              have v1 : w9.cell? ⟨g, 1, none⟩ = some (.slice x.sA x.st.length x.sc) := HM.out.cell 1
              have v2 : w9.cell? ⟨g, 2, none⟩ = some (.slice x.cA x.ca.length x.cc) := HM.out.cell 2
              have z0 : w9.cell? ⟨g4, 0, none⟩ = some (.int .i64 0) := HM.out.z.cell 0
              have z1 : w9.cell? ⟨g4, 1, none⟩ = some (.slice none 0 0) := HM.out.z.cell 1
              have z2 : w9.cell? ⟨g4, 2, none⟩ = some (.slice none 0 0) := HM.out.z.cell 2
              have f0 : w9.frozen? ⟨g4, 0, none⟩ = false := HM.out.z.frozen 0
              have f1 : w9.frozen? ⟨g4, 1, none⟩ = false := HM.out.z.frozen 1
              have f2 : w9.frozen? ⟨g4, 2, none⟩ = false := HM.out.z.frozen 2
              have HFN := Lib.hid HM.out.fin
              clear HM
              go_wp2
              generalize World.setCell _ ⟨g4, 2, none⟩ _ = WF at HFN ⊢
              have y0 : WF.cell? ⟨g4, 0, none⟩ = some (.int .i64 x.pc) := HFN.out.1.cell 0
              have y1 : WF.cell? ⟨g4, 1, none⟩ = some (.slice x.sA x.st.length x.sc) := HFN.out.1.cell 1
              have y2 : WF.cell? ⟨g4, 2, none⟩ = some (.slice x.cA x.ca.length x.cc) := HFN.out.1.cell 2
              refine bodyPost_ret (v := x.val) (by simp [results, Try.results32, go_sem, y0, y1, y2, Mc.val]) rfl ?_
              exact ⟨x, rfl, HFN.out.2.1, hlx, HFN.out.2.2.1.more (by omega), HFN.out.2.2.2⟩
            · by_cases hv1 : v = 1
              · subst hv1
                have hmk : ∀ w : World, (Instr.makeSlice 22 (.int .i64 9) (.int .i64 9)).run Try.prog w = .ok (.slice (some ⟨w.heap.size, 0, none⟩) 9 9) (w.alloc (.cells (nums .i64 (List.replicate 9 0)).toArray 3)) := fun _ => by kernel_rfl
                go_upto_region 19 with fail
                have HM := Lib.hid ((HM6.out.put 1 (.slice (some ⟨w6.heap.size, 0, none⟩) 9 9) (cs' := Mc.cells { x with st := [0, 0, 0, 0, 0, 0, 0, 0, 0], sA := some ⟨w6.heap.size, 0, none⟩, sc := 9 }) (by simp [Mc.cells])).newSt (H := w6.heap.size) (by simp) [0, 0, 0, 0, 0, 0, 0, 0, 0] rfl (n := 9) (by simp) (by simp))
                clear HM6 k0 k1 k2 t0 t1 t2 hmk
                generalize World.alloc _ _ = w9 at HM ⊢
                obtain ⟨x, hx⟩ : ∃ y : Mc, y = { x with st := [0, 0, 0, 0, 0, 0, 0, 0, 0], sA := some ⟨w6.heap.size, 0, none⟩, sc := 9 } := ⟨_, rfl⟩
                rw [← hx] at HM
                have hlx : x.st.length ≤ 9 ∧ x.ca.length ≤ 9 := by rw [hx]; simp; omega
                clear hx
                have v0 : w9.cell? ⟨g, 0, none⟩ = some (.int .i64 x.pc) := HM.out.cell 0
                have v1 : w9.cell? ⟨g, 1, none⟩ = some (.slice x.sA x.st.length x.sc) := HM.out.cell 1
                have v2 : w9.cell? ⟨g, 2, none⟩ = some (.slice x.cA x.ca.length x.cc) := HM.out.cell 2
                have z0 : w9.cell? ⟨g4, 0, none⟩ = some (.int .i64 0) := HM.out.z.cell 0
                have z1 : w9.cell? ⟨g4, 1, none⟩ = some (.slice none 0 0) := HM.out.z.cell 1
                have z2 : w9.cell? ⟨g4, 2, none⟩ = some (.slice none 0 0) := HM.out.z.cell 2
                have f0 : w9.frozen? ⟨g4, 0, none⟩ = false := HM.out.z.frozen 0
                have f1 : w9.frozen? ⟨g4, 1, none⟩ = false := HM.out.z.frozen 1
                have f2 : w9.frozen? ⟨g4, 2, none⟩ = false := HM.out.z.frozen 2
                have HFN := Lib.hid HM.out.fin
                clear HM
                go_wp2
                generalize World.setCell _ ⟨g4, 2, none⟩ _ = WF at HFN ⊢
                have y0 : WF.cell? ⟨g4, 0, none⟩ = some (.int .i64 x.pc) := HFN.out.1.cell 0
                have y1 : WF.cell? ⟨g4, 1, none⟩ = some (.slice x.sA x.st.length x.sc) := HFN.out.1.cell 1
                have y2 : WF.cell? ⟨g4, 2, none⟩ = some (.slice x.cA x.ca.length x.cc) := HFN.out.1.cell 2
                refine bodyPost_ret (v := x.val) (by simp [results, Try.results32, go_sem, y0, y1, y2, Mc.val]) rfl ?_
                exact ⟨x, rfl, HFN.out.2.1, hlx, HFN.out.2.2.1.more (by omega), HFN.out.2.2.2⟩
              · by_cases hv2 : v = 2
                · subst hv2
                  clear k0 k1 k2 t0 t1 t2
                  go_wp2_with fail
                  refine (pick_any r _ 2 _ (HM6.out.alloc (.cells #[.int .i64 (-1), .int .i64 65536] 3)).rd (by omega) (by omega) (by omega)).mono ?_
                  rintro e w7 ⟨u, rfl, ⟨ua, ub⟩, hr7, hg7⟩
                  have HM7 := Lib.hid ((HM6.out.alloc (.cells #[.int .i64 (-1), .int .i64 65536] 3)).pick hr7 hg7)
                  have hK : Blk w7 w6.heap.size 3 (nums .i64 [-1, 65536]).toArray := (Blk.new w6 3 (nums .i64 [-1, 65536]).toArray).grown hg7 (by have := HM6.out.size; simp; omega)
                  have hu2 : u < 2 := by omega
                  obtain ⟨b, hb, hcb⟩ := lit_at hK ua (by simp; omega)
                  clear HM6 hr7 hg7 hK hb
                  have k0 : w7.cell? ⟨g, 0, none⟩ = some (.int .i64 x.pc) := HM7.out.cell 0
                  have k1 : w7.cell? ⟨g, 1, none⟩ = some (.slice x.sA x.st.length x.sc) := HM7.out.cell 1
                  have t1 : w7.frozen? ⟨g, 1, none⟩ = false := HM7.out.free 1
                  have hgz := HM7.out.size.2.2
                  go_upto_region 19 with fail
                  have HM := Lib.hid ((HM7.out.put 1 (.slice (some ⟨w7.heap.size, 0, none⟩) 1 1) (cs' := Mc.cells { x with st := [b], sA := some ⟨w7.heap.size, 0, none⟩, sc := 1 }) (by simp [Mc.cells])).newSt (H := w7.heap.size) (by simp) [b] (us := #[.int .i64 b]) rfl (n := 1) (by simp) (by simp))
                  clear HM7 k0 k1 t1 hcb
                  generalize World.alloc _ _ = w9 at HM ⊢
                  obtain ⟨x, hx⟩ : ∃ y : Mc, y = { x with st := [b], sA := some ⟨w7.heap.size, 0, none⟩, sc := 1 } := ⟨_, rfl⟩
                  rw [← hx] at HM
                  have hlx : x.st.length ≤ 9 ∧ x.ca.length ≤ 9 := by rw [hx]; simp only [List.length_singleton]; omega
                  clear hx
                  have v0 : w9.cell? ⟨g, 0, none⟩ = some (.int .i64 x.pc) := HM.out.cell 0
                  have v1 : w9.cell? ⟨g, 1, none⟩ = some (.slice x.sA x.st.length x.sc) := HM.out.cell 1
                  have v2 : w9.cell? ⟨g, 2, none⟩ = some (.slice x.cA x.ca.length x.cc) := HM.out.cell 2
                  have z0 : w9.cell? ⟨g4, 0, none⟩ = some (.int .i64 0) := HM.out.z.cell 0
                  have z1 : w9.cell? ⟨g4, 1, none⟩ = some (.slice none 0 0) := HM.out.z.cell 1
                  have z2 : w9.cell? ⟨g4, 2, none⟩ = some (.slice none 0 0) := HM.out.z.cell 2
                  have f0 : w9.frozen? ⟨g4, 0, none⟩ = false := HM.out.z.frozen 0
                  have f1 : w9.frozen? ⟨g4, 1, none⟩ = false := HM.out.z.frozen 1
                  have f2 : w9.frozen? ⟨g4, 2, none⟩ = false := HM.out.z.frozen 2
                  have HFN := Lib.hid HM.out.fin
                  clear HM
                  go_wp2
                  generalize World.setCell _ ⟨g4, 2, none⟩ _ = WF at HFN ⊢
                  have y0 : WF.cell? ⟨g4, 0, none⟩ = some (.int .i64 x.pc) := HFN.out.1.cell 0
                  have y1 : WF.cell? ⟨g4, 1, none⟩ = some (.slice x.sA x.st.length x.sc) := HFN.out.1.cell 1
                  have y2 : WF.cell? ⟨g4, 2, none⟩ = some (.slice x.cA x.ca.length x.cc) := HFN.out.1.cell 2
                  refine bodyPost_ret (v := x.val) (by simp [results, Try.results32, go_sem, y0, y1, y2, Mc.val]) rfl ?_
                  exact ⟨x, rfl, HFN.out.2.1, hlx, HFN.out.2.2.1.more (by omega), HFN.out.2.2.2⟩
                · go_upto_region 19 with fail
                  have HM := Lib.hid ((HM6.out.put 2 (.slice (some ⟨w6.heap.size, 0, none⟩) 1 1) (cs' := Mc.cells { x with ca := [-1], cA := some ⟨w6.heap.size, 0, none⟩, cc := 1 }) (by simp [Mc.cells])).newCa (H := w6.heap.size) (by simp) [-1] (us := #[.int .i64 (-1)]) rfl (n := 1) (by simp) (by simp))
                  clear HM6 k0 k1 k2 t0 t1 t2
                  generalize World.alloc _ _ = w9 at HM ⊢
                  obtain ⟨x, hx⟩ : ∃ y : Mc, y = { x with ca := [-1], cA := some ⟨w6.heap.size, 0, none⟩, cc := 1 } := ⟨_, rfl⟩
                  rw [← hx] at HM
                  have hlx : x.st.length ≤ 9 ∧ x.ca.length ≤ 9 := by rw [hx]; simp only [List.length_singleton]; omega
                  clear hx
                  have v0 : w9.cell? ⟨g, 0, none⟩ = some (.int .i64 x.pc) := HM.out.cell 0
                  have v1 : w9.cell? ⟨g, 1, none⟩ = some (.slice x.sA x.st.length x.sc) := HM.out.cell 1
                  have v2 : w9.cell? ⟨g, 2, none⟩ = some (.slice x.cA x.ca.length x.cc) := HM.out.cell 2
                  have z0 : w9.cell? ⟨g4, 0, none⟩ = some (.int .i64 0) := HM.out.z.cell 0
                  have z1 : w9.cell? ⟨g4, 1, none⟩ = some (.slice none 0 0) := HM.out.z.cell 1
                  have z2 : w9.cell? ⟨g4, 2, none⟩ = some (.slice none 0 0) := HM.out.z.cell 2
                  have f0 : w9.frozen? ⟨g4, 0, none⟩ = false := HM.out.z.frozen 0
                  have f1 : w9.frozen? ⟨g4, 1, none⟩ = false := HM.out.z.frozen 1
                  have f2 : w9.frozen? ⟨g4, 2, none⟩ = false := HM.out.z.frozen 2
                  have HFN := Lib.hid HM.out.fin
                  clear HM
                  go_wp2
                  generalize World.setCell _ ⟨g4, 2, none⟩ _ = WF at HFN ⊢
                  have y0 : WF.cell? ⟨g4, 0, none⟩ = some (.int .i64 x.pc) := HFN.out.1.cell 0
                  have y1 : WF.cell? ⟨g4, 1, none⟩ = some (.slice x.sA x.st.length x.sc) := HFN.out.1.cell 1
                  have y2 : WF.cell? ⟨g4, 2, none⟩ = some (.slice x.cA x.ca.length x.cc) := HFN.out.1.cell 2
                  refine bodyPost_ret (v := x.val) (by simp [results, Try.results32, go_sem, y0, y1, y2, Mc.val]) rfl ?_
                  exact ⟨x, rfl, HFN.out.2.1, hlx, HFN.out.2.2.1.more (by omega), HFN.out.2.2.2⟩
end Go.Proofs.Ytbljkdhokbhcdaa
