/- Libraries in new memory; steps of their drawing. No condition. -/
import Derived.Test.YtbhndkdijbappaaRows
import Derived.Test.YtbhndkdijbappaaBase
import Derived.Test.YtbhndkdijbappaaBase2
import Derived.Test.YtbhndkdijbappaaBase3
import Derived.Test.YtbhndkdijbappaaOnly
import Derived.Test.YtbhndkdijbappaaIn
import Derived.Test.YtbhndkdijbappaaName
import Derived.Test.YtbhndkdijbappaaStrS
import Derived.Test.YtbhndkdijbappaaFindS
import Derived.Test.YtbhndkdijbappaaIdxI
import Derived.Test.YtbhndkdijbappaaIdxS
import Derived.Test.YtbhndkdijbappaaLb
import Derived.Test.YtbhndkdijbappaaFindLb
import Derived.Test.YtbhndkdijbappaaLibs
import Derived.Test.YtbhndkdijbappaaLoadS
import Derived.Test.YtbhndkdijbappaaPick
import Derived.Test.YtbhndkdijbappaaPick2
import Derived.Test.YtbhndkdijbappaaReg
import Derived.Test.YtbhndkdijbappaaRegS
import Derived.WalkKit
import Derived.WalkSpells
import Derived.WalkLawsBesides
import Derived.Handy
import Derived.BigQuiet
import Derived.Deep.RegionHeld3
import Derived.Deep.DrawnRows
import Derived.Deep.QuietTactic
namespace Go.Proofs.Ytbhndkdijbappaa
open Go Go.RowKit

theorem str_info : (Try.prog.info? 9).map (fun i => (i.zero, i.size, i.bytes)) = some (some (.string ByteArray.empty), 1, 16) := by kernel_rfl
theorem lib_info : (Try.prog.info? 29).map (fun i => (i.zero, i.size, i.bytes)) = some (some (.agg #[Value.string ByteArray.empty, Value.slice none 0 0, Value.slice none 0 0]), 3, 64) := by kernel_rfl
theorem own_blk {w : World} {base size n c : Nat} {t : TypeId} {A : Option Addr} {xs : List Value} (q : w.ownsRow base t size (.slice A n c) n xs) : ∀ g, (Value.slice A n c).ownBlock = some g → base ≤ g ∧ g < w.heap.size := fun g hg => by
  cases A with
  | none => cases hg
  | some a =>
    have h1 : a.block = g := by simpa [Value.ownBlock] using hg
    have := own_up q a rfl
    omega
theorem own_push_blk {w w' : World} {g base size n c : Nat} {t e : TypeId} {cs : Array Value} {A : Option Addr} {xs : List Value} (h : Blk w g t cs) (hg : w.grownBy w' (A.map (·.block))) (ho : w.ownsRow base e size (.slice A n c) n xs) (hne : e ≠ t) : Blk w' g t cs := by
  refine h.grown hg ?_
  have h2 := own_blk_ne ho h hne
  cases A with
  | none => simp
  | some a => simpa [Value.ownBlock, eq_comm] using h2
/-- Libraries in memory of the call's own. -/
def LbRow (w : World) (lo : Nat) (A : Option Addr) (c : Nat) (ls : List Lb) : Prop := w.ownsRow lo 29 3 (.slice A ls.length c) ls.length (ls.flatMap Lb.cells) ∧ ∀ l ∈ ls, l.Own w lo
theorem LbRow.keeps {ok : Nat → Prop} {w w' : World} {lo c : Nat} {A : Option Addr} {ls : List Lb} (h : LbRow w lo A c ls) (k : Keeps ok w w') (ho : ∀ b, lo ≤ b → b < w.heap.size → ok b) : LbRow w' lo A c ls :=
  ⟨k.own h.1 (fun g hg => ho g (own_blk h.1 g hg).1 (own_blk h.1 g hg).2), fun l hl => ⟨k.own (h.2 l hl).1 (fun g hg => ho g (own_blk (h.2 l hl).1 g hg).1 (own_blk (h.2 l hl).1 g hg).2), k.own (h.2 l hl).2 (fun g hg => ho g (own_blk (h.2 l hl).2 g hg).1 (own_blk (h.2 l hl).2 g hg).2)⟩⟩
theorem Lb.Own.keeps {ok : Nat → Prop} {w w' : World} {lo : Nat} {l : Lb} (h : l.Own w lo) (k : Keeps ok w w') (ho : ∀ b, lo ≤ b → b < w.heap.size → ok b) : l.Own w' lo :=
  ⟨k.own h.1 (fun g hg => ho g (own_blk h.1 g hg).1 (own_blk h.1 g hg).2), k.own h.2 (fun g hg => ho g (own_blk h.2 g hg).1 (own_blk h.2 g hg).2)⟩
theorem LbRow.base {w : World} {lo lo' c : Nat} {A : Option Addr} {ls : List Lb} (h : LbRow w lo A c ls) (hb : lo' ≤ lo) : LbRow w lo' A c ls := ⟨own_base h.1 hb, fun l hl => (h.2 l hl).base hb⟩
theorem LbRow.at_ {w : World} {lo c : Nat} {A : Option Addr} {ls : List Lb} (h : LbRow w lo A c ls) : LbAt w w.heap.size A ls := ⟨Reads.of_own h.1, fun l hl => (h.2 l hl).in_⟩
theorem LbRow.below {w w' : World} {lo c : Nat} {A : Option Addr} {ls : List Lb} (h : LbRow w lo A c ls) (hb : Below w.heap.size w w') : LbRow w' lo A c ls := h.keeps (ok := fun _ => True) (Keeps.below hb) (fun _ _ _ => trivial)
theorem LbRow.cap {w : World} {lo c : Nat} {A : Option Addr} {ls : List Lb} (h : LbRow w lo A c ls) : ls.length ≤ c := by
  rcases h.1.2 with ⟨hv, h0⟩ | ⟨g', cap, cur, hv, _, _, hnc, hcm, _⟩
  · omega
  · injection hv with h1 h2 h3
    omega
theorem LbRow.push {w w' : World} {lo c c' : Nat} {A A' : Option Addr} {ls : List Lb} {l : Lb} (h : LbRow w lo A c ls) (hl : l.Own w lo) (ho : w'.ownsRow lo 29 3 (.slice A' (ls.length + 1) c') (ls.length + 1) (ls.flatMap Lb.cells ++ l.cells)) (hg : w.grownBy w' (A.map (·.block))) : LbRow w' lo A' c' (ls ++ [l]) := by
  have key : ∀ x : Lb, x.Own w lo → x.Own w' lo := fun x hx => ⟨own_other hx.1 hg (own_types_ne hx.1 h.1 (by decide)), own_other hx.2 hg (own_types_ne hx.2 h.1 (by decide))⟩
  refine ⟨by simpa using ho, fun x hx => ?_⟩
  rcases List.mem_append.1 hx with hx | hx
  · exact key x (h.2 x hx)
  · rw [List.mem_singleton.1 hx]; exact key l hl
/-- While one library is drawn: its two rows, the reader, old memory. -/
structure LbMem (w wr : World) (r H : Nat) (A1 : Option Addr) (c1 : Nat) (ns : List ByteArray) (A2 : Option Addr) (c2 : Nat) (gs : List ByteArray) (q : Nat) (wq : World) : Prop where
  keep : Keeps (fun b => b < H ∧ b ≠ r) wr wq
  o1 : wq.ownsRow H 9 1 (.slice A1 ns.length c1) ns.length (texts ns)
  o2 : wq.ownsRow H 9 1 (.slice A2 gs.length c2) gs.length (texts gs)
  ap : Apart A1 A2
  rd : Rdr wq r q
  gr : w.grownBy wq (some r)
  s1 : ∀ x ∈ ns, x.size ≤ 8
  s2 : ∀ x ∈ gs, x.size ≤ 8
  hr : r < H
  hw : w.heap.size ≤ H
section
variable {w wr wq w' : World} {r H : Nat} {A1 : Option Addr} {c1 : Nat} {ns : List ByteArray} {A2 : Option Addr} {c2 : Nat} {gs : List ByteArray} {q : Nat}
theorem LbMem.alloc (h : LbMem w wr r H A1 c1 ns A2 c2 gs q wq) (o : Obj) : LbMem w wr r H A1 c1 ns A2 c2 gs q (wq.alloc o) :=
  ⟨h.keep.trans (Keeps.alloc _ _ _), h.o1.alloc _, h.o2.alloc _, h.ap, h.rd.alloc _, gr_alloc h.gr _, h.s1, h.s2, h.hr, h.hw⟩
theorem LbMem.drew (h : LbMem w wr r H A1 c1 ns A2 c2 gs q wq) : LbMem w wr r H A1 c1 ns A2 c2 gs q wq.drew :=
  ⟨⟨h.keep.size, h.keep.block⟩, h.o1, h.o2, h.ap, h.rd, ⟨h.gr.os, h.gr.tape, h.gr.output, h.gr.size, h.gr.block⟩, h.s1, h.s2, h.hr, h.hw⟩
theorem LbMem.pick {q' : Nat} (h : LbMem w wr r H A1 c1 ns A2 c2 gs q wq) (hr : Rdr w' r q') (hg : wq.grownBy w' (some r)) : LbMem w wr r H A1 c1 ns A2 c2 gs q' w' :=
  ⟨h.keep.trans (Keeps.grown hg (fun k e => by injection e with e; subst e; exact fun hh => hh.2 rfl)), own_pick h.o1 hg h.hr, own_pick h.o2 hg h.hr, h.ap, hr, gr_trans h.gr hg, h.s1, h.s2, h.hr, h.hw⟩
theorem keep_up {A : Option Addr} {n c size : Nat} {t : TypeId} {xs : List Value} (o1 : wq.ownsRow H t size (.slice A n c) n xs) (hg : wq.grownBy w' (A.map (·.block))) : Keeps (fun b => b < H ∧ b ≠ r) wq w' := Keeps.grown hg (fun k e hh => by
  cases A with
  | none => cases e
  | some a =>
    have h1 := own_up o1 a rfl
    have h2 : a.block = k := by simpa using e
    omega)
theorem LbMem.push1 {A' : Option Addr} {c' : Nat} {x : ByteArray} (h : LbMem w wr r H A1 c1 ns A2 c2 gs q wq) (hx : x.size ≤ 8) (ho : w'.ownsRow H 9 1 (.slice A' (ns.length + 1) c') (ns.length + 1) (texts ns ++ [.string x])) (hg : wq.grownBy w' (A1.map (·.block)))
    (ha : ∀ b, A' = some b → (∃ b0, A1 = some b0 ∧ b0.block = b.block) ∨ wq.heap.size ≤ b.block) : LbMem w wr r H A' c' (ns ++ [x]) A2 c2 gs q w' := by
  have e : texts (ns ++ [x]) = texts ns ++ [.string x] := by simp [texts]
  refine ⟨h.keep.trans (keep_up h.o1 hg), by rw [e]; simpa using ho, own_apart h.o2 hg h.ap.symm, apart_push h.ap h.o2 (Nat.le_refl _) ha, h.rd.row hg h.o1 h.hr, gr_row h.gr hg h.o1 h.hw, fun y hy => ?_, h.s2, h.hr, h.hw⟩
  rcases List.mem_append.1 hy with hy | hy
  · exact h.s1 y hy
  · rw [List.mem_singleton.1 hy]; exact hx
theorem LbMem.push2 {A' : Option Addr} {c' : Nat} {x : ByteArray} (h : LbMem w wr r H A1 c1 ns A2 c2 gs q wq) (hx : x.size ≤ 8) (ho : w'.ownsRow H 9 1 (.slice A' (gs.length + 1) c') (gs.length + 1) (texts gs ++ [.string x])) (hg : wq.grownBy w' (A2.map (·.block)))
    (ha : ∀ b, A' = some b → (∃ b0, A2 = some b0 ∧ b0.block = b.block) ∨ wq.heap.size ≤ b.block) : LbMem w wr r H A1 c1 ns A' c' (gs ++ [x]) q w' := by
  have e : texts (gs ++ [x]) = texts gs ++ [.string x] := by simp [texts]
  refine ⟨h.keep.trans (keep_up h.o2 hg), own_apart h.o1 hg h.ap, by rw [e]; simpa using ho, (apart_push h.ap.symm h.o1 (Nat.le_refl _) ha).symm, h.rd.row hg h.o2 h.hr, gr_row h.gr hg h.o2 h.hw, h.s1, fun y hy => ?_, h.hr, h.hw⟩
  rcases List.mem_append.1 hy with hy | hy
  · exact h.s2 y hy
  · rw [List.mem_singleton.1 hy]; exact hx
theorem LbMem.set_ {g i : Nat} {t : TypeId} {cs : Array Value} (h : LbMem w wr r H A1 c1 ns A2 c2 gs q wq) (hb : Blk wq g t cs) (ht : 9 ≠ t) (hg : H ≤ g) (u : Value) : LbMem w wr r H A1 c1 ns A2 c2 gs q (wq.setCell ⟨g, i, none⟩ u) := by
  have key : ∀ {n c : Nat} {A : Option Addr} {xs : List Value}, wq.ownsRow H 9 1 (.slice A n c) n xs → (wq.setCell ⟨g, i, none⟩ u).ownsRow H 9 1 (.slice A n c) n xs := fun q => Keeps.own (ok := fun b => b ≠ g) (Keeps.set_ (by simp) u) q (fun b hbb e => own_blk_ne q hb ht (by rw [hbb, e]))
  exact ⟨h.keep.trans (Keeps.set_ (fun hh => by have := hh.1; simp at this; omega) u), key h.o1, key h.o2, h.ap, h.rd.setCell (by have := h.hr; simp; omega) u, gr_setCell h.gr (by have := h.hw; simp; omega) u, h.s1, h.s2, h.hr, h.hw⟩
end
theorem LbRow.alloc {w : World} {lo c : Nat} {A : Option Addr} {ls : List Lb} (h : LbRow w lo A c ls) (o : Obj) : LbRow (w.alloc o) lo A c ls := h.keeps (ok := fun _ => True) (Keeps.alloc _ _ _) (fun _ _ _ => trivial)
theorem lb_start {w wr w2 : World} {r q : Nat} (X : Array Value) (hr : r < w.heap.size) (hw : w.heap.size ≤ wr.heap.size) (hq : Rdr wr r q) (hgr : w.grownBy wr (some r)) (hr2 : Rdr w2 r (q + 1)) (hg2 : (((wr.alloc (.cells #[] 9)).alloc (.cells #[] 9)).alloc (.cells X 29)).grownBy w2 (some r)) :
    LbMem w wr r wr.heap.size (some ⟨wr.heap.size, 0, none⟩) 0 [] (some ⟨wr.heap.size + 1, 0, none⟩) 0 [] (q + 1) w2 ∧ Blk w2 (wr.heap.size + 2) 29 X := by
  have o1 := World.ownsRow_lit (base := wr.heap.size) (e := 9) (size := 1) wr #[] 0 (Nat.le_refl _) (by unfold maxLen; omega) rfl
  have o2 := World.ownsRow_lit (base := wr.heap.size) (e := 9) (size := 1) (wr.alloc (.cells #[] 9)) #[] 0 (by simp) (by unfold maxLen; omega) rfl
  have hb := Blk.new ((wr.alloc (.cells #[] 9)).alloc (.cells #[] 9)) 29 X
  rw [World.size_alloc] at o2
  rw [World.size_alloc, World.size_alloc] at hb
  have h0 : LbMem w wr r wr.heap.size (some ⟨wr.heap.size, 0, none⟩) 0 [] (some ⟨wr.heap.size + 1, 0, none⟩) 0 [] q (((wr.alloc (.cells #[] 9)).alloc (.cells #[] 9)).alloc (.cells X 29)) :=
    ⟨((Keeps.alloc _ _ _).trans (Keeps.alloc _ _ _)).trans (Keeps.alloc _ _ _), (o1.alloc _).alloc _, o2.alloc _, fun a b h1 h2 => by injection h1 with h1; injection h2 with h2; subst h1 h2; simp, ((hq.alloc _).alloc _).alloc _, gr_alloc (gr_alloc (gr_alloc hgr _) _) _, by simp, by simp, by omega, hw⟩
  exact ⟨h0.pick hr2 hg2, hb.grown hg2 (by simp; omega)⟩
/-- Libraries were drawn. -/
def DrewLibs (w : World) (r P : Nat) (e : Ending) (w' : World) : Prop := ∃ (A : Option Addr) (c : Nat) (ls : List Lb), e = .returned (.slice A ls.length c) ∧ LbRow w' w.heap.size A c ls ∧ ls.length ≤ 6 ∧ (∀ l ∈ ls, l.small) ∧ Rdr w' r (P + 100) ∧ w.grownBy w' (some r)
end Go.Proofs.Ytbhndkdijbappaa
