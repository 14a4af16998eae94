/- Libraries: their words; contracts of the laws' copying functions on them. No condition but the sizes. -/
import Derived.Test.YtbhndkdijbappaaRows
import Derived.Test.YtbhndkdijbappaaBase
import Derived.Test.YtbhndkdijbappaaBase2
import Derived.Test.YtbhndkdijbappaaOnly
import Derived.Test.YtbhndkdijbappaaStrS
import Derived.WalkKit
import Derived.WalkSpells
import Derived.WalkLawsBesides
import Derived.Handy
import Derived.BigQuiet
import Derived.Deep.RegionHeld3
import Derived.Deep.DrawnRows
import Derived.Deep.QuietTactic
namespace Go.Proofs.Ytbhndkdijbappaa
open Go Go.RowKit

theorem own_pick_ {w w' : World} {base r : Nat} {t : TypeId} {size : Nat} {A : Option Addr} {n c : Nat} {xs : List Value} (h : w.ownsRow base t size (.slice A n c) n xs) (hg : w.grownBy w' (some r)) (hr : r < base) : w'.ownsRow base t size (.slice A n c) n xs :=
  own_other (A2 := some ⟨r, 0, none⟩) h hg (fun a a2 h1 h2 => by
    injection h2 with h2
    subst h2
    have := (own_up h a h1).1
    simp only [ne_eq]
    omega)
/-- A store of the next cell of what is to come, told by what was there. -/
theorem own_fill {w : World} {base : Nat} {t : TypeId} {g n c size : Nat} {ps ys : List Value} {u : Value} (h : w.ownsRow base t size (.slice (some ⟨g, 0, none⟩) n c) n (ps ++ ys.drop ps.length)) (hk : ps.length < n * size) :
    (w.setCell ⟨g, ps.length, none⟩ u).ownsRow base t size (.slice (some ⟨g, 0, none⟩) n c) n ((ps ++ [u]) ++ ys.drop (ps.length + 1)) ∧ w.grownBy (w.setCell ⟨g, ps.length, none⟩ u) (some g) ∧
      w.frozen? ⟨g, ps.length, none⟩ = false ∧ ∃ v, w.cell? ⟨g, ps.length, none⟩ = some v := by
  have h2 : w.ownsRow base t size (.slice (some ⟨g, 0, none⟩) n c) n ((ps ++ [u]).take ps.length ++ ys.drop ps.length) := by simpa using h
  have h3 := own_next (xs := ps ++ [u]) (k := ps.length) (u := u) h2 hk (by simp)
  have e : (ps ++ [u]).take (ps.length + 1) = ps ++ [u] := List.take_of_length_le (by simp)
  rw [e] at h3
  exact h3
structure Lb where
  name : ByteArray
  needs : List ByteArray
  needsA : Option Addr
  needsc : Nat
  gives : List ByteArray
  givesA : Option Addr
  givesc : Nat
instance : Inhabited Lb := ⟨⟨ByteArray.empty, [], none, 0, [], none, 0⟩⟩
def Lb.cells (x : Lb) : List Value := [Value.string x.name, Value.slice x.needsA x.needs.length x.needsc, Value.slice x.givesA x.gives.length x.givesc]
def Lb.val (x : Lb) : Value := .agg #[Value.string x.name, Value.slice x.needsA x.needs.length x.needsc, Value.slice x.givesA x.gives.length x.givesc]
/-- What it means, apart from where it lies. -/
def Lb.v (x : Lb) : ByteArray × List ByteArray × List ByteArray := (x.name, x.needs, x.gives)
theorem Lb.cells_len (x : Lb) : x.cells.length = 3 := rfl
theorem Lb.v_eq {x y : Lb} (h : x.v = y.v) : x.name = y.name ∧ x.needs = y.needs ∧ x.gives = y.gives := by
  unfold Lb.v at h
  simpa only [Prod.mk.injEq] using h
/-- The cells of element k of a row. -/
theorem Lb.at_ {w : World} {B : Nat} {A : Option Addr} {xs : List Lb} (h : Reads w B 3 A xs.length (xs.flatMap Lb.cells)) {k : Nat} (hk : k < xs.length) :
    ∃ b off, A = some ⟨b, off, none⟩ ∧ b < B ∧ w.cell? ⟨b, off + k * 3, none⟩ = some (Value.string xs[k].name) ∧ w.cell? ⟨b, off + k * 3 + 1, none⟩ = some (Value.slice xs[k].needsA xs[k].needs.length xs[k].needsc) ∧ w.cell? ⟨b, off + k * 3 + 2, none⟩ = some (Value.slice xs[k].givesA xs[k].gives.length xs[k].givesc) := by
  obtain ⟨b, off, rfl, hb, hc⟩ := h.row_ (by omega) (by omega)
  have e := fun i hi => flat_get Lb.cells 3 Lb.cells_len xs k i hk hi
  refine ⟨b, off, rfl, hb, ?_, ?_, ?_⟩
  · exact hc (k * 3) _ (e 0 (by omega))
  · have := hc (k * 3 + 1) _ (e 1 (by omega))
    rwa [← Nat.add_assoc] at this
  · have := hc (k * 3 + 2) _ (e 2 (by omega))
    rwa [← Nat.add_assoc] at this
/-- Its slices read as they should. -/
def Lb.In (w : World) (B : Nat) (x : Lb) : Prop := Reads w B 1 x.needsA x.needs.length (texts x.needs) ∧ Reads w B 1 x.givesA x.gives.length (texts x.gives)
theorem Lb.In.below {w w' : World} {B : Nat} {x : Lb} (h : x.In w B) (hb : Below B w w') : x.In w' B := by
  obtain ⟨h0, h1⟩ := h
  exact ⟨h0.below hb, h1.below hb⟩
theorem Lb.In.more {w : World} {B B' : Nat} {x : Lb} (h : x.In w B) (hb : B ≤ B') : x.In w B' := by
  obtain ⟨h0, h1⟩ := h
  exact ⟨h0.more hb, h1.more hb⟩
/-- A row of them reads as ls. -/
def LbAt (w : World) (B : Nat) (A : Option Addr) (ls : List Lb) : Prop := Reads w B 3 A ls.length (ls.flatMap Lb.cells) ∧ ∀ l ∈ ls, l.In w B
theorem LbAt.below {w w' : World} {B : Nat} {A : Option Addr} {ls : List Lb} (h : LbAt w B A ls) (hb : Below B w w') : LbAt w' B A ls := ⟨h.1.below hb, fun l hl => (h.2 l hl).below hb⟩
theorem LbAt.more {w : World} {B B' : Nat} {A : Option Addr} {ls : List Lb} (h : LbAt w B A ls) (hb : B ≤ B') : LbAt w B' A ls := ⟨h.1.more hb, fun l hl => (h.2 l hl).more hb⟩
/-- Its slices are the call's own. -/
def Lb.Own (w : World) (lo : Nat) (x : Lb) : Prop := w.ownsRow lo 9 1 (.slice x.needsA x.needs.length x.needsc) x.needs.length (texts x.needs) ∧ w.ownsRow lo 9 1 (.slice x.givesA x.gives.length x.givesc) x.gives.length (texts x.gives)
theorem Lb.Own.in_ {w : World} {lo : Nat} {x : Lb} (h : x.Own w lo) : x.In w w.heap.size := by
  obtain ⟨h0, h1⟩ := h
  exact ⟨Reads.of_own h0, Reads.of_own h1⟩
theorem Lb.Own.below {w w' : World} {lo : Nat} {x : Lb} (h : x.Own w lo) (hb : Below w.heap.size w w') : x.Own w' lo := by
  obtain ⟨h0, h1⟩ := h
  exact ⟨own_below h0 hb, own_below h1 hb⟩
theorem Lb.Own.base {w : World} {lo lo' : Nat} {x : Lb} (h : x.Own w lo) (hb : lo' ≤ lo) : x.Own w lo' := by
  obtain ⟨h0, h1⟩ := h
  exact ⟨own_base h0 hb, own_base h1 hb⟩
theorem Lb.Own.other {w w' : World} {lo g : Nat} {x : Lb} (h : x.Own w lo) (hg : w.grownBy w' (some g)) (hl : g < lo) : x.Own w' lo := by
  obtain ⟨h0, h1⟩ := h
  exact ⟨own_pick_ h0 hg hl, own_pick_ h1 hg hl⟩
/-- A row of them that is the call's own: the row itself at block g, their slices behind it, all below hi. -/
def LbsOwn (w : World) (lo hi g c : Nat) (ls : List Lb) : Prop := lo ≤ g ∧ w.ownsRow lo 29 3 (.slice (some ⟨g, 0, none⟩) ls.length c) ls.length (ls.flatMap Lb.cells) ∧ g < hi ∧ hi ≤ w.heap.size ∧ ∀ l ∈ ls, l.Own w (g + 1) ∧ (∀ a, l.needsA = some a → a.block < hi) ∧ (∀ a, l.givesA = some a → a.block < hi)
theorem LbsOwn.at_ {w : World} {lo hi g c : Nat} {ls : List Lb} (h : LbsOwn w lo hi g c ls) : LbAt w w.heap.size (some ⟨g, 0, none⟩) ls := ⟨Reads.of_own h.2.1, fun l hl => (h.2.2.2.2 l hl).1.in_⟩
theorem LbsOwn.below {w w' : World} {lo hi g c : Nat} {ls : List Lb} (h : LbsOwn w lo hi g c ls) (hb : Below w.heap.size w w') : LbsOwn w' lo hi g c ls :=
  ⟨h.1, own_below h.2.1 hb, h.2.2.1, Nat.le_trans h.2.2.2.1 hb.size, fun l hl => ⟨(h.2.2.2.2 l hl).1.below hb, (h.2.2.2.2 l hl).2⟩⟩
def Lb.small (x : Lb) : Prop := x.name.size ≤ 1048576 ∧ x.needs.length ≤ 1048576 ∧ (∀ s ∈ x.needs, s.size ≤ 1048576) ∧ x.gives.length ≤ 1048576 ∧ (∀ s ∈ x.gives, s.size ≤ 1048576)

set_option maxRecDepth 100000 in
set_option maxHeartbeats 4000000 in
theorem toLibrary_any {A1 A2 : Option Addr} {c1 B1 c2 B2 : Nat} (name : ByteArray) (needs : List ByteArray) (gives : List ByteArray) (w : World) (h1 : Reads w B1 1 A1 needs.length (texts needs)) (hB1 : B1 ≤ w.heap.size) (hm1 : needs.length ≤ 1048576) (h2 : Reads w B2 1 A2 gives.length (texts gives)) (hB2 : B2 ≤ w.heap.size) (hm2 : gives.length ≤ 1048576) :
    Calls Try.prog 46 #[.agg #[.string name, .slice A1 needs.length c1, .slice A2 gives.length c2]] w fun e w' => ∃ X1 d1 X2 d2, e = .returned (.agg #[.string name, .slice X1 needs.length d1, .slice X2 gives.length d2]) ∧ Below w.heap.size w w' ∧ w'.ownsRow w.heap.size 9 1 (.slice X1 needs.length d1) needs.length (texts needs) ∧ w'.ownsRow w.heap.size 9 1 (.slice X2 gives.length d2) gives.length (texts gives) ∧ (∀ a b, X1 = some a → X2 = some b → a.block ≠ b.block) := by
  have H1 := Lib.hid (h1.more hB1)
  have H2 := Lib.hid (h2.more hB2)
  clear h1 h2
  have K1 := Lib.hid (blk_new1 w 60 #[.string name, .slice A1 needs.length c1, .slice A2 gives.length c2] (.cells #[.string ⟨#[]⟩, .slice none 0 0, .slice none 0 0] 29) (.cells #[.string name, .slice none 0 0, .slice none 0 0] 29))
  have K2 := Lib.hid (blk_new2 w 29 #[.string ⟨#[]⟩, .slice none 0 0, .slice none 0 0] (.cells #[.string name, .slice A1 needs.length c1, .slice A2 gives.length c2] 60) (.cells #[.string name, .slice none 0 0, .slice none 0 0] 29))
  have K3 := Lib.hid (blk_new3 w 29 #[.string name, .slice none 0 0, .slice none 0 0] (.cells #[.string name, .slice A1 needs.length c1, .slice A2 gives.length c2] 60) (.cells #[.string ⟨#[]⟩, .slice none 0 0, .slice none 0 0] 29))
  have BB := Lib.hid (below_new3 w (.cells #[.string name, .slice A1 needs.length c1, .slice A2 gives.length c2] 60) (.cells #[.string ⟨#[]⟩, .slice none 0 0, .slice none 0 0] 29) (.cells #[.string name, .slice none 0 0, .slice none 0 0] 29))
  have ZZ : Hid (w.heap.size + 3 ≤ (((w.alloc (.cells #[.string name, .slice A1 needs.length c1, .slice A2 gives.length c2] 60)).alloc (.cells #[.string ⟨#[]⟩, .slice none 0 0, .slice none 0 0] 29)).alloc (.cells #[.string name, .slice none 0 0, .slice none 0 0] 29)).heap.size) := by simp [Hid]
  go_enter Try.func46, Try.ntmps46
  go_wp2_with fail
  refine (toStringS_any _ _ _ needs _ (H1.out.below BB.out) (by have := ZZ.out; first | omega | (simp at this ⊢; omega) | (simp at this; omega) | (simp; omega)) hm1).mono ?_
  rintro e w1 ⟨X1, d1, rfl, o1, s1⟩
  have hon : Hid (Only (w.heap.size + 2) (w.heap.size + 3) (((w.alloc (.cells #[.string name, .slice A1 needs.length c1, .slice A2 gives.length c2] 60)).alloc (.cells #[.string ⟨#[]⟩, .slice none 0 0, .slice none 0 0] 29)).alloc (.cells #[.string name, .slice none 0 0, .slice none 0 0] 29)) w1) := (Only.refl (w.heap.size + 2) (w.heap.size + 3) (((w.alloc (.cells #[.string name, .slice A1 needs.length c1, .slice A2 gives.length c2] 60)).alloc (.cells #[.string ⟨#[]⟩, .slice none 0 0, .slice none 0 0] 29)).alloc (.cells #[.string name, .slice none 0 0, .slice none 0 0] 29))).trans (Only.of_below s1)
  have szq : (((w.alloc (.cells #[.string name, .slice A1 needs.length c1, .slice A2 gives.length c2] 60)).alloc (.cells #[.string ⟨#[]⟩, .slice none 0 0, .slice none 0 0] 29)).alloc (.cells #[.string name, .slice none 0 0, .slice none 0 0] 29)).heap.size = (((w.alloc (.cells #[.string name, .slice A1 needs.length c1, .slice A2 gives.length c2] 60)).alloc (.cells #[.string ⟨#[]⟩, .slice none 0 0, .slice none 0 0] 29)).alloc (.cells #[.string name, .slice none 0 0, .slice none 0 0] 29)).heap.size := by simp
  have K1' := Lib.hid (blk_only K1.out hon.out (Or.inl (by omega)))
  have K2' := Lib.hid (blk_only K2.out hon.out (Or.inl (by omega)))
  have K3' : Hid (Blk w1 (w.heap.size + 1 + 1) 29 #[.string name, .slice none 0 0, .slice none 0 0]) := by
    have h := K3.out.below s1 (by rw [szq]; exact K3.out.lt)
    simpa [Hid] using h
  have O1 := Lib.hid (own_base (base' := w.heap.size + 3) o1 (by rw [szq]; exact ZZ.out))
  have BB' := Lib.hid (below_only BB.out hon.out (by omega) BB.out.size)
  have ZZ' := Lib.hid (Nat.le_trans ZZ.out hon.out.size)
  clear K1 K2 K3 BB ZZ hon szq o1 s1 
  have K1 := K1'; have K2 := K2'; have K3 := K3'; have BB := BB'; have ZZ := ZZ'
  clear K1' K2' K3' BB' ZZ'
  have e12 : w1.cell? ⟨w.heap.size, 2, none⟩ = some (.slice A2 gives.length c2) := K1.out.cell 2
  have f10 : w1.frozen? ⟨w.heap.size + 1 + 1, 0, none⟩ = false := K3.out.frozen 0
  have g10 : w1.cell? ⟨w.heap.size + 1 + 1, 0, none⟩ = some (.string name) := K3.out.cell 0
  have f11 : w1.frozen? ⟨w.heap.size + 1 + 1, 1, none⟩ = false := K3.out.frozen 1
  have g11 : w1.cell? ⟨w.heap.size + 1 + 1, 1, none⟩ = some (.slice none 0 0) := K3.out.cell 1
  have f12 : w1.frozen? ⟨w.heap.size + 1 + 1, 2, none⟩ = false := K3.out.frozen 2
  have g12 : w1.cell? ⟨w.heap.size + 1 + 1, 2, none⟩ = some (.slice none 0 0) := K3.out.cell 2
  go_wp2_with fail
  refine (toStringS_any _ _ _ gives _ ((H2.out.below BB.out).setCell (by simp; omega) _) (by have := ZZ.out; first | omega | (simp at this ⊢; omega) | (simp at this; omega) | (simp; omega)) hm2).mono ?_
  rintro e w2 ⟨X2, d2, rfl, o2, s2⟩
  have hon : Hid (Only (w.heap.size + 2) (w.heap.size + 3) w1 w2) := ((Only.refl (w.heap.size + 2) (w.heap.size + 3) w1).set_ (p := ⟨w.heap.size + 1 + 1, 1, none⟩) (.slice X1 needs.length d1) (by simp) (by simp)).trans (Only.of_below s2)
  have szq : (w1.setCell ⟨w.heap.size + 1 + 1, 1, none⟩ (.slice X1 needs.length d1)).heap.size = w1.heap.size := by simp
  have K1' := Lib.hid (blk_only K1.out hon.out (Or.inl (by omega)))
  have K2' := Lib.hid (blk_only K2.out hon.out (Or.inl (by omega)))
  have K3' : Hid (Blk w2 (w.heap.size + 1 + 1) 29 #[.string name, .slice X1 needs.length d1, .slice none 0 0]) := by
    have h := (K3.out.set_ 1 (.slice X1 needs.length d1)).below s2 (by rw [szq]; exact K3.out.lt)
    simpa [Hid] using h
  have q12 := apart_hi O1.out o2 (by rw [szq]; exact Nat.le_refl _)
  have O1' := Lib.hid (own_hi O1.out (Nat.le_refl _) hon.out)
  have O2 := Lib.hid (own_base (base' := w.heap.size + 3) o2 (by rw [szq]; exact ZZ.out))
  have BB' := Lib.hid (below_only BB.out hon.out (by omega) BB.out.size)
  have ZZ' := Lib.hid (Nat.le_trans ZZ.out hon.out.size)
  clear K1 K2 K3 BB ZZ hon szq o2 s2 O1
  have K1 := K1'; have K2 := K2'; have K3 := K3'; have BB := BB'; have ZZ := ZZ'; have O1 := O1'
  clear K1' K2' K3' BB' ZZ' O1'
  have f20 : w2.frozen? ⟨w.heap.size + 1 + 1, 0, none⟩ = false := K3.out.frozen 0
  have g20 : w2.cell? ⟨w.heap.size + 1 + 1, 0, none⟩ = some (.string name) := K3.out.cell 0
  have f21 : w2.frozen? ⟨w.heap.size + 1 + 1, 1, none⟩ = false := K3.out.frozen 1
  have g21 : w2.cell? ⟨w.heap.size + 1 + 1, 1, none⟩ = some (.slice X1 needs.length d1) := K3.out.cell 1
  have f22 : w2.frozen? ⟨w.heap.size + 1 + 1, 2, none⟩ = false := K3.out.frozen 2
  have g22 : w2.cell? ⟨w.heap.size + 1 + 1, 2, none⟩ = some (.slice none 0 0) := K3.out.cell 2
  have p20 : w2.frozen? ⟨w.heap.size + 1, 0, none⟩ = false := K2.out.frozen 0
  have r20 : w2.cell? ⟨w.heap.size + 1, 0, none⟩ = some (.string ⟨#[]⟩) := K2.out.cell 0
  have p21 : w2.frozen? ⟨w.heap.size + 1, 1, none⟩ = false := K2.out.frozen 1
  have r21 : w2.cell? ⟨w.heap.size + 1, 1, none⟩ = some (.slice none 0 0) := K2.out.cell 1
  have p22 : w2.frozen? ⟨w.heap.size + 1, 2, none⟩ = false := K2.out.frozen 2
  have r22 : w2.cell? ⟨w.heap.size + 1, 2, none⟩ = some (.slice none 0 0) := K2.out.cell 2
  have ON := Lib.hid ((((((Only.refl (w.heap.size + 1) (w.heap.size + 3) w2).set_ (p := ⟨w.heap.size + 1 + 1, 2, none⟩) (.slice X2 gives.length d2) (by simp) (by simp)).set_ (p := ⟨w.heap.size + 1, 0, none⟩) (.string name) (by simp) (by simp)).set_ (p := ⟨w.heap.size + 1, 1, none⟩) (.slice X1 needs.length d1) (by simp) (by simp)).set_ (p := ⟨w.heap.size + 1, 2, none⟩) (.slice X2 gives.length d2) (by simp) (by simp)))
  go_wp2
  have KF0 := (K2.out.far (p := ⟨w.heap.size + 1 + 1, 2, none⟩) (by simp) (.slice X2 gives.length d2))
  have KF1 : Blk ((w2.setCell ⟨w.heap.size + 1 + 1, 2, none⟩ (.slice X2 gives.length d2)).setCell ⟨w.heap.size + 1, 0, none⟩ (.string name)) (w.heap.size + 1) 29 #[.string name, .slice none 0 0, .slice none 0 0] := by
    have h := KF0.set_ 0 (.string name)
    simpa using h
  have y0 : ((w2.setCell ⟨w.heap.size + 1 + 1, 2, none⟩ (.slice X2 gives.length d2)).setCell ⟨w.heap.size + 1, 0, none⟩ (.string name)).cell? ⟨w.heap.size + 1, 0, none⟩ = some (.string name) := KF1.cell 0
  have KF2 : Blk (((w2.setCell ⟨w.heap.size + 1 + 1, 2, none⟩ (.slice X2 gives.length d2)).setCell ⟨w.heap.size + 1, 0, none⟩ (.string name)).setCell ⟨w.heap.size + 1, 1, none⟩ (.slice X1 needs.length d1)) (w.heap.size + 1) 29 #[.string name, .slice X1 needs.length d1, .slice none 0 0] := by
    have h := KF1.set_ 1 (.slice X1 needs.length d1)
    simpa using h
  have y1 : (((w2.setCell ⟨w.heap.size + 1 + 1, 2, none⟩ (.slice X2 gives.length d2)).setCell ⟨w.heap.size + 1, 0, none⟩ (.string name)).setCell ⟨w.heap.size + 1, 1, none⟩ (.slice X1 needs.length d1)).cell? ⟨w.heap.size + 1, 1, none⟩ = some (.slice X1 needs.length d1) := KF2.cell 1
  have KF3 : Blk ((((w2.setCell ⟨w.heap.size + 1 + 1, 2, none⟩ (.slice X2 gives.length d2)).setCell ⟨w.heap.size + 1, 0, none⟩ (.string name)).setCell ⟨w.heap.size + 1, 1, none⟩ (.slice X1 needs.length d1)).setCell ⟨w.heap.size + 1, 2, none⟩ (.slice X2 gives.length d2)) (w.heap.size + 1) 29 #[.string name, .slice X1 needs.length d1, .slice X2 gives.length d2] := by
    have h := KF2.set_ 2 (.slice X2 gives.length d2)
    simpa using h
  have y2 : ((((w2.setCell ⟨w.heap.size + 1 + 1, 2, none⟩ (.slice X2 gives.length d2)).setCell ⟨w.heap.size + 1, 0, none⟩ (.string name)).setCell ⟨w.heap.size + 1, 1, none⟩ (.slice X1 needs.length d1)).setCell ⟨w.heap.size + 1, 2, none⟩ (.slice X2 gives.length d2)).cell? ⟨w.heap.size + 1, 2, none⟩ = some (.slice X2 gives.length d2) := KF3.cell 2
  clear KF0 KF1 KF2 KF3
  try simp only [Exit.inBlock, Exit.then]
  refine bodyPost_ret (v := .agg #[.string name, .slice X1 needs.length d1, .slice X2 gives.length d2]) (by simp [results, Try.results46, go_sem, y0, y1, y2]) rfl ?_
  refine ⟨X1, d1, X2, d2, rfl, below_only BB.out ON.out (by omega) BB.out.size, own_base (own_only O1.out ON.out (fun a ha => Or.inr (own_up O1.out a ha).1)) (by omega), own_base (own_only O2.out ON.out (fun a ha => Or.inr (own_up O2.out a ha).1)) (by omega), q12⟩

theorem toLb_any {B : Nat} (x : Lb) (w : World) (h : x.In w B) (hB : B ≤ w.heap.size) (hs : x.small) :
    Calls Try.prog 46 #[x.val] w fun e w' => ∃ y : Lb, e = .returned y.val ∧ y.v = x.v ∧ y.Own w' w.heap.size ∧ Below w.heap.size w w' := by
  obtain ⟨h1, h2⟩ := h
  obtain ⟨z0, z1, y1, z2, y2⟩ := hs
  refine (toLibrary_any (c1 := x.needsc) (c2 := x.givesc) x.name x.needs x.gives w h1 hB (by omega) h2 hB (by omega)).mono ?_
  rintro e w' ⟨X1, d1, X2, d2, rfl, hb, o1, o2, _q12⟩
  exact ⟨⟨x.name, x.needs, X1, d1, x.gives, X2, d2⟩, rfl, rfl, ⟨o1, o2⟩, hb⟩

theorem toLibraryS_info : (Try.prog.info? 29).map (fun i => (i.zero, i.size, i.bytes)) = some (some (.agg #[Value.string ByteArray.empty, Value.slice none 0 0, Value.slice none 0 0]), 3, 64) := by kernel_rfl
set_option maxRecDepth 100000 in
set_option maxHeartbeats 4000000 in
theorem toLibraryS_any {A1 : Option Addr} {c1 B1 : Nat} (xs : List Lb) (w : World) (h1 : LbAt w B1 A1 xs) (hB : B1 ≤ w.heap.size) (hm : xs.length ≤ 1048576) (hs : ∀ x ∈ xs, x.small) :
    Calls Try.prog 16 #[.slice A1 xs.length c1] w fun e w' => ∃ (c : Nat) (ds : List Lb), e = .returned (.slice (some ⟨w.heap.size, 0, none⟩) ds.length c) ∧ ds.map Lb.v = xs.map Lb.v ∧ LbsOwn w' w.heap.size w'.heap.size w.heap.size c ds ∧ Below w.heap.size w w' := by
  obtain ⟨i0, hi0, hz0, hz1, hz2⟩ := info_parts toLibraryS_info
  obtain ⟨w1, hmk, hown, hgr⟩ := run_make_full (P := Try.prog) w w.heap.size 23 29 i0 _ 3 Try.underlying23 hi0 hz0 hz1 .i64 .i64 xs.length (by rw [hz2]; omega) (by unfold maxLen; omega) (Nat.le_refl _)
  have hb1 : Below w.heap.size w w1 := (Below.refl _ _).grown hgr (Nat.le_refl _) (by simp)
  have hlen : xs.length ≤ 9223372036854775807 := by omega
  have hsz := hown.lt _ rfl
  have HS := Lib.hid hs
  have H1 := Lib.hid (h1.more hB)
  clear hs h1
  obtain ⟨ys, hys⟩ : ∃ ys, ys = (madeCells (Value.agg #[Value.string ByteArray.empty, Value.slice none 0 0, Value.slice none 0 0]).cells (xs.length * 3)).toList := ⟨_, rfl⟩
  have hyl : ys.length = xs.length * 3 := by rw [hys]; simp [size_madeCells]
  rw [← hys] at hown
  clear hys
  go_enter Try.func16, Try.ntmps16
  go_wp2
  clear hmk
  go_loopw [4] (fun i wr => ∃ (k : Nat) (ds : List Lb), k ≤ xs.length ∧ i = .int .i64 k ∧ Below w.heap.size w wr ∧ w.heap.size < wr.heap.size ∧ Hid (ds.length = k ∧ ds.map Lb.v = (xs.take k).map Lb.v) ∧ wr.ownsRow w.heap.size 29 3 (.slice (some ⟨w.heap.size, 0, none⟩) xs.length xs.length) xs.length (ds.flatMap Lb.cells ++ ys.drop (ds.flatMap Lb.cells).length) ∧ Hid (∀ d ∈ ds, d.Own wr (w.heap.size + 1))) (fun i _ => xs.length - (intOf i).toNat)
  case atStart => exact ⟨0, [], Nat.zero_le _, rfl, hb1, hsz.2, Lib.hid ⟨rfl, rfl⟩, by simpa using hown, Lib.hid (by simp)⟩
  case round =>
    obtain ⟨k, ds, hk, rfl, hb, hws, HD, ho, HO⟩ := hrel
    clear hown hb1 hgr hsz
    by_cases hlt : k < xs.length
    · obtain ⟨b, off, rfl, hbl, e0, e1, e2⟩ := Lb.at_ ((H1.out.below hb).1) hlt
      have HI := Lib.hid ((H1.out.2 _ (List.getElem_mem hlt)).below hb)
      have HT := Lib.hid (HS.out _ (List.getElem_mem hlt))
      have hbz := hb.size
      go_wp2_with fail
      refine (toLb_any xs[k] _ HI.out hbz HT.out).mono ?_
      rintro e w2 ⟨y, rfl, hyv, hyo, hb2⟩
      have HY := Lib.hid hyv
      have HYO := Lib.hid (hyo.base (show w.heap.size + 1 ≤ wr.heap.size from hws))
      have HO2 : Hid (∀ d ∈ ds, d.Own w2 (w.heap.size + 1)) := fun d hd => (HO.out d hd).below hb2
      simp only [Lb.val]
      have ho2 := own_below ho hb2
      have hpl : (ds.flatMap Lb.cells).length = k * 3 := by rw [flat_len _ 3 Lb.cells_len, HD.out.1]
      clear hyv hyo HO ho HI
      obtain ⟨o0, g0, z0, v0, q0⟩ := own_fill ho2 (u := Value.string y.name) (by rw [hpl]; omega)
      have r0 : (ds.flatMap Lb.cells ++ [Value.string y.name]).length = k * 3 + 1 := by rw [List.length_append, hpl]; rfl
      rw [hpl] at o0 g0 z0 q0
      have o0c := o0
      rw [← r0] at o0c
      obtain ⟨o1, g1, z1, v1, q1⟩ := own_fill o0c (u := Value.slice y.needsA y.needs.length y.needsc) (by rw [r0]; omega)
      have r1 : (ds.flatMap Lb.cells ++ [Value.string y.name, Value.slice y.needsA y.needs.length y.needsc]).length = k * 3 + 2 := by rw [List.length_append, hpl]; rfl
      rw [r0] at o1 g1 z1 q1
      rw [show ds.flatMap Lb.cells ++ [Value.string y.name] ++ [Value.slice y.needsA y.needs.length y.needsc] = ds.flatMap Lb.cells ++ [Value.string y.name, Value.slice y.needsA y.needs.length y.needsc] from by simp] at o1
      have o1c := o1
      rw [← r1] at o1c
      obtain ⟨o2, g2, z2, v2, q2⟩ := own_fill o1c (u := Value.slice y.givesA y.gives.length y.givesc) (by rw [r1]; omega)
      have r2 : (ds.flatMap Lb.cells ++ [Value.string y.name, Value.slice y.needsA y.needs.length y.needsc, Value.slice y.givesA y.gives.length y.givesc]).length = k * 3 + 3 := by rw [List.length_append, hpl]; rfl
      rw [r1] at o2 g2 z2 q2
      rw [show ds.flatMap Lb.cells ++ [Value.string y.name, Value.slice y.needsA y.needs.length y.needsc] ++ [Value.slice y.givesA y.gives.length y.givesc] = ds.flatMap Lb.cells ++ [Value.string y.name, Value.slice y.needsA y.needs.length y.needsc, Value.slice y.givesA y.gives.length y.givesc] from by simp] at o2
      have O := Lib.hid o2
      have HG := Lib.hid ((g0.trans g1).trans g2)
      have hb2z := hb2.size
      clear o0 g0 r0 o1 g1 r1 o2 g2 r2 o0c o1c ho2 hpl hyl
      go_wp2
      go_roundw
      case rel =>
        have hyl : ys.length = ys.length := rfl
        have hd1 := HD.out.1
        have hd2 := HD.out.2
        have HG' := HG.out
        refine ⟨k + 1, ds ++ [y], by omega, by go_num, (hb.trans (hb2.mono hb.size)).grown HG' (Nat.le_trans hb.size hb2.size) (by simp), by have h1 := HG'.size; omega, Lib.hid ⟨by simp; omega, ?_⟩, ?_, Lib.hid ?_⟩
        · rw [List.take_succ_eq_append_getElem hlt, List.map_append, List.map_append, hd2]
          simp [HY.out]
        · have e1 : (ds ++ [y]).flatMap Lb.cells = ds.flatMap Lb.cells ++ [Value.string y.name, Value.slice y.needsA y.needs.length y.needsc, Value.slice y.givesA y.gives.length y.givesc] := by simp [Lb.cells]
          have e2 : ((ds ++ [y]).flatMap Lb.cells).length = k * 3 + 3 := by rw [flat_len _ 3 Lb.cells_len]; simp; omega
          rw [e2, e1]
          exact O.out
        · intro d hd
          rcases List.mem_append.1 hd with hd | hd
          · exact (HO2.out d hd).other HG' (Nat.lt_succ_self _)
          · rw [List.mem_singleton.1 hd]
            exact HYO.out.other HG' (Nat.lt_succ_self _)
      case measure => simp [intOf]; omega
    · obtain rfl : k = xs.length := by omega
      go_wp2
      go_ret
      obtain ⟨hd1, hd2⟩ := HD.out
      have hdr : ys.drop (ds.flatMap Lb.cells).length = [] := List.drop_eq_nil_of_le (by rw [flat_len _ 3 Lb.cells_len, hyl, hd1]; exact Nat.le_refl _)
      rw [hdr, List.append_nil, ← hd1] at ho
      refine ⟨xs.length, ds, by rw [hd1] <;> rfl, by rw [hd2, List.take_of_length_le (Nat.le_refl _)], ⟨Nat.le_refl _, ?_, hws, Nat.le_refl _, fun d hd => ⟨HO.out d hd, ?_, ?_⟩⟩, hb⟩
      · rw [hd1] at ho ⊢
        exact ho
      · exact fun a ha => (own_up (HO.out d hd).1 a ha).2
      · exact fun a ha => (own_up (HO.out d hd).2 a ha).2
end Go.Proofs.Ytbhndkdijbappaa
