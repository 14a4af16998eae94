/- Sections: their words; contracts of the laws' copying functions on them. No condition but the sizes. -/
import Derived.Test.YtdaamgonendkkaaRows
import Derived.Test.YtdaamgonendkkaaBase
import Derived.Test.YtdaamgonendkkaaBase2
import Derived.Test.YtdaamgonendkkaaOnly
import Derived.Test.YtdaamgonendkkaaByteS
import Derived.Test.YtdaamgonendkkaaFix
import Derived.WalkKit
import Derived.WalkSpells
import Derived.WalkLawsBesides
import Derived.Handy
import Derived.BigQuiet
import Derived.Deep.RegionHeld3
import Derived.Deep.DrawnRows
import Derived.Deep.QuietTactic
namespace Go.Proofs.Ytdaamgonendkkaa
open Go Go.RowKit

theorem own_pick_ {w w' : World} {base r : Nat} {t : TypeId} {size : Nat} {A : Option Addr} {n c : Nat} {xs : List Value} (h : w.ownsRow base t size (.slice A n c) n xs) (hg : w.grownBy w' (some r)) (hr : r < base) : w'.ownsRow base t size (.slice A n c) n xs :=
  own_other (A2 := some ⟨r, 0, none⟩) h hg (fun a a2 h1 h2 => by
    injection h2 with h2
    subst h2
    have := (own_up h a h1).1
    simp only [ne_eq]
    omega)
/-- A store of the next cell of what is to come, told by what was there. -/
theorem own_fill {w : World} {base : Nat} {t : TypeId} {g n c size : Nat} {ps ys : List Value} {u : Value} (h : w.ownsRow base t size (.slice (some ⟨g, 0, none⟩) n c) n (ps ++ ys.drop ps.length)) (hk : ps.length < n * size) :
    (w.setCell ⟨g, ps.length, none⟩ u).ownsRow base t size (.slice (some ⟨g, 0, none⟩) n c) n ((ps ++ [u]) ++ ys.drop (ps.length + 1)) ∧ w.grownBy (w.setCell ⟨g, ps.length, none⟩ u) (some g) ∧
      w.frozen? ⟨g, ps.length, none⟩ = false ∧ ∃ v, w.cell? ⟨g, ps.length, none⟩ = some v := by
  have h2 : w.ownsRow base t size (.slice (some ⟨g, 0, none⟩) n c) n ((ps ++ [u]).take ps.length ++ ys.drop ps.length) := by simpa using h
  have h3 := own_next (xs := ps ++ [u]) (k := ps.length) (u := u) h2 hk (by simp)
  have e : (ps ++ [u]).take (ps.length + 1) = ps ++ [u] := List.take_of_length_le (by simp)
  rw [e] at h3
  exact h3
structure Sec where
  name : ByteArray
  kind : Int
  align : Int
  bytes : List Int
  bytesA : Option Addr
  bytesc : Nat
  size : Int
  fixups : List Fix
  fixupsA : Option Addr
  fixupsc : Nat
instance : Inhabited Sec := ⟨⟨ByteArray.empty, 0, 0, [], none, 0, 0, [], none, 0⟩⟩
def Sec.cells (x : Sec) : List Value := [Value.string x.name, Value.int .i64 x.kind, Value.int .i64 x.align, Value.slice x.bytesA x.bytes.length x.bytesc, Value.int .i64 x.size, Value.slice x.fixupsA x.fixups.length x.fixupsc]
def Sec.val (x : Sec) : Value := .agg #[Value.string x.name, Value.int .i64 x.kind, Value.int .i64 x.align, Value.slice x.bytesA x.bytes.length x.bytesc, Value.int .i64 x.size, Value.slice x.fixupsA x.fixups.length x.fixupsc]
/-- What it means, apart from where it lies. -/
def Sec.v (x : Sec) : ByteArray × Int × Int × List Int × Int × List Fix := (x.name, x.kind, x.align, x.bytes, x.size, x.fixups)
theorem Sec.cells_len (x : Sec) : x.cells.length = 6 := rfl
theorem Sec.v_eq {x y : Sec} (h : x.v = y.v) : x.name = y.name ∧ x.kind = y.kind ∧ x.align = y.align ∧ x.bytes = y.bytes ∧ x.size = y.size ∧ x.fixups = y.fixups := by
  unfold Sec.v at h
  simpa only [Prod.mk.injEq] using h
/-- The cells of element k of a row. -/
theorem Sec.at_ {w : World} {B : Nat} {A : Option Addr} {xs : List Sec} (h : Reads w B 6 A xs.length (xs.flatMap Sec.cells)) {k : Nat} (hk : k < xs.length) :
    ∃ b off, A = some ⟨b, off, none⟩ ∧ b < B ∧ w.cell? ⟨b, off + k * 6, none⟩ = some (Value.string xs[k].name) ∧ w.cell? ⟨b, off + k * 6 + 1, none⟩ = some (Value.int .i64 xs[k].kind) ∧ w.cell? ⟨b, off + k * 6 + 2, none⟩ = some (Value.int .i64 xs[k].align) ∧ w.cell? ⟨b, off + k * 6 + 3, none⟩ = some (Value.slice xs[k].bytesA xs[k].bytes.length xs[k].bytesc) ∧ w.cell? ⟨b, off + k * 6 + 4, none⟩ = some (Value.int .i64 xs[k].size) ∧ w.cell? ⟨b, off + k * 6 + 5, none⟩ = some (Value.slice xs[k].fixupsA xs[k].fixups.length xs[k].fixupsc) := by
  obtain ⟨b, off, rfl, hb, hc⟩ := h.row_ (by omega) (by omega)
  have e := fun i hi => flat_get Sec.cells 6 Sec.cells_len xs k i hk hi
  refine ⟨b, off, rfl, hb, ?_, ?_, ?_, ?_, ?_, ?_⟩
  · exact hc (k * 6) _ (e 0 (by omega))
  · have := hc (k * 6 + 1) _ (e 1 (by omega))
    rwa [← Nat.add_assoc] at this
  · have := hc (k * 6 + 2) _ (e 2 (by omega))
    rwa [← Nat.add_assoc] at this
  · have := hc (k * 6 + 3) _ (e 3 (by omega))
    rwa [← Nat.add_assoc] at this
  · have := hc (k * 6 + 4) _ (e 4 (by omega))
    rwa [← Nat.add_assoc] at this
  · have := hc (k * 6 + 5) _ (e 5 (by omega))
    rwa [← Nat.add_assoc] at this
/-- Its slices read as they should. -/
def Sec.In (w : World) (B : Nat) (x : Sec) : Prop := Reads w B 1 x.bytesA x.bytes.length (nums .u8 x.bytes) ∧ Reads w B 4 x.fixupsA x.fixups.length (List.flatMap Fix.cells x.fixups)
theorem Sec.In.below {w w' : World} {B : Nat} {x : Sec} (h : x.In w B) (hb : Below B w w') : x.In w' B := by
  obtain ⟨h0, h1⟩ := h
  exact ⟨h0.below hb, h1.below hb⟩
theorem Sec.In.more {w : World} {B B' : Nat} {x : Sec} (h : x.In w B) (hb : B ≤ B') : x.In w B' := by
  obtain ⟨h0, h1⟩ := h
  exact ⟨h0.more hb, h1.more hb⟩
/-- A row of them reads as ls. -/
def SecAt (w : World) (B : Nat) (A : Option Addr) (ls : List Sec) : Prop := Reads w B 6 A ls.length (ls.flatMap Sec.cells) ∧ ∀ l ∈ ls, l.In w B
theorem SecAt.below {w w' : World} {B : Nat} {A : Option Addr} {ls : List Sec} (h : SecAt w B A ls) (hb : Below B w w') : SecAt w' B A ls := ⟨h.1.below hb, fun l hl => (h.2 l hl).below hb⟩
theorem SecAt.more {w : World} {B B' : Nat} {A : Option Addr} {ls : List Sec} (h : SecAt w B A ls) (hb : B ≤ B') : SecAt w B' A ls := ⟨h.1.more hb, fun l hl => (h.2 l hl).more hb⟩
/-- Its slices are the call's own. -/
def Sec.Own (w : World) (lo : Nat) (x : Sec) : Prop := w.ownsRow lo 5 1 (.slice x.bytesA x.bytes.length x.bytesc) x.bytes.length (nums .u8 x.bytes) ∧ w.ownsRow lo 107 4 (.slice x.fixupsA x.fixups.length x.fixupsc) x.fixups.length (List.flatMap Fix.cells x.fixups)
theorem Sec.Own.in_ {w : World} {lo : Nat} {x : Sec} (h : x.Own w lo) : x.In w w.heap.size := by
  obtain ⟨h0, h1⟩ := h
  exact ⟨Reads.of_own h0, Reads.of_own h1⟩
theorem Sec.Own.below {w w' : World} {lo : Nat} {x : Sec} (h : x.Own w lo) (hb : Below w.heap.size w w') : x.Own w' lo := by
  obtain ⟨h0, h1⟩ := h
  exact ⟨own_below h0 hb, own_below h1 hb⟩
theorem Sec.Own.base {w : World} {lo lo' : Nat} {x : Sec} (h : x.Own w lo) (hb : lo' ≤ lo) : x.Own w lo' := by
  obtain ⟨h0, h1⟩ := h
  exact ⟨own_base h0 hb, own_base h1 hb⟩
theorem Sec.Own.other {w w' : World} {lo g : Nat} {x : Sec} (h : x.Own w lo) (hg : w.grownBy w' (some g)) (hl : g < lo) : x.Own w' lo := by
  obtain ⟨h0, h1⟩ := h
  exact ⟨own_pick_ h0 hg hl, own_pick_ h1 hg hl⟩
/-- A row of them that is the call's own: the row itself at block g, their slices behind it, all below hi. -/
def SecsOwn (w : World) (lo hi g c : Nat) (ls : List Sec) : Prop := lo ≤ g ∧ w.ownsRow lo 80 6 (.slice (some ⟨g, 0, none⟩) ls.length c) ls.length (ls.flatMap Sec.cells) ∧ g < hi ∧ hi ≤ w.heap.size ∧ ∀ l ∈ ls, l.Own w (g + 1) ∧ (∀ a, l.bytesA = some a → a.block < hi) ∧ (∀ a, l.fixupsA = some a → a.block < hi)
theorem SecsOwn.at_ {w : World} {lo hi g c : Nat} {ls : List Sec} (h : SecsOwn w lo hi g c ls) : SecAt w w.heap.size (some ⟨g, 0, none⟩) ls := ⟨Reads.of_own h.2.1, fun l hl => (h.2.2.2.2 l hl).1.in_⟩
theorem SecsOwn.below {w w' : World} {lo hi g c : Nat} {ls : List Sec} (h : SecsOwn w lo hi g c ls) (hb : Below w.heap.size w w') : SecsOwn w' lo hi g c ls :=
  ⟨h.1, own_below h.2.1 hb, h.2.2.1, Nat.le_trans h.2.2.2.1 hb.size, fun l hl => ⟨(h.2.2.2.2 l hl).1.below hb, (h.2.2.2.2 l hl).2⟩⟩
def Sec.small (x : Sec) : Prop := x.name.size ≤ 1048576 ∧ x.bytes.length ≤ 1048576 ∧ x.fixups.length ≤ 1048576

set_option maxRecDepth 100000 in
set_option maxHeartbeats 4000000 in
theorem toSection_any {A3 A5 : Option Addr} {c3 B3 c5 B5 : Nat} (name : ByteArray) (kind : Int) (align : Int) (bytes : List Int) (size : Int) (fixups : List Fix) (w : World) (h3 : Reads w B3 1 A3 bytes.length (nums .u8 bytes)) (hB3 : B3 ≤ w.heap.size) (hm3 : bytes.length ≤ 1048576) (h5 : Reads w B5 4 A5 fixups.length (List.flatMap Fix.cells fixups)) (hB5 : B5 ≤ w.heap.size) (hm5 : fixups.length ≤ 1048576) :
    Calls Try.prog 71 #[.agg #[.string name, .int .i64 kind, .int .i64 align, .slice A3 bytes.length c3, .int .i64 size, .slice A5 fixups.length c5]] w fun e w' => ∃ X3 d3 X5 d5, e = .returned (.agg #[.string name, .int .i64 kind, .int .i64 align, .slice X3 bytes.length d3, .int .i64 size, .slice X5 fixups.length d5]) ∧ Below w.heap.size w w' ∧ w'.ownsRow w.heap.size 5 1 (.slice X3 bytes.length d3) bytes.length (nums .u8 bytes) ∧ w'.ownsRow w.heap.size 107 4 (.slice X5 fixups.length d5) fixups.length (List.flatMap Fix.cells fixups) ∧ (∀ a b, X3 = some a → X5 = some b → a.block ≠ b.block) := by
  have H3 := Lib.hid (h3.more hB3)
  have H5 := Lib.hid (h5.more hB5)
  clear h3 h5
  have K1 := Lib.hid (blk_new1 w 96 #[.string name, .int .i64 kind, .int .i64 align, .slice A3 bytes.length c3, .int .i64 size, .slice A5 fixups.length c5] (.cells #[.string ⟨#[]⟩, .int .i64 0, .int .i64 0, .slice none 0 0, .int .i64 0, .slice none 0 0] 80) (.cells #[.string name, .int .i64 kind, .int .i64 align, .slice none 0 0, .int .i64 0, .slice none 0 0] 80))
  have K2 := Lib.hid (blk_new2 w 80 #[.string ⟨#[]⟩, .int .i64 0, .int .i64 0, .slice none 0 0, .int .i64 0, .slice none 0 0] (.cells #[.string name, .int .i64 kind, .int .i64 align, .slice A3 bytes.length c3, .int .i64 size, .slice A5 fixups.length c5] 96) (.cells #[.string name, .int .i64 kind, .int .i64 align, .slice none 0 0, .int .i64 0, .slice none 0 0] 80))
  have K3 := Lib.hid (blk_new3 w 80 #[.string name, .int .i64 kind, .int .i64 align, .slice none 0 0, .int .i64 0, .slice none 0 0] (.cells #[.string name, .int .i64 kind, .int .i64 align, .slice A3 bytes.length c3, .int .i64 size, .slice A5 fixups.length c5] 96) (.cells #[.string ⟨#[]⟩, .int .i64 0, .int .i64 0, .slice none 0 0, .int .i64 0, .slice none 0 0] 80))
  have BB := Lib.hid (below_new3 w (.cells #[.string name, .int .i64 kind, .int .i64 align, .slice A3 bytes.length c3, .int .i64 size, .slice A5 fixups.length c5] 96) (.cells #[.string ⟨#[]⟩, .int .i64 0, .int .i64 0, .slice none 0 0, .int .i64 0, .slice none 0 0] 80) (.cells #[.string name, .int .i64 kind, .int .i64 align, .slice none 0 0, .int .i64 0, .slice none 0 0] 80))
  have ZZ : Hid (w.heap.size + 3 ≤ (((w.alloc (.cells #[.string name, .int .i64 kind, .int .i64 align, .slice A3 bytes.length c3, .int .i64 size, .slice A5 fixups.length c5] 96)).alloc (.cells #[.string ⟨#[]⟩, .int .i64 0, .int .i64 0, .slice none 0 0, .int .i64 0, .slice none 0 0] 80)).alloc (.cells #[.string name, .int .i64 kind, .int .i64 align, .slice none 0 0, .int .i64 0, .slice none 0 0] 80)).heap.size) := by simp [Hid]
  go_enter Try.func71, Try.ntmps71
  go_wp2_with fail
  refine (toByteS_any _ _ _ bytes _ (H3.out.below BB.out) (by have := ZZ.out; first | omega | (simp at this ⊢; omega) | (simp at this; omega) | (simp; omega)) hm3).mono ?_
  rintro e w1 ⟨X3, d3, rfl, o3, s3⟩
  have hon : Hid (Only (w.heap.size + 2) (w.heap.size + 3) (((w.alloc (.cells #[.string name, .int .i64 kind, .int .i64 align, .slice A3 bytes.length c3, .int .i64 size, .slice A5 fixups.length c5] 96)).alloc (.cells #[.string ⟨#[]⟩, .int .i64 0, .int .i64 0, .slice none 0 0, .int .i64 0, .slice none 0 0] 80)).alloc (.cells #[.string name, .int .i64 kind, .int .i64 align, .slice none 0 0, .int .i64 0, .slice none 0 0] 80)) w1) := (Only.refl (w.heap.size + 2) (w.heap.size + 3) (((w.alloc (.cells #[.string name, .int .i64 kind, .int .i64 align, .slice A3 bytes.length c3, .int .i64 size, .slice A5 fixups.length c5] 96)).alloc (.cells #[.string ⟨#[]⟩, .int .i64 0, .int .i64 0, .slice none 0 0, .int .i64 0, .slice none 0 0] 80)).alloc (.cells #[.string name, .int .i64 kind, .int .i64 align, .slice none 0 0, .int .i64 0, .slice none 0 0] 80))).trans (Only.of_below s3)
  have szq : (((w.alloc (.cells #[.string name, .int .i64 kind, .int .i64 align, .slice A3 bytes.length c3, .int .i64 size, .slice A5 fixups.length c5] 96)).alloc (.cells #[.string ⟨#[]⟩, .int .i64 0, .int .i64 0, .slice none 0 0, .int .i64 0, .slice none 0 0] 80)).alloc (.cells #[.string name, .int .i64 kind, .int .i64 align, .slice none 0 0, .int .i64 0, .slice none 0 0] 80)).heap.size = (((w.alloc (.cells #[.string name, .int .i64 kind, .int .i64 align, .slice A3 bytes.length c3, .int .i64 size, .slice A5 fixups.length c5] 96)).alloc (.cells #[.string ⟨#[]⟩, .int .i64 0, .int .i64 0, .slice none 0 0, .int .i64 0, .slice none 0 0] 80)).alloc (.cells #[.string name, .int .i64 kind, .int .i64 align, .slice none 0 0, .int .i64 0, .slice none 0 0] 80)).heap.size := by simp
  have K1' := Lib.hid (blk_only K1.out hon.out (Or.inl (by omega)))
  have K2' := Lib.hid (blk_only K2.out hon.out (Or.inl (by omega)))
  have K3' : Hid (Blk w1 (w.heap.size + 1 + 1) 80 #[.string name, .int .i64 kind, .int .i64 align, .slice none 0 0, .int .i64 0, .slice none 0 0]) := by
    have h := K3.out.below s3 (by rw [szq]; exact K3.out.lt)
    simpa [Hid] using h
  have O3 := Lib.hid (own_base (base' := w.heap.size + 3) o3 (by rw [szq]; exact ZZ.out))
  have BB' := Lib.hid (below_only BB.out hon.out (by omega) BB.out.size)
  have ZZ' := Lib.hid (Nat.le_trans ZZ.out hon.out.size)
  clear K1 K2 K3 BB ZZ hon szq o3 s3 
  have K1 := K1'; have K2 := K2'; have K3 := K3'; have BB := BB'; have ZZ := ZZ'
  clear K1' K2' K3' BB' ZZ'
  have e14 : w1.cell? ⟨w.heap.size, 4, none⟩ = some (.int .i64 size) := K1.out.cell 4
  have e15 : w1.cell? ⟨w.heap.size, 5, none⟩ = some (.slice A5 fixups.length c5) := K1.out.cell 5
  have f10 : w1.frozen? ⟨w.heap.size + 1 + 1, 0, none⟩ = false := K3.out.frozen 0
  have g10 : w1.cell? ⟨w.heap.size + 1 + 1, 0, none⟩ = some (.string name) := K3.out.cell 0
  have f11 : w1.frozen? ⟨w.heap.size + 1 + 1, 1, none⟩ = false := K3.out.frozen 1
  have g11 : w1.cell? ⟨w.heap.size + 1 + 1, 1, none⟩ = some (.int .i64 kind) := K3.out.cell 1
  have f12 : w1.frozen? ⟨w.heap.size + 1 + 1, 2, none⟩ = false := K3.out.frozen 2
  have g12 : w1.cell? ⟨w.heap.size + 1 + 1, 2, none⟩ = some (.int .i64 align) := K3.out.cell 2
  have f13 : w1.frozen? ⟨w.heap.size + 1 + 1, 3, none⟩ = false := K3.out.frozen 3
  have g13 : w1.cell? ⟨w.heap.size + 1 + 1, 3, none⟩ = some (.slice none 0 0) := K3.out.cell 3
  have f14 : w1.frozen? ⟨w.heap.size + 1 + 1, 4, none⟩ = false := K3.out.frozen 4
  have g14 : w1.cell? ⟨w.heap.size + 1 + 1, 4, none⟩ = some (.int .i64 0) := K3.out.cell 4
  have f15 : w1.frozen? ⟨w.heap.size + 1 + 1, 5, none⟩ = false := K3.out.frozen 5
  have g15 : w1.cell? ⟨w.heap.size + 1 + 1, 5, none⟩ = some (.slice none 0 0) := K3.out.cell 5
  go_wp2_with fail
  refine (toFixupS_any _ _ _ fixups _ (((H5.out.below BB.out).setCell (by simp; omega) _).setCell (by simp; omega) _) (by have := ZZ.out; first | omega | (simp at this ⊢; omega) | (simp at this; omega) | (simp; omega)) hm5).mono ?_
  rintro e w2 ⟨X5, d5, rfl, o5, s5⟩
  have hon : Hid (Only (w.heap.size + 2) (w.heap.size + 3) w1 w2) := (((Only.refl (w.heap.size + 2) (w.heap.size + 3) w1).set_ (p := ⟨w.heap.size + 1 + 1, 3, none⟩) (.slice X3 bytes.length d3) (by simp) (by simp)).set_ (p := ⟨w.heap.size + 1 + 1, 4, none⟩) (.int .i64 size) (by simp) (by simp)).trans (Only.of_below s5)
  have szq : ((w1.setCell ⟨w.heap.size + 1 + 1, 3, none⟩ (.slice X3 bytes.length d3)).setCell ⟨w.heap.size + 1 + 1, 4, none⟩ (.int .i64 size)).heap.size = w1.heap.size := by simp
  have K1' := Lib.hid (blk_only K1.out hon.out (Or.inl (by omega)))
  have K2' := Lib.hid (blk_only K2.out hon.out (Or.inl (by omega)))
  have K3' : Hid (Blk w2 (w.heap.size + 1 + 1) 80 #[.string name, .int .i64 kind, .int .i64 align, .slice X3 bytes.length d3, .int .i64 size, .slice none 0 0]) := by
    have h := ((K3.out.set_ 3 (.slice X3 bytes.length d3)).set_ 4 (.int .i64 size)).below s5 (by rw [szq]; exact K3.out.lt)
    simpa [Hid] using h
  have q35 := apart_hi O3.out o5 (by rw [szq]; exact Nat.le_refl _)
  have O3' := Lib.hid (own_hi O3.out (Nat.le_refl _) hon.out)
  have O5 := Lib.hid (own_base (base' := w.heap.size + 3) o5 (by rw [szq]; exact ZZ.out))
  have BB' := Lib.hid (below_only BB.out hon.out (by omega) BB.out.size)
  have ZZ' := Lib.hid (Nat.le_trans ZZ.out hon.out.size)
  clear K1 K2 K3 BB ZZ hon szq o5 s5 O3
  have K1 := K1'; have K2 := K2'; have K3 := K3'; have BB := BB'; have ZZ := ZZ'; have O3 := O3'
  clear K1' K2' K3' BB' ZZ' O3'
  have f20 : w2.frozen? ⟨w.heap.size + 1 + 1, 0, none⟩ = false := K3.out.frozen 0
  have g20 : w2.cell? ⟨w.heap.size + 1 + 1, 0, none⟩ = some (.string name) := K3.out.cell 0
  have f21 : w2.frozen? ⟨w.heap.size + 1 + 1, 1, none⟩ = false := K3.out.frozen 1
  have g21 : w2.cell? ⟨w.heap.size + 1 + 1, 1, none⟩ = some (.int .i64 kind) := K3.out.cell 1
  have f22 : w2.frozen? ⟨w.heap.size + 1 + 1, 2, none⟩ = false := K3.out.frozen 2
  have g22 : w2.cell? ⟨w.heap.size + 1 + 1, 2, none⟩ = some (.int .i64 align) := K3.out.cell 2
  have f23 : w2.frozen? ⟨w.heap.size + 1 + 1, 3, none⟩ = false := K3.out.frozen 3
  have g23 : w2.cell? ⟨w.heap.size + 1 + 1, 3, none⟩ = some (.slice X3 bytes.length d3) := K3.out.cell 3
  have f24 : w2.frozen? ⟨w.heap.size + 1 + 1, 4, none⟩ = false := K3.out.frozen 4
  have g24 : w2.cell? ⟨w.heap.size + 1 + 1, 4, none⟩ = some (.int .i64 size) := K3.out.cell 4
  have f25 : w2.frozen? ⟨w.heap.size + 1 + 1, 5, none⟩ = false := K3.out.frozen 5
  have g25 : w2.cell? ⟨w.heap.size + 1 + 1, 5, none⟩ = some (.slice none 0 0) := K3.out.cell 5
  have p20 : w2.frozen? ⟨w.heap.size + 1, 0, none⟩ = false := K2.out.frozen 0
  have r20 : w2.cell? ⟨w.heap.size + 1, 0, none⟩ = some (.string ⟨#[]⟩) := K2.out.cell 0
  have p21 : w2.frozen? ⟨w.heap.size + 1, 1, none⟩ = false := K2.out.frozen 1
  have r21 : w2.cell? ⟨w.heap.size + 1, 1, none⟩ = some (.int .i64 0) := K2.out.cell 1
  have p22 : w2.frozen? ⟨w.heap.size + 1, 2, none⟩ = false := K2.out.frozen 2
  have r22 : w2.cell? ⟨w.heap.size + 1, 2, none⟩ = some (.int .i64 0) := K2.out.cell 2
  have p23 : w2.frozen? ⟨w.heap.size + 1, 3, none⟩ = false := K2.out.frozen 3
  have r23 : w2.cell? ⟨w.heap.size + 1, 3, none⟩ = some (.slice none 0 0) := K2.out.cell 3
  have p24 : w2.frozen? ⟨w.heap.size + 1, 4, none⟩ = false := K2.out.frozen 4
  have r24 : w2.cell? ⟨w.heap.size + 1, 4, none⟩ = some (.int .i64 0) := K2.out.cell 4
  have p25 : w2.frozen? ⟨w.heap.size + 1, 5, none⟩ = false := K2.out.frozen 5
  have r25 : w2.cell? ⟨w.heap.size + 1, 5, none⟩ = some (.slice none 0 0) := K2.out.cell 5
  have ON := Lib.hid (((((((((Only.refl (w.heap.size + 1) (w.heap.size + 3) w2).set_ (p := ⟨w.heap.size + 1 + 1, 5, none⟩) (.slice X5 fixups.length d5) (by simp) (by simp)).set_ (p := ⟨w.heap.size + 1, 0, none⟩) (.string name) (by simp) (by simp)).set_ (p := ⟨w.heap.size + 1, 1, none⟩) (.int .i64 kind) (by simp) (by simp)).set_ (p := ⟨w.heap.size + 1, 2, none⟩) (.int .i64 align) (by simp) (by simp)).set_ (p := ⟨w.heap.size + 1, 3, none⟩) (.slice X3 bytes.length d3) (by simp) (by simp)).set_ (p := ⟨w.heap.size + 1, 4, none⟩) (.int .i64 size) (by simp) (by simp)).set_ (p := ⟨w.heap.size + 1, 5, none⟩) (.slice X5 fixups.length d5) (by simp) (by simp)))
  go_wp2
  have KF0 := (K2.out.far (p := ⟨w.heap.size + 1 + 1, 5, none⟩) (by simp) (.slice X5 fixups.length d5))
  have KF1 : Blk ((w2.setCell ⟨w.heap.size + 1 + 1, 5, none⟩ (.slice X5 fixups.length d5)).setCell ⟨w.heap.size + 1, 0, none⟩ (.string name)) (w.heap.size + 1) 80 #[.string name, .int .i64 0, .int .i64 0, .slice none 0 0, .int .i64 0, .slice none 0 0] := by
    have h := KF0.set_ 0 (.string name)
    simpa using h
  have y0 : ((w2.setCell ⟨w.heap.size + 1 + 1, 5, none⟩ (.slice X5 fixups.length d5)).setCell ⟨w.heap.size + 1, 0, none⟩ (.string name)).cell? ⟨w.heap.size + 1, 0, none⟩ = some (.string name) := KF1.cell 0
  have KF2 : Blk (((w2.setCell ⟨w.heap.size + 1 + 1, 5, none⟩ (.slice X5 fixups.length d5)).setCell ⟨w.heap.size + 1, 0, none⟩ (.string name)).setCell ⟨w.heap.size + 1, 1, none⟩ (.int .i64 kind)) (w.heap.size + 1) 80 #[.string name, .int .i64 kind, .int .i64 0, .slice none 0 0, .int .i64 0, .slice none 0 0] := by
    have h := KF1.set_ 1 (.int .i64 kind)
    simpa using h
  have y1 : (((w2.setCell ⟨w.heap.size + 1 + 1, 5, none⟩ (.slice X5 fixups.length d5)).setCell ⟨w.heap.size + 1, 0, none⟩ (.string name)).setCell ⟨w.heap.size + 1, 1, none⟩ (.int .i64 kind)).cell? ⟨w.heap.size + 1, 1, none⟩ = some (.int .i64 kind) := KF2.cell 1
  have KF3 : Blk ((((w2.setCell ⟨w.heap.size + 1 + 1, 5, none⟩ (.slice X5 fixups.length d5)).setCell ⟨w.heap.size + 1, 0, none⟩ (.string name)).setCell ⟨w.heap.size + 1, 1, none⟩ (.int .i64 kind)).setCell ⟨w.heap.size + 1, 2, none⟩ (.int .i64 align)) (w.heap.size + 1) 80 #[.string name, .int .i64 kind, .int .i64 align, .slice none 0 0, .int .i64 0, .slice none 0 0] := by
    have h := KF2.set_ 2 (.int .i64 align)
    simpa using h
  have y2 : ((((w2.setCell ⟨w.heap.size + 1 + 1, 5, none⟩ (.slice X5 fixups.length d5)).setCell ⟨w.heap.size + 1, 0, none⟩ (.string name)).setCell ⟨w.heap.size + 1, 1, none⟩ (.int .i64 kind)).setCell ⟨w.heap.size + 1, 2, none⟩ (.int .i64 align)).cell? ⟨w.heap.size + 1, 2, none⟩ = some (.int .i64 align) := KF3.cell 2
  have KF4 : Blk (((((w2.setCell ⟨w.heap.size + 1 + 1, 5, none⟩ (.slice X5 fixups.length d5)).setCell ⟨w.heap.size + 1, 0, none⟩ (.string name)).setCell ⟨w.heap.size + 1, 1, none⟩ (.int .i64 kind)).setCell ⟨w.heap.size + 1, 2, none⟩ (.int .i64 align)).setCell ⟨w.heap.size + 1, 3, none⟩ (.slice X3 bytes.length d3)) (w.heap.size + 1) 80 #[.string name, .int .i64 kind, .int .i64 align, .slice X3 bytes.length d3, .int .i64 0, .slice none 0 0] := by
    have h := KF3.set_ 3 (.slice X3 bytes.length d3)
    simpa using h
  have y3 : (((((w2.setCell ⟨w.heap.size + 1 + 1, 5, none⟩ (.slice X5 fixups.length d5)).setCell ⟨w.heap.size + 1, 0, none⟩ (.string name)).setCell ⟨w.heap.size + 1, 1, none⟩ (.int .i64 kind)).setCell ⟨w.heap.size + 1, 2, none⟩ (.int .i64 align)).setCell ⟨w.heap.size + 1, 3, none⟩ (.slice X3 bytes.length d3)).cell? ⟨w.heap.size + 1, 3, none⟩ = some (.slice X3 bytes.length d3) := KF4.cell 3
  have KF5 : Blk ((((((w2.setCell ⟨w.heap.size + 1 + 1, 5, none⟩ (.slice X5 fixups.length d5)).setCell ⟨w.heap.size + 1, 0, none⟩ (.string name)).setCell ⟨w.heap.size + 1, 1, none⟩ (.int .i64 kind)).setCell ⟨w.heap.size + 1, 2, none⟩ (.int .i64 align)).setCell ⟨w.heap.size + 1, 3, none⟩ (.slice X3 bytes.length d3)).setCell ⟨w.heap.size + 1, 4, none⟩ (.int .i64 size)) (w.heap.size + 1) 80 #[.string name, .int .i64 kind, .int .i64 align, .slice X3 bytes.length d3, .int .i64 size, .slice none 0 0] := by
    have h := KF4.set_ 4 (.int .i64 size)
    simpa using h
  have y4 : ((((((w2.setCell ⟨w.heap.size + 1 + 1, 5, none⟩ (.slice X5 fixups.length d5)).setCell ⟨w.heap.size + 1, 0, none⟩ (.string name)).setCell ⟨w.heap.size + 1, 1, none⟩ (.int .i64 kind)).setCell ⟨w.heap.size + 1, 2, none⟩ (.int .i64 align)).setCell ⟨w.heap.size + 1, 3, none⟩ (.slice X3 bytes.length d3)).setCell ⟨w.heap.size + 1, 4, none⟩ (.int .i64 size)).cell? ⟨w.heap.size + 1, 4, none⟩ = some (.int .i64 size) := KF5.cell 4
  have KF6 : Blk (((((((w2.setCell ⟨w.heap.size + 1 + 1, 5, none⟩ (.slice X5 fixups.length d5)).setCell ⟨w.heap.size + 1, 0, none⟩ (.string name)).setCell ⟨w.heap.size + 1, 1, none⟩ (.int .i64 kind)).setCell ⟨w.heap.size + 1, 2, none⟩ (.int .i64 align)).setCell ⟨w.heap.size + 1, 3, none⟩ (.slice X3 bytes.length d3)).setCell ⟨w.heap.size + 1, 4, none⟩ (.int .i64 size)).setCell ⟨w.heap.size + 1, 5, none⟩ (.slice X5 fixups.length d5)) (w.heap.size + 1) 80 #[.string name, .int .i64 kind, .int .i64 align, .slice X3 bytes.length d3, .int .i64 size, .slice X5 fixups.length d5] := by
    have h := KF5.set_ 5 (.slice X5 fixups.length d5)
    simpa using h
  have y5 : (((((((w2.setCell ⟨w.heap.size + 1 + 1, 5, none⟩ (.slice X5 fixups.length d5)).setCell ⟨w.heap.size + 1, 0, none⟩ (.string name)).setCell ⟨w.heap.size + 1, 1, none⟩ (.int .i64 kind)).setCell ⟨w.heap.size + 1, 2, none⟩ (.int .i64 align)).setCell ⟨w.heap.size + 1, 3, none⟩ (.slice X3 bytes.length d3)).setCell ⟨w.heap.size + 1, 4, none⟩ (.int .i64 size)).setCell ⟨w.heap.size + 1, 5, none⟩ (.slice X5 fixups.length d5)).cell? ⟨w.heap.size + 1, 5, none⟩ = some (.slice X5 fixups.length d5) := KF6.cell 5
  clear KF0 KF1 KF2 KF3 KF4 KF5 KF6
  try simp only [Exit.inBlock, Exit.then]
  refine bodyPost_ret (v := .agg #[.string name, .int .i64 kind, .int .i64 align, .slice X3 bytes.length d3, .int .i64 size, .slice X5 fixups.length d5]) (by simp [results, Try.results71, go_sem, y0, y1, y2, y3, y4, y5]) rfl ?_
  refine ⟨X3, d3, X5, d5, rfl, below_only BB.out ON.out (by omega) BB.out.size, own_base (own_only O3.out ON.out (fun a ha => Or.inr (own_up O3.out a ha).1)) (by omega), own_base (own_only O5.out ON.out (fun a ha => Or.inr (own_up O5.out a ha).1)) (by omega), q35⟩

theorem toSec_any {B : Nat} (x : Sec) (w : World) (h : x.In w B) (hB : B ≤ w.heap.size) (hs : x.small) :
    Calls Try.prog 71 #[x.val] w fun e w' => ∃ y : Sec, e = .returned y.val ∧ y.v = x.v ∧ y.Own w' w.heap.size ∧ Below w.heap.size w w' := by
  obtain ⟨h3, h5⟩ := h
  obtain ⟨z0, z3, z5⟩ := hs
  refine (toSection_any (c3 := x.bytesc) (c5 := x.fixupsc) x.name x.kind x.align x.bytes x.size x.fixups w h3 hB (by omega) h5 hB (by omega)).mono ?_
  rintro e w' ⟨X3, d3, X5, d5, rfl, hb, o3, o5, _q35⟩
  exact ⟨⟨x.name, x.kind, x.align, x.bytes, X3, d3, x.size, x.fixups, X5, d5⟩, rfl, rfl, ⟨o3, o5⟩, hb⟩

theorem toSectionS_info : (Try.prog.info? 80).map (fun i => (i.zero, i.size, i.bytes)) = some (some (.agg #[Value.string ByteArray.empty, Value.int .i64 0, Value.int .i64 0, Value.slice none 0 0, Value.int .i64 0, Value.slice none 0 0]), 6, 88) := by kernel_rfl
set_option maxRecDepth 100000 in
set_option maxHeartbeats 4000000 in
theorem toSectionS_any {A1 : Option Addr} {c1 B1 : Nat} (xs : List Sec) (w : World) (h1 : SecAt w B1 A1 xs) (hB : B1 ≤ w.heap.size) (hm : xs.length ≤ 1048576) (hs : ∀ x ∈ xs, x.small) :
    Calls Try.prog 43 #[.slice A1 xs.length c1] w fun e w' => ∃ (c : Nat) (ds : List Sec), e = .returned (.slice (some ⟨w.heap.size, 0, none⟩) ds.length c) ∧ ds.map Sec.v = xs.map Sec.v ∧ SecsOwn w' w.heap.size w'.heap.size w.heap.size c ds ∧ Below w.heap.size w w' := by
  obtain ⟨i0, hi0, hz0, hz1, hz2⟩ := info_parts toSectionS_info
  obtain ⟨w1, hmk, hown, hgr⟩ := run_make_full (P := Try.prog) w w.heap.size 44 80 i0 _ 6 Try.underlying44 hi0 hz0 hz1 .i64 .i64 xs.length (by rw [hz2]; omega) (by unfold maxLen; omega) (Nat.le_refl _)
  have hb1 : Below w.heap.size w w1 := (Below.refl _ _).grown hgr (Nat.le_refl _) (by simp)
  have hlen : xs.length ≤ 9223372036854775807 := by omega
  have hsz := hown.lt _ rfl
  have HS := Lib.hid hs
  have H1 := Lib.hid (h1.more hB)
  clear hs h1
  obtain ⟨ys, hys⟩ : ∃ ys, ys = (madeCells (Value.agg #[Value.string ByteArray.empty, Value.int .i64 0, Value.int .i64 0, Value.slice none 0 0, Value.int .i64 0, Value.slice none 0 0]).cells (xs.length * 6)).toList := ⟨_, rfl⟩
  have hyl : ys.length = xs.length * 6 := by rw [hys]; simp [size_madeCells]
  rw [← hys] at hown
  clear hys
  go_enter Try.func43, Try.ntmps43
  go_wp2
  clear hmk
  go_loopw [4] (fun i wr => ∃ (k : Nat) (ds : List Sec), k ≤ xs.length ∧ i = .int .i64 k ∧ Below w.heap.size w wr ∧ w.heap.size < wr.heap.size ∧ Hid (ds.length = k ∧ ds.map Sec.v = (xs.take k).map Sec.v) ∧ wr.ownsRow w.heap.size 80 6 (.slice (some ⟨w.heap.size, 0, none⟩) xs.length xs.length) xs.length (ds.flatMap Sec.cells ++ ys.drop (ds.flatMap Sec.cells).length) ∧ Hid (∀ d ∈ ds, d.Own wr (w.heap.size + 1))) (fun i _ => xs.length - (intOf i).toNat)
  case atStart => exact ⟨0, [], Nat.zero_le _, rfl, hb1, hsz.2, Lib.hid ⟨rfl, rfl⟩, by simpa using hown, Lib.hid (by simp)⟩
  case round =>
    obtain ⟨k, ds, hk, rfl, hb, hws, HD, ho, HO⟩ := hrel
    clear hown hb1 hgr hsz
    by_cases hlt : k < xs.length
    · obtain ⟨b, off, rfl, hbl, e0, e1, e2, e3, e4, e5⟩ := Sec.at_ ((H1.out.below hb).1) hlt
      have HI := Lib.hid ((H1.out.2 _ (List.getElem_mem hlt)).below hb)
      have HT := Lib.hid (HS.out _ (List.getElem_mem hlt))
      have hbz := hb.size
      go_wp2_with fail
      refine (toSec_any xs[k] _ HI.out hbz HT.out).mono ?_
      rintro e w2 ⟨y, rfl, hyv, hyo, hb2⟩
      have HY := Lib.hid hyv
      have HYO := Lib.hid (hyo.base (show w.heap.size + 1 ≤ wr.heap.size from hws))
      have HO2 : Hid (∀ d ∈ ds, d.Own w2 (w.heap.size + 1)) := fun d hd => (HO.out d hd).below hb2
      simp only [Sec.val]
      have ho2 := own_below ho hb2
      have hpl : (ds.flatMap Sec.cells).length = k * 6 := by rw [flat_len _ 6 Sec.cells_len, HD.out.1]
      clear hyv hyo HO ho HI
      obtain ⟨o0, g0, z0, v0, q0⟩ := own_fill ho2 (u := Value.string y.name) (by rw [hpl]; omega)
      have r0 : (ds.flatMap Sec.cells ++ [Value.string y.name]).length = k * 6 + 1 := by rw [List.length_append, hpl]; rfl
      rw [hpl] at o0 g0 z0 q0
      have o0c := o0
      rw [← r0] at o0c
      obtain ⟨o1, g1, z1, v1, q1⟩ := own_fill o0c (u := Value.int .i64 y.kind) (by rw [r0]; omega)
      have r1 : (ds.flatMap Sec.cells ++ [Value.string y.name, Value.int .i64 y.kind]).length = k * 6 + 2 := by rw [List.length_append, hpl]; rfl
      rw [r0] at o1 g1 z1 q1
      rw [show ds.flatMap Sec.cells ++ [Value.string y.name] ++ [Value.int .i64 y.kind] = ds.flatMap Sec.cells ++ [Value.string y.name, Value.int .i64 y.kind] from by simp] at o1
      have o1c := o1
      rw [← r1] at o1c
      obtain ⟨o2, g2, z2, v2, q2⟩ := own_fill o1c (u := Value.int .i64 y.align) (by rw [r1]; omega)
      have r2 : (ds.flatMap Sec.cells ++ [Value.string y.name, Value.int .i64 y.kind, Value.int .i64 y.align]).length = k * 6 + 3 := by rw [List.length_append, hpl]; rfl
      rw [r1] at o2 g2 z2 q2
      rw [show ds.flatMap Sec.cells ++ [Value.string y.name, Value.int .i64 y.kind] ++ [Value.int .i64 y.align] = ds.flatMap Sec.cells ++ [Value.string y.name, Value.int .i64 y.kind, Value.int .i64 y.align] from by simp] at o2
      have o2c := o2
      rw [← r2] at o2c
      obtain ⟨o3, g3, z3, v3, q3⟩ := own_fill o2c (u := Value.slice y.bytesA y.bytes.length y.bytesc) (by rw [r2]; omega)
      have r3 : (ds.flatMap Sec.cells ++ [Value.string y.name, Value.int .i64 y.kind, Value.int .i64 y.align, Value.slice y.bytesA y.bytes.length y.bytesc]).length = k * 6 + 4 := by rw [List.length_append, hpl]; rfl
      rw [r2] at o3 g3 z3 q3
      rw [show ds.flatMap Sec.cells ++ [Value.string y.name, Value.int .i64 y.kind, Value.int .i64 y.align] ++ [Value.slice y.bytesA y.bytes.length y.bytesc] = ds.flatMap Sec.cells ++ [Value.string y.name, Value.int .i64 y.kind, Value.int .i64 y.align, Value.slice y.bytesA y.bytes.length y.bytesc] from by simp] at o3
      have o3c := o3
      rw [← r3] at o3c
      obtain ⟨o4, g4, z4, v4, q4⟩ := own_fill o3c (u := Value.int .i64 y.size) (by rw [r3]; omega)
      have r4 : (ds.flatMap Sec.cells ++ [Value.string y.name, Value.int .i64 y.kind, Value.int .i64 y.align, Value.slice y.bytesA y.bytes.length y.bytesc, Value.int .i64 y.size]).length = k * 6 + 5 := by rw [List.length_append, hpl]; rfl
      rw [r3] at o4 g4 z4 q4
      rw [show ds.flatMap Sec.cells ++ [Value.string y.name, Value.int .i64 y.kind, Value.int .i64 y.align, Value.slice y.bytesA y.bytes.length y.bytesc] ++ [Value.int .i64 y.size] = ds.flatMap Sec.cells ++ [Value.string y.name, Value.int .i64 y.kind, Value.int .i64 y.align, Value.slice y.bytesA y.bytes.length y.bytesc, Value.int .i64 y.size] from by simp] at o4
      have o4c := o4
      rw [← r4] at o4c
      obtain ⟨o5, g5, z5, v5, q5⟩ := own_fill o4c (u := Value.slice y.fixupsA y.fixups.length y.fixupsc) (by rw [r4]; omega)
      have r5 : (ds.flatMap Sec.cells ++ [Value.string y.name, Value.int .i64 y.kind, Value.int .i64 y.align, Value.slice y.bytesA y.bytes.length y.bytesc, Value.int .i64 y.size, Value.slice y.fixupsA y.fixups.length y.fixupsc]).length = k * 6 + 6 := by rw [List.length_append, hpl]; rfl
      rw [r4] at o5 g5 z5 q5
      rw [show ds.flatMap Sec.cells ++ [Value.string y.name, Value.int .i64 y.kind, Value.int .i64 y.align, Value.slice y.bytesA y.bytes.length y.bytesc, Value.int .i64 y.size] ++ [Value.slice y.fixupsA y.fixups.length y.fixupsc] = ds.flatMap Sec.cells ++ [Value.string y.name, Value.int .i64 y.kind, Value.int .i64 y.align, Value.slice y.bytesA y.bytes.length y.bytesc, Value.int .i64 y.size, Value.slice y.fixupsA y.fixups.length y.fixupsc] from by simp] at o5
      have O := Lib.hid o5
      have HG := Lib.hid (((((g0.trans g1).trans g2).trans g3).trans g4).trans g5)
      have hb2z := hb2.size
      clear o0 g0 r0 o1 g1 r1 o2 g2 r2 o3 g3 r3 o4 g4 r4 o5 g5 r5 o0c o1c o2c o3c o4c ho2 hpl hyl
      go_wp2
      go_roundw
      case rel =>
        have hyl : ys.length = ys.length := rfl
        have hd1 := HD.out.1
        have hd2 := HD.out.2
        have HG' := HG.out
        refine ⟨k + 1, ds ++ [y], by omega, by go_num, (hb.trans (hb2.mono hb.size)).grown HG' (Nat.le_trans hb.size hb2.size) (by simp), by have h1 := HG'.size; omega, Lib.hid ⟨by simp; omega, ?_⟩, ?_, Lib.hid ?_⟩
        · rw [List.take_succ_eq_append_getElem hlt, List.map_append, List.map_append, hd2]
          simp [HY.out]
        · have e1 : (ds ++ [y]).flatMap Sec.cells = ds.flatMap Sec.cells ++ [Value.string y.name, Value.int .i64 y.kind, Value.int .i64 y.align, Value.slice y.bytesA y.bytes.length y.bytesc, Value.int .i64 y.size, Value.slice y.fixupsA y.fixups.length y.fixupsc] := by simp [Sec.cells]
          have e2 : ((ds ++ [y]).flatMap Sec.cells).length = k * 6 + 6 := by rw [flat_len _ 6 Sec.cells_len]; simp; omega
          rw [e2, e1]
          exact O.out
        · intro d hd
          rcases List.mem_append.1 hd with hd | hd
          · exact (HO2.out d hd).other HG' (Nat.lt_succ_self _)
          · rw [List.mem_singleton.1 hd]
            exact HYO.out.other HG' (Nat.lt_succ_self _)
      case measure => simp [intOf]; omega
    · obtain rfl : k = xs.length := by omega
      go_wp2
      go_ret
      obtain ⟨hd1, hd2⟩ := HD.out
      have hdr : ys.drop (ds.flatMap Sec.cells).length = [] := List.drop_eq_nil_of_le (by rw [flat_len _ 6 Sec.cells_len, hyl, hd1]; exact Nat.le_refl _)
      rw [hdr, List.append_nil, ← hd1] at ho
      refine ⟨xs.length, ds, by rw [hd1] <;> rfl, by rw [hd2, List.take_of_length_le (Nat.le_refl _)], ⟨Nat.le_refl _, ?_, hws, Nat.le_refl _, fun d hd => ⟨HO.out d hd, ?_, ?_⟩⟩, hb⟩
      · rw [hd1] at ho ⊢
        exact ho
      · exact fun a ha => (own_up (HO.out d hd).1 a ha).2
      · exact fun a ha => (own_up (HO.out d hd).2 a ha).2
end Go.Proofs.Ytdaamgonendkkaa
