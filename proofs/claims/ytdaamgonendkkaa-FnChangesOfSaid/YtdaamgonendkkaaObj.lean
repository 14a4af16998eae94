/- Objects: their words; contracts of the laws' copying function on them. No condition but the sizes. -/
import Derived.Test.YtdaamgonendkkaaRows
import Derived.Test.YtdaamgonendkkaaBase
import Derived.Test.YtdaamgonendkkaaBase2
import Derived.Test.YtdaamgonendkkaaOnly
import Derived.Test.YtdaamgonendkkaaByteS
import Derived.Test.YtdaamgonendkkaaFix
import Derived.Test.YtdaamgonendkkaaSzF
import Derived.Test.YtdaamgonendkkaaSec
import Derived.Test.YtdaamgonendkkaaSecM
import Derived.Test.YtdaamgonendkkaaSym
import Derived.WalkKit
import Derived.WalkSpells
import Derived.WalkLawsBesides
import Derived.Handy
import Derived.BigQuiet
import Derived.Deep.RegionHeld3
import Derived.Deep.DrawnRows
import Derived.Deep.QuietTactic
namespace Go.Proofs.Ytdaamgonendkkaa
open Go Go.RowKit

structure Obj where
  secs : List Sec
  sA : Option Addr
  sc : Nat
  syms : List Sym
  yA : Option Addr
  yc : Nat
abbrev SecV := ByteArray × Int × Int × List Int × Int × List Fix
abbrev ObjV := List SecV × List Sym
def Obj.val (x : Obj) : Value := .agg #[.slice x.sA x.secs.length x.sc, .slice x.yA x.syms.length x.yc]
def Obj.v (x : Obj) : ObjV := (x.secs.map Sec.v, x.syms)
theorem Obj.v_eq {x y : Obj} (h : x.v = y.v) : x.secs.map Sec.v = y.secs.map Sec.v ∧ x.syms = y.syms := by
  unfold Obj.v at h
  simpa only [Prod.mk.injEq] using h
def Obj.At (w : World) (B : Nat) (x : Obj) : Prop := SecAt w B x.sA x.secs ∧ Reads w B 4 x.yA x.syms.length (x.syms.flatMap Sym.cells)
theorem Obj.At.below {w w' : World} {B : Nat} {x : Obj} (h : x.At w B) (hb : Below B w w') : x.At w' B := ⟨h.1.below hb, h.2.below hb⟩
theorem Obj.At.more {w : World} {B B' : Nat} {x : Obj} (h : x.At w B) (hb : B ≤ B') : x.At w B' := ⟨h.1.more hb, h.2.more hb⟩
def Obj.small (x : Obj) : Prop := x.secs.length ≤ 1048576 ∧ (∀ s ∈ x.secs, s.small) ∧ x.syms.length ≤ 1048576 ∧ ∀ s ∈ x.syms, s.name.size ≤ 1048576
theorem SecsOwn.only {w w' : World} {lo hi g c l h : Nat} {ls : List Sec} (q : SecsOwn w lo hi g c ls) (ho : Only l h w w') (hh : h ≤ lo) : SecsOwn w' lo hi g c ls := by
  obtain ⟨h1, h2, h3, h4, h5⟩ := q
  refine ⟨h1, own_only h2 ho (fun a ha => Or.inr (Nat.le_trans hh (own_up h2 a ha).1)), h3, Nat.le_trans h4 ho.size, fun x hx => ?_⟩
  obtain ⟨⟨a1, a2⟩, hu⟩ := h5 x hx
  exact ⟨⟨own_only a1 ho (fun a ha => Or.inr (by have := (own_up a1 a ha).1; omega)), own_only a2 ho (fun a ha => Or.inr (by have := (own_up a2 a ha).1; omega))⟩, hu⟩
theorem SecsOwn.base {w : World} {lo lo' hi g c : Nat} {ls : List Sec} (q : SecsOwn w lo hi g c ls) (h : lo' ≤ lo) : SecsOwn w lo' hi g c ls := by
  obtain ⟨h1, h2, h3, h4, h5⟩ := q
  exact ⟨by omega, own_base h2 h, h3, h4, h5⟩
/-- An object in memory of the call's own, between lo and hi. -/
def Obj.Own (w : World) (lo hi : Nat) (x : Obj) : Prop := ∃ g m, x.sA = some ⟨g, 0, none⟩ ∧ SecsOwn w lo m g x.sc x.secs ∧ w.ownsRow m 55 4 (.slice x.yA x.syms.length x.yc) x.syms.length (x.syms.flatMap Sym.cells) ∧ (∀ a, x.yA = some a → a.block < hi) ∧ m ≤ hi ∧ hi ≤ w.heap.size
theorem Obj.Own.at_ {w : World} {lo hi : Nat} {x : Obj} (h : x.Own w lo hi) : x.At w w.heap.size := by
  obtain ⟨g, m, e, h1, h2, _⟩ := h
  exact ⟨by rw [e]; exact h1.at_, Reads.of_own h2⟩
theorem Obj.Own.below {w w' : World} {lo hi : Nat} {x : Obj} (h : x.Own w lo hi) (hb : Below w.heap.size w w') : x.Own w' lo hi := by
  obtain ⟨g, m, e, h1, h2, h3, h4, h5⟩ := h
  exact ⟨g, m, e, h1.below hb, own_below h2 hb, h3, h4, Nat.le_trans h5 hb.size⟩
set_option maxRecDepth 100000 in
set_option maxHeartbeats 4000000 in
theorem toObject_any {A0 A1 : Option Addr} {c0 c1 B : Nat} (secs : List Sec) (syms : List Sym) (w : World) (h0 : SecAt w B A0 secs) (h1 : Reads w B 4 A1 syms.length (syms.flatMap Sym.cells)) (hB : B ≤ w.heap.size) (hm0 : secs.length ≤ 1048576) (hs0 : ∀ s ∈ secs, s.small) (hm1 : syms.length ≤ 1048576) :
    Calls Try.prog 23 #[.agg #[.slice A0 secs.length c0, .slice A1 syms.length c1]] w fun e w' => ∃ y : Obj, e = .returned y.val ∧ y.v = (secs.map Sec.v, syms) ∧ y.Own w' w.heap.size w'.heap.size ∧ Below w.heap.size w w' := by
  have H0 := Lib.hid (h0.more hB)
  have H1 := Lib.hid (h1.more hB)
  have HS := Lib.hid hs0
  clear h0 h1 hs0
  have K1 := Lib.hid (blk_new1 w 41 #[.slice A0 secs.length c0, .slice A1 syms.length c1] (.cells #[.slice none 0 0, .slice none 0 0] 47) (.cells #[.slice none 0 0, .slice none 0 0] 47))
  have K2 := Lib.hid (blk_new2 w 47 #[.slice none 0 0, .slice none 0 0] (.cells #[.slice A0 secs.length c0, .slice A1 syms.length c1] 41) (.cells #[.slice none 0 0, .slice none 0 0] 47))
  have K3 := Lib.hid (blk_new3 w 47 #[.slice none 0 0, .slice none 0 0] (.cells #[.slice A0 secs.length c0, .slice A1 syms.length c1] 41) (.cells #[.slice none 0 0, .slice none 0 0] 47))
  have BB := Lib.hid (below_new3 w (.cells #[.slice A0 secs.length c0, .slice A1 syms.length c1] 41) (.cells #[.slice none 0 0, .slice none 0 0] 47) (.cells #[.slice none 0 0, .slice none 0 0] 47))
  have ZZ : Hid (w.heap.size + 3 ≤ (((w.alloc (.cells #[.slice A0 secs.length c0, .slice A1 syms.length c1] 41)).alloc (.cells #[.slice none 0 0, .slice none 0 0] 47)).alloc (.cells #[.slice none 0 0, .slice none 0 0] 47)).heap.size) := by simp [Hid]
  go_enter Try.func23, Try.ntmps23
  go_wp2_with fail
  refine (toSectionS_any secs _ (H0.out.below BB.out) (by have := ZZ.out; first | omega | (simp at this ⊢; omega)) hm0 HS.out).mono ?_
  rintro e w1 ⟨d0, ds, rfl, hv, q, s0⟩
  have hon : Hid (Only (w.heap.size + 2) (w.heap.size + 3) (((w.alloc (.cells #[.slice A0 secs.length c0, .slice A1 syms.length c1] 41)).alloc (.cells #[.slice none 0 0, .slice none 0 0] 47)).alloc (.cells #[.slice none 0 0, .slice none 0 0] 47)) w1) := (Only.refl (w.heap.size + 2) (w.heap.size + 3) (((w.alloc (.cells #[.slice A0 secs.length c0, .slice A1 syms.length c1] 41)).alloc (.cells #[.slice none 0 0, .slice none 0 0] 47)).alloc (.cells #[.slice none 0 0, .slice none 0 0] 47))).trans (Only.of_below s0)
  have K1' := Lib.hid (blk_only K1.out hon.out (Or.inl (by omega)))
  have K2' := Lib.hid (blk_only K2.out hon.out (Or.inl (by omega)))
  have K3' : Hid (Blk w1 (w.heap.size + 1 + 1) 47 #[.slice none 0 0, .slice none 0 0]) := K3.out.below s0 K3.out.lt
  have Q := Lib.hid (q.base ZZ.out)
  have HV := Lib.hid hv
  have BB' := Lib.hid (below_only BB.out hon.out (by omega) BB.out.size)
  have ZZ' := Lib.hid (Nat.le_trans ZZ.out hon.out.size)
  clear K1 K2 K3 BB ZZ hon q hv s0
  have K1 := K1'; have K2 := K2'; have K3 := K3'; have BB := BB'; have ZZ := ZZ'
  clear K1' K2' K3' BB' ZZ'
  obtain ⟨g, hg⟩ : ∃ g, g = (((w.alloc (.cells #[.slice A0 secs.length c0, .slice A1 syms.length c1] 41)).alloc (.cells #[.slice none 0 0, .slice none 0 0] 47)).alloc (.cells #[.slice none 0 0, .slice none 0 0] 47)).heap.size := ⟨_, rfl⟩
  rw [← hg] at Q ⊢
  clear hg
  have e11 : w1.cell? ⟨w.heap.size, 1, none⟩ = some (.slice A1 syms.length c1) := K1.out.cell 1
  have f10 : w1.frozen? ⟨w.heap.size + 1 + 1, 0, none⟩ = false := K3.out.frozen 0
  have g10 : w1.cell? ⟨w.heap.size + 1 + 1, 0, none⟩ = some (.slice none 0 0) := K3.out.cell 0
  have f11 : w1.frozen? ⟨w.heap.size + 1 + 1, 1, none⟩ = false := K3.out.frozen 1
  have g11 : w1.cell? ⟨w.heap.size + 1 + 1, 1, none⟩ = some (.slice none 0 0) := K3.out.cell 1
  go_wp2_with fail
  refine (toSymbolS_any _ _ _ syms _ ((H1.out.below BB.out).setCell (by simp; omega) _) (by have := ZZ.out; first | omega | (simp; omega)) hm1).mono ?_
  rintro e w2 ⟨X1, d1, rfl, o1, s1⟩
  have hon : Hid (Only (w.heap.size + 2) (w.heap.size + 3) w1 w2) := ((Only.refl (w.heap.size + 2) (w.heap.size + 3) w1).set_ (p := ⟨w.heap.size + 1 + 1, 0, none⟩) (.slice (some ⟨g, 0, none⟩) ds.length d0) (by simp) (by simp)).trans (Only.of_below s1)
  have szq : (w1.setCell ⟨w.heap.size + 1 + 1, 0, none⟩ (.slice (some ⟨g, 0, none⟩) ds.length d0)).heap.size = w1.heap.size := by simp
  have K1' := Lib.hid (blk_only K1.out hon.out (Or.inl (by omega)))
  have K2' := Lib.hid (blk_only K2.out hon.out (Or.inl (by omega)))
  have K3' : Hid (Blk w2 (w.heap.size + 1 + 1) 47 #[.slice (some ⟨g, 0, none⟩) ds.length d0, .slice none 0 0]) := by
    have h := (K3.out.set_ 0 (.slice (some ⟨g, 0, none⟩) ds.length d0)).below s1 (by rw [szq]; exact K3.out.lt)
    simpa [Hid] using h
  have Q' := Lib.hid (Q.out.only hon.out (Nat.le_refl _))
  have O1 := Lib.hid (own_base (base' := w1.heap.size) o1 (by rw [szq]; exact Nat.le_refl _))
  have HU := Lib.hid (own_up o1)
  have BB' := Lib.hid (below_only BB.out hon.out (by omega) BB.out.size)
  have ZZ1 := Lib.hid ZZ.out
  have ZZ' := Lib.hid (Nat.le_trans ZZ.out hon.out.size)
  clear K1 K2 K3 BB ZZ hon o1 s1 Q szq
  have K1 := K1'; have K2 := K2'; have K3 := K3'; have BB := BB'; have ZZ := ZZ'; have Q := Q'
  clear K1' K2' K3' BB' ZZ' Q'
  have f20 : w2.frozen? ⟨w.heap.size + 1 + 1, 0, none⟩ = false := K3.out.frozen 0
  have g20 : w2.cell? ⟨w.heap.size + 1 + 1, 0, none⟩ = some (.slice (some ⟨g, 0, none⟩) ds.length d0) := K3.out.cell 0
  have f21 : w2.frozen? ⟨w.heap.size + 1 + 1, 1, none⟩ = false := K3.out.frozen 1
  have g21 : w2.cell? ⟨w.heap.size + 1 + 1, 1, none⟩ = some (.slice none 0 0) := K3.out.cell 1
  have p20 : w2.frozen? ⟨w.heap.size + 1, 0, none⟩ = false := K2.out.frozen 0
  have r20 : w2.cell? ⟨w.heap.size + 1, 0, none⟩ = some (.slice none 0 0) := K2.out.cell 0
  have p21 : w2.frozen? ⟨w.heap.size + 1, 1, none⟩ = false := K2.out.frozen 1
  have r21 : w2.cell? ⟨w.heap.size + 1, 1, none⟩ = some (.slice none 0 0) := K2.out.cell 1
  have ON := Lib.hid ((((Only.refl (w.heap.size + 1) (w.heap.size + 3) w2).set_ (p := ⟨w.heap.size + 1 + 1, 1, none⟩) (.slice X1 syms.length d1) (by simp) (by simp)).set_ (p := ⟨w.heap.size + 1, 0, none⟩) (.slice (some ⟨g, 0, none⟩) ds.length d0) (by simp) (by simp)).set_ (p := ⟨w.heap.size + 1, 1, none⟩) (.slice X1 syms.length d1) (by simp) (by simp))
  go_wp2
  have KF0 := K2.out.far (p := ⟨w.heap.size + 1 + 1, 1, none⟩) (by simp) (.slice X1 syms.length d1)
  have KF1 : Blk ((w2.setCell ⟨w.heap.size + 1 + 1, 1, none⟩ (.slice X1 syms.length d1)).setCell ⟨w.heap.size + 1, 0, none⟩ (.slice (some ⟨g, 0, none⟩) ds.length d0)) (w.heap.size + 1) 47 #[.slice (some ⟨g, 0, none⟩) ds.length d0, .slice none 0 0] := by
    have h := KF0.set_ 0 (.slice (some ⟨g, 0, none⟩) ds.length d0)
    simpa using h
  have y0 : ((w2.setCell ⟨w.heap.size + 1 + 1, 1, none⟩ (.slice X1 syms.length d1)).setCell ⟨w.heap.size + 1, 0, none⟩ (.slice (some ⟨g, 0, none⟩) ds.length d0)).cell? ⟨w.heap.size + 1, 0, none⟩ = some (.slice (some ⟨g, 0, none⟩) ds.length d0) := KF1.cell 0
  have KF2 : Blk (((w2.setCell ⟨w.heap.size + 1 + 1, 1, none⟩ (.slice X1 syms.length d1)).setCell ⟨w.heap.size + 1, 0, none⟩ (.slice (some ⟨g, 0, none⟩) ds.length d0)).setCell ⟨w.heap.size + 1, 1, none⟩ (.slice X1 syms.length d1)) (w.heap.size + 1) 47 #[.slice (some ⟨g, 0, none⟩) ds.length d0, .slice X1 syms.length d1] := by
    have h := KF1.set_ 1 (.slice X1 syms.length d1)
    simpa using h
  have y1 : (((w2.setCell ⟨w.heap.size + 1 + 1, 1, none⟩ (.slice X1 syms.length d1)).setCell ⟨w.heap.size + 1, 0, none⟩ (.slice (some ⟨g, 0, none⟩) ds.length d0)).setCell ⟨w.heap.size + 1, 1, none⟩ (.slice X1 syms.length d1)).cell? ⟨w.heap.size + 1, 1, none⟩ = some (.slice X1 syms.length d1) := KF2.cell 1
  clear KF0 KF1 KF2
  try simp only [Exit.inBlock, Exit.then]
  refine bodyPost_ret (v := .agg #[.slice (some ⟨g, 0, none⟩) ds.length d0, .slice X1 syms.length d1]) (by simp [results, Try.results23, go_sem, y0, y1]) rfl ?_
  refine ⟨⟨ds, some ⟨g, 0, none⟩, d0, syms, X1, d1⟩, rfl, by unfold Obj.v; rw [HV.out], ⟨g, w1.heap.size, rfl, (Q.out.only ON.out (Nat.le_refl _)).base (by omega), own_only O1.out ON.out (fun a ha => Or.inr (by have := (own_up O1.out a ha).1; have := ZZ1.out; omega)), fun a ha => ?_, ?_, Nat.le_refl _⟩, below_only BB.out ON.out (by omega) BB.out.size⟩
  · have h1 := (HU.out a ha).2
    have h2 := ON.out.size
    omega
  · have h1 := ON.out.size
    have h2 := Q.out.2.2.2.1
    omega
theorem toObj_any {B : Nat} (x : Obj) (w : World) (h : x.At w B) (hB : B ≤ w.heap.size) (hs : x.small) :
    Calls Try.prog 23 #[x.val] w fun e w' => ∃ y : Obj, e = .returned y.val ∧ y.v = x.v ∧ y.Own w' w.heap.size w'.heap.size ∧ Below w.heap.size w w' :=
  toObject_any x.secs x.syms w h.1 h.2 hB hs.1 hs.2.1 hs.2.2.1
end Go.Proofs.Ytdaamgonendkkaa
