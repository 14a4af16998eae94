/- Contracts of the laws' functions on Changes: copied, compared, marked, looked at, counted. No condition but the sizes. -/
import Derived.Test.YtdaamgonendkkaaRows
import Derived.Test.YtdaamgonendkkaaBase
import Derived.Test.YtdaamgonendkkaaBase2
import Derived.Test.YtdaamgonendkkaaOnly
import Derived.Test.YtdaamgonendkkaaStrS
import Derived.Test.YtdaamgonendkkaaMarkS
import Derived.Test.YtdaamgonendkkaaSzStr
import Derived.WalkKit
import Derived.WalkSpells
import Derived.WalkLawsBesides
import Derived.Handy
namespace Go.Proofs.Ytdaamgonendkkaa
open Go Go.RowKit

-- BEGIN to

set_option maxRecDepth 100000 in
set_option maxHeartbeats 4000000 in
theorem toChanges_any {A0 A1 A2 : Option Addr} {c0 B0 c1 B1 c2 B2 : Nat} (xs : List ByteArray) (ys : List ByteArray) (zs : List ByteArray) (w : World) (h0 : Reads w B0 1 A0 xs.length (texts xs)) (hB0 : B0 ≤ w.heap.size) (hm0 : xs.length ≤ 1048576) (h1 : Reads w B1 1 A1 ys.length (texts ys)) (hB1 : B1 ≤ w.heap.size) (hm1 : ys.length ≤ 1048576) (h2 : Reads w B2 1 A2 zs.length (texts zs)) (hB2 : B2 ≤ w.heap.size) (hm2 : zs.length ≤ 1048576) :
    Calls Try.prog 15 #[.agg #[.slice A0 xs.length c0, .slice A1 ys.length c1, .slice A2 zs.length c2]] w fun e w' => ∃ X0 d0 X1 d1 X2 d2, e = .returned (.agg #[.slice X0 xs.length d0, .slice X1 ys.length d1, .slice X2 zs.length d2]) ∧ Below w.heap.size w w' ∧ w'.ownsRow w.heap.size 9 1 (.slice X0 xs.length d0) xs.length (texts xs) ∧ w'.ownsRow w.heap.size 9 1 (.slice X1 ys.length d1) ys.length (texts ys) ∧ w'.ownsRow w.heap.size 9 1 (.slice X2 zs.length d2) zs.length (texts zs) ∧ (∀ a b, X0 = some a → X1 = some b → a.block ≠ b.block) ∧ (∀ a b, X0 = some a → X2 = some b → a.block ≠ b.block) ∧ (∀ a b, X1 = some a → X2 = some b → a.block ≠ b.block) := by
  have H0 := Lib.hid (h0.more hB0)
  have H1 := Lib.hid (h1.more hB1)
  have H2 := Lib.hid (h2.more hB2)
  clear h0 h1 h2
  have K1 := Lib.hid (blk_new1 w 31 #[.slice A0 xs.length c0, .slice A1 ys.length c1, .slice A2 zs.length c2] (.cells #[.slice none 0 0, .slice none 0 0, .slice none 0 0] 25) (.cells #[.slice none 0 0, .slice none 0 0, .slice none 0 0] 25))
  have K2 := Lib.hid (blk_new2 w 25 #[.slice none 0 0, .slice none 0 0, .slice none 0 0] (.cells #[.slice A0 xs.length c0, .slice A1 ys.length c1, .slice A2 zs.length c2] 31) (.cells #[.slice none 0 0, .slice none 0 0, .slice none 0 0] 25))
  have K3 := Lib.hid (blk_new3 w 25 #[.slice none 0 0, .slice none 0 0, .slice none 0 0] (.cells #[.slice A0 xs.length c0, .slice A1 ys.length c1, .slice A2 zs.length c2] 31) (.cells #[.slice none 0 0, .slice none 0 0, .slice none 0 0] 25))
  have BB := Lib.hid (below_new3 w (.cells #[.slice A0 xs.length c0, .slice A1 ys.length c1, .slice A2 zs.length c2] 31) (.cells #[.slice none 0 0, .slice none 0 0, .slice none 0 0] 25) (.cells #[.slice none 0 0, .slice none 0 0, .slice none 0 0] 25))
  have ZZ : Hid (w.heap.size + 3 ≤ (((w.alloc (.cells #[.slice A0 xs.length c0, .slice A1 ys.length c1, .slice A2 zs.length c2] 31)).alloc (.cells #[.slice none 0 0, .slice none 0 0, .slice none 0 0] 25)).alloc (.cells #[.slice none 0 0, .slice none 0 0, .slice none 0 0] 25)).heap.size) := by simp [Hid]
  go_enter Try.func15, Try.ntmps15
  go_wp2_with fail
  refine (toStringS_any _ _ _ xs _ (H0.out.below BB.out) (by have := ZZ.out; simp at this ⊢; omega) hm0).mono ?_
  rintro e w1 ⟨X0, d0, rfl, o0, s0⟩
  have hon : Hid (Only (w.heap.size + 2) (w.heap.size + 3) (((w.alloc (.cells #[.slice A0 xs.length c0, .slice A1 ys.length c1, .slice A2 zs.length c2] 31)).alloc (.cells #[.slice none 0 0, .slice none 0 0, .slice none 0 0] 25)).alloc (.cells #[.slice none 0 0, .slice none 0 0, .slice none 0 0] 25)) w1) := (Only.refl (w.heap.size + 2) (w.heap.size + 3) (((w.alloc (.cells #[.slice A0 xs.length c0, .slice A1 ys.length c1, .slice A2 zs.length c2] 31)).alloc (.cells #[.slice none 0 0, .slice none 0 0, .slice none 0 0] 25)).alloc (.cells #[.slice none 0 0, .slice none 0 0, .slice none 0 0] 25))).trans (Only.of_below s0)
  have szq : (((w.alloc (.cells #[.slice A0 xs.length c0, .slice A1 ys.length c1, .slice A2 zs.length c2] 31)).alloc (.cells #[.slice none 0 0, .slice none 0 0, .slice none 0 0] 25)).alloc (.cells #[.slice none 0 0, .slice none 0 0, .slice none 0 0] 25)).heap.size = (((w.alloc (.cells #[.slice A0 xs.length c0, .slice A1 ys.length c1, .slice A2 zs.length c2] 31)).alloc (.cells #[.slice none 0 0, .slice none 0 0, .slice none 0 0] 25)).alloc (.cells #[.slice none 0 0, .slice none 0 0, .slice none 0 0] 25)).heap.size := by simp
  have K1' := Lib.hid (blk_only K1.out hon.out (Or.inl (by omega)))
  have K2' := Lib.hid (blk_only K2.out hon.out (Or.inl (by omega)))
  have K3' : Hid (Blk w1 (w.heap.size + 1 + 1) 25 #[.slice none 0 0, .slice none 0 0, .slice none 0 0]) := by
    have h := K3.out.below s0 (by rw [szq]; exact K3.out.lt)
    simpa [Hid] using h
  have O0 := Lib.hid (own_base (base' := w.heap.size + 3) o0 (by rw [szq]; exact ZZ.out))
  have BB' := Lib.hid (below_only BB.out hon.out (by omega) BB.out.size)
  have ZZ' := Lib.hid (Nat.le_trans ZZ.out hon.out.size)
  clear K1 K2 K3 BB ZZ hon szq o0 s0 
  have K1 := K1'; have K2 := K2'; have K3 := K3'; have BB := BB'; have ZZ := ZZ'
  clear K1' K2' K3' BB' ZZ'
  have e11 : w1.cell? ⟨w.heap.size, 1, none⟩ = some (.slice A1 ys.length c1) := K1.out.cell 1
  have e12 : w1.cell? ⟨w.heap.size, 2, none⟩ = some (.slice A2 zs.length c2) := K1.out.cell 2
  have f10 : w1.frozen? ⟨w.heap.size + 1 + 1, 0, none⟩ = false := K3.out.frozen 0
  have g10 : w1.cell? ⟨w.heap.size + 1 + 1, 0, none⟩ = some (.slice none 0 0) := K3.out.cell 0
  have f11 : w1.frozen? ⟨w.heap.size + 1 + 1, 1, none⟩ = false := K3.out.frozen 1
  have g11 : w1.cell? ⟨w.heap.size + 1 + 1, 1, none⟩ = some (.slice none 0 0) := K3.out.cell 1
  have f12 : w1.frozen? ⟨w.heap.size + 1 + 1, 2, none⟩ = false := K3.out.frozen 2
  have g12 : w1.cell? ⟨w.heap.size + 1 + 1, 2, none⟩ = some (.slice none 0 0) := K3.out.cell 2
  go_wp2_with fail
  refine (toStringS_any _ _ _ ys _ ((H1.out.below BB.out).setCell (by simp; omega) _) (by have := ZZ.out; simp at this ⊢; omega) hm1).mono ?_
  rintro e w2 ⟨X1, d1, rfl, o1, s1⟩
  have hon : Hid (Only (w.heap.size + 2) (w.heap.size + 3) w1 w2) := ((Only.refl (w.heap.size + 2) (w.heap.size + 3) w1).set_ (p := ⟨w.heap.size + 1 + 1, 0, none⟩) (.slice X0 xs.length d0) (by simp) (by simp)).trans (Only.of_below s1)
  have szq : (w1.setCell ⟨w.heap.size + 1 + 1, 0, none⟩ (.slice X0 xs.length d0)).heap.size = w1.heap.size := by simp
  have K1' := Lib.hid (blk_only K1.out hon.out (Or.inl (by omega)))
  have K2' := Lib.hid (blk_only K2.out hon.out (Or.inl (by omega)))
  have K3' : Hid (Blk w2 (w.heap.size + 1 + 1) 25 #[.slice X0 xs.length d0, .slice none 0 0, .slice none 0 0]) := by
    have h := (K3.out.set_ 0 (.slice X0 xs.length d0)).below s1 (by rw [szq]; exact K3.out.lt)
    simpa [Hid] using h
  have q01 := apart_hi O0.out o1 (by rw [szq]; exact Nat.le_refl _)
  have O0' := Lib.hid (own_hi O0.out (Nat.le_refl _) hon.out)
  have O1 := Lib.hid (own_base (base' := w.heap.size + 3) o1 (by rw [szq]; exact ZZ.out))
  have BB' := Lib.hid (below_only BB.out hon.out (by omega) BB.out.size)
  have ZZ' := Lib.hid (Nat.le_trans ZZ.out hon.out.size)
  clear K1 K2 K3 BB ZZ hon szq o1 s1 O0
  have K1 := K1'; have K2 := K2'; have K3 := K3'; have BB := BB'; have ZZ := ZZ'; have O0 := O0'
  clear K1' K2' K3' BB' ZZ' O0'
  have e22 : w2.cell? ⟨w.heap.size, 2, none⟩ = some (.slice A2 zs.length c2) := K1.out.cell 2
  have f20 : w2.frozen? ⟨w.heap.size + 1 + 1, 0, none⟩ = false := K3.out.frozen 0
  have g20 : w2.cell? ⟨w.heap.size + 1 + 1, 0, none⟩ = some (.slice X0 xs.length d0) := K3.out.cell 0
  have f21 : w2.frozen? ⟨w.heap.size + 1 + 1, 1, none⟩ = false := K3.out.frozen 1
  have g21 : w2.cell? ⟨w.heap.size + 1 + 1, 1, none⟩ = some (.slice none 0 0) := K3.out.cell 1
  have f22 : w2.frozen? ⟨w.heap.size + 1 + 1, 2, none⟩ = false := K3.out.frozen 2
  have g22 : w2.cell? ⟨w.heap.size + 1 + 1, 2, none⟩ = some (.slice none 0 0) := K3.out.cell 2
  go_wp2_with fail
  refine (toStringS_any _ _ _ zs _ ((H2.out.below BB.out).setCell (by simp; omega) _) (by have := ZZ.out; simp at this ⊢; omega) hm2).mono ?_
  rintro e w3 ⟨X2, d2, rfl, o2, s2⟩
  have hon : Hid (Only (w.heap.size + 2) (w.heap.size + 3) w2 w3) := ((Only.refl (w.heap.size + 2) (w.heap.size + 3) w2).set_ (p := ⟨w.heap.size + 1 + 1, 1, none⟩) (.slice X1 ys.length d1) (by simp) (by simp)).trans (Only.of_below s2)
  have szq : (w2.setCell ⟨w.heap.size + 1 + 1, 1, none⟩ (.slice X1 ys.length d1)).heap.size = w2.heap.size := by simp
  have K1' := Lib.hid (blk_only K1.out hon.out (Or.inl (by omega)))
  have K2' := Lib.hid (blk_only K2.out hon.out (Or.inl (by omega)))
  have K3' : Hid (Blk w3 (w.heap.size + 1 + 1) 25 #[.slice X0 xs.length d0, .slice X1 ys.length d1, .slice none 0 0]) := by
    have h := (K3.out.set_ 1 (.slice X1 ys.length d1)).below s2 (by rw [szq]; exact K3.out.lt)
    simpa [Hid] using h
  have q02 := apart_hi O0.out o2 (by rw [szq]; exact Nat.le_refl _)
  have q12 := apart_hi O1.out o2 (by rw [szq]; exact Nat.le_refl _)
  have O0' := Lib.hid (own_hi O0.out (Nat.le_refl _) hon.out)
  have O1' := Lib.hid (own_hi O1.out (Nat.le_refl _) hon.out)
  have O2 := Lib.hid (own_base (base' := w.heap.size + 3) o2 (by rw [szq]; exact ZZ.out))
  have BB' := Lib.hid (below_only BB.out hon.out (by omega) BB.out.size)
  have ZZ' := Lib.hid (Nat.le_trans ZZ.out hon.out.size)
  clear K1 K2 K3 BB ZZ hon szq o2 s2 O0 O1
  have K1 := K1'; have K2 := K2'; have K3 := K3'; have BB := BB'; have ZZ := ZZ'; have O0 := O0'; have O1 := O1'
  clear K1' K2' K3' BB' ZZ' O0' O1'
  have f30 : w3.frozen? ⟨w.heap.size + 1 + 1, 0, none⟩ = false := K3.out.frozen 0
  have g30 : w3.cell? ⟨w.heap.size + 1 + 1, 0, none⟩ = some (.slice X0 xs.length d0) := K3.out.cell 0
  have f31 : w3.frozen? ⟨w.heap.size + 1 + 1, 1, none⟩ = false := K3.out.frozen 1
  have g31 : w3.cell? ⟨w.heap.size + 1 + 1, 1, none⟩ = some (.slice X1 ys.length d1) := K3.out.cell 1
  have f32 : w3.frozen? ⟨w.heap.size + 1 + 1, 2, none⟩ = false := K3.out.frozen 2
  have g32 : w3.cell? ⟨w.heap.size + 1 + 1, 2, none⟩ = some (.slice none 0 0) := K3.out.cell 2
  have p30 : w3.frozen? ⟨w.heap.size + 1, 0, none⟩ = false := K2.out.frozen 0
  have r30 : w3.cell? ⟨w.heap.size + 1, 0, none⟩ = some (.slice none 0 0) := K2.out.cell 0
  have p31 : w3.frozen? ⟨w.heap.size + 1, 1, none⟩ = false := K2.out.frozen 1
  have r31 : w3.cell? ⟨w.heap.size + 1, 1, none⟩ = some (.slice none 0 0) := K2.out.cell 1
  have p32 : w3.frozen? ⟨w.heap.size + 1, 2, none⟩ = false := K2.out.frozen 2
  have r32 : w3.cell? ⟨w.heap.size + 1, 2, none⟩ = some (.slice none 0 0) := K2.out.cell 2
  have ON := Lib.hid ((((((Only.refl (w.heap.size + 1) (w.heap.size + 3) w3).set_ (p := ⟨w.heap.size + 1 + 1, 2, none⟩) (.slice X2 zs.length d2) (by simp) (by simp)).set_ (p := ⟨w.heap.size + 1, 0, none⟩) (.slice X0 xs.length d0) (by simp) (by simp)).set_ (p := ⟨w.heap.size + 1, 1, none⟩) (.slice X1 ys.length d1) (by simp) (by simp)).set_ (p := ⟨w.heap.size + 1, 2, none⟩) (.slice X2 zs.length d2) (by simp) (by simp)))
  go_wp2
  have KF0 := (K2.out.far (p := ⟨w.heap.size + 1 + 1, 2, none⟩) (by simp) (.slice X2 zs.length d2))
  have KF1 : Blk ((w3.setCell ⟨w.heap.size + 1 + 1, 2, none⟩ (.slice X2 zs.length d2)).setCell ⟨w.heap.size + 1, 0, none⟩ (.slice X0 xs.length d0)) (w.heap.size + 1) 25 #[.slice X0 xs.length d0, .slice none 0 0, .slice none 0 0] := by
    have h := KF0.set_ 0 (.slice X0 xs.length d0)
    simpa using h
  have y0 : ((w3.setCell ⟨w.heap.size + 1 + 1, 2, none⟩ (.slice X2 zs.length d2)).setCell ⟨w.heap.size + 1, 0, none⟩ (.slice X0 xs.length d0)).cell? ⟨w.heap.size + 1, 0, none⟩ = some (.slice X0 xs.length d0) := KF1.cell 0
  have KF2 : Blk (((w3.setCell ⟨w.heap.size + 1 + 1, 2, none⟩ (.slice X2 zs.length d2)).setCell ⟨w.heap.size + 1, 0, none⟩ (.slice X0 xs.length d0)).setCell ⟨w.heap.size + 1, 1, none⟩ (.slice X1 ys.length d1)) (w.heap.size + 1) 25 #[.slice X0 xs.length d0, .slice X1 ys.length d1, .slice none 0 0] := by
    have h := KF1.set_ 1 (.slice X1 ys.length d1)
    simpa using h
  have y1 : (((w3.setCell ⟨w.heap.size + 1 + 1, 2, none⟩ (.slice X2 zs.length d2)).setCell ⟨w.heap.size + 1, 0, none⟩ (.slice X0 xs.length d0)).setCell ⟨w.heap.size + 1, 1, none⟩ (.slice X1 ys.length d1)).cell? ⟨w.heap.size + 1, 1, none⟩ = some (.slice X1 ys.length d1) := KF2.cell 1
  have KF3 : Blk ((((w3.setCell ⟨w.heap.size + 1 + 1, 2, none⟩ (.slice X2 zs.length d2)).setCell ⟨w.heap.size + 1, 0, none⟩ (.slice X0 xs.length d0)).setCell ⟨w.heap.size + 1, 1, none⟩ (.slice X1 ys.length d1)).setCell ⟨w.heap.size + 1, 2, none⟩ (.slice X2 zs.length d2)) (w.heap.size + 1) 25 #[.slice X0 xs.length d0, .slice X1 ys.length d1, .slice X2 zs.length d2] := by
    have h := KF2.set_ 2 (.slice X2 zs.length d2)
    simpa using h
  have y2 : ((((w3.setCell ⟨w.heap.size + 1 + 1, 2, none⟩ (.slice X2 zs.length d2)).setCell ⟨w.heap.size + 1, 0, none⟩ (.slice X0 xs.length d0)).setCell ⟨w.heap.size + 1, 1, none⟩ (.slice X1 ys.length d1)).setCell ⟨w.heap.size + 1, 2, none⟩ (.slice X2 zs.length d2)).cell? ⟨w.heap.size + 1, 2, none⟩ = some (.slice X2 zs.length d2) := KF3.cell 2
  clear KF0 KF1 KF2 KF3
  try simp only [Exit.inBlock, Exit.then]
  refine bodyPost_ret (v := .agg #[.slice X0 xs.length d0, .slice X1 ys.length d1, .slice X2 zs.length d2]) (by simp [results, Try.results15, go_sem, y0, y1, y2]) rfl ?_
  refine ⟨X0, d0, X1, d1, X2, d2, rfl, below_only BB.out ON.out (by omega) BB.out.size, own_base (own_only O0.out ON.out (fun a ha => Or.inr (own_up O0.out a ha).1)) (by omega), own_base (own_only O1.out ON.out (fun a ha => Or.inr (own_up O1.out a ha).1)) (by omega), own_base (own_only O2.out ON.out (fun a ha => Or.inr (own_up O2.out a ha).1)) (by omega), q01, q02, q12⟩


set_option maxRecDepth 100000 in
set_option maxHeartbeats 4000000 in
theorem eqChanges_same {A0 E0 A1 E1 A2 E2 : Option Addr} {c0 d0 B0 D0 c1 d1 B1 D1 c2 d2 B2 D2 : Nat} (xs : List ByteArray) (ys : List ByteArray) (zs : List ByteArray) (w : World) (h0 : Reads w B0 1 A0 xs.length (texts xs)) (hB0 : B0 ≤ w.heap.size) (g0 : Reads w D0 1 E0 xs.length (texts xs)) (hD0 : D0 ≤ w.heap.size) (hm0 : xs.length ≤ 1048576) (h1 : Reads w B1 1 A1 ys.length (texts ys)) (hB1 : B1 ≤ w.heap.size) (g1 : Reads w D1 1 E1 ys.length (texts ys)) (hD1 : D1 ≤ w.heap.size) (hm1 : ys.length ≤ 1048576) (h2 : Reads w B2 1 A2 zs.length (texts zs)) (hB2 : B2 ≤ w.heap.size) (g2 : Reads w D2 1 E2 zs.length (texts zs)) (hD2 : D2 ≤ w.heap.size) (hm2 : zs.length ≤ 1048576) :
    Calls Try.prog 17 #[.agg #[.slice A0 xs.length c0, .slice A1 ys.length c1, .slice A2 zs.length c2], .agg #[.slice E0 xs.length d0, .slice E1 ys.length d1, .slice E2 zs.length d2]] w (Gives w (.bool true)) := by
  have H0 := Lib.hid (h0.more hB0)
  have H1 := Lib.hid (h1.more hB1)
  have H2 := Lib.hid (h2.more hB2)
  have G0 := Lib.hid (g0.more hD0)
  have G1 := Lib.hid (g1.more hD1)
  have G2 := Lib.hid (g2.more hD2)
  clear h0 g0 h1 g1 h2 g2
  have K1 := Lib.hid ((Blk.new w 25 #[.slice A0 xs.length c0, .slice A1 ys.length c1, .slice A2 zs.length c2]).alloc (.cells #[.slice E0 xs.length d0, .slice E1 ys.length d1, .slice E2 zs.length d2] 25))
  have K2 : Hid (Blk ((w.alloc (.cells #[.slice A0 xs.length c0, .slice A1 ys.length c1, .slice A2 zs.length c2] 25)).alloc (.cells #[.slice E0 xs.length d0, .slice E1 ys.length d1, .slice E2 zs.length d2] 25)) (w.heap.size + 1) 25 #[.slice E0 xs.length d0, .slice E1 ys.length d1, .slice E2 zs.length d2]) := by
    have h := Blk.new (w.alloc (.cells #[.slice A0 xs.length c0, .slice A1 ys.length c1, .slice A2 zs.length c2] 25)) 25 #[.slice E0 xs.length d0, .slice E1 ys.length d1, .slice E2 zs.length d2]
    rwa [World.size_alloc] at h
  have BB : Hid (Below w.heap.size w ((w.alloc (.cells #[.slice A0 xs.length c0, .slice A1 ys.length c1, .slice A2 zs.length c2] 25)).alloc (.cells #[.slice E0 xs.length d0, .slice E1 ys.length d1, .slice E2 zs.length d2] 25))) := ((Below.refl _ _).alloc (Nat.le_refl _) _).alloc (by simp) _
  go_enter Try.func17, Try.ntmps17
  go_wp2_with fail
  refine (eqStringS_any _ _ _ _ _ _ xs xs _ (H0.out.below BB.out) (G0.out.below BB.out) hm0 hm0).mono ?_
  rintro e w1 ⟨rfl, s1⟩
  rw [decide_eq_true rfl]
  have K1' := Lib.hid (K1.out.below s1 K1.out.lt)
  have K2' := Lib.hid (K2.out.below s1 K2.out.lt)
  have BB' := Lib.hid (BB.out.trans (s1.mono BB.out.size))
  clear K1 K2 BB s1
  have K1 := K1'; have K2 := K2'; have BB := BB'
  clear K1' K2' BB'
  have e11 : w1.cell? ⟨w.heap.size, 1, none⟩ = some (.slice A1 ys.length c1) := K1.out.cell 1
  have f11 : w1.cell? ⟨w.heap.size + 1, 1, none⟩ = some (.slice E1 ys.length d1) := K2.out.cell 1
  have e12 : w1.cell? ⟨w.heap.size, 2, none⟩ = some (.slice A2 zs.length c2) := K1.out.cell 2
  have f12 : w1.cell? ⟨w.heap.size + 1, 2, none⟩ = some (.slice E2 zs.length d2) := K2.out.cell 2
  go_wp2_with fail
  refine (eqStringS_any _ _ _ _ _ _ ys ys _ (H1.out.below BB.out) (G1.out.below BB.out) hm1 hm1).mono ?_
  rintro e w2 ⟨rfl, s2⟩
  rw [decide_eq_true rfl]
  have K1' := Lib.hid (K1.out.below s2 K1.out.lt)
  have K2' := Lib.hid (K2.out.below s2 K2.out.lt)
  have BB' := Lib.hid (BB.out.trans (s2.mono BB.out.size))
  clear K1 K2 BB s2
  have K1 := K1'; have K2 := K2'; have BB := BB'
  clear K1' K2' BB'
  have e22 : w2.cell? ⟨w.heap.size, 2, none⟩ = some (.slice A2 zs.length c2) := K1.out.cell 2
  have f22 : w2.cell? ⟨w.heap.size + 1, 2, none⟩ = some (.slice E2 zs.length d2) := K2.out.cell 2
  go_wp2_with fail
  refine (eqStringS_any _ _ _ _ _ _ zs zs _ (H2.out.below BB.out) (G2.out.below BB.out) hm2 hm2).mono ?_
  rintro e w3 ⟨rfl, s3⟩
  rw [decide_eq_true rfl]
  have K1' := Lib.hid (K1.out.below s3 K1.out.lt)
  have K2' := Lib.hid (K2.out.below s3 K2.out.lt)
  have BB' := Lib.hid (BB.out.trans (s3.mono BB.out.size))
  clear K1 K2 BB s3
  have K1 := K1'; have K2 := K2'; have BB := BB'
  clear K1' K2' BB'
  go_wp2
  go_ret
  exact ⟨rfl, BB.out⟩

set_option maxRecDepth 100000 in
set_option maxHeartbeats 4000000 in
theorem markChanges_any {A0 A1 A2 : Option Addr} {c0 c1 c2 lo hi : Nat} (xs : List ByteArray) (ys : List ByteArray) (zs : List ByteArray) (k0 : Int) (w : World) (h0 : w.ownsRow lo 9 1 (.slice A0 xs.length c0) xs.length (texts xs)) (u0 : ∀ a, A0 = some a → a.block < hi) (hm0 : xs.length ≤ 1048576) (h1 : w.ownsRow lo 9 1 (.slice A1 ys.length c1) ys.length (texts ys)) (u1 : ∀ a, A1 = some a → a.block < hi) (hm1 : ys.length ≤ 1048576) (h2 : w.ownsRow lo 9 1 (.slice A2 zs.length c2) zs.length (texts zs)) (u2 : ∀ a, A2 = some a → a.block < hi) (hm2 : zs.length ≤ 1048576) (p01 : ∀ a b, A0 = some a → A1 = some b → a.block ≠ b.block) (p02 : ∀ a b, A0 = some a → A2 = some b → a.block ≠ b.block) (p12 : ∀ a b, A1 = some a → A2 = some b → a.block ≠ b.block) (hhi : hi ≤ w.heap.size) (hk0 : 0 ≤ k0) (hk1 : k0 ≤ 4194304) :
    Calls Try.prog 18 #[.agg #[.slice A0 xs.length c0, .slice A1 ys.length c1, .slice A2 zs.length c2], .int .i64 k0] w fun e w' => e = .returned (.int .i64 (k0 + (xs.length : Int) + (ys.length : Int) + (zs.length : Int))) ∧ Only lo hi w w' ∧ w'.ownsRow lo 9 1 (.slice A0 xs.length c0) xs.length (texts (mkS (k0) xs.length)) ∧ w'.ownsRow lo 9 1 (.slice A1 ys.length c1) ys.length (texts (mkS (k0 + (xs.length : Int)) ys.length)) ∧ w'.ownsRow lo 9 1 (.slice A2 zs.length c2) zs.length (texts (mkS (k0 + (xs.length : Int) + (ys.length : Int)) zs.length)) := by
  have O0 := Lib.hid (h0.alloc (.cells #[.slice A0 xs.length c0, .slice A1 ys.length c1, .slice A2 zs.length c2] 25))
  have O1 := Lib.hid (h1.alloc (.cells #[.slice A0 xs.length c0, .slice A1 ys.length c1, .slice A2 zs.length c2] 25))
  have O2 := Lib.hid (h2.alloc (.cells #[.slice A0 xs.length c0, .slice A1 ys.length c1, .slice A2 zs.length c2] 25))
  clear h0 h1 h2
  have K1 := Lib.hid (Blk.new w 25 #[.slice A0 xs.length c0, .slice A1 ys.length c1, .slice A2 zs.length c2])
  have ON : Hid (Only lo hi w (w.alloc (.cells #[.slice A0 xs.length c0, .slice A1 ys.length c1, .slice A2 zs.length c2] 25))) := Only.of_below ((Below.refl _ _).alloc (Nat.le_refl _) _)
  go_enter Try.func18, Try.ntmps18
  go_wp2_with fail
  refine (markStringS_any _ _ _ _ (k0) _ _ O0.out (by omega) (by omega) (by omega)).mono ?_
  rintro e w1 ⟨rfl, n1, s1⟩
  have hon : Hid (Only lo hi _ w1) := Only.of_marks O0.out u0 s1
  have K1' := Lib.hid (blk_only K1.out hon.out (Or.inr hhi))
  have ON' := Lib.hid (ON.out.trans hon.out)
  have O1' := Lib.hid (own_other O1.out s1 (fun a a2 h1 h2 => (p01 a2 a h2 h1).symm))
  have O2' := Lib.hid (own_other O2.out s1 (fun a a2 h1 h2 => (p02 a2 a h2 h1).symm))
  have O0' := Lib.hid n1
  clear K1 ON hon s1 n1 O0 O1 O2
  have K1 := K1'; have ON := ON'; have O0 := O0'; have O1 := O1'; have O2 := O2'
  clear K1' ON' O0' O1' O2'
  have e11 : w1.cell? ⟨w.heap.size, 1, none⟩ = some (.slice A1 ys.length c1) := K1.out.cell 1
  have e12 : w1.cell? ⟨w.heap.size, 2, none⟩ = some (.slice A2 zs.length c2) := K1.out.cell 2
  go_wp2_with fail
  refine (markStringS_any _ _ _ _ (k0 + (xs.length : Int)) _ _ O1.out (by omega) (by omega) (by omega)).mono ?_
  rintro e w2 ⟨rfl, n2, s2⟩
  have hon : Hid (Only lo hi _ w2) := Only.of_marks O1.out u1 s2
  have K1' := Lib.hid (blk_only K1.out hon.out (Or.inr hhi))
  have ON' := Lib.hid (ON.out.trans hon.out)
  have O0' := Lib.hid (own_other O0.out s2 (fun a a2 h1 h2 => p01 a a2 h1 h2))
  have O2' := Lib.hid (own_other O2.out s2 (fun a a2 h1 h2 => (p12 a2 a h2 h1).symm))
  have O1' := Lib.hid n2
  clear K1 ON hon s2 n2 O0 O1 O2
  have K1 := K1'; have ON := ON'; have O0 := O0'; have O1 := O1'; have O2 := O2'
  clear K1' ON' O0' O1' O2'
  have e22 : w2.cell? ⟨w.heap.size, 2, none⟩ = some (.slice A2 zs.length c2) := K1.out.cell 2
  go_wp2_with fail
  refine (markStringS_any _ _ _ _ (k0 + (xs.length : Int) + (ys.length : Int)) _ _ O2.out (by omega) (by omega) (by omega)).mono ?_
  rintro e w3 ⟨rfl, n3, s3⟩
  have hon : Hid (Only lo hi _ w3) := Only.of_marks O2.out u2 s3
  have K1' := Lib.hid (blk_only K1.out hon.out (Or.inr hhi))
  have ON' := Lib.hid (ON.out.trans hon.out)
  have O0' := Lib.hid (own_other O0.out s3 (fun a a2 h1 h2 => p02 a a2 h1 h2))
  have O1' := Lib.hid (own_other O1.out s3 (fun a a2 h1 h2 => p12 a a2 h1 h2))
  have O2' := Lib.hid n3
  clear K1 ON hon s3 n3 O0 O1 O2
  have K1 := K1'; have ON := ON'; have O0 := O0'; have O1 := O1'; have O2 := O2'
  clear K1' ON' O0' O1' O2'
  go_wp2
  go_ret
  exact ⟨rfl, ON.out, O0.out, O1.out, O2.out⟩

set_option maxRecDepth 100000 in
set_option maxHeartbeats 4000000 in
theorem szChanges_any {A0 A1 A2 : Option Addr} {c0 B0 c1 B1 c2 B2 : Nat} (xs : List ByteArray) (ys : List ByteArray) (zs : List ByteArray) (left : Int) (w : World) (h0 : Reads w B0 1 A0 xs.length (texts xs)) (hB0 : B0 ≤ w.heap.size) (hm0 : xs.length ≤ maxLen) (hs0 : ∀ s ∈ xs, s.size ≤ maxLen) (h1 : Reads w B1 1 A1 ys.length (texts ys)) (hB1 : B1 ≤ w.heap.size) (hm1 : ys.length ≤ maxLen) (hs1 : ∀ s ∈ ys, s.size ≤ maxLen) (h2 : Reads w B2 1 A2 zs.length (texts zs)) (hB2 : B2 ≤ w.heap.size) (hm2 : zs.length ≤ maxLen) (hs2 : ∀ s ∈ zs, s.size ≤ maxLen) (hl0 : 0 ≤ left) (hl : left ≤ 1048576) :
    Calls Try.prog 14 #[.agg #[.slice A0 xs.length c0, .slice A1 ys.length c1, .slice A2 zs.length c2], .int .i64 left] w (Gives w (.int .i64 (szRes left (((xs.length : Int) + bulk xs) + ((ys.length : Int) + bulk ys) + ((zs.length : Int) + bulk zs))))) := by
  have H0 := Lib.hid (h0.more hB0)
  have H1 := Lib.hid (h1.more hB1)
  have H2 := Lib.hid (h2.more hB2)
  have S0 := Lib.hid hs0
  have S1 := Lib.hid hs1
  have S2 := Lib.hid hs2
  have v0 := bulk_nonneg xs
  have v1 := bulk_nonneg ys
  have v2 := bulk_nonneg zs
  clear h0 hs0 h1 hs1 h2 hs2
  have K1 := Lib.hid (Blk.new w 31 #[.slice A0 xs.length c0, .slice A1 ys.length c1, .slice A2 zs.length c2])
  have BB : Hid (Below w.heap.size w (w.alloc (.cells #[.slice A0 xs.length c0, .slice A1 ys.length c1, .slice A2 zs.length c2] 31))) := (Below.refl _ _).alloc (Nat.le_refl _) _
  go_enter Try.func14, Try.ntmps14
  go_wp2_with fail
  refine (szStringS_any xs (left) _ (H0.out.below BB.out) hm0 S0.out (by omega) (by omega)).mono ?_
  rintro e w1 ⟨rfl, s1⟩
  have K1' := Lib.hid (K1.out.below s1 K1.out.lt)
  have BB' := Lib.hid (BB.out.trans (s1.mono BB.out.size))
  clear K1 BB s1
  have K1 := K1'; have BB := BB'
  clear K1' BB'
  have e11 : w1.cell? ⟨w.heap.size, 1, none⟩ = some (.slice A1 ys.length c1) := K1.out.cell 1
  have e12 : w1.cell? ⟨w.heap.size, 2, none⟩ = some (.slice A2 zs.length c2) := K1.out.cell 2
  by_cases t0 : left < ((xs.length : Int) + bulk xs)
  · rw [szRes_neg t0]
    have HR : Hid (szRes left (((xs.length : Int) + bulk xs) + ((ys.length : Int) + bulk ys) + ((zs.length : Int) + bulk zs)) = -1) := szRes_neg (by omega)
    go_wp2
    go_ret
    rw [HR.out]
    exact ⟨rfl, BB.out⟩
  · rw [szRes_pos (Int.not_lt.1 t0)]
    go_wp2_with fail
    refine (szStringS_any ys (left - ((xs.length : Int) + bulk xs)) _ (H1.out.below BB.out) hm1 S1.out (by omega) (by omega)).mono ?_
    rintro e w2 ⟨rfl, s2⟩
    have K1' := Lib.hid (K1.out.below s2 K1.out.lt)
    have BB' := Lib.hid (BB.out.trans (s2.mono BB.out.size))
    clear K1 BB s2
    have K1 := K1'; have BB := BB'
    clear K1' BB'
    have e22 : w2.cell? ⟨w.heap.size, 2, none⟩ = some (.slice A2 zs.length c2) := K1.out.cell 2
    by_cases t1 : left - ((xs.length : Int) + bulk xs) < ((ys.length : Int) + bulk ys)
    · rw [szRes_neg t1]
      have HR : Hid (szRes left (((xs.length : Int) + bulk xs) + ((ys.length : Int) + bulk ys) + ((zs.length : Int) + bulk zs)) = -1) := szRes_neg (by omega)
      go_wp2
      go_ret
      rw [HR.out]
      exact ⟨rfl, BB.out⟩
    · rw [szRes_pos (Int.not_lt.1 t1)]
      go_wp2_with fail
      refine (szStringS_any zs (left - ((xs.length : Int) + bulk xs) - ((ys.length : Int) + bulk ys)) _ (H2.out.below BB.out) hm2 S2.out (by omega) (by omega)).mono ?_
      rintro e w3 ⟨rfl, s3⟩
      have K1' := Lib.hid (K1.out.below s3 K1.out.lt)
      have BB' := Lib.hid (BB.out.trans (s3.mono BB.out.size))
      clear K1 BB s3
      have K1 := K1'; have BB := BB'
      clear K1' BB'
      by_cases t2 : left - ((xs.length : Int) + bulk xs) - ((ys.length : Int) + bulk ys) < ((zs.length : Int) + bulk zs)
      · rw [szRes_neg t2]
        have HR : Hid (szRes left (((xs.length : Int) + bulk xs) + ((ys.length : Int) + bulk ys) + ((zs.length : Int) + bulk zs)) = -1) := szRes_neg (by omega)
        go_wp2
        go_ret
        rw [HR.out]
        exact ⟨rfl, BB.out⟩
      · rw [szRes_pos (Int.not_lt.1 t2)]
        have HR : Hid (szRes left (((xs.length : Int) + bulk xs) + ((ys.length : Int) + bulk ys) + ((zs.length : Int) + bulk zs)) = left - ((xs.length : Int) + bulk xs) - ((ys.length : Int) + bulk ys) - ((zs.length : Int) + bulk zs)) := by rw [szRes_pos (by omega)]; show _ = _; omega
        go_wp2
        go_ret
        rw [HR.out]
        exact ⟨rfl, BB.out⟩

set_option maxRecDepth 100000 in
set_option maxHeartbeats 4000000 in
theorem heldChanges_any {A0 A1 A2 : Option Addr} {c0 B0 c1 B1 c2 B2 : Nat} (xs : List ByteArray) (ys : List ByteArray) (zs : List ByteArray) (k0 : Int) (w : World) (h0 : Reads w B0 1 A0 xs.length (texts (mkS (k0) xs.length))) (hB0 : B0 ≤ w.heap.size) (hm0 : xs.length ≤ 1048576) (h1 : Reads w B1 1 A1 ys.length (texts (mkS (k0 + (xs.length : Int)) ys.length))) (hB1 : B1 ≤ w.heap.size) (hm1 : ys.length ≤ 1048576) (h2 : Reads w B2 1 A2 zs.length (texts (mkS (k0 + (xs.length : Int) + (ys.length : Int)) zs.length))) (hB2 : B2 ≤ w.heap.size) (hm2 : zs.length ≤ 1048576) (hk0 : 0 ≤ k0) (hk1 : k0 ≤ 4194304) :
    Calls Try.prog 31 #[.agg #[.slice A0 xs.length c0, .slice A1 ys.length c1, .slice A2 zs.length c2], .int .i64 k0] w (Gives w (.int .i64 (k0 + (xs.length : Int) + (ys.length : Int) + (zs.length : Int)))) := by
  have H0 := Lib.hid (h0.more hB0)
  have H1 := Lib.hid (h1.more hB1)
  have H2 := Lib.hid (h2.more hB2)
  clear h0 h1 h2
  have K1 := Lib.hid (Blk.new w 25 #[.slice A0 xs.length c0, .slice A1 ys.length c1, .slice A2 zs.length c2])
  have BB : Hid (Below w.heap.size w (w.alloc (.cells #[.slice A0 xs.length c0, .slice A1 ys.length c1, .slice A2 zs.length c2] 25))) := (Below.refl _ _).alloc (Nat.le_refl _) _
  go_enter Try.func31, Try.ntmps31
  go_wp2_with fail
  refine (heldStringS_any _ _ _ _ (k0) _ (H0.out.below BB.out) BB.out.size (by omega) (by omega) (by omega)).mono ?_
  rintro e w1 ⟨rfl, s1⟩
  have K1' := Lib.hid (K1.out.below s1 K1.out.lt)
  have BB' := Lib.hid (BB.out.trans (s1.mono BB.out.size))
  clear K1 BB s1
  have K1 := K1'; have BB := BB'
  clear K1' BB'
  have e11 : w1.cell? ⟨w.heap.size, 1, none⟩ = some (.slice A1 ys.length c1) := K1.out.cell 1
  have e12 : w1.cell? ⟨w.heap.size, 2, none⟩ = some (.slice A2 zs.length c2) := K1.out.cell 2
  go_wp2_with fail
  refine (heldStringS_any _ _ _ _ (k0 + (xs.length : Int)) _ (H1.out.below BB.out) BB.out.size (by omega) (by omega) (by omega)).mono ?_
  rintro e w2 ⟨rfl, s2⟩
  have K1' := Lib.hid (K1.out.below s2 K1.out.lt)
  have BB' := Lib.hid (BB.out.trans (s2.mono BB.out.size))
  clear K1 BB s2
  have K1 := K1'; have BB := BB'
  clear K1' BB'
  have e22 : w2.cell? ⟨w.heap.size, 2, none⟩ = some (.slice A2 zs.length c2) := K1.out.cell 2
  go_wp2_with fail
  refine (heldStringS_any _ _ _ _ (k0 + (xs.length : Int) + (ys.length : Int)) _ (H2.out.below BB.out) BB.out.size (by omega) (by omega) (by omega)).mono ?_
  rintro e w3 ⟨rfl, s3⟩
  have K1' := Lib.hid (K1.out.below s3 K1.out.lt)
  have BB' := Lib.hid (BB.out.trans (s3.mono BB.out.size))
  clear K1 BB s3
  have K1 := K1'; have BB := BB'
  clear K1' BB'
  go_wp2
  go_ret
  exact ⟨rfl, BB.out⟩


-- END to
end Go.Proofs.Ytdaamgonendkkaa
