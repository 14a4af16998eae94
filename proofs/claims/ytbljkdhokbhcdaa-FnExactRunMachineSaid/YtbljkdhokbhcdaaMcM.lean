/- Contracts of the laws' copying, comparing and marking functions on machines. Condition: the sizes. -/
import Derived.Test.YtbljkdhokbhcdaaRows
import Derived.Test.YtbljkdhokbhcdaaBase
import Derived.Test.YtbljkdhokbhcdaaBase2
import Derived.Test.YtbljkdhokbhcdaaOnly
import Derived.Test.YtbljkdhokbhcdaaIn
import Derived.Test.YtbljkdhokbhcdaaIntS
import Derived.Test.YtbljkdhokbhcdaaMarkI
import Derived.WalkKit
import Derived.WalkSpells
import Derived.WalkLawsBesides
import Derived.Handy
import Derived.BigQuiet
import Derived.Deep.RegionHeld3
import Derived.Deep.DrawnRows
import Derived.Deep.QuietTactic
namespace Go.Proofs.Ytbljkdhokbhcdaa
open Go Go.RowKit


set_option maxRecDepth 100000 in
set_option maxHeartbeats 4000000 in
theorem toMachine_any {A1 A2 : Option Addr} {c1 B1 c2 B2 : Nat} (at_ : Int) (xs : List Int) (ys : List Int) (w : World) (h1 : Reads w B1 1 A1 xs.length (nums .i64 xs)) (hB1 : B1 ≤ w.heap.size) (hm1 : xs.length ≤ 1048576) (h2 : Reads w B2 1 A2 ys.length (nums .i64 ys)) (hB2 : B2 ≤ w.heap.size) (hm2 : ys.length ≤ 1048576) :
    Calls Try.prog 7 #[.agg #[.int .i64 at_, .slice A1 xs.length c1, .slice A2 ys.length c2]] w fun e w' => ∃ X1 d1 X2 d2, e = .returned (.agg #[.int .i64 at_, .slice X1 xs.length d1, .slice X2 ys.length d2]) ∧ Below w.heap.size w w' ∧ w'.ownsRow w.heap.size 3 1 (.slice X1 xs.length d1) xs.length (nums .i64 xs) ∧ w'.ownsRow w.heap.size 3 1 (.slice X2 ys.length d2) ys.length (nums .i64 ys) ∧ (∀ a b, X1 = some a → X2 = some b → a.block ≠ b.block) := by
  have H1 := Lib.hid (h1.more hB1)
  have H2 := Lib.hid (h2.more hB2)
  clear h1 h2
  have K1 := Lib.hid (blk_new1 w 24 #[.int .i64 at_, .slice A1 xs.length c1, .slice A2 ys.length c2] (.cells #[.int .i64 0, .slice none 0 0, .slice none 0 0] 27) (.cells #[.int .i64 at_, .slice none 0 0, .slice none 0 0] 27))
  have K2 := Lib.hid (blk_new2 w 27 #[.int .i64 0, .slice none 0 0, .slice none 0 0] (.cells #[.int .i64 at_, .slice A1 xs.length c1, .slice A2 ys.length c2] 24) (.cells #[.int .i64 at_, .slice none 0 0, .slice none 0 0] 27))
  have K3 := Lib.hid (blk_new3 w 27 #[.int .i64 at_, .slice none 0 0, .slice none 0 0] (.cells #[.int .i64 at_, .slice A1 xs.length c1, .slice A2 ys.length c2] 24) (.cells #[.int .i64 0, .slice none 0 0, .slice none 0 0] 27))
  have BB := Lib.hid (below_new3 w (.cells #[.int .i64 at_, .slice A1 xs.length c1, .slice A2 ys.length c2] 24) (.cells #[.int .i64 0, .slice none 0 0, .slice none 0 0] 27) (.cells #[.int .i64 at_, .slice none 0 0, .slice none 0 0] 27))
  have ZZ : Hid (w.heap.size + 3 ≤ (((w.alloc (.cells #[.int .i64 at_, .slice A1 xs.length c1, .slice A2 ys.length c2] 24)).alloc (.cells #[.int .i64 0, .slice none 0 0, .slice none 0 0] 27)).alloc (.cells #[.int .i64 at_, .slice none 0 0, .slice none 0 0] 27)).heap.size) := by simp [Hid]
  go_enter Try.func7, Try.ntmps7
  go_wp2_with fail
  refine (toIntS_any _ _ _ xs _ (H1.out.below BB.out) (by have := ZZ.out; first | omega | (simp at this ⊢; omega) | (simp at this; omega) | (simp; omega)) hm1).mono ?_
  rintro e w1 ⟨X1, d1, rfl, o1, s1⟩
  have hon : Hid (Only (w.heap.size + 2) (w.heap.size + 3) (((w.alloc (.cells #[.int .i64 at_, .slice A1 xs.length c1, .slice A2 ys.length c2] 24)).alloc (.cells #[.int .i64 0, .slice none 0 0, .slice none 0 0] 27)).alloc (.cells #[.int .i64 at_, .slice none 0 0, .slice none 0 0] 27)) w1) := (Only.refl (w.heap.size + 2) (w.heap.size + 3) (((w.alloc (.cells #[.int .i64 at_, .slice A1 xs.length c1, .slice A2 ys.length c2] 24)).alloc (.cells #[.int .i64 0, .slice none 0 0, .slice none 0 0] 27)).alloc (.cells #[.int .i64 at_, .slice none 0 0, .slice none 0 0] 27))).trans (Only.of_below s1)
  have szq : (((w.alloc (.cells #[.int .i64 at_, .slice A1 xs.length c1, .slice A2 ys.length c2] 24)).alloc (.cells #[.int .i64 0, .slice none 0 0, .slice none 0 0] 27)).alloc (.cells #[.int .i64 at_, .slice none 0 0, .slice none 0 0] 27)).heap.size = (((w.alloc (.cells #[.int .i64 at_, .slice A1 xs.length c1, .slice A2 ys.length c2] 24)).alloc (.cells #[.int .i64 0, .slice none 0 0, .slice none 0 0] 27)).alloc (.cells #[.int .i64 at_, .slice none 0 0, .slice none 0 0] 27)).heap.size := by simp
  have K1' := Lib.hid (blk_only K1.out hon.out (Or.inl (by omega)))
  have K2' := Lib.hid (blk_only K2.out hon.out (Or.inl (by omega)))
  have K3' : Hid (Blk w1 (w.heap.size + 1 + 1) 27 #[.int .i64 at_, .slice none 0 0, .slice none 0 0]) := by
    have h := K3.out.below s1 (by rw [szq]; exact K3.out.lt)
    simpa [Hid] using h
  have O1 := Lib.hid (own_base (base' := w.heap.size + 3) o1 (by rw [szq]; exact ZZ.out))
  have BB' := Lib.hid (below_only BB.out hon.out (by omega) BB.out.size)
  have ZZ' := Lib.hid (Nat.le_trans ZZ.out hon.out.size)
  clear K1 K2 K3 BB ZZ hon szq o1 s1 
  have K1 := K1'; have K2 := K2'; have K3 := K3'; have BB := BB'; have ZZ := ZZ'
  clear K1' K2' K3' BB' ZZ'
  have e12 : w1.cell? ⟨w.heap.size, 2, none⟩ = some (.slice A2 ys.length c2) := K1.out.cell 2
  have f10 : w1.frozen? ⟨w.heap.size + 1 + 1, 0, none⟩ = false := K3.out.frozen 0
  have g10 : w1.cell? ⟨w.heap.size + 1 + 1, 0, none⟩ = some (.int .i64 at_) := K3.out.cell 0
  have f11 : w1.frozen? ⟨w.heap.size + 1 + 1, 1, none⟩ = false := K3.out.frozen 1
  have g11 : w1.cell? ⟨w.heap.size + 1 + 1, 1, none⟩ = some (.slice none 0 0) := K3.out.cell 1
  have f12 : w1.frozen? ⟨w.heap.size + 1 + 1, 2, none⟩ = false := K3.out.frozen 2
  have g12 : w1.cell? ⟨w.heap.size + 1 + 1, 2, none⟩ = some (.slice none 0 0) := K3.out.cell 2
  go_wp2_with fail
  refine (toIntS_any _ _ _ ys _ ((H2.out.below BB.out).setCell (by simp; omega) _) (by have := ZZ.out; first | omega | (simp at this ⊢; omega) | (simp at this; omega) | (simp; omega)) hm2).mono ?_
  rintro e w2 ⟨X2, d2, rfl, o2, s2⟩
  have hon : Hid (Only (w.heap.size + 2) (w.heap.size + 3) w1 w2) := ((Only.refl (w.heap.size + 2) (w.heap.size + 3) w1).set_ (p := ⟨w.heap.size + 1 + 1, 1, none⟩) (.slice X1 xs.length d1) (by simp) (by simp)).trans (Only.of_below s2)
  have szq : (w1.setCell ⟨w.heap.size + 1 + 1, 1, none⟩ (.slice X1 xs.length d1)).heap.size = w1.heap.size := by simp
  have K1' := Lib.hid (blk_only K1.out hon.out (Or.inl (by omega)))
  have K2' := Lib.hid (blk_only K2.out hon.out (Or.inl (by omega)))
  have K3' : Hid (Blk w2 (w.heap.size + 1 + 1) 27 #[.int .i64 at_, .slice X1 xs.length d1, .slice none 0 0]) := by
    have h := (K3.out.set_ 1 (.slice X1 xs.length d1)).below s2 (by rw [szq]; exact K3.out.lt)
    simpa [Hid] using h
  have q12 := apart_hi O1.out o2 (by rw [szq]; exact Nat.le_refl _)
  have O1' := Lib.hid (own_hi O1.out (Nat.le_refl _) hon.out)
  have O2 := Lib.hid (own_base (base' := w.heap.size + 3) o2 (by rw [szq]; exact ZZ.out))
  have BB' := Lib.hid (below_only BB.out hon.out (by omega) BB.out.size)
  have ZZ' := Lib.hid (Nat.le_trans ZZ.out hon.out.size)
  clear K1 K2 K3 BB ZZ hon szq o2 s2 O1
  have K1 := K1'; have K2 := K2'; have K3 := K3'; have BB := BB'; have ZZ := ZZ'; have O1 := O1'
  clear K1' K2' K3' BB' ZZ' O1'
  have f20 : w2.frozen? ⟨w.heap.size + 1 + 1, 0, none⟩ = false := K3.out.frozen 0
  have g20 : w2.cell? ⟨w.heap.size + 1 + 1, 0, none⟩ = some (.int .i64 at_) := K3.out.cell 0
  have f21 : w2.frozen? ⟨w.heap.size + 1 + 1, 1, none⟩ = false := K3.out.frozen 1
  have g21 : w2.cell? ⟨w.heap.size + 1 + 1, 1, none⟩ = some (.slice X1 xs.length d1) := K3.out.cell 1
  have f22 : w2.frozen? ⟨w.heap.size + 1 + 1, 2, none⟩ = false := K3.out.frozen 2
  have g22 : w2.cell? ⟨w.heap.size + 1 + 1, 2, none⟩ = some (.slice none 0 0) := K3.out.cell 2
  have p20 : w2.frozen? ⟨w.heap.size + 1, 0, none⟩ = false := K2.out.frozen 0
  have r20 : w2.cell? ⟨w.heap.size + 1, 0, none⟩ = some (.int .i64 0) := K2.out.cell 0
  have p21 : w2.frozen? ⟨w.heap.size + 1, 1, none⟩ = false := K2.out.frozen 1
  have r21 : w2.cell? ⟨w.heap.size + 1, 1, none⟩ = some (.slice none 0 0) := K2.out.cell 1
  have p22 : w2.frozen? ⟨w.heap.size + 1, 2, none⟩ = false := K2.out.frozen 2
  have r22 : w2.cell? ⟨w.heap.size + 1, 2, none⟩ = some (.slice none 0 0) := K2.out.cell 2
  have ON := Lib.hid ((((((Only.refl (w.heap.size + 1) (w.heap.size + 3) w2).set_ (p := ⟨w.heap.size + 1 + 1, 2, none⟩) (.slice X2 ys.length d2) (by simp) (by simp)).set_ (p := ⟨w.heap.size + 1, 0, none⟩) (.int .i64 at_) (by simp) (by simp)).set_ (p := ⟨w.heap.size + 1, 1, none⟩) (.slice X1 xs.length d1) (by simp) (by simp)).set_ (p := ⟨w.heap.size + 1, 2, none⟩) (.slice X2 ys.length d2) (by simp) (by simp)))
  go_wp2
  have KF0 := (K2.out.far (p := ⟨w.heap.size + 1 + 1, 2, none⟩) (by simp) (.slice X2 ys.length d2))
  have KF1 : Blk ((w2.setCell ⟨w.heap.size + 1 + 1, 2, none⟩ (.slice X2 ys.length d2)).setCell ⟨w.heap.size + 1, 0, none⟩ (.int .i64 at_)) (w.heap.size + 1) 27 #[.int .i64 at_, .slice none 0 0, .slice none 0 0] := by
    have h := KF0.set_ 0 (.int .i64 at_)
    simpa using h
  have y0 : ((w2.setCell ⟨w.heap.size + 1 + 1, 2, none⟩ (.slice X2 ys.length d2)).setCell ⟨w.heap.size + 1, 0, none⟩ (.int .i64 at_)).cell? ⟨w.heap.size + 1, 0, none⟩ = some (.int .i64 at_) := KF1.cell 0
  have KF2 : Blk (((w2.setCell ⟨w.heap.size + 1 + 1, 2, none⟩ (.slice X2 ys.length d2)).setCell ⟨w.heap.size + 1, 0, none⟩ (.int .i64 at_)).setCell ⟨w.heap.size + 1, 1, none⟩ (.slice X1 xs.length d1)) (w.heap.size + 1) 27 #[.int .i64 at_, .slice X1 xs.length d1, .slice none 0 0] := by
    have h := KF1.set_ 1 (.slice X1 xs.length d1)
    simpa using h
  have y1 : (((w2.setCell ⟨w.heap.size + 1 + 1, 2, none⟩ (.slice X2 ys.length d2)).setCell ⟨w.heap.size + 1, 0, none⟩ (.int .i64 at_)).setCell ⟨w.heap.size + 1, 1, none⟩ (.slice X1 xs.length d1)).cell? ⟨w.heap.size + 1, 1, none⟩ = some (.slice X1 xs.length d1) := KF2.cell 1
  have KF3 : Blk ((((w2.setCell ⟨w.heap.size + 1 + 1, 2, none⟩ (.slice X2 ys.length d2)).setCell ⟨w.heap.size + 1, 0, none⟩ (.int .i64 at_)).setCell ⟨w.heap.size + 1, 1, none⟩ (.slice X1 xs.length d1)).setCell ⟨w.heap.size + 1, 2, none⟩ (.slice X2 ys.length d2)) (w.heap.size + 1) 27 #[.int .i64 at_, .slice X1 xs.length d1, .slice X2 ys.length d2] := by
    have h := KF2.set_ 2 (.slice X2 ys.length d2)
    simpa using h
  have y2 : ((((w2.setCell ⟨w.heap.size + 1 + 1, 2, none⟩ (.slice X2 ys.length d2)).setCell ⟨w.heap.size + 1, 0, none⟩ (.int .i64 at_)).setCell ⟨w.heap.size + 1, 1, none⟩ (.slice X1 xs.length d1)).setCell ⟨w.heap.size + 1, 2, none⟩ (.slice X2 ys.length d2)).cell? ⟨w.heap.size + 1, 2, none⟩ = some (.slice X2 ys.length d2) := KF3.cell 2
  clear KF0 KF1 KF2 KF3
  try simp only [Exit.inBlock, Exit.then]
  refine bodyPost_ret (v := .agg #[.int .i64 at_, .slice X1 xs.length d1, .slice X2 ys.length d2]) (by simp [results, Try.results7, go_sem, y0, y1, y2]) rfl ?_
  refine ⟨X1, d1, X2, d2, rfl, below_only BB.out ON.out (by omega) BB.out.size, own_base (own_only O1.out ON.out (fun a ha => Or.inr (own_up O1.out a ha).1)) (by omega), own_base (own_only O2.out ON.out (fun a ha => Or.inr (own_up O2.out a ha).1)) (by omega), q12⟩

set_option maxRecDepth 100000 in
set_option maxHeartbeats 4000000 in
theorem eqMachine_same {A1 E1 A2 E2 : Option Addr} {c1 d1 B1 D1 c2 d2 B2 D2 : Nat} (at_ : Int) (xs : List Int) (ys : List Int) (w : World) (h1 : Reads w B1 1 A1 xs.length (nums .i64 xs)) (hB1 : B1 ≤ w.heap.size) (g1 : Reads w D1 1 E1 xs.length (nums .i64 xs)) (hD1 : D1 ≤ w.heap.size) (hm1 : xs.length ≤ 1048576) (h2 : Reads w B2 1 A2 ys.length (nums .i64 ys)) (hB2 : B2 ≤ w.heap.size) (g2 : Reads w D2 1 E2 ys.length (nums .i64 ys)) (hD2 : D2 ≤ w.heap.size) (hm2 : ys.length ≤ 1048576) :
    Calls Try.prog 10 #[.agg #[.int .i64 at_, .slice A1 xs.length c1, .slice A2 ys.length c2], .agg #[.int .i64 at_, .slice E1 xs.length d1, .slice E2 ys.length d2]] w (Gives w (.bool true)) := by
  have H1 := Lib.hid (h1.more hB1)
  have H2 := Lib.hid (h2.more hB2)
  have G1 := Lib.hid (g1.more hD1)
  have G2 := Lib.hid (g2.more hD2)
  clear h1 g1 h2 g2
  have K1 := Lib.hid ((Blk.new w 27 #[.int .i64 at_, .slice A1 xs.length c1, .slice A2 ys.length c2]).alloc (.cells #[.int .i64 at_, .slice E1 xs.length d1, .slice E2 ys.length d2] 27))
  have K2 : Hid (Blk ((w.alloc (.cells #[.int .i64 at_, .slice A1 xs.length c1, .slice A2 ys.length c2] 27)).alloc (.cells #[.int .i64 at_, .slice E1 xs.length d1, .slice E2 ys.length d2] 27)) (w.heap.size + 1) 27 #[.int .i64 at_, .slice E1 xs.length d1, .slice E2 ys.length d2]) := by
    have h := Blk.new (w.alloc (.cells #[.int .i64 at_, .slice A1 xs.length c1, .slice A2 ys.length c2] 27)) 27 #[.int .i64 at_, .slice E1 xs.length d1, .slice E2 ys.length d2]
    rwa [World.size_alloc] at h
  have BB : Hid (Below w.heap.size w ((w.alloc (.cells #[.int .i64 at_, .slice A1 xs.length c1, .slice A2 ys.length c2] 27)).alloc (.cells #[.int .i64 at_, .slice E1 xs.length d1, .slice E2 ys.length d2] 27))) := ((Below.refl _ _).alloc (Nat.le_refl _) _).alloc (by simp) _
  go_enter Try.func10, Try.ntmps10
  go_wp2_with fail
  refine (eqIntS_any _ _ _ _ _ _ xs xs _ (H1.out.below BB.out) (G1.out.below BB.out) hm1 hm1).mono ?_
  rintro e w1 ⟨rfl, s1⟩
  rw [decide_eq_true rfl]
  have K1' := Lib.hid (K1.out.below s1 K1.out.lt)
  have K2' := Lib.hid (K2.out.below s1 K2.out.lt)
  have BB' := Lib.hid (BB.out.trans (s1.mono BB.out.size))
  clear K1 K2 BB s1
  have K1 := K1'; have K2 := K2'; have BB := BB'
  clear K1' K2' BB'
  have e12 : w1.cell? ⟨w.heap.size, 2, none⟩ = some (.slice A2 ys.length c2) := K1.out.cell 2
  have f12 : w1.cell? ⟨w.heap.size + 1, 2, none⟩ = some (.slice E2 ys.length d2) := K2.out.cell 2
  go_wp2_with fail
  refine (eqIntS_any _ _ _ _ _ _ ys ys _ (H2.out.below BB.out) (G2.out.below BB.out) hm2 hm2).mono ?_
  rintro e w2 ⟨rfl, s2⟩
  rw [decide_eq_true rfl]
  have K1' := Lib.hid (K1.out.below s2 K1.out.lt)
  have K2' := Lib.hid (K2.out.below s2 K2.out.lt)
  have BB' := Lib.hid (BB.out.trans (s2.mono BB.out.size))
  clear K1 K2 BB s2
  have K1 := K1'; have K2 := K2'; have BB := BB'
  clear K1' K2' BB'
  go_wp2
  go_ret
  exact ⟨rfl, BB.out⟩

set_option maxRecDepth 100000 in
set_option maxHeartbeats 4000000 in
theorem markMachine_any {A1 A2 : Option Addr} {c1 c2 lo hi : Nat} (at_ : Int) (xs : List Int) (ys : List Int) (k0 : Int) (w : World) (h1 : w.ownsRow lo 3 1 (.slice A1 xs.length c1) xs.length (nums .i64 xs)) (u1 : ∀ a, A1 = some a → a.block < hi) (hm1 : xs.length ≤ 1048576) (h2 : w.ownsRow lo 3 1 (.slice A2 ys.length c2) ys.length (nums .i64 ys)) (u2 : ∀ a, A2 = some a → a.block < hi) (hm2 : ys.length ≤ 1048576) (p12 : ∀ a b, A1 = some a → A2 = some b → a.block ≠ b.block) (hhi : hi ≤ w.heap.size) (hk0 : 0 ≤ k0) (hk1 : k0 ≤ 4194304) :
    Calls Try.prog 12 #[.agg #[.int .i64 at_, .slice A1 xs.length c1, .slice A2 ys.length c2], .int .i64 k0] w fun e w' => e = .returned (.int .i64 (k0 + (xs.length : Int) + (ys.length : Int))) ∧ Only lo hi w w' ∧ w'.ownsRow lo 3 1 (.slice A1 xs.length c1) xs.length (nums .i64 (mkI (k0) xs.length)) ∧ w'.ownsRow lo 3 1 (.slice A2 ys.length c2) ys.length (nums .i64 (mkI (k0 + (xs.length : Int)) ys.length)) := by
  have O1 := Lib.hid (h1.alloc (.cells #[.int .i64 at_, .slice A1 xs.length c1, .slice A2 ys.length c2] 27))
  have O2 := Lib.hid (h2.alloc (.cells #[.int .i64 at_, .slice A1 xs.length c1, .slice A2 ys.length c2] 27))
  clear h1 h2
  have K1 := Lib.hid (Blk.new w 27 #[.int .i64 at_, .slice A1 xs.length c1, .slice A2 ys.length c2])
  have ON : Hid (Only lo hi w (w.alloc (.cells #[.int .i64 at_, .slice A1 xs.length c1, .slice A2 ys.length c2] 27))) := Only.of_below ((Below.refl _ _).alloc (Nat.le_refl _) _)
  go_enter Try.func12, Try.ntmps12
  go_wp2_with fail
  refine (markIntS_any _ _ _ _ (k0) _ _ O1.out (by omega) (by omega) (by omega)).mono ?_
  rintro e w1 ⟨rfl, n1, s1⟩
  have hon : Hid (Only lo hi _ w1) := Only.of_marks O1.out u1 s1
  have K1' := Lib.hid (blk_only K1.out hon.out (Or.inr hhi))
  have ON' := Lib.hid (ON.out.trans hon.out)
  have O2' := Lib.hid (own_other O2.out s1 (fun a a2 h1 h2 => (p12 a2 a h2 h1).symm))
  have O1' := Lib.hid n1
  clear K1 ON hon s1 n1 O1 O2
  have K1 := K1'; have ON := ON'; have O1 := O1'; have O2 := O2'
  clear K1' ON' O1' O2'
  have e12 : w1.cell? ⟨w.heap.size, 2, none⟩ = some (.slice A2 ys.length c2) := K1.out.cell 2
  go_wp2_with fail
  refine (markIntS_any _ _ _ _ (k0 + (xs.length : Int)) _ _ O2.out (by omega) (by omega) (by omega)).mono ?_
  rintro e w2 ⟨rfl, n2, s2⟩
  have hon : Hid (Only lo hi _ w2) := Only.of_marks O2.out u2 s2
  have K1' := Lib.hid (blk_only K1.out hon.out (Or.inr hhi))
  have ON' := Lib.hid (ON.out.trans hon.out)
  have O1' := Lib.hid (own_other O1.out s2 (fun a a2 h1 h2 => p12 a a2 h1 h2))
  have O2' := Lib.hid n2
  clear K1 ON hon s2 n2 O1 O2
  have K1 := K1'; have ON := ON'; have O1 := O1'; have O2 := O2'
  clear K1' ON' O1' O2'
  go_wp2
  go_ret
  exact ⟨rfl, ON.out, O1.out, O2.out⟩

set_option maxRecDepth 100000 in
set_option maxHeartbeats 4000000 in
theorem heldMachine_any {A1 A2 : Option Addr} {c1 B1 c2 B2 : Nat} (at_ : Int) (xs : List Int) (ys : List Int) (k0 : Int) (w : World) (h1 : Reads w B1 1 A1 xs.length (nums .i64 (mkI (k0) xs.length))) (hB1 : B1 ≤ w.heap.size) (hm1 : xs.length ≤ 1048576) (h2 : Reads w B2 1 A2 ys.length (nums .i64 (mkI (k0 + (xs.length : Int)) ys.length))) (hB2 : B2 ≤ w.heap.size) (hm2 : ys.length ≤ 1048576) (hk0 : 0 ≤ k0) (hk1 : k0 ≤ 4194304) :
    Calls Try.prog 14 #[.agg #[.int .i64 at_, .slice A1 xs.length c1, .slice A2 ys.length c2], .int .i64 k0] w (Gives w (.int .i64 (k0 + (xs.length : Int) + (ys.length : Int)))) := by
  have H1 := Lib.hid (h1.more hB1)
  have H2 := Lib.hid (h2.more hB2)
  clear h1 h2
  have K1 := Lib.hid (Blk.new w 27 #[.int .i64 at_, .slice A1 xs.length c1, .slice A2 ys.length c2])
  have BB : Hid (Below w.heap.size w (w.alloc (.cells #[.int .i64 at_, .slice A1 xs.length c1, .slice A2 ys.length c2] 27))) := (Below.refl _ _).alloc (Nat.le_refl _) _
  go_enter Try.func14, Try.ntmps14
  go_wp2_with fail
  refine (heldIntS_any _ _ _ _ (k0) _ (H1.out.below BB.out) (by omega) (by omega) (by omega)).mono ?_
  rintro e w1 ⟨rfl, s1⟩
  have K1' := Lib.hid (K1.out.below s1 K1.out.lt)
  have BB' := Lib.hid (BB.out.trans (s1.mono BB.out.size))
  clear K1 BB s1
  have K1 := K1'; have BB := BB'
  clear K1' BB'
  have e12 : w1.cell? ⟨w.heap.size, 2, none⟩ = some (.slice A2 ys.length c2) := K1.out.cell 2
  go_wp2_with fail
  refine (heldIntS_any _ _ _ _ (k0 + (xs.length : Int)) _ (H2.out.below BB.out) (by omega) (by omega) (by omega)).mono ?_
  rintro e w2 ⟨rfl, s2⟩
  have K1' := Lib.hid (K1.out.below s2 K1.out.lt)
  have BB' := Lib.hid (BB.out.trans (s2.mono BB.out.size))
  clear K1 BB s2
  have K1 := K1'; have BB := BB'
  clear K1' BB'
  go_wp2
  go_ret
  exact ⟨rfl, BB.out⟩
end Go.Proofs.Ytbljkdhokbhcdaa
