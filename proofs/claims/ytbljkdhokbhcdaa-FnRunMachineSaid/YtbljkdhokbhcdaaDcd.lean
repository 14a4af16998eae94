/- Contract of the drawing of a valid instruction. Condition: the reader. -/
import Derived.Test.YtbljkdhokbhcdaaRows
import Derived.Test.YtbljkdhokbhcdaaBase
import Derived.Test.YtbljkdhokbhcdaaBase2
import Derived.Test.YtbljkdhokbhcdaaBase3
import Derived.Test.YtbljkdhokbhcdaaOnly
import Derived.Test.YtbljkdhokbhcdaaIn
import Derived.Test.YtbljkdhokbhcdaaIn2
import Derived.Test.YtbljkdhokbhcdaaGet2IS
import Derived.Test.YtbljkdhokbhcdaaPick
import Derived.Test.YtbljkdhokbhcdaaPick2
import Derived.Test.YtbljkdhokbhcdaaKT
import Derived.Test.YtbljkdhokbhcdaaMc
import Derived.Test.YtbljkdhokbhcdaaMcy
import Derived.Test.YtbljkdhokbhcdaaCd
import Derived.WalkKit
import Derived.WalkSpells
import Derived.WalkLawsBesides
import Derived.Handy
import Derived.BigQuiet
import Derived.Deep.RegionHeld3
import Derived.Deep.DrawnRows
import Derived.Deep.QuietTactic
import Derived.Deep.CutBlock
namespace Go.Proofs.Ytbljkdhokbhcdaa
open Go Go.RowKit

set_option maxRecDepth 100000 in
set_option maxHeartbeats 4000000 in
theorem l20Code0_any (r P : Nat) (w : World) (hr : Rdr w r P) (hP : P ≤ 100000) : Calls Try.prog 45 #[.pointer (some ⟨r, 0, none⟩), .int .i64 0] w (fun e w' => ∃ d a : Int, e = .returned (.agg #[.int .i64 d, .int .i64 a]) ∧ Rdr w' r (P + 10) ∧ w.grownBy w' (some r)) := by
  have hrl := hr.lt
  have HR0 := Lib.hid hr
  clear hr
  obtain ⟨w1, hw1⟩ : ∃ w1, w1 = w.alloc (.cells #[.int .i64 0, .int .i64 0] 57) := ⟨_, rfl⟩
  obtain ⟨g4, hg4⟩ : ∃ g4, g4 = w.heap.size := ⟨_, rfl⟩
  have s9 : Below w.heap.size w w1 := by rw [hw1]; exact (Below.refl _ _).alloc (Nat.le_refl _) _
  have HZ : Hid (Blk w1 g4 57 #[.int .i64 0, .int .i64 0]) := by rw [hw1, hg4]; exact Blk.new _ _ _
  have HGR : Hid (w.grownBy w1 (some r)) := gr_below (grown_refl w (some r)) s9
  have HR : Hid (Rdr w1 r P) := HR0.out.below s9
  have hge_g4 : w.heap.size ≤ g4 := by omega
  have hsz_w1 : w.heap.size ≤ w1.heap.size := s9.size
  clear s9 HR0
  go_enter Try.func45, Try.ntmps45
  go_upto_region 1 with fail
  rw [← hw1, ← hg4]
  clear hw1 hg4
  go_wp2_with fail
  refine (pick_any r (P) 8 w1 HR.out (by omega) (by omega) (by omega)).mono ?_
  rintro e w2 ⟨d, rfl, ⟨da, db⟩, hr9, hg9⟩
  clear HR
  have HGR' : Hid (w.grownBy w2 (some r)) := gr_trans HGR.out hg9
  clear HGR
  have HGR := HGR'
  clear HGR'
  have HZ' : Hid (Blk w2 g4 57 #[.int .i64 0, .int .i64 0]) := HZ.out.grown hg9 (by simp; omega)
  clear HZ
  have HZ := HZ'
  clear HZ'
  have HR := Lib.hid hr9
  have hsz_w2 : w1.heap.size ≤ w2.heap.size := hg9.size
  clear hr9 hg9
  go_upto_region 2 with fail
  have hz4 := HZ.out.lt
  obtain ⟨g5, hg5⟩ : ∃ g5, g5 = w2.heap.size := ⟨_, rfl⟩
  obtain ⟨w3, hw3⟩ : ∃ w3, w3 = w2.alloc (.cells #[.int .i64 d, .int .i64 0] 57) := ⟨_, rfl⟩
  have s9 : Below w2.heap.size w2 w3 := by rw [hw3]; exact (Below.refl _ _).alloc (Nat.le_refl _) _
  have H5 : Hid (Blk w3 g5 57 #[.int .i64 d, .int .i64 0]) := by rw [hg5]; rw [hw3]; exact Blk.new _ _ _
  have HR' : Hid (Rdr w3 r (P + 1)) := HR.out.below s9
  clear HR
  have HR := HR'
  clear HR'
  have hge_g5 : w2.heap.size ≤ g5 := by omega
  have hsz_w3 : w2.heap.size ≤ w3.heap.size := s9.size
  rw [← hw3, ← hg5]
  clear hw3 hg5
  have HGR' : Hid (w.grownBy w3 (some r)) := gr_below HGR.out s9
  clear HGR
  have HGR := HGR'
  clear HGR'
  have HZ' : Hid (Blk w3 g4 57 #[.int .i64 0, .int .i64 0]) := HZ.out.below s9 HZ.out.lt
  clear HZ
  have HZ := HZ'
  clear HZ'
  clear s9
  have x0 : w3.cell? ⟨g5, 0, none⟩ = some (.int .i64 d) := H5.out.cell 0
  go_wp2_with fail
  clear x0
  refine (specHas_any d w3).mono ?_
  rintro e w4 ⟨rfl, s9⟩
  have HR' : Hid (Rdr w4 r (P + 1)) := HR.out.below s9
  clear HR
  have HR := HR'
  clear HR'
  have hsz_w4 : w3.heap.size ≤ w4.heap.size := s9.size
  have HGR' : Hid (w.grownBy w4 (some r)) := gr_below HGR.out s9
  clear HGR
  have HGR := HGR'
  clear HGR'
  have HZ' : Hid (Blk w4 g4 57 #[.int .i64 0, .int .i64 0]) := HZ.out.below s9 HZ.out.lt
  clear HZ
  have HZ := HZ'
  clear HZ'
  have H5' : Hid (Blk w4 g5 57 #[.int .i64 d, .int .i64 0]) := H5.out.below s9 H5.out.lt
  clear H5
  have H5 := H5'
  clear H5'
  clear s9
  cases hA : hasA d
  · go_wp2_with fail
    refine (odd_zero r w4).mono ?_
    rintro e w' ⟨rfl, rfl⟩
    have v0 : w4.cell? ⟨g5, 0, none⟩ = some (.int .i64 d) := H5.out.cell 0
    have v1 : w4.cell? ⟨g5, 1, none⟩ = some (.int .i64 0) := H5.out.cell 1
    have z0 : w4.cell? ⟨g4, 0, none⟩ = some (.int .i64 0) := HZ.out.cell 0
    have z1 : w4.cell? ⟨g4, 1, none⟩ = some (.int .i64 0) := HZ.out.cell 1
    have f0 : w4.frozen? ⟨g4, 0, none⟩ = false := HZ.out.frozen 0
    have f1 : w4.frozen? ⟨g4, 1, none⟩ = false := HZ.out.frozen 1
    have HQ := Lib.hid ((HZ.out.set_ 0 (.int .i64 d)).set_ 1 (.int .i64 0))
    have HQR := Lib.hid (((HR.out.more (show P + 1 ≤ P + 10 by omega)).setCell (p := ⟨g4, 0, none⟩) (by simp only; omega) (.int .i64 d)).setCell (p := ⟨g4, 1, none⟩) (by simp only; omega) (.int .i64 0))
    have HQG := Lib.hid (gr_setCell (gr_setCell HGR.out (p := ⟨g4, 0, none⟩) (by simp only; omega) (.int .i64 d)) (p := ⟨g4, 1, none⟩) (by simp only; omega) (.int .i64 0))
    go_wp2
    generalize World.setCell _ ⟨g4, 1, none⟩ _ = WF at HQ HQR HQG ⊢
    have y0 : WF.cell? ⟨g4, 0, none⟩ = some (.int .i64 d) := HQ.out.cell 0
    have y1 : WF.cell? ⟨g4, 1, none⟩ = some (.int .i64 0) := HQ.out.cell 1
    refine bodyPost_ret (v := .agg #[.int .i64 d, .int .i64 0]) (by simp [results, Try.results45, go_sem, y0, y1]) rfl ?_
    exact ⟨d, 0, rfl, HQR.out, HQG.out⟩
  · go_wp2_with fail
    refine (pick_any r (P + 1) 20 w4 HR.out (by omega) (by omega) (by omega)).mono ?_
    rintro e w5 ⟨p, rfl, ⟨pa, pb⟩, hr9, hg9⟩
    clear HR
    have HGR' : Hid (w.grownBy w5 (some r)) := gr_trans HGR.out hg9
    clear HGR
    have HGR := HGR'
    clear HGR'
    have HZ' : Hid (Blk w5 g4 57 #[.int .i64 0, .int .i64 0]) := HZ.out.grown hg9 (by simp; omega)
    clear HZ
    have HZ := HZ'
    clear HZ'
    have H5' : Hid (Blk w5 g5 57 #[.int .i64 d, .int .i64 0]) := H5.out.grown hg9 (by simp; omega)
    clear H5
    have H5 := H5'
    clear H5'
    have HR := Lib.hid hr9
    have hsz_w5 : w4.heap.size ≤ w5.heap.size := hg9.size
    clear hr9 hg9
    go_wp2_with fail
    refine (pick_any r (P + 1 + 1) 256 w5 HR.out (by omega) (by omega) (by omega)).mono ?_
    rintro e w6 ⟨q, rfl, ⟨qa, qb⟩, hr9, hg9⟩
    clear HR
    have HGR' : Hid (w.grownBy w6 (some r)) := gr_trans HGR.out hg9
    clear HGR
    have HGR := HGR'
    clear HGR'
    have HZ' : Hid (Blk w6 g4 57 #[.int .i64 0, .int .i64 0]) := HZ.out.grown hg9 (by simp; omega)
    clear HZ
    have HZ := HZ'
    clear HZ'
    have H5' : Hid (Blk w6 g5 57 #[.int .i64 d, .int .i64 0]) := H5.out.grown hg9 (by simp; omega)
    clear H5
    have H5 := H5'
    clear H5'
    have HR := Lib.hid hr9
    have hsz_w6 : w5.heap.size ≤ w6.heap.size := hg9.size
    clear hr9 hg9
    have wq : IntKind.i64.wrap (q * 256) = q * 256 := IntWalk.i64_in _ (by omega)
    have wq2 : IntKind.i64.wrap (256 * q) = q * 256 := by rw [Int.mul_comm]; exact wq
    go_wp2_with fail
    obtain ⟨g8, hg8⟩ : ∃ g8, g8 = w6.heap.size := ⟨_, rfl⟩
    obtain ⟨w7, hw7⟩ : ∃ w7, w7 = w6.alloc (.cells #[.int .i64 p, .int .i64 (q * 256), .int .i64 65535] 3) := ⟨_, rfl⟩
    have s9 : Below w6.heap.size w6 w7 := by rw [hw7]; exact (Below.refl _ _).alloc (Nat.le_refl _) _
    have H8 : Hid (Blk w7 g8 3 #[.int .i64 p, .int .i64 (q * 256), .int .i64 65535]) := by rw [hg8]; rw [hw7]; exact Blk.new _ _ _
    have HR' : Hid (Rdr w7 r (P + 1 + 1 + 1)) := HR.out.below s9
    clear HR
    have HR := HR'
    clear HR'
    have hge_g8 : w6.heap.size ≤ g8 := by omega
    have hsz_w7 : w6.heap.size ≤ w7.heap.size := s9.size
    have hs_g8 : w7.heap.size = g8 + 1 := by rw [hw7, hg8]; simp
    rw [← hw7, ← hg8]
    clear hw7 hg8
    have HGR' : Hid (w.grownBy w7 (some r)) := gr_below HGR.out s9
    clear HGR
    have HGR := HGR'
    clear HGR'
    have HZ' : Hid (Blk w7 g4 57 #[.int .i64 0, .int .i64 0]) := HZ.out.below s9 HZ.out.lt
    clear HZ
    have HZ := HZ'
    clear HZ'
    have H5' : Hid (Blk w7 g5 57 #[.int .i64 d, .int .i64 0]) := H5.out.below s9 H5.out.lt
    clear H5
    have H5 := H5'
    clear H5'
    clear s9
    obtain ⟨g9, hg9⟩ : ∃ g9, g9 = g8 + 1 := ⟨_, rfl⟩
    obtain ⟨w8, hw8⟩ : ∃ w8, w8 = w7.alloc (.cells #[.int .i64 0, .int .i64 0, .int .i64 1, .int .i64 2] 3) := ⟨_, rfl⟩
    have s9 : Below w7.heap.size w7 w8 := by rw [hw8]; exact (Below.refl _ _).alloc (Nat.le_refl _) _
    have H9 : Hid (Blk w8 g9 3 #[.int .i64 0, .int .i64 0, .int .i64 1, .int .i64 2]) := by rw [hg9, ← hs_g8]; rw [hw8]; exact Blk.new _ _ _
    have HR' : Hid (Rdr w8 r (P + 1 + 1 + 1)) := HR.out.below s9
    clear HR
    have HR := HR'
    clear HR'
    have hge_g9 : w7.heap.size ≤ g9 := by omega
    have hsz_w8 : w7.heap.size ≤ w8.heap.size := s9.size
    rw [← hw8, ← hg9]
    clear hw8 hg9 hs_g8
    have HGR' : Hid (w.grownBy w8 (some r)) := gr_below HGR.out s9
    clear HGR
    have HGR := HGR'
    clear HGR'
    have HZ' : Hid (Blk w8 g4 57 #[.int .i64 0, .int .i64 0]) := HZ.out.below s9 HZ.out.lt
    clear HZ
    have HZ := HZ'
    clear HZ'
    have H5' : Hid (Blk w8 g5 57 #[.int .i64 d, .int .i64 0]) := H5.out.below s9 H5.out.lt
    clear H5
    have H5 := H5'
    clear H5'
    have H8' : Hid (Blk w8 g8 3 #[.int .i64 p, .int .i64 (q * 256), .int .i64 65535]) := H8.out.below s9 H8.out.lt
    clear H8
    have H8 := H8'
    clear H8'
    clear s9
    refine (pick_any r (P + 1 + 1 + 1) 4 w8 HR.out (by omega) (by omega) (by omega)).mono ?_
    rintro e w9 ⟨k, rfl, ⟨ka, kb⟩, hr9, hg9⟩
    clear HR
    have HGR' : Hid (w.grownBy w9 (some r)) := gr_trans HGR.out hg9
    clear HGR
    have HGR := HGR'
    clear HGR'
    have HZ' : Hid (Blk w9 g4 57 #[.int .i64 0, .int .i64 0]) := HZ.out.grown hg9 (by simp; omega)
    clear HZ
    have HZ := HZ'
    clear HZ'
    have H5' : Hid (Blk w9 g5 57 #[.int .i64 d, .int .i64 0]) := H5.out.grown hg9 (by simp; omega)
    clear H5
    have H5 := H5'
    clear H5'
    have H8' : Hid (Blk w9 g8 3 #[.int .i64 p, .int .i64 (q * 256), .int .i64 65535]) := H8.out.grown hg9 (by simp; omega)
    clear H8
    have H8 := H8'
    clear H8'
    have H9' : Hid (Blk w9 g9 3 #[.int .i64 0, .int .i64 0, .int .i64 1, .int .i64 2]) := H9.out.grown hg9 (by simp; omega)
    clear H9
    have H9 := H9'
    clear H9'
    have HR := Lib.hid hr9
    have hsz_w9 : w8.heap.size ≤ w9.heap.size := hg9.size
    clear hr9 hg9
    have l0 : w9.cell? ⟨g8, 0, none⟩ = some (.int .i64 p) := H8.out.cell 0
    have l1 : w9.cell? ⟨g8, 1, none⟩ = some (.int .i64 (q * 256)) := H8.out.cell 1
    have l2 : w9.cell? ⟨g8, 2, none⟩ = some (.int .i64 65535) := H8.out.cell 2
    have m0 : w9.cell? ⟨g9, 0, none⟩ = some (.int .i64 0) := H9.out.cell 0
    have m1 : w9.cell? ⟨g9, 1, none⟩ = some (.int .i64 0) := H9.out.cell 1
    have m2 : w9.cell? ⟨g9, 2, none⟩ = some (.int .i64 1) := H9.out.cell 2
    have m3 : w9.cell? ⟨g9, 3, none⟩ = some (.int .i64 2) := H9.out.cell 3
    have b1 : w9.cell? ⟨g5, 1, none⟩ = some (.int .i64 0) := H5.out.cell 1
    have bf : w9.frozen? ⟨g5, 1, none⟩ = false := H5.out.frozen 1
    rcases (by omega : k = 0 ∨ k = 1 ∨ k = 2 ∨ k = 3) with hk | hk | hk | hk
    · subst hk
      have H5' : Hid (Blk (w9.setCell ⟨g5, 1, none⟩ (.int .i64 p)) g5 57 #[.int .i64 d, .int .i64 p]) := H5.out.set_ 1 _
      have HZ' : Hid (Blk (w9.setCell ⟨g5, 1, none⟩ (.int .i64 p)) g4 57 #[.int .i64 0, .int .i64 0]) := HZ.out.far (by simp only [ne_eq]; omega) _
      have HR' : Hid (Rdr (w9.setCell ⟨g5, 1, none⟩ (.int .i64 p)) r (P + 1 + 1 + 1 + 1)) := HR.out.setCell (by simp only; omega) _
      have HGR' : Hid (w.grownBy (w9.setCell ⟨g5, 1, none⟩ (.int .i64 p)) (some r)) := gr_setCell HGR.out (by simp only; omega) _
      clear H5 HZ HR HGR H8 H9
      have H5 := H5'
      have HZ := HZ'
      have HR := HR'
      have HGR := HGR'
      clear H5' HZ' HR' HGR'
      go_wp2_with fail
      generalize (w9.setCell ⟨g5, 1, none⟩ (.int .i64 p)) = wS at H5 HZ HR HGR ⊢
      clear l0 l1 l2 m0 m1 m2 m3 b1 bf
      refine (odd_zero r wS).mono ?_
      rintro e w' ⟨rfl, rfl⟩
      have v0 : wS.cell? ⟨g5, 0, none⟩ = some (.int .i64 d) := H5.out.cell 0
      have v1 : wS.cell? ⟨g5, 1, none⟩ = some (.int .i64 p) := H5.out.cell 1
      have z0 : wS.cell? ⟨g4, 0, none⟩ = some (.int .i64 0) := HZ.out.cell 0
      have z1 : wS.cell? ⟨g4, 1, none⟩ = some (.int .i64 0) := HZ.out.cell 1
      have f0 : wS.frozen? ⟨g4, 0, none⟩ = false := HZ.out.frozen 0
      have f1 : wS.frozen? ⟨g4, 1, none⟩ = false := HZ.out.frozen 1
      have HQ := Lib.hid ((HZ.out.set_ 0 (.int .i64 d)).set_ 1 (.int .i64 p))
      have HQR := Lib.hid (((HR.out.more (show P + 1 + 1 + 1 + 1 ≤ P + 10 by omega)).setCell (p := ⟨g4, 0, none⟩) (by simp only; omega) (.int .i64 d)).setCell (p := ⟨g4, 1, none⟩) (by simp only; omega) (.int .i64 p))
      have HQG := Lib.hid (gr_setCell (gr_setCell HGR.out (p := ⟨g4, 0, none⟩) (by simp only; omega) (.int .i64 d)) (p := ⟨g4, 1, none⟩) (by simp only; omega) (.int .i64 p))
      go_wp2
      generalize World.setCell _ ⟨g4, 1, none⟩ _ = WF at HQ HQR HQG ⊢
      have y0 : WF.cell? ⟨g4, 0, none⟩ = some (.int .i64 d) := HQ.out.cell 0
      have y1 : WF.cell? ⟨g4, 1, none⟩ = some (.int .i64 p) := HQ.out.cell 1
      refine bodyPost_ret (v := .agg #[.int .i64 d, .int .i64 p]) (by simp [results, Try.results45, go_sem, y0, y1]) rfl ?_
      exact ⟨d, p, rfl, HQR.out, HQG.out⟩
    · subst hk
      have H5' : Hid (Blk (w9.setCell ⟨g5, 1, none⟩ (.int .i64 p)) g5 57 #[.int .i64 d, .int .i64 p]) := H5.out.set_ 1 _
      have HZ' : Hid (Blk (w9.setCell ⟨g5, 1, none⟩ (.int .i64 p)) g4 57 #[.int .i64 0, .int .i64 0]) := HZ.out.far (by simp only [ne_eq]; omega) _
      have HR' : Hid (Rdr (w9.setCell ⟨g5, 1, none⟩ (.int .i64 p)) r (P + 1 + 1 + 1 + 1)) := HR.out.setCell (by simp only; omega) _
      have HGR' : Hid (w.grownBy (w9.setCell ⟨g5, 1, none⟩ (.int .i64 p)) (some r)) := gr_setCell HGR.out (by simp only; omega) _
      clear H5 HZ HR HGR H8 H9
      have H5 := H5'
      have HZ := HZ'
      have HR := HR'
      have HGR := HGR'
      clear H5' HZ' HR' HGR'
      go_wp2_with fail
      generalize (w9.setCell ⟨g5, 1, none⟩ (.int .i64 p)) = wS at H5 HZ HR HGR ⊢
      clear l0 l1 l2 m0 m1 m2 m3 b1 bf
      refine (odd_zero r wS).mono ?_
      rintro e w' ⟨rfl, rfl⟩
      have v0 : wS.cell? ⟨g5, 0, none⟩ = some (.int .i64 d) := H5.out.cell 0
      have v1 : wS.cell? ⟨g5, 1, none⟩ = some (.int .i64 p) := H5.out.cell 1
      have z0 : wS.cell? ⟨g4, 0, none⟩ = some (.int .i64 0) := HZ.out.cell 0
      have z1 : wS.cell? ⟨g4, 1, none⟩ = some (.int .i64 0) := HZ.out.cell 1
      have f0 : wS.frozen? ⟨g4, 0, none⟩ = false := HZ.out.frozen 0
      have f1 : wS.frozen? ⟨g4, 1, none⟩ = false := HZ.out.frozen 1
      have HQ := Lib.hid ((HZ.out.set_ 0 (.int .i64 d)).set_ 1 (.int .i64 p))
      have HQR := Lib.hid (((HR.out.more (show P + 1 + 1 + 1 + 1 ≤ P + 10 by omega)).setCell (p := ⟨g4, 0, none⟩) (by simp only; omega) (.int .i64 d)).setCell (p := ⟨g4, 1, none⟩) (by simp only; omega) (.int .i64 p))
      have HQG := Lib.hid (gr_setCell (gr_setCell HGR.out (p := ⟨g4, 0, none⟩) (by simp only; omega) (.int .i64 d)) (p := ⟨g4, 1, none⟩) (by simp only; omega) (.int .i64 p))
      go_wp2
      generalize World.setCell _ ⟨g4, 1, none⟩ _ = WF at HQ HQR HQG ⊢
      have y0 : WF.cell? ⟨g4, 0, none⟩ = some (.int .i64 d) := HQ.out.cell 0
      have y1 : WF.cell? ⟨g4, 1, none⟩ = some (.int .i64 p) := HQ.out.cell 1
      refine bodyPost_ret (v := .agg #[.int .i64 d, .int .i64 p]) (by simp [results, Try.results45, go_sem, y0, y1]) rfl ?_
      exact ⟨d, p, rfl, HQR.out, HQG.out⟩
    · subst hk
      have H5' : Hid (Blk (w9.setCell ⟨g5, 1, none⟩ (.int .i64 (q * 256))) g5 57 #[.int .i64 d, .int .i64 (q * 256)]) := H5.out.set_ 1 _
      have HZ' : Hid (Blk (w9.setCell ⟨g5, 1, none⟩ (.int .i64 (q * 256))) g4 57 #[.int .i64 0, .int .i64 0]) := HZ.out.far (by simp only [ne_eq]; omega) _
      have HR' : Hid (Rdr (w9.setCell ⟨g5, 1, none⟩ (.int .i64 (q * 256))) r (P + 1 + 1 + 1 + 1)) := HR.out.setCell (by simp only; omega) _
      have HGR' : Hid (w.grownBy (w9.setCell ⟨g5, 1, none⟩ (.int .i64 (q * 256))) (some r)) := gr_setCell HGR.out (by simp only; omega) _
      clear H5 HZ HR HGR H8 H9
      have H5 := H5'
      have HZ := HZ'
      have HR := HR'
      have HGR := HGR'
      clear H5' HZ' HR' HGR'
      go_wp2_with fail
      generalize (w9.setCell ⟨g5, 1, none⟩ (.int .i64 (q * 256))) = wS at H5 HZ HR HGR ⊢
      clear l0 l1 l2 m0 m1 m2 m3 b1 bf
      refine (odd_zero r wS).mono ?_
      rintro e w' ⟨rfl, rfl⟩
      have v0 : wS.cell? ⟨g5, 0, none⟩ = some (.int .i64 d) := H5.out.cell 0
      have v1 : wS.cell? ⟨g5, 1, none⟩ = some (.int .i64 (q * 256)) := H5.out.cell 1
      have z0 : wS.cell? ⟨g4, 0, none⟩ = some (.int .i64 0) := HZ.out.cell 0
      have z1 : wS.cell? ⟨g4, 1, none⟩ = some (.int .i64 0) := HZ.out.cell 1
      have f0 : wS.frozen? ⟨g4, 0, none⟩ = false := HZ.out.frozen 0
      have f1 : wS.frozen? ⟨g4, 1, none⟩ = false := HZ.out.frozen 1
      have HQ := Lib.hid ((HZ.out.set_ 0 (.int .i64 d)).set_ 1 (.int .i64 (q * 256)))
      have HQR := Lib.hid (((HR.out.more (show P + 1 + 1 + 1 + 1 ≤ P + 10 by omega)).setCell (p := ⟨g4, 0, none⟩) (by simp only; omega) (.int .i64 d)).setCell (p := ⟨g4, 1, none⟩) (by simp only; omega) (.int .i64 (q * 256)))
      have HQG := Lib.hid (gr_setCell (gr_setCell HGR.out (p := ⟨g4, 0, none⟩) (by simp only; omega) (.int .i64 d)) (p := ⟨g4, 1, none⟩) (by simp only; omega) (.int .i64 (q * 256)))
      go_wp2
      generalize World.setCell _ ⟨g4, 1, none⟩ _ = WF at HQ HQR HQG ⊢
      have y0 : WF.cell? ⟨g4, 0, none⟩ = some (.int .i64 d) := HQ.out.cell 0
      have y1 : WF.cell? ⟨g4, 1, none⟩ = some (.int .i64 (q * 256)) := HQ.out.cell 1
      refine bodyPost_ret (v := .agg #[.int .i64 d, .int .i64 (q * 256)]) (by simp [results, Try.results45, go_sem, y0, y1]) rfl ?_
      exact ⟨d, (q * 256), rfl, HQR.out, HQG.out⟩
    · subst hk
      have H5' : Hid (Blk (w9.setCell ⟨g5, 1, none⟩ (.int .i64 65535)) g5 57 #[.int .i64 d, .int .i64 65535]) := H5.out.set_ 1 _
      have HZ' : Hid (Blk (w9.setCell ⟨g5, 1, none⟩ (.int .i64 65535)) g4 57 #[.int .i64 0, .int .i64 0]) := HZ.out.far (by simp only [ne_eq]; omega) _
      have HR' : Hid (Rdr (w9.setCell ⟨g5, 1, none⟩ (.int .i64 65535)) r (P + 1 + 1 + 1 + 1)) := HR.out.setCell (by simp only; omega) _
      have HGR' : Hid (w.grownBy (w9.setCell ⟨g5, 1, none⟩ (.int .i64 65535)) (some r)) := gr_setCell HGR.out (by simp only; omega) _
      clear H5 HZ HR HGR H8 H9
      have H5 := H5'
      have HZ := HZ'
      have HR := HR'
      have HGR := HGR'
      clear H5' HZ' HR' HGR'
      go_wp2_with fail
      generalize (w9.setCell ⟨g5, 1, none⟩ (.int .i64 65535)) = wS at H5 HZ HR HGR ⊢
      clear l0 l1 l2 m0 m1 m2 m3 b1 bf
      refine (odd_zero r wS).mono ?_
      rintro e w' ⟨rfl, rfl⟩
      have v0 : wS.cell? ⟨g5, 0, none⟩ = some (.int .i64 d) := H5.out.cell 0
      have v1 : wS.cell? ⟨g5, 1, none⟩ = some (.int .i64 65535) := H5.out.cell 1
      have z0 : wS.cell? ⟨g4, 0, none⟩ = some (.int .i64 0) := HZ.out.cell 0
      have z1 : wS.cell? ⟨g4, 1, none⟩ = some (.int .i64 0) := HZ.out.cell 1
      have f0 : wS.frozen? ⟨g4, 0, none⟩ = false := HZ.out.frozen 0
      have f1 : wS.frozen? ⟨g4, 1, none⟩ = false := HZ.out.frozen 1
      have HQ := Lib.hid ((HZ.out.set_ 0 (.int .i64 d)).set_ 1 (.int .i64 65535))
      have HQR := Lib.hid (((HR.out.more (show P + 1 + 1 + 1 + 1 ≤ P + 10 by omega)).setCell (p := ⟨g4, 0, none⟩) (by simp only; omega) (.int .i64 d)).setCell (p := ⟨g4, 1, none⟩) (by simp only; omega) (.int .i64 65535))
      have HQG := Lib.hid (gr_setCell (gr_setCell HGR.out (p := ⟨g4, 0, none⟩) (by simp only; omega) (.int .i64 d)) (p := ⟨g4, 1, none⟩) (by simp only; omega) (.int .i64 65535))
      go_wp2
      generalize World.setCell _ ⟨g4, 1, none⟩ _ = WF at HQ HQR HQG ⊢
      have y0 : WF.cell? ⟨g4, 0, none⟩ = some (.int .i64 d) := HQ.out.cell 0
      have y1 : WF.cell? ⟨g4, 1, none⟩ = some (.int .i64 65535) := HQ.out.cell 1
      refine bodyPost_ret (v := .agg #[.int .i64 d, .int .i64 65535]) (by simp [results, Try.results45, go_sem, y0, y1]) rfl ?_
      exact ⟨d, 65535, rfl, HQR.out, HQG.out⟩
end Go.Proofs.Ytbljkdhokbhcdaa
