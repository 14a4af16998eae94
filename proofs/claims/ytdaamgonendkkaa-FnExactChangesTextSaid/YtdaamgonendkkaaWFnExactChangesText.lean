/- The walk of FnExactChangesText. No condition. -/
import Derived.Test.YtdaamgonendkkaaRows
import Derived.Test.YtdaamgonendkkaaBase
import Derived.Test.YtdaamgonendkkaaBase2
import Derived.Test.YtdaamgonendkkaaOpen
import Derived.Test.YtdaamgonendkkaaOpenChg
import Derived.Test.YtdaamgonendkkaaStrS
import Derived.Test.YtdaamgonendkkaaMarkS
import Derived.Test.YtdaamgonendkkaaOnly
import Derived.Test.YtdaamgonendkkaaChgM
import Derived.Test.YtdaamgonendkkaaChg
import Derived.Test.YtdaamgonendkkaaBulk
import Derived.WalkKit
import Derived.WalkSpells
import Derived.WalkLawsBesides
import Derived.Handy
import Derived.BigQuiet
import Derived.Deep.RegionHeld3
import Derived.Deep.DrawnRows
import Derived.Deep.QuietTactic
namespace Go.Proofs.Ytdaamgonendkkaa
open Go Go.RowKit


set_option maxRecDepth 100000 in
set_option maxHeartbeats 8000000 in
theorem FnExactChangesText_walk (W : World) (v0 : Value) (a0 : ArgChg W v0) : Calls Try.prog 4 #[v0] W (Gives W (.bool true)) := by
  obtain ⟨_, _, _, rfl, ⟨A0, c0, xs, rfl, R0, hn0, hf0⟩, ⟨A1, c1, ys, rfl, R1, hn1, hf1⟩, ⟨A2, c2, zs, rfl, R2, hn2, hf2⟩⟩ := a0
  have K1 := Lib.hid (Blk.new W 31 #[.slice A0 xs.length c0, .slice A1 ys.length c1, .slice A2 zs.length c2])
  have BB : Hid (Below W.heap.size W (W.alloc (.cells #[.slice A0 xs.length c0, .slice A1 ys.length c1, .slice A2 zs.length c2] 31))) := (Below.refl _ _).alloc (Nat.le_refl _) _
  have HZ := Lib.hid (szChanges_any (c0 := c0) (c1 := c1) (c2 := c2) xs ys zs 1048576 (W.alloc (.cells #[.slice A0 xs.length c0, .slice A1 ys.length c1, .slice A2 zs.length c2] 31)) (R0.below BB.out) BB.out.size hn0 hf0 (R1.below BB.out) BB.out.size hn1 hf1 (R2.below BB.out) BB.out.size hn2 hf2 (by omega) (by omega))
  have v0 := bulk_nonneg xs
  have v1 := bulk_nonneg ys
  have v2 := bulk_nonneg zs
  by_cases h0 : ((xs.length : Int) + bulk xs) + ((ys.length : Int) + bulk ys) + ((zs.length : Int) + bulk zs) ≤ 1048576
  · have HR := Lib.hid (szRes_pos h0)
    have hr : (chTexts xs ys zs).length ≤ 1048576 := by rw [chTexts_len]; omega
    have hm0 : xs.length ≤ 1048576 := by omega
    have hm1 : ys.length ≤ 1048576 := by omega
    have hm2 : zs.length ≤ 1048576 := by omega
    have hs0 : Hid (∀ s ∈ xs, s.size ≤ 1048576) := fun s h => by have := bulk_mem h; omega
    have hs1 : Hid (∀ s ∈ ys, s.size ≤ 1048576) := fun s h => by have := bulk_mem h; omega
    have hs2 : Hid (∀ s ∈ zs, s.size ≤ 1048576) := fun s h => by have := bulk_mem h; omega
    go_enter Try.func4, Try.ntmps4
    go_wp2_with fail
    refine HZ.out.mono ?_
    rintro e w1 ⟨rfl, s1⟩
    rw [HR.out]
    have b1 : Below W.heap.size W w1 := BB.out.trans (s1.mono BB.out.size)
    have z1 := s1.size
    simp only [World.size_alloc] at z1
    have HA := Lib.hid (K1.out.below s1 K1.out.lt)
    clear s1 K1 BB
    have ea0 : w1.cell? ⟨W.heap.size, 0, none⟩ = some (.slice A0 xs.length c0) := HA.out.cell 0
    have ea1 : w1.cell? ⟨W.heap.size, 1, none⟩ = some (.slice A1 ys.length c1) := HA.out.cell 1
    have ea2 : w1.cell? ⟨W.heap.size, 2, none⟩ = some (.slice A2 zs.length c2) := HA.out.cell 2
    go_wp2_with fail
    clear ea0 ea1 ea2
    refine (toChanges_any xs ys zs _ (R0.below b1) b1.size hm0 (R1.below b1) b1.size hm1 (R2.below b1) b1.size hm2).mono ?_
    rintro e w2 ⟨As0, cs0, As1, cs1, As2, cs2, rfl, s2, os0, os1, os2, ps01, ps02, ps12⟩
    have HA' := Lib.hid (HA.out.below s2 HA.out.lt)
    clear HA
    have HA := HA'
    clear HA'
    have b2 : Below W.heap.size W w2 := b1.trans (s2.mono b1.size)
    have z2 := s2.size
    clear s2
    have us0 := own_up os0
    have us1 := own_up os1
    have us2 := own_up os2
    have ea0 : w2.cell? ⟨W.heap.size, 0, none⟩ = some (.slice A0 xs.length c0) := HA.out.cell 0
    have ea1 : w2.cell? ⟨W.heap.size, 1, none⟩ = some (.slice A1 ys.length c1) := HA.out.cell 1
    have ea2 : w2.cell? ⟨W.heap.size, 2, none⟩ = some (.slice A2 zs.length c2) := HA.out.cell 2
    go_wp2_with fail
    clear ea0 ea1 ea2
    refine (specChangesText_any xs ys zs _ (Reads.of_own os0) (Nat.le_refl _) (Reads.of_own os1) (Nat.le_refl _) (Reads.of_own os2) (Nat.le_refl _) hm0 hm1 hm2 hs0.out hs1.out hs2.out).mono ?_
    rintro e w3 ⟨Aw0, cw0, rfl, ow0, s3⟩
    have HA' := Lib.hid (HA.out.below s3 HA.out.lt)
    clear HA
    have HA := HA'
    clear HA'
    have b3 : Below W.heap.size W w3 := b2.trans (s3.mono b2.size)
    have z3 := s3.size
    replace os0 := own_below os0 s3
    replace os1 := own_below os1 s3
    replace os2 := own_below os2 s3
    clear s3
    have uw0 := own_up ow0
    clear os0 us0
    clear os1 us1
    clear os2 us2
    clear ps01 ps02 ps12
    have ea0 : w3.cell? ⟨W.heap.size, 0, none⟩ = some (.slice A0 xs.length c0) := HA.out.cell 0
    have ea1 : w3.cell? ⟨W.heap.size, 1, none⟩ = some (.slice A1 ys.length c1) := HA.out.cell 1
    have ea2 : w3.cell? ⟨W.heap.size, 2, none⟩ = some (.slice A2 zs.length c2) := HA.out.cell 2
    go_wp2_with fail
    clear ea0 ea1 ea2
    refine (toChanges_any xs ys zs _ (R0.below b3) b3.size hm0 (R1.below b3) b3.size hm1 (R2.below b3) b3.size hm2).mono ?_
    rintro e w4 ⟨Ax0, cx0, Ax1, cx1, Ax2, cx2, rfl, s4, ox0, ox1, ox2, px01, px02, px12⟩
    have HA' := Lib.hid (HA.out.below s4 HA.out.lt)
    clear HA
    have HA := HA'
    clear HA'
    have b4 : Below W.heap.size W w4 := b3.trans (s4.mono b3.size)
    have z4 := s4.size
    replace ow0 := own_below ow0 s4
    clear s4
    have ux0 := own_up ox0
    have ux1 := own_up ox1
    have ux2 := own_up ox2
    have ea0 : w4.cell? ⟨W.heap.size, 0, none⟩ = some (.slice A0 xs.length c0) := HA.out.cell 0
    have ea1 : w4.cell? ⟨W.heap.size, 1, none⟩ = some (.slice A1 ys.length c1) := HA.out.cell 1
    have ea2 : w4.cell? ⟨W.heap.size, 2, none⟩ = some (.slice A2 zs.length c2) := HA.out.cell 2
    go_wp2_with fail
    clear ea0 ea1 ea2
    obtain ⟨w5, hw5⟩ : ∃ w5, w5 = (w4.alloc (.cells #[.slice Ax0 xs.length cx0, .slice Ax1 ys.length cx1, .slice Ax2 zs.length cx2] 25)) := ⟨_, rfl⟩
    have s5 : Below w4.heap.size w4 w5 := by rw [hw5]; exact (Below.refl w4.heap.size w4).alloc (Nat.le_refl _) (.cells #[.slice Ax0 xs.length cx0, .slice Ax1 ys.length cx1, .slice Ax2 zs.length cx2] 25)
    have HX : Hid (Blk w5 w4.heap.size 25 #[.slice Ax0 xs.length cx0, .slice Ax1 ys.length cx1, .slice Ax2 zs.length cx2]) := by
      have h := Blk.new w4 25 #[.slice Ax0 xs.length cx0, .slice Ax1 ys.length cx1, .slice Ax2 zs.length cx2]
      rw [hw5]
      simpa [Hid] using h
    have hsz5 : w4.heap.size + 1 ≤ w5.heap.size := by rw [hw5]; simp
    rw [← hw5]
    clear hw5
    have HA' := Lib.hid (HA.out.below s5 HA.out.lt)
    clear HA
    have HA := HA'
    clear HA'
    have b5 : Below W.heap.size W w5 := b4.trans (s5.mono b4.size)
    have z5 := s5.size
    replace ow0 := own_below ow0 s5
    replace ox0 := own_below ox0 s5
    replace ox1 := own_below ox1 s5
    replace ox2 := own_below ox2 s5
    clear s5
    refine (implChangesText_any xs ys zs _ (Reads.of_own ox0) (Nat.le_refl _) (Reads.of_own ox1) (Nat.le_refl _) (Reads.of_own ox2) (Nat.le_refl _) hm0 hm1 hm2 hs0.out hs1.out hs2.out).mono ?_
    rintro e w6 ⟨Ag0, cg0, rfl, og0, s6⟩
    have HA' := Lib.hid (HA.out.below s6 HA.out.lt)
    clear HA
    have HA := HA'
    clear HA'
    have HX' := Lib.hid (HX.out.below s6 HX.out.lt)
    clear HX
    have HX := HX'
    clear HX'
    have b6 : Below W.heap.size W w6 := b5.trans (s6.mono b5.size)
    have z6 := s6.size
    replace ow0 := own_below ow0 s6
    replace ox0 := own_below ox0 s6
    replace ox1 := own_below ox1 s6
    replace ox2 := own_below ox2 s6
    clear s6
    have ug0 := own_up og0
    have ea0 : w6.cell? ⟨W.heap.size, 0, none⟩ = some (.slice A0 xs.length c0) := HA.out.cell 0
    have ea1 : w6.cell? ⟨W.heap.size, 1, none⟩ = some (.slice A1 ys.length c1) := HA.out.cell 1
    have ea2 : w6.cell? ⟨W.heap.size, 2, none⟩ = some (.slice A2 zs.length c2) := HA.out.cell 2
    have ex0 : w6.cell? ⟨w4.heap.size, 0, none⟩ = some (.slice Ax0 xs.length cx0) := HX.out.cell 0
    have ex1 : w6.cell? ⟨w4.heap.size, 1, none⟩ = some (.slice Ax1 ys.length cx1) := HX.out.cell 1
    have ex2 : w6.cell? ⟨w4.heap.size, 2, none⟩ = some (.slice Ax2 zs.length cx2) := HX.out.cell 2
    go_wp2_with fail
    clear ea0 ea1 ea2 ex0 ex1 ex2
    refine (eqStringS_any _ _ _ _ _ _ _ _ _ (Reads.of_own og0) (Reads.of_own ow0) hr hr).mono ?_
    rintro e w7 ⟨rfl, s7⟩
    rw [decide_eq_true rfl]
    have HA' := Lib.hid (HA.out.below s7 HA.out.lt)
    clear HA
    have HA := HA'
    clear HA'
    have HX' := Lib.hid (HX.out.below s7 HX.out.lt)
    clear HX
    have HX := HX'
    clear HX'
    have b7 : Below W.heap.size W w7 := b6.trans (s7.mono b6.size)
    have z7 := s7.size
    replace ow0 := own_below ow0 s7
    replace ox0 := own_below ox0 s7
    replace ox1 := own_below ox1 s7
    replace ox2 := own_below ox2 s7
    replace og0 := own_below og0 s7
    clear s7
    have ea0 : w7.cell? ⟨W.heap.size, 0, none⟩ = some (.slice A0 xs.length c0) := HA.out.cell 0
    have ea1 : w7.cell? ⟨W.heap.size, 1, none⟩ = some (.slice A1 ys.length c1) := HA.out.cell 1
    have ea2 : w7.cell? ⟨W.heap.size, 2, none⟩ = some (.slice A2 zs.length c2) := HA.out.cell 2
    have ex0 : w7.cell? ⟨w4.heap.size, 0, none⟩ = some (.slice Ax0 xs.length cx0) := HX.out.cell 0
    have ex1 : w7.cell? ⟨w4.heap.size, 1, none⟩ = some (.slice Ax1 ys.length cx1) := HX.out.cell 1
    have ex2 : w7.cell? ⟨w4.heap.size, 2, none⟩ = some (.slice Ax2 zs.length cx2) := HX.out.cell 2
    go_wp2
    have rb7 : W.heap.size ≤ w7.drew.heap.size := b7.size
    go_region_held3 (fun w' => w'.cell? ⟨W.heap.size, 0, none⟩ = some (.slice A0 xs.length c0) ∧ w'.cell? ⟨W.heap.size, 1, none⟩ = some (.slice A1 ys.length c1) ∧ w'.cell? ⟨W.heap.size, 2, none⟩ = some (.slice A2 zs.length c2) ∧ w'.cell? ⟨w4.heap.size, 0, none⟩ = some (.slice Ax0 xs.length cx0) ∧ w'.cell? ⟨w4.heap.size, 1, none⟩ = some (.slice Ax1 ys.length cx1) ∧ w'.cell? ⟨w4.heap.size, 2, none⟩ = some (.slice Ax2 zs.length cx2)) (first | exact ⟨HA9.cell 0, HA9.cell 1, HA9.cell 2, HX9.cell 0, HX9.cell 1, HX9.cell 2⟩ | exact ⟨HA8.cell 0, HA8.cell 1, HA8.cell 2, HX8.cell 0, HX8.cell 1, HX8.cell 2⟩ | exact ⟨ea0, ea1, ea2, ex0, ex1, ex2⟩) (first | (go_at_call 15; refine (toChanges_any xs ys zs _ (R0.below b7).drew rb7 hm0 (R1.below b7).drew rb7 hm1 (R2.below b7).drew rb7 hm2).mono ?_; rintro e w8 ⟨At0, ct0, At1, ct1, At2, ct2, rfl, s8, ot0, ot1, ot2, pt01, pt02, pt12⟩; have HA8 := HA.out.drew.below s8 HA.out.lt; have HX8 := HX.out.drew.below s8 HX.out.lt) | (go_at_call 17; refine (eqChanges_same xs ys zs _ (Reads.of_own (own_below (w := w7.drew) ox0 s8)) (Nat.le_refl _) (Reads.of_own ot0) (Nat.le_refl _) hm0 (Reads.of_own (own_below (w := w7.drew) ox1 s8)) (Nat.le_refl _) (Reads.of_own ot1) (Nat.le_refl _) hm1 (Reads.of_own (own_below (w := w7.drew) ox2 s8)) (Nat.le_refl _) (Reads.of_own ot2) (Nat.le_refl _) hm2).mono ?_; rintro e w9 ⟨rfl, s9⟩; have HA9 := HA8.below s9 HA8.lt; have HX9 := HX8.below s9 HX8.lt))
    clear ea0 ea1 ea2 ex0 ex1 ex2
    clear HA HX HA8 HX8
    have HA := Lib.hid HA9
    have HX := Lib.hid HX9
    clear HA9 HX9
    have t8 : Below w7.heap.size w7 w8 := ⟨s8.os, s8.tape, s8.output, s8.size, s8.block⟩
    have b8 := b7.trans (t8.mono b7.size)
    have b9 := b8.trans (s9.mono b8.size)
    have z8 : w7.heap.size ≤ w8.heap.size := by exact s8.size
    have z9 := s9.size
    replace ow0 := own_below (own_below ow0 t8) s9
    replace ox0 := own_below (own_below ox0 t8) s9
    replace ox1 := own_below (own_below ox1 t8) s9
    replace ox2 := own_below (own_below ox2 t8) s9
    replace og0 := own_below (own_below og0 t8) s9
    clear s8 t8 s9 ot0 ot1 ot2 pt01 pt02 pt12
    have ea0 : w9.cell? ⟨W.heap.size, 0, none⟩ = some (.slice A0 xs.length c0) := HA.out.cell 0
    have ea1 : w9.cell? ⟨W.heap.size, 1, none⟩ = some (.slice A1 ys.length c1) := HA.out.cell 1
    have ea2 : w9.cell? ⟨W.heap.size, 2, none⟩ = some (.slice A2 zs.length c2) := HA.out.cell 2
    have ex0 : w9.cell? ⟨w4.heap.size, 0, none⟩ = some (.slice Ax0 xs.length cx0) := HX.out.cell 0
    have ex1 : w9.cell? ⟨w4.heap.size, 1, none⟩ = some (.slice Ax1 ys.length cx1) := HX.out.cell 1
    have ex2 : w9.cell? ⟨w4.heap.size, 2, none⟩ = some (.slice Ax2 zs.length cx2) := HX.out.cell 2
    go_wp2_with fail
    clear ea0 ea1 ea2 ex0 ex1 ex2
    refine (markChanges_any (hi := w4.heap.size) xs ys zs 1 _ ox0 (fun a ha => (ux0 a ha).2) hm0 ox1 (fun a ha => (ux1 a ha).2) hm1 ox2 (fun a ha => (ux2 a ha).2) hm2 px01 px02 px12 (by omega) (by omega) (by omega)).mono ?_
    rintro e w10 ⟨rfl, n10, mx0, mx1, mx2⟩
    have b10 : Below W.heap.size W w10 := below_only b9 n10 (by omega) b9.size
    have z10 := n10.size
    have HA' := Lib.hid (blk_only HA.out n10 (Or.inl (by omega)))
    clear HA
    have HA := HA'
    clear HA'
    have HX' := Lib.hid (blk_only HX.out n10 (Or.inr (by omega)))
    clear HX
    have HX := HX'
    clear HX'
    replace ow0 := own_only ow0 n10 (fun a h1 => by have p1 := uw0 a h1; omega)
    replace og0 := own_only og0 n10 (fun a h1 => by have p1 := ug0 a h1; omega)
    clear n10 mx0 mx1 mx2
    clear ox0 ux0
    clear ox1 ux1
    clear ox2 ux2
    have ea0 : w10.cell? ⟨W.heap.size, 0, none⟩ = some (.slice A0 xs.length c0) := HA.out.cell 0
    have ea1 : w10.cell? ⟨W.heap.size, 1, none⟩ = some (.slice A1 ys.length c1) := HA.out.cell 1
    have ea2 : w10.cell? ⟨W.heap.size, 2, none⟩ = some (.slice A2 zs.length c2) := HA.out.cell 2
    have ex0 : w10.cell? ⟨w4.heap.size, 0, none⟩ = some (.slice Ax0 xs.length cx0) := HX.out.cell 0
    have ex1 : w10.cell? ⟨w4.heap.size, 1, none⟩ = some (.slice Ax1 ys.length cx1) := HX.out.cell 1
    have ex2 : w10.cell? ⟨w4.heap.size, 2, none⟩ = some (.slice Ax2 zs.length cx2) := HX.out.cell 2
    go_wp2_with fail
    clear ea0 ea1 ea2 ex0 ex1 ex2
    refine (eqStringS_any _ _ _ _ _ _ _ _ _ (Reads.of_own og0) (Reads.of_own ow0) hr hr).mono ?_
    rintro e w11 ⟨rfl, s11⟩
    rw [decide_eq_true rfl]
    have HA' := Lib.hid (HA.out.below s11 HA.out.lt)
    clear HA
    have HA := HA'
    clear HA'
    have HX' := Lib.hid (HX.out.below s11 HX.out.lt)
    clear HX
    have HX := HX'
    clear HX'
    have b11 : Below W.heap.size W w11 := b10.trans (s11.mono b10.size)
    have z11 := s11.size
    replace ow0 := own_below ow0 s11
    replace og0 := own_below og0 s11
    clear s11
    have ea0 : w11.cell? ⟨W.heap.size, 0, none⟩ = some (.slice A0 xs.length c0) := HA.out.cell 0
    have ea1 : w11.cell? ⟨W.heap.size, 1, none⟩ = some (.slice A1 ys.length c1) := HA.out.cell 1
    have ea2 : w11.cell? ⟨W.heap.size, 2, none⟩ = some (.slice A2 zs.length c2) := HA.out.cell 2
    have ex0 : w11.cell? ⟨w4.heap.size, 0, none⟩ = some (.slice Ax0 xs.length cx0) := HX.out.cell 0
    have ex1 : w11.cell? ⟨w4.heap.size, 1, none⟩ = some (.slice Ax1 ys.length cx1) := HX.out.cell 1
    have ex2 : w11.cell? ⟨w4.heap.size, 2, none⟩ = some (.slice Ax2 zs.length cx2) := HX.out.cell 2
    go_wp2_with fail
    clear ea0 ea1 ea2 ex0 ex1 ex2
    refine (markStringS_any _ _ _ _ 1 _ _ og0 (by omega) (by omega) (by omega)).mono ?_
    rintro e w12 ⟨rfl, n12, g12⟩
    have b12 : Below W.heap.size W w12 := below_marks b11 og0 (by omega) g12
    have z12 := g12.size
    have on12 := Only.of_marks (hi := w11.heap.size) (own_base (base' := w5.heap.size) og0 (by omega)) (fun a ha => by have := ug0 a ha; omega) g12
    have HA' := Lib.hid (blk_only HA.out on12 (Or.inl (by omega)))
    clear HA
    have HA := HA'
    clear HA'
    have HX' := Lib.hid (blk_only HX.out on12 (Or.inl (by omega)))
    clear HX
    have HX := HX'
    clear HX'
    replace ow0 := own_other ow0 g12 (fun a a2 h1 h2 => by have p1 := uw0 a h1; have p2 := ug0 a2 h2; omega)
    clear og0
    have og0 := n12
    clear n12 g12 on12
    have ea0 : w12.cell? ⟨W.heap.size, 0, none⟩ = some (.slice A0 xs.length c0) := HA.out.cell 0
    have ea1 : w12.cell? ⟨W.heap.size, 1, none⟩ = some (.slice A1 ys.length c1) := HA.out.cell 1
    have ea2 : w12.cell? ⟨W.heap.size, 2, none⟩ = some (.slice A2 zs.length c2) := HA.out.cell 2
    have ex0 : w12.cell? ⟨w4.heap.size, 0, none⟩ = some (.slice Ax0 xs.length cx0) := HX.out.cell 0
    have ex1 : w12.cell? ⟨w4.heap.size, 1, none⟩ = some (.slice Ax1 ys.length cx1) := HX.out.cell 1
    have ex2 : w12.cell? ⟨w4.heap.size, 2, none⟩ = some (.slice Ax2 zs.length cx2) := HX.out.cell 2
    go_wp2_with fail
    clear ea0 ea1 ea2 ex0 ex1 ex2
    refine (heldStringS_any _ _ _ _ 1 _ (Reads.of_own og0) (Nat.le_refl _) (by omega) (by omega) (by omega)).mono ?_
    rintro e w13 ⟨rfl, s13⟩
    have HA' := Lib.hid (HA.out.below s13 HA.out.lt)
    clear HA
    have HA := HA'
    clear HA'
    have HX' := Lib.hid (HX.out.below s13 HX.out.lt)
    clear HX
    have HX := HX'
    clear HX'
    have b13 : Below W.heap.size W w13 := b12.trans (s13.mono b12.size)
    have z13 := s13.size
    replace ow0 := own_below ow0 s13
    replace og0 := own_below og0 s13
    clear s13
    have ea0 : w13.cell? ⟨W.heap.size, 0, none⟩ = some (.slice A0 xs.length c0) := HA.out.cell 0
    have ea1 : w13.cell? ⟨W.heap.size, 1, none⟩ = some (.slice A1 ys.length c1) := HA.out.cell 1
    have ea2 : w13.cell? ⟨W.heap.size, 2, none⟩ = some (.slice A2 zs.length c2) := HA.out.cell 2
    have ex0 : w13.cell? ⟨w4.heap.size, 0, none⟩ = some (.slice Ax0 xs.length cx0) := HX.out.cell 0
    have ex1 : w13.cell? ⟨w4.heap.size, 1, none⟩ = some (.slice Ax1 ys.length cx1) := HX.out.cell 1
    have ex2 : w13.cell? ⟨w4.heap.size, 2, none⟩ = some (.slice Ax2 zs.length cx2) := HX.out.cell 2
    go_wp2_with fail
    clear ea0 ea1 ea2 ex0 ex1 ex2
    refine (toChanges_any xs ys zs _ (R0.below b13) b13.size hm0 (R1.below b13) b13.size hm1 (R2.below b13) b13.size hm2).mono ?_
    rintro e w14 ⟨Ay0, cy0, Ay1, cy1, Ay2, cy2, rfl, s14, oy0, oy1, oy2, py01, py02, py12⟩
    have HA' := Lib.hid (HA.out.below s14 HA.out.lt)
    clear HA
    have HA := HA'
    clear HA'
    have HX' := Lib.hid (HX.out.below s14 HX.out.lt)
    clear HX
    have HX := HX'
    clear HX'
    have b14 : Below W.heap.size W w14 := b13.trans (s14.mono b13.size)
    have z14 := s14.size
    replace ow0 := own_below ow0 s14
    replace og0 := own_below og0 s14
    clear s14
    have uy0 := own_up oy0
    have uy1 := own_up oy1
    have uy2 := own_up oy2
    have ea0 : w14.cell? ⟨W.heap.size, 0, none⟩ = some (.slice A0 xs.length c0) := HA.out.cell 0
    have ea1 : w14.cell? ⟨W.heap.size, 1, none⟩ = some (.slice A1 ys.length c1) := HA.out.cell 1
    have ea2 : w14.cell? ⟨W.heap.size, 2, none⟩ = some (.slice A2 zs.length c2) := HA.out.cell 2
    have ex0 : w14.cell? ⟨w4.heap.size, 0, none⟩ = some (.slice Ax0 xs.length cx0) := HX.out.cell 0
    have ex1 : w14.cell? ⟨w4.heap.size, 1, none⟩ = some (.slice Ax1 ys.length cx1) := HX.out.cell 1
    have ex2 : w14.cell? ⟨w4.heap.size, 2, none⟩ = some (.slice Ax2 zs.length cx2) := HX.out.cell 2
    go_wp2_with fail
    clear ea0 ea1 ea2 ex0 ex1 ex2
    refine (implChangesText_any xs ys zs _ (Reads.of_own oy0) (Nat.le_refl _) (Reads.of_own oy1) (Nat.le_refl _) (Reads.of_own oy2) (Nat.le_refl _) hm0 hm1 hm2 hs0.out hs1.out hs2.out).mono ?_
    rintro e w15 ⟨Ah0, ch0, rfl, oh0, s15⟩
    have HA' := Lib.hid (HA.out.below s15 HA.out.lt)
    clear HA
    have HA := HA'
    clear HA'
    have HX' := Lib.hid (HX.out.below s15 HX.out.lt)
    clear HX
    have HX := HX'
    clear HX'
    have b15 : Below W.heap.size W w15 := b14.trans (s15.mono b14.size)
    have z15 := s15.size
    replace ow0 := own_below ow0 s15
    replace og0 := own_below og0 s15
    replace oy0 := own_below oy0 s15
    replace oy1 := own_below oy1 s15
    replace oy2 := own_below oy2 s15
    clear s15
    have uh0 := own_up oh0
    have ea0 : w15.cell? ⟨W.heap.size, 0, none⟩ = some (.slice A0 xs.length c0) := HA.out.cell 0
    have ea1 : w15.cell? ⟨W.heap.size, 1, none⟩ = some (.slice A1 ys.length c1) := HA.out.cell 1
    have ea2 : w15.cell? ⟨W.heap.size, 2, none⟩ = some (.slice A2 zs.length c2) := HA.out.cell 2
    have ex0 : w15.cell? ⟨w4.heap.size, 0, none⟩ = some (.slice Ax0 xs.length cx0) := HX.out.cell 0
    have ex1 : w15.cell? ⟨w4.heap.size, 1, none⟩ = some (.slice Ax1 ys.length cx1) := HX.out.cell 1
    have ex2 : w15.cell? ⟨w4.heap.size, 2, none⟩ = some (.slice Ax2 zs.length cx2) := HX.out.cell 2
    go_wp2_with fail
    clear ea0 ea1 ea2 ex0 ex1 ex2
    refine (eqStringS_any _ _ _ _ _ _ _ _ _ (Reads.of_own oh0) (Reads.of_own ow0) hr hr).mono ?_
    rintro e w16 ⟨rfl, s16⟩
    rw [decide_eq_true rfl]
    have HA' := Lib.hid (HA.out.below s16 HA.out.lt)
    clear HA
    have HA := HA'
    clear HA'
    have HX' := Lib.hid (HX.out.below s16 HX.out.lt)
    clear HX
    have HX := HX'
    clear HX'
    have b16 : Below W.heap.size W w16 := b15.trans (s16.mono b15.size)
    have z16 := s16.size
    replace ow0 := own_below ow0 s16
    replace og0 := own_below og0 s16
    replace oy0 := own_below oy0 s16
    replace oy1 := own_below oy1 s16
    replace oy2 := own_below oy2 s16
    replace oh0 := own_below oh0 s16
    clear s16
    have ea0 : w16.cell? ⟨W.heap.size, 0, none⟩ = some (.slice A0 xs.length c0) := HA.out.cell 0
    have ea1 : w16.cell? ⟨W.heap.size, 1, none⟩ = some (.slice A1 ys.length c1) := HA.out.cell 1
    have ea2 : w16.cell? ⟨W.heap.size, 2, none⟩ = some (.slice A2 zs.length c2) := HA.out.cell 2
    have ex0 : w16.cell? ⟨w4.heap.size, 0, none⟩ = some (.slice Ax0 xs.length cx0) := HX.out.cell 0
    have ex1 : w16.cell? ⟨w4.heap.size, 1, none⟩ = some (.slice Ax1 ys.length cx1) := HX.out.cell 1
    have ex2 : w16.cell? ⟨w4.heap.size, 2, none⟩ = some (.slice Ax2 zs.length cx2) := HX.out.cell 2
    go_wp2_with fail
    clear ea0 ea1 ea2 ex0 ex1 ex2
    refine (heldStringS_any _ _ _ _ 1 _ (Reads.of_own og0) (Nat.le_refl _) (by omega) (by omega) (by omega)).mono ?_
    rintro e w17 ⟨rfl, s17⟩
    have HA' := Lib.hid (HA.out.below s17 HA.out.lt)
    clear HA
    have HA := HA'
    clear HA'
    have HX' := Lib.hid (HX.out.below s17 HX.out.lt)
    clear HX
    have HX := HX'
    clear HX'
    have b17 : Below W.heap.size W w17 := b16.trans (s17.mono b16.size)
    have z17 := s17.size
    replace ow0 := own_below ow0 s17
    replace og0 := own_below og0 s17
    replace oy0 := own_below oy0 s17
    replace oy1 := own_below oy1 s17
    replace oy2 := own_below oy2 s17
    replace oh0 := own_below oh0 s17
    clear s17
    go_wp2
    go_ret
    exact ⟨rfl, b17⟩
  · have HR := Lib.hid (szRes_neg (left := 1048576) (total := ((xs.length : Int) + bulk xs) + ((ys.length : Int) + bulk ys) + ((zs.length : Int) + bulk zs)) (by omega))
    go_enter Try.func4, Try.ntmps4
    go_wp2_with fail
    refine HZ.out.mono ?_
    rintro e w1 ⟨rfl, s1⟩
    rw [HR.out]
    go_wp2
    go_ret
    exact ⟨rfl, BB.out.trans (s1.mono BB.out.size)⟩
end Go.Proofs.Ytdaamgonendkkaa
