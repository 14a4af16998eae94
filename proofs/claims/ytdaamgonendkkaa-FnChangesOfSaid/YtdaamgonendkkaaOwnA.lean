/- Contracts of the reference's copies. Condition: the sizes. Contract of the reference's copy of a row of sections. Condition: the sizes. Contract of the reference's copy of an object. Condition: the sizes. -/
import Derived.Test.YtdaamgonendkkaaRows
import Derived.Test.YtdaamgonendkkaaBase
import Derived.Test.YtdaamgonendkkaaBase2
import Derived.Test.YtdaamgonendkkaaBase3
import Derived.Test.YtdaamgonendkkaaOnly
import Derived.Test.YtdaamgonendkkaaIn
import Derived.Test.YtdaamgonendkkaaName
import Derived.Test.YtdaamgonendkkaaSec
import Derived.Test.YtdaamgonendkkaaSym
import Derived.Test.YtdaamgonendkkaaObj
import Derived.Test.YtdaamgonendkkaaReg
import Derived.Test.YtdaamgonendkkaaRegS
import Derived.Test.YtdaamgonendkkaaPick2
import Derived.Test.YtdaamgonendkkaaKT
import Derived.Test.YtdaamgonendkkaaDobj
import Derived.WalkKit
import Derived.WalkSpells
import Derived.WalkLawsBesides
import Derived.Handy
import Derived.BigQuiet
import Derived.Deep.RegionHeld3
import Derived.Deep.DrawnRows
import Derived.Deep.QuietTactic
import Derived.Deep.CutBlock
namespace Go.Proofs.Ytdaamgonendkkaa
open Go Go.RowKit

theorem own_blkS {w : World} {base size n c : Nat} {t : TypeId} {A : Option Addr} {xs : List Value} (q : w.ownsRow base t size (.slice A n c) n xs) : ∀ g, (Value.slice A n c).ownBlock = some g → base ≤ g ∧ g < w.heap.size := fun g hg => by
  cases A with
  | none => cases hg
  | some a =>
    have h1 : a.block = g := by simpa [Value.ownBlock] using hg
    have := own_up q a rfl
    omega
theorem fixes_one (l : List Fix) : ∀ u ∈ List.flatMap Fix.cells l, u.oneCell' = true := fun u hu => by
  obtain ⟨x, _, hx⟩ := List.mem_flatMap.1 hu
  simp only [Fix.cells, List.mem_cons, List.not_mem_nil, or_false] at hx
  rcases hx with rfl | rfl | rfl | rfl <;> rfl
theorem osu_info : (Try.prog.info? 5).map (fun i => (i.zero, i.size, i.bytes)) = some (some (.int .u8 0), 1, 1) := by kernel_rfl
theorem osf_info : (Try.prog.info? 107).map (fun i => (i.zero, i.size, i.bytes)) = some (some (.agg #[.int .i64 0, .int .i64 0, .int .i64 0, .int .i64 0]), 4, 32) := by kernel_rfl
set_option maxRecDepth 100000 in
set_option maxHeartbeats 8000000 in
theorem ownSec_any {B : Nat} (x : Sec) (w : World) (h : x.In w B) (hB : B ≤ w.heap.size) (hs : x.small) :
    Calls Try.prog 99 #[x.val] w (fun e w' => ∃ z : Sec, e = .returned z.val ∧ z.v = x.v ∧ z.Own w' w.heap.size ∧ Below w.heap.size w w') := by
  obtain ⟨i0, ii, iz, is_, ib⟩ := info_parts osu_info
  obtain ⟨j0, ji, jz, js_, jb⟩ := info_parts osf_info
  obtain ⟨name, kind, align, bytes, bA, bc, size, fixups, fA, fc⟩ := x
  simp only [Sec.val, Sec.In, Sec.small] at *
  obtain ⟨_, hs1, hs2⟩ := hs
  have H0 := Lib.hid (h.1.more hB)
  have H1 := Lib.hid (h.2.more hB)
  clear h
  obtain ⟨wA, hwA⟩ : ∃ wA, wA = ((w.alloc (.cells #[.string name, .int .i64 kind, .int .i64 align, .slice bA bytes.length bc, .int .i64 size, .slice fA fixups.length fc] 80)).alloc (.cells #[.string ⟨#[]⟩, .int .i64 0, .int .i64 0, .slice none 0 0, .int .i64 0, .slice none 0 0] 80)).alloc (.cells #[.string name, .int .i64 kind, .int .i64 align, .slice bA bytes.length bc, .int .i64 size, .slice fA fixups.length fc] 80) := ⟨_, rfl⟩
  obtain ⟨ga, hga⟩ : ∃ ga, ga = w.heap.size := ⟨_, rfl⟩
  obtain ⟨g3, hg3⟩ : ∃ g3, g3 = w.heap.size + 1 := ⟨_, rfl⟩
  obtain ⟨g4, hg4⟩ : ∃ g4, g4 = w.heap.size + 1 + 1 := ⟨_, rfl⟩
  have HWA : Hid (Below w.heap.size w wA) := by rw [hwA]; exact below_new3 w _ _ _
  have HA : Hid (Blk wA ga 80 #[.string name, .int .i64 kind, .int .i64 align, .slice bA bytes.length bc, .int .i64 size, .slice fA fixups.length fc]) := by rw [hwA, hga]; exact blk_new1 w 80 #[.string name, .int .i64 kind, .int .i64 align, .slice bA bytes.length bc, .int .i64 size, .slice fA fixups.length fc] _ _
  have H3 : Hid (Blk wA g3 80 #[.string ⟨#[]⟩, .int .i64 0, .int .i64 0, .slice none 0 0, .int .i64 0, .slice none 0 0]) := by rw [hwA, hg3]; exact blk_new2 w 80 #[.string ⟨#[]⟩, .int .i64 0, .int .i64 0, .slice none 0 0, .int .i64 0, .slice none 0 0] _ _
  have H4 : Hid (Blk wA g4 80 #[.string name, .int .i64 kind, .int .i64 align, .slice bA bytes.length bc, .int .i64 size, .slice fA fixups.length fc]) := by rw [hwA, hg4]; exact blk_new3 w 80 #[.string name, .int .i64 kind, .int .i64 align, .slice bA bytes.length bc, .int .i64 size, .slice fA fixups.length fc] _ _
  have HGS : Hid (w.heap.size ≤ ga ∧ ga < g3 ∧ g3 < g4) := by show _ ∧ _ ∧ _; omega
  have HR0 := Lib.hid (H0.out.below HWA.out)
  have H4Z := Lib.hid H4.out.lt
  clear H0
  go_enter Try.func99, Try.ntmps99
  go_upto_region 2 with fail
  rw [← hwA, ← hg4, ← hg3, ← hga]
  clear hwA hga hg3 hg4
  have HL2 := Lib.hid (World.ownsRow_lit (base := wA.heap.size) (e := 5) (size := 1) wA #[] 0 (Nat.le_refl _) (by unfold maxLen; omega) rfl)
  have ea2 : (wA.alloc (.cells #[] 5)).cell? ⟨ga, 3, none⟩ = some (.slice bA bytes.length bc) := (HA.out.alloc _).cell 3
  have eb2 : wA.cell? ⟨ga, 3, none⟩ = some (.slice bA bytes.length bc) := HA.out.cell 3
  have za2 : ga < wA.heap.size := HA.out.lt
  go_upto_region 3 with (at_builtin; refine wpList_appendS _ rfl (.tmp 5) (.tmp 7) _ rfl wA.heap.size 5 i0 _ 1 1 Try.underlying22 ii iz is_ ib rfl (by omega) (by omega) (some ⟨wA.heap.size, 0, none⟩) 0 0 [] rfl (by exact HL2.out) w.heap.size bA bytes.length bc (nums .u8 bytes) rfl (by exact HR0.out.alloc HWA.out.size _) (nums_one _ _) (by omega) (by simp) ?_; intro A2 c2 w2 ho hg _; have s2 : Below wA.heap.size wA w2 := below_lit hg (Nat.le_refl _); simp only [Nat.zero_add, List.nil_append] at ho ⊢; have HO2 := Lib.hid ho; have HS2 := Lib.hid s2; have K42 := Lib.hid (H4.out.below s2 H4.out.lt); have ef2 := K42.out.frozen 3; have ey2 := K42.out.cell 3; clear ho hg s2)
  have HK2 : Hid (Keeps (fun b => b ≠ g4) wA (w2.setCell ⟨g4, 3, none⟩ (.slice A2 bytes.length c2))) := (Keeps.below HS2.out).trans (Keeps.set_ (fun h => h rfl) _)
  have HKS2 : Hid (Keeps (fun b => b ≠ g4) w2 (w2.setCell ⟨g4, 3, none⟩ (.slice A2 bytes.length c2))) := Keeps.set_ (fun h => h rfl) _
  have HA2 := Lib.hid (HA.out.keeps HK2.out (by have := HGS.out; simp only [ne_eq]; omega))
  have H32 := Lib.hid (H3.out.keeps HK2.out (by have := HGS.out; simp only [ne_eq]; omega))
  have H42 : Hid (Blk (w2.setCell ⟨g4, 3, none⟩ (.slice A2 bytes.length c2)) g4 80 #[.string name, .int .i64 kind, .int .i64 align, .slice A2 bytes.length c2, .int .i64 size, .slice fA fixups.length fc]) := K42.out.set_ 3 _
  have HB2 : Hid (Below w.heap.size w (w2.setCell ⟨g4, 3, none⟩ (.slice A2 bytes.length c2))) := (HWA.out.trans (HS2.out.mono HWA.out.size)).setCell (p := ⟨g4, 3, none⟩) (by have := HGS.out; simp only; omega) _
  have HP2 : Hid ((w2.setCell ⟨g4, 3, none⟩ (.slice A2 bytes.length c2)).ownsRow wA.heap.size 5 1 (.slice A2 bytes.length c2) bytes.length (nums .u8 bytes)) := HKS2.out.own HO2.out (fun g hg => by have h3 := (own_blkS HO2.out g hg).1; have h4 := H4.out.lt; simp only [ne_eq]; omega)
  clear HK2 HKS2 HO2 HS2 K42 ef2 ey2 ea2 eb2 za2 HL2 HA H3 H4
  generalize (w2.setCell ⟨g4, 3, none⟩ (.slice A2 bytes.length c2)) = v2 at *
  have HR1 := Lib.hid (H1.out.below HB2.out)
  have HZ2 := Lib.hid H42.out.lt
  clear HR0 H1
  have HL3 := Lib.hid (World.ownsRow_lit (base := v2.heap.size) (e := 107) (size := 4) v2 #[] 0 (Nat.le_refl _) (by unfold maxLen; omega) rfl)
  have ea3 : (v2.alloc (.cells #[] 107)).cell? ⟨ga, 5, none⟩ = some (.slice fA fixups.length fc) := (HA2.out.alloc _).cell 5
  have eb3 : v2.cell? ⟨ga, 5, none⟩ = some (.slice fA fixups.length fc) := HA2.out.cell 5
  have za3 : ga < v2.heap.size := HA2.out.lt
  go_upto_region 4 with (at_builtin; refine wpList_appendS _ rfl (.tmp 10) (.tmp 12) _ rfl v2.heap.size 107 j0 _ 4 32 Try.underlying78 ji jz js_ jb rfl (by omega) (by omega) (some ⟨v2.heap.size, 0, none⟩) 0 0 [] rfl (by exact HL3.out) w.heap.size fA fixups.length fc (List.flatMap Fix.cells fixups) rfl (by exact HR1.out.alloc HB2.out.size _) (fixes_one _) (by omega) (by simp) ?_; intro A3 c3 w3 ho hg _; have s3 : Below v2.heap.size v2 w3 := below_lit hg (Nat.le_refl _); simp only [Nat.zero_add, List.nil_append] at ho ⊢; have HO3 := Lib.hid ho; have HS3 := Lib.hid s3; have K43 := Lib.hid (H42.out.below s3 H42.out.lt); have ef3 := K43.out.frozen 5; have ey3 := K43.out.cell 5; clear ho hg s3)
  have HK3 : Hid (Keeps (fun b => b ≠ g4) v2 (w3.setCell ⟨g4, 5, none⟩ (.slice A3 fixups.length c3))) := (Keeps.below HS3.out).trans (Keeps.set_ (fun h => h rfl) _)
  have HKS3 : Hid (Keeps (fun b => b ≠ g4) w3 (w3.setCell ⟨g4, 5, none⟩ (.slice A3 fixups.length c3))) := Keeps.set_ (fun h => h rfl) _
  have HA3 := Lib.hid (HA2.out.keeps HK3.out (by have := HGS.out; simp only [ne_eq]; omega))
  have H33 := Lib.hid (H32.out.keeps HK3.out (by have := HGS.out; simp only [ne_eq]; omega))
  have H43 : Hid (Blk (w3.setCell ⟨g4, 5, none⟩ (.slice A3 fixups.length c3)) g4 80 #[.string name, .int .i64 kind, .int .i64 align, .slice A2 bytes.length c2, .int .i64 size, .slice A3 fixups.length c3]) := K43.out.set_ 5 _
  have HB3 : Hid (Below w.heap.size w (w3.setCell ⟨g4, 5, none⟩ (.slice A3 fixups.length c3))) := (HB2.out.trans (HS3.out.mono HB2.out.size)).setCell (p := ⟨g4, 5, none⟩) (by have := HGS.out; simp only; omega) _
  have HP3 : Hid ((w3.setCell ⟨g4, 5, none⟩ (.slice A3 fixups.length c3)).ownsRow v2.heap.size 107 4 (.slice A3 fixups.length c3) fixups.length (List.flatMap Fix.cells fixups)) := HKS3.out.own HO3.out (fun g hg => by have h3 := (own_blkS HO3.out g hg).1; have h4 := H42.out.lt; simp only [ne_eq]; omega)
  have HP23 : Hid ((w3.setCell ⟨g4, 5, none⟩ (.slice A3 fixups.length c3)).ownsRow wA.heap.size 5 1 (.slice A2 bytes.length c2) bytes.length (nums .u8 bytes)) := HK3.out.own HP2.out (fun g hg => by have h3 := (own_blkS HP2.out g hg).1; have h4 := H4Z.out; simp only [ne_eq]; omega)
  clear HK3 HKS3 HO3 HS3 K43 ef3 ey3 ea3 eb3 za3 HL3 HA2 H32 H42
  generalize (w3.setCell ⟨g4, 5, none⟩ (.slice A3 fixups.length c3)) = v3 at *
  have z0 : v3.cell? ⟨g3, 0, none⟩ = some (.string ⟨#[]⟩) := H33.out.cell 0
  have y0 : v3.cell? ⟨g4, 0, none⟩ = some (.string name) := H43.out.cell 0
  have f0 : v3.frozen? ⟨g3, 0, none⟩ = false := H33.out.frozen 0
  have z1 : v3.cell? ⟨g3, 1, none⟩ = some (.int .i64 0) := H33.out.cell 1
  have y1 : v3.cell? ⟨g4, 1, none⟩ = some (.int .i64 kind) := H43.out.cell 1
  have f1 : v3.frozen? ⟨g3, 1, none⟩ = false := H33.out.frozen 1
  have z2 : v3.cell? ⟨g3, 2, none⟩ = some (.int .i64 0) := H33.out.cell 2
  have y2 : v3.cell? ⟨g4, 2, none⟩ = some (.int .i64 align) := H43.out.cell 2
  have f2 : v3.frozen? ⟨g3, 2, none⟩ = false := H33.out.frozen 2
  have z3 : v3.cell? ⟨g3, 3, none⟩ = some (.slice none 0 0) := H33.out.cell 3
  have y3 : v3.cell? ⟨g4, 3, none⟩ = some (.slice A2 bytes.length c2) := H43.out.cell 3
  have f3 : v3.frozen? ⟨g3, 3, none⟩ = false := H33.out.frozen 3
  have z4 : v3.cell? ⟨g3, 4, none⟩ = some (.int .i64 0) := H33.out.cell 4
  have y4 : v3.cell? ⟨g4, 4, none⟩ = some (.int .i64 size) := H43.out.cell 4
  have f4 : v3.frozen? ⟨g3, 4, none⟩ = false := H33.out.frozen 4
  have z5 : v3.cell? ⟨g3, 5, none⟩ = some (.slice none 0 0) := H33.out.cell 5
  have y5 : v3.cell? ⟨g4, 5, none⟩ = some (.slice A3 fixups.length c3) := H43.out.cell 5
  have f5 : v3.frozen? ⟨g3, 5, none⟩ = false := H33.out.frozen 5
  have HQ : Hid (Blk ((((((v3.setCell ⟨g3, 0, none⟩ (.string name)).setCell ⟨g3, 1, none⟩ (.int .i64 kind)).setCell ⟨g3, 2, none⟩ (.int .i64 align)).setCell ⟨g3, 3, none⟩ (.slice A2 bytes.length c2)).setCell ⟨g3, 4, none⟩ (.int .i64 size)).setCell ⟨g3, 5, none⟩ (.slice A3 fixups.length c3)) g3 80 #[.string name, .int .i64 kind, .int .i64 align, .slice A2 bytes.length c2, .int .i64 size, .slice A3 fixups.length c3]) := ((((((H33.out.set_ 0 (.string name)).set_ 1 (.int .i64 kind)).set_ 2 (.int .i64 align)).set_ 3 (.slice A2 bytes.length c2)).set_ 4 (.int .i64 size)).set_ 5 (.slice A3 fixups.length c3))
  have HK : Hid (Keeps (fun b => b ≠ g3) v3 ((((((v3.setCell ⟨g3, 0, none⟩ (.string name)).setCell ⟨g3, 1, none⟩ (.int .i64 kind)).setCell ⟨g3, 2, none⟩ (.int .i64 align)).setCell ⟨g3, 3, none⟩ (.slice A2 bytes.length c2)).setCell ⟨g3, 4, none⟩ (.int .i64 size)).setCell ⟨g3, 5, none⟩ (.slice A3 fixups.length c3))) := (((((Keeps.set_ (fun h => h rfl) _).trans (Keeps.set_ (fun h => h rfl) _)).trans (Keeps.set_ (fun h => h rfl) _)).trans (Keeps.set_ (fun h => h rfl) _)).trans (Keeps.set_ (fun h => h rfl) _)).trans (Keeps.set_ (fun h => h rfl) _)
  have HBF := Lib.hid ((((((HB3.out.setCell (p := ⟨g3, 0, none⟩) (by have := HGS.out; simp only; omega) (.string name)).setCell (p := ⟨g3, 1, none⟩) (by have := HGS.out; simp only; omega) (.int .i64 kind)).setCell (p := ⟨g3, 2, none⟩) (by have := HGS.out; simp only; omega) (.int .i64 align)).setCell (p := ⟨g3, 3, none⟩) (by have := HGS.out; simp only; omega) (.slice A2 bytes.length c2)).setCell (p := ⟨g3, 4, none⟩) (by have := HGS.out; simp only; omega) (.int .i64 size)).setCell (p := ⟨g3, 5, none⟩) (by have := HGS.out; simp only; omega) (.slice A3 fixups.length c3))
  go_wp2
  generalize ((((((v3.setCell ⟨g3, 0, none⟩ (.string name)).setCell ⟨g3, 1, none⟩ (.int .i64 kind)).setCell ⟨g3, 2, none⟩ (.int .i64 align)).setCell ⟨g3, 3, none⟩ (.slice A2 bytes.length c2)).setCell ⟨g3, 4, none⟩ (.int .i64 size)).setCell ⟨g3, 5, none⟩ (.slice A3 fixups.length c3)) = WF at HQ HK HBF ⊢
  have x0 : WF.cell? ⟨g3, 0, none⟩ = some (.string name) := HQ.out.cell 0
  have x1 : WF.cell? ⟨g3, 1, none⟩ = some (.int .i64 kind) := HQ.out.cell 1
  have x2 : WF.cell? ⟨g3, 2, none⟩ = some (.int .i64 align) := HQ.out.cell 2
  have x3 : WF.cell? ⟨g3, 3, none⟩ = some (.slice A2 bytes.length c2) := HQ.out.cell 3
  have x4 : WF.cell? ⟨g3, 4, none⟩ = some (.int .i64 size) := HQ.out.cell 4
  have x5 : WF.cell? ⟨g3, 5, none⟩ = some (.slice A3 fixups.length c3) := HQ.out.cell 5
  refine bodyPost_ret (v := .agg #[.string name, .int .i64 kind, .int .i64 align, .slice A2 bytes.length c2, .int .i64 size, .slice A3 fixups.length c3]) (by simp [results, Try.results99, go_sem, x0, x1, x2, x3, x4, x5]) rfl ?_
  have q0 := HK.out.own HP23.out (fun g hg => by have h3 := (own_blkS HP23.out g hg).1; have h4 := H4Z.out; have := HGS.out; simp only [ne_eq]; omega)
  have q1 := HK.out.own HP3.out (fun g hg => by have h3 := (own_blkS HP3.out g hg).1; have h4 := H4Z.out; have h5 := HZ2.out; have := HGS.out; simp only [ne_eq]; omega)
  exact ⟨⟨name, kind, align, bytes, A2, c2, size, fixups, A3, c3⟩, rfl, rfl, ⟨own_base q0 HWA.out.size, own_base q1 HB2.out.size⟩, HBF.out⟩
end Go.Proofs.Ytdaamgonendkkaa
namespace Go.Proofs.Ytdaamgonendkkaa
open Go Go.RowKit

theorem secs_ones (l : List Sec) : ∀ u ∈ List.flatMap Sec.cells l, u.oneCell' = true := fun u hu => by
  obtain ⟨x, _, hx⟩ := List.mem_flatMap.1 hu
  simp only [Sec.cells, List.mem_cons, List.not_mem_nil, or_false] at hx
  rcases hx with rfl | rfl | rfl | rfl | rfl | rfl <;> rfl
theorem own_sliceG {w : World} {base size n : Nat} {t : TypeId} {v : Value} {xs : List Value} (h : w.ownsRow base t size v n xs) : ∃ A c, v = .slice A n c := by
  rcases h.2 with ⟨hv, hn⟩ | ⟨g, cap, cur, hv, _⟩
  · exact ⟨none, 0, by rw [hv, hn]⟩
  · exact ⟨_, _, hv⟩
theorem own_blockS (A : Option Addr) (n c : Nat) : Value.ownBlock (.slice A n c) = A.map (·.block) := by cases A <;> rfl
theorem blk_reads6 {w : World} {g B : Nat} {t : TypeId} {y : Sec} (h : Blk w g t y.cells.toArray) (hB : g < B) : Reads w B 6 (some ⟨g, 0, none⟩) 1 y.cells := by
  refine ⟨rfl, fun _ => ⟨_, rfl, hB, fun j u hu => ?_⟩⟩
  have h2 := (h.cell j).trans (by simpa using hu : _ = some u)
  rw [show (⟨g, 0, none⟩ : Addr).add j = ⟨g, j, none⟩ from by cases j <;> simp [Addr.add]]
  exact h2
set_option maxRecDepth 100000 in
set_option maxHeartbeats 2000000 in
theorem ownSecs_any {A1 : Option Addr} {c1 B1 : Nat} (xs : List Sec) (w : World) (h1 : SecAt w B1 A1 xs) (hB : B1 ≤ w.heap.size) (hm : xs.length ≤ 1048576) (hs : ∀ x ∈ xs, x.small) :
    Calls Try.prog 83 #[.slice A1 xs.length c1] w fun e w' => ∃ (A : Option Addr) (c : Nat) (ds : List Sec), e = .returned (.slice A ds.length c) ∧ ds.map Sec.v = xs.map Sec.v ∧ w'.ownsRow w.heap.size 80 6 (.slice A ds.length c) ds.length (ds.flatMap Sec.cells) ∧ (∀ d ∈ ds, d.Own w' w.heap.size) ∧ Below w.heap.size w w' := by
  obtain ⟨i0, hi0, hz0, hz1, hz2⟩ := info_parts sec_info
  have HS := Lib.hid hs
  have H1 := Lib.hid (h1.more hB)
  have O0 := Lib.hid (World.ownsRow_lit (base := w.heap.size) (e := 80) (size := 6) w #[] 0 (Nat.le_refl _) (by unfold maxLen; omega) rfl)
  have B0 := Lib.hid ((Below.refl w.heap.size w).alloc (Nat.le_refl _) (.cells #[] 80))
  clear hs h1
  go_enter Try.func83, Try.ntmps83
  go_wp2
  go_loopw [3, 4] (fun av kv wr => ∃ (k : Nat) (A : Option Addr) (c : Nat) (ds : List Sec), av = .slice A ds.length c ∧ kv = .int .i64 (k : Int) ∧ k ≤ xs.length ∧ Hid (ds.length = k ∧ ds.map Sec.v = (xs.take k).map Sec.v) ∧ Hid (wr.ownsRow w.heap.size 80 6 (.slice A ds.length c) ds.length (ds.flatMap Sec.cells)) ∧ Hid (∀ d ∈ ds, d.Own wr w.heap.size) ∧ Hid (Below w.heap.size w wr)) (fun _ kv _ => xs.length - (intOf kv).toNat)
  case atStart => exact ⟨0, _, 0, [], rfl, rfl, Nat.zero_le _, Lib.hid ⟨rfl, rfl⟩, O0, Lib.hid (by simp), B0⟩
  case round =>
    obtain ⟨k, A, c, ds, rfl, rfl, hk, HD, HO, HW, HB⟩ := hrel
    clear O0 B0
    by_cases hlt : k < xs.length
    · obtain ⟨b, off, rfl, hbl, e0, e1, e2, e3, e4, e5⟩ := Sec.at_ ((H1.out.below HB.out).1) hlt
      have HI := Lib.hid ((H1.out.2 _ (List.getElem_mem hlt)).below HB.out)
      have HT := Lib.hid (HS.out _ (List.getElem_mem hlt))
      have hbz := HB.out.size
      go_wp2_with fail
      refine (ownSec_any xs[k] _ HI.out hbz HT.out).mono ?_
      rintro e w2 ⟨y, rfl, hyv, hyo, hb2⟩
      have HY := Lib.hid hyv
      have HYO := Lib.hid (hyo.base hbz)
      have HO2 := Lib.hid (own_below HO.out hb2)
      have HW2 : Hid (∀ d ∈ ds, d.Own w2 w.heap.size) := fun d hd => (HW.out d hd).below hb2
      have HB2 := Lib.hid (HB.out.trans (hb2.mono hbz))
      have hl : ds.length ≤ 1048576 := by have := HD.out.1; omega
      have hz2' := HB2.out.size
      have HRY : Hid (Reads (w2.alloc (.cells y.cells.toArray 80)) (w2.heap.size + 1) 6 (some ⟨w2.heap.size, 0, none⟩) 1 y.cells) := blk_reads6 (Blk.new _ _ _) (by simp)
      clear hyv hyo hb2 HO HW HB HI e0 e1 e2 e3 e4 e5
      simp only [Sec.val]
      go_wp2_with (at_builtin; refine wpList_append_any _ rfl (.tmp 12) (.tmp 18) _ rfl w.heap.size 80 i0 _ 6 88 Try.underlying44 hi0 hz0 hz1 hz2 rfl (by omega) (.slice A ds.length c) ds.length (ds.flatMap Sec.cells) rfl (by exact HO2.out.alloc _) (w2.heap.size + 1) (some ⟨w2.heap.size, 0, none⟩) 1 1 y.cells rfl (by exact HRY.out) (by simpa using secs_ones [y]) (by unfold maxLen; omega) (by omega) (by simp; omega) ?_; intro v' w3 ho hg _; obtain ⟨A3, c3, rfl⟩ := own_sliceG ho; rw [own_blockS] at hg; have HK3 : Hid (KeepT TS w2 w3) := (KeepT.of_alloc _ _ _).trans (KeepT.of_row (HO2.out.alloc _) hg (by unfold TS; decide)); have HB3 := Lib.hid (below_push (HB2.out.alloc hz2' _) (HO2.out.alloc _) (Nat.le_refl _) (by simp; omega) hg); have HO3 := Lib.hid ho; clear ho hg)
      have HD3 : Hid ((ds ++ [y]).length = k + 1 ∧ (ds ++ [y]).map Sec.v = (xs.take (k + 1)).map Sec.v) := ⟨by simp [HD.out.1], by rw [List.map_append, HD.out.2, List.take_succ_eq_append_getElem hlt, List.map_append]; simp [HY.out]⟩
      have HO4 : Hid (w3.ownsRow w.heap.size 80 6 (.slice A3 (ds ++ [y]).length c3) (ds ++ [y]).length ((ds ++ [y]).flatMap Sec.cells)) := by
        have h := HO3.out
        rw [show (ds ++ [y]).length = ds.length + 1 from by simp, List.flatMap_append, show [y].flatMap Sec.cells = y.cells from by simp]
        exact h
      have HW3 : Hid (∀ d ∈ ds ++ [y], d.Own w3 w.heap.size) := fun d hd => by
        rcases List.mem_append.1 hd with hd | hd
        · exact (HW2.out d hd).keepT HK3.out (.inl rfl) (.inr rfl)
        · rw [List.mem_singleton.1 hd]; exact HYO.out.keepT HK3.out (.inl rfl) (.inr rfl)
      go_roundw
      case rel => exact ⟨k + 1, A3, c3, ds ++ [y], by simp, by go_num, by omega, HD3, HO4, HW3, HB3⟩
      case measure => simp [intOf]; omega
    · go_wp2
      go_ret
      exact ⟨A, c, ds, rfl, by rw [HD.out.2, List.take_of_length_le (by omega)], HO.out, HW.out, HB.out⟩
end Go.Proofs.Ytdaamgonendkkaa
namespace Go.Proofs.Ytdaamgonendkkaa
open Go Go.RowKit

theorem syms_ones (l : List Sym) : ∀ u ∈ List.flatMap Sym.cells l, u.oneCell' = true := fun u hu => by
  obtain ⟨x, _, hx⟩ := List.mem_flatMap.1 hu
  simp only [Sym.cells, List.mem_cons, List.not_mem_nil, or_false] at hx
  rcases hx with rfl | rfl | rfl | rfl <;> rfl
theorem Sec.Own.keeps {w w' : World} {lo : Nat} {ok : Nat → Prop} {x : Sec} (h : x.Own w lo) (k : Keeps ok w w') (ho : ∀ g, lo ≤ g → ok g) : x.Own w' lo := ⟨k.own h.1 (fun g hg => ho g (own_blkS h.1 g hg).1), k.own h.2 (fun g hg => ho g (own_blkS h.2 g hg).1)⟩
theorem small_v {x z : Obj} (hx : x.small) (hv : z.v = x.v) : z.small := by
  obtain ⟨h1, h2, h3, h4⟩ := hx
  obtain ⟨e1, e2⟩ := Obj.v_eq hv
  have el : z.secs.length = x.secs.length := by simpa using congrArg List.length e1
  refine ⟨by omega, fun s hs => ?_, by rw [e2]; exact h3, fun s hs => h4 s (by rw [← e2]; exact hs)⟩
  have hm : s.v ∈ x.secs.map Sec.v := by rw [← e1]; exact List.mem_map.2 ⟨s, hs, rfl⟩
  obtain ⟨t, ht, he⟩ := List.mem_map.1 hm
  obtain ⟨q1, _, _, q4, _, q6⟩ := Sec.v_eq he
  obtain ⟨a, b, c⟩ := h2 t ht
  exact ⟨by rw [← q1]; exact a, by rw [← q4]; exact b, by rw [← q6]; exact c⟩
set_option maxRecDepth 100000 in
set_option maxHeartbeats 8000000 in
theorem ownObj_any {B : Nat} (x : Obj) (w : World) (h : x.At w B) (hB : B ≤ w.heap.size) (hs : x.small) :
    Calls Try.prog 55 #[x.val] w (fun e w' => ∃ z : Obj, e = .returned z.val ∧ z.v = x.v ∧ ObjRows w.heap.size z w' ∧ Below w.heap.size w w') := by
  obtain ⟨j0, ji, jz, js_, jb⟩ := info_parts sym_info
  obtain ⟨secs, sA, sc, syms, yA, yc⟩ := x
  simp only [Obj.val, Obj.At, Obj.small] at *
  obtain ⟨hs1, hs2, hs3, hs4⟩ := hs
  have H0 := Lib.hid (h.1.more hB)
  have H1 := Lib.hid (h.2.more hB)
  have HS := Lib.hid hs2
  clear h hs2 hs4
  obtain ⟨wA, hwA⟩ : ∃ wA, wA = ((w.alloc (.cells #[.slice sA secs.length sc, .slice yA syms.length yc] 47)).alloc (.cells #[.slice none 0 0, .slice none 0 0] 47)).alloc (.cells #[.slice sA secs.length sc, .slice yA syms.length yc] 47) := ⟨_, rfl⟩
  obtain ⟨ga, hga⟩ : ∃ ga, ga = w.heap.size := ⟨_, rfl⟩
  obtain ⟨g3, hg3⟩ : ∃ g3, g3 = w.heap.size + 1 := ⟨_, rfl⟩
  obtain ⟨g4, hg4⟩ : ∃ g4, g4 = w.heap.size + 1 + 1 := ⟨_, rfl⟩
  have HWA : Hid (Below w.heap.size w wA) := by rw [hwA]; exact below_new3 w _ _ _
  have HA : Hid (Blk wA ga 47 #[.slice sA secs.length sc, .slice yA syms.length yc]) := by rw [hwA, hga]; exact blk_new1 w 47 #[.slice sA secs.length sc, .slice yA syms.length yc] _ _
  have H3 : Hid (Blk wA g3 47 #[.slice none 0 0, .slice none 0 0]) := by rw [hwA, hg3]; exact blk_new2 w 47 #[.slice none 0 0, .slice none 0 0] _ _
  have H4 : Hid (Blk wA g4 47 #[.slice sA secs.length sc, .slice yA syms.length yc]) := by rw [hwA, hg4]; exact blk_new3 w 47 #[.slice sA secs.length sc, .slice yA syms.length yc] _ _
  have HGS : Hid (w.heap.size ≤ ga ∧ ga < g3 ∧ g3 < g4) := by show _ ∧ _ ∧ _; omega
  have HR0 := Lib.hid (H0.out.below HWA.out)
  have H4Z := Lib.hid H4.out.lt
  clear H0
  have HC := Lib.hid (ownSecs_any (c1 := sc) secs wA HR0.out HWA.out.size hs1 HS.out)
  go_enter Try.func55, Try.ntmps55
  go_upto_region 2 with fail
  rw [← hwA, ← hg4, ← hg3, ← hga]
  clear hwA hga hg3 hg4
  have ea2 : wA.cell? ⟨ga, 0, none⟩ = some (.slice sA secs.length sc) := HA.out.cell 0
  go_upto_region 3 with (refine HC.out.mono ?_; rintro e w2 ⟨A2, c2, ds, rfl, hds, ho, hw, s2⟩; have HDS := Lib.hid hds; have HO2 := Lib.hid ho; have HW2 := Lib.hid hw; have HS2 := Lib.hid s2; have K42 := Lib.hid (H4.out.below s2 H4.out.lt); have ef2 := K42.out.frozen 0; have ey2 := K42.out.cell 0; clear hds ho hw s2)
  have HK2 : Hid (Keeps (fun b => b ≠ g3 ∧ b ≠ g4) w2 (w2.setCell ⟨g4, 0, none⟩ (.slice A2 ds.length c2))) := Keeps.set_ (fun h => h.2 rfl) _
  have HKA : Hid (Keeps (fun b => b ≠ g4) wA (w2.setCell ⟨g4, 0, none⟩ (.slice A2 ds.length c2))) := (Keeps.below HS2.out).trans (Keeps.set_ (fun h => h rfl) _)
  have HA2 := Lib.hid (HA.out.keeps HKA.out (by have := HGS.out; simp only [ne_eq]; omega))
  have H32 := Lib.hid (H3.out.keeps HKA.out (by have := HGS.out; simp only [ne_eq]; omega))
  have H42 : Hid (Blk (w2.setCell ⟨g4, 0, none⟩ (.slice A2 ds.length c2)) g4 47 #[.slice A2 ds.length c2, .slice yA syms.length yc]) := K42.out.set_ 0 _
  have HB2 : Hid (Below w.heap.size w (w2.setCell ⟨g4, 0, none⟩ (.slice A2 ds.length c2))) := (HWA.out.trans (HS2.out.mono HWA.out.size)).setCell (p := ⟨g4, 0, none⟩) (by have := HGS.out; simp only; omega) _
  have HKA2 := HKA
  clear HKA HS2 K42 ef2 ey2 ea2 HA H3 H4 HC HR0
  generalize (w2.setCell ⟨g4, 0, none⟩ (.slice A2 ds.length c2)) = v2 at *
  have HR1 := Lib.hid (H1.out.below HB2.out)
  have HZ2 := Lib.hid H42.out.lt
  have HVV : Hid (wA.heap.size ≤ v2.heap.size) := HKA2.out.size
  clear HKA2
  clear H1
  have HL3 := Lib.hid (World.ownsRow_lit (base := v2.heap.size) (e := 55) (size := 4) v2 #[] 0 (Nat.le_refl _) (by unfold maxLen; omega) rfl)
  have ea3 : (v2.alloc (.cells #[] 55)).cell? ⟨ga, 1, none⟩ = some (.slice yA syms.length yc) := (HA2.out.alloc _).cell 1
  have eb3 : v2.cell? ⟨ga, 1, none⟩ = some (.slice yA syms.length yc) := HA2.out.cell 1
  have za3 : ga < v2.heap.size := HA2.out.lt
  go_upto_region 4 with (at_builtin; refine wpList_appendS _ rfl (.tmp 9) (.tmp 11) _ rfl v2.heap.size 55 j0 _ 4 40 Try.underlying45 ji jz js_ jb rfl (by omega) (by omega) (some ⟨v2.heap.size, 0, none⟩) 0 0 [] rfl (by exact HL3.out) w.heap.size yA syms.length yc (List.flatMap Sym.cells syms) rfl (by exact HR1.out.alloc HB2.out.size _) (syms_ones _) (by omega) (by simp) ?_; intro A3 c3 w3 ho hg _; have s3 : Below v2.heap.size v2 w3 := below_lit hg (Nat.le_refl _); simp only [Nat.zero_add, List.nil_append] at ho ⊢; have HO3 := Lib.hid ho; have HS3 := Lib.hid s3; have K43 := Lib.hid (H42.out.below s3 H42.out.lt); have ef3 := K43.out.frozen 1; have ey3 := K43.out.cell 1; clear ho hg s3)
  have HK3 : Hid (Keeps (fun b => b ≠ g4) v2 (w3.setCell ⟨g4, 1, none⟩ (.slice A3 syms.length c3))) := (Keeps.below HS3.out).trans (Keeps.set_ (fun h => h rfl) _)
  have HKS3 : Hid (Keeps (fun b => b ≠ g4) w3 (w3.setCell ⟨g4, 1, none⟩ (.slice A3 syms.length c3))) := Keeps.set_ (fun h => h rfl) _
  have HA3 := Lib.hid (HA2.out.keeps HK3.out (by have := HGS.out; simp only [ne_eq]; omega))
  have H33 := Lib.hid (H32.out.keeps HK3.out (by have := HGS.out; simp only [ne_eq]; omega))
  have H43 : Hid (Blk (w3.setCell ⟨g4, 1, none⟩ (.slice A3 syms.length c3)) g4 47 #[.slice A2 ds.length c2, .slice A3 syms.length c3]) := K43.out.set_ 1 _
  have HB3 : Hid (Below w.heap.size w (w3.setCell ⟨g4, 1, none⟩ (.slice A3 syms.length c3))) := (HB2.out.trans (HS3.out.mono HB2.out.size)).setCell (p := ⟨g4, 1, none⟩) (by have := HGS.out; simp only; omega) _
  have HP3 : Hid ((w3.setCell ⟨g4, 1, none⟩ (.slice A3 syms.length c3)).ownsRow v2.heap.size 55 4 (.slice A3 syms.length c3) syms.length (List.flatMap Sym.cells syms)) := HKS3.out.own HO3.out (fun g hg => by have h3 := (own_blkS HO3.out g hg).1; have h4 := H42.out.lt; simp only [ne_eq]; omega)
  have HK23 : Hid (Keeps (fun b => b ≠ g3 ∧ b ≠ g4) w2 (w3.setCell ⟨g4, 1, none⟩ (.slice A3 syms.length c3))) := (HK2.out.trans (Keeps.below HS3.out)).trans (Keeps.set_ (fun h => h.2 rfl) _)
  clear HK2 HK3 HKS3 HO3 HS3 K43 ef3 ey3 ea3 eb3 za3 HL3 HA2 H32 H42
  generalize (w3.setCell ⟨g4, 1, none⟩ (.slice A3 syms.length c3)) = v3 at *
  have z0 : v3.cell? ⟨g3, 0, none⟩ = some (.slice none 0 0) := H33.out.cell 0
  have y0 : v3.cell? ⟨g4, 0, none⟩ = some (.slice A2 ds.length c2) := H43.out.cell 0
  have f0 : v3.frozen? ⟨g3, 0, none⟩ = false := H33.out.frozen 0
  have z1 : v3.cell? ⟨g3, 1, none⟩ = some (.slice none 0 0) := H33.out.cell 1
  have y1 : v3.cell? ⟨g4, 1, none⟩ = some (.slice A3 syms.length c3) := H43.out.cell 1
  have f1 : v3.frozen? ⟨g3, 1, none⟩ = false := H33.out.frozen 1
  have HQ : Hid (Blk ((v3.setCell ⟨g3, 0, none⟩ (.slice A2 ds.length c2)).setCell ⟨g3, 1, none⟩ (.slice A3 syms.length c3)) g3 47 #[.slice A2 ds.length c2, .slice A3 syms.length c3]) := ((H33.out.set_ 0 (.slice A2 ds.length c2)).set_ 1 (.slice A3 syms.length c3))
  have HKF : Hid (Keeps (fun b => b ≠ g3 ∧ b ≠ g4) w2 ((v3.setCell ⟨g3, 0, none⟩ (.slice A2 ds.length c2)).setCell ⟨g3, 1, none⟩ (.slice A3 syms.length c3))) := (HK23.out.trans (Keeps.set_ (fun h => h.1 rfl) _)).trans (Keeps.set_ (fun h => h.1 rfl) _)
  have HKE : Hid (Keeps (fun b => b ≠ g3 ∧ b ≠ g4) v3 ((v3.setCell ⟨g3, 0, none⟩ (.slice A2 ds.length c2)).setCell ⟨g3, 1, none⟩ (.slice A3 syms.length c3))) := (Keeps.set_ (fun h => h.1 rfl) _).trans (Keeps.set_ (fun h => h.1 rfl) _)
  have HBF := Lib.hid ((HB3.out.setCell (p := ⟨g3, 0, none⟩) (by have := HGS.out; simp only; omega) (.slice A2 ds.length c2)).setCell (p := ⟨g3, 1, none⟩) (by have := HGS.out; simp only; omega) (.slice A3 syms.length c3))
  go_wp2
  generalize ((v3.setCell ⟨g3, 0, none⟩ (.slice A2 ds.length c2)).setCell ⟨g3, 1, none⟩ (.slice A3 syms.length c3)) = WF at HQ HKF HKE HBF ⊢
  have x0 : WF.cell? ⟨g3, 0, none⟩ = some (.slice A2 ds.length c2) := HQ.out.cell 0
  have x1 : WF.cell? ⟨g3, 1, none⟩ = some (.slice A3 syms.length c3) := HQ.out.cell 1
  refine bodyPost_ret (v := .agg #[.slice A2 ds.length c2, .slice A3 syms.length c3]) (by simp [results, Try.results55, go_sem, x0, x1]) rfl ?_
  have hz4 := H4Z.out
  have hz2 := HZ2.out
  have hvv := HVV.out
  have hgs := HGS.out
  have q0 := HKF.out.own HO2.out (fun g hg => by have h3 := (own_blkS HO2.out g hg).1; simp only [ne_eq]; omega)
  have q1 := HKE.out.own HP3.out (fun g hg => by have h3 := (own_blkS HP3.out g hg).1; simp only [ne_eq]; omega)
  have q2 : ∀ d ∈ ds, d.Own WF wA.heap.size := fun d hd => (HW2.out d hd).keeps HKF.out (fun g hg => by simp only [ne_eq]; omega)
  exact ⟨⟨ds, A2, c2, syms, A3, c3⟩, rfl, by simp only [Obj.v, HDS.out], (⟨q0, own_base q1 hvv, q2⟩ : ObjRows wA.heap.size _ WF).base HWA.out.size, HBF.out⟩
end Go.Proofs.Ytdaamgonendkkaa
