/- Contract of the drawing's copy of an object. Condition: the sizes. Contract of DrawChangesOf: it draws two objects. Condition: the sizes. -/
import Derived.Test.YtdaamgonendkkaaRows
import Derived.Test.YtdaamgonendkkaaBase
import Derived.Test.YtdaamgonendkkaaBase2
import Derived.Test.YtdaamgonendkkaaBase3
import Derived.Test.YtdaamgonendkkaaOnly
import Derived.Test.YtdaamgonendkkaaIn
import Derived.Test.YtdaamgonendkkaaName
import Derived.Test.YtdaamgonendkkaaSec
import Derived.Test.YtdaamgonendkkaaSym
import Derived.Test.YtdaamgonendkkaaObj
import Derived.Test.YtdaamgonendkkaaReg
import Derived.Test.YtdaamgonendkkaaRegS
import Derived.Test.YtdaamgonendkkaaPick2
import Derived.Test.YtdaamgonendkkaaKT
import Derived.Test.YtdaamgonendkkaaDobj
import Derived.Test.YtdaamgonendkkaaOwnA
import Derived.Test.YtdaamgonendkkaaFix
import Derived.Test.YtdaamgonendkkaaRegK
import Derived.Test.YtdaamgonendkkaaPick
import Derived.Test.YtdaamgonendkkaaDrawN
import Derived.Test.YtdaamgonendkkaaDby
import Derived.Test.YtdaamgonendkkaaDsec
import Derived.Test.YtdaamgonendkkaaDsym
import Derived.WalkKit
import Derived.WalkSpells
import Derived.WalkLawsBesides
import Derived.Handy
import Derived.BigQuiet
import Derived.Deep.RegionHeld3
import Derived.Deep.DrawnRows
import Derived.Deep.QuietTactic
import Derived.Deep.CutBlock
namespace Go.Proofs.Ytdaamgonendkkaa
open Go Go.RowKit

/-- While an object is copied. -/
structure CpMem (w : World) (g1 g2 g3 : Nat) (x z : Obj) (wq : World) : Prop where
  b1 : Blk wq g1 47 x.oc.toArray
  b2 : Blk wq g2 47 #[.slice none 0 0, .slice none 0 0]
  b3 : Blk wq g3 47 z.oc.toArray
  rows : ObjRows w.heap.size z wq
  bl : Below w.heap.size w wq
  lt : w.heap.size ≤ g1 ∧ g1 < g2 ∧ g2 < g3
section
variable {w wq w' : World} {g1 g2 g3 : Nat} {x z : Obj}
theorem CpMem.below (h : CpMem w g1 g2 g3 x z wq) (hb : Below wq.heap.size wq w') : CpMem w g1 g2 g3 x z w' :=
  ⟨h.b1.below hb h.b1.lt, h.b2.below hb h.b2.lt, h.b3.below hb h.b3.lt, h.rows.below hb, h.bl.trans (hb.mono h.bl.size), h.lt⟩
theorem CpMem.push {A' : Option Addr} {c' : Nat} {y : Sec} (h : CpMem w g1 g2 g3 x z wq) (hy : y.Own wq w.heap.size) (ho : w'.ownsRow w.heap.size 80 6 (.slice A' (z.secs.length + 1) c') (z.secs.length + 1) (z.secs.flatMap Sec.cells ++ y.cells)) (hg : wq.grownBy w' (z.sA.map (·.block))) :
    Blk w' g3 47 z.oc.toArray ∧ CpMem w g1 g2 g3 x { z with secs := z.secs ++ [y], sA := A', sc := c' } (w'.setCell ⟨g3, 0, none⟩ (.slice A' (z.secs.length + 1) c')) := by
  have hlt := h.lt
  have q1 := h.b1.grown hg (blk_row_ne h.b1 h.rows.os (by decide))
  have q2 := h.b2.grown hg (blk_row_ne h.b2 h.rows.os (by decide))
  have q3 := h.b3.grown hg (blk_row_ne h.b3 h.rows.os (by decide))
  have kt : KeepT TS wq w' := .of_row h.rows.os hg TS_s
  have qy := own_other h.rows.oy hg (own_types_ne2 h.rows.oy h.rows.os (by decide))
  have kk : KeepT TO w' (w'.setCell ⟨g3, 0, none⟩ (.slice A' (z.secs.length + 1) c')) := .of_set q3 TO_o 0 _
  have hr : ObjRows w.heap.size { z with secs := z.secs ++ [y], sA := A', sc := c' } w' := ⟨by simpa using ho, qy, fun t ht => by
    rcases List.mem_append.1 ht with ht | ht
    · exact (h.rows.ow t ht).keepT kt TS_b TS_f
    · rw [List.mem_singleton.1 ht]; exact hy.keepT kt TS_b TS_f⟩
  refine ⟨q3, q1.far (by simp only [ne_eq]; omega) _, q2.far (by simp only [ne_eq]; omega) _, ?_, hr.keep kk, ?_, hlt⟩
  · have := q3.set_ 0 (.slice A' (z.secs.length + 1) c')
    simpa [Obj.oc] using this
  · exact (h.bl.grown hg h.bl.size (fun k hk => by
      cases hA : z.sA with
      | none => rw [hA] at hk; cases hk
      | some a => rw [hA] at hk; injection hk with hk; have := (own_up h.rows.os a hA).1; simp only at hk; omega)).setCell (by simp only; omega) _
end
set_option maxRecDepth 100000 in
set_option maxHeartbeats 8000000 in
theorem copy4_any {B : Nat} (x : Obj) (w : World) (h : x.At w B) (hB : B ≤ w.heap.size) (hs : x.small) :
    Calls Try.prog 63 #[x.val] w (fun e w' => ∃ z : Obj, e = .returned z.val ∧ z.v = x.v ∧ ObjRows w.heap.size z w' ∧ Below w.heap.size w w') := by
  obtain ⟨i0, ii, iz, is_, ib⟩ := info_parts osu_info
  obtain ⟨j0, ji, jz, js_, jb⟩ := info_parts osf_info
  obtain ⟨k0, ki, kz, ks_, kb⟩ := info_parts sym_info
  obtain ⟨l0, li, lz, ls_, lb⟩ := info_parts sec_info
  have HXA : Hid (∀ w', Below w.heap.size w w' → x.At w' w'.heap.size) := fun w' hb => ((h.more hB).below hb).more hb.size
  obtain ⟨hs1, hs2, hs3, hs4⟩ := hs
  have HS := Lib.hid hs2
  clear h hs2 hs4
  obtain ⟨wA, hwA⟩ : ∃ wA, wA = (w.alloc (.cells x.oc.toArray 47)).alloc (.cells #[.slice none 0 0, .slice none 0 0] 47) := ⟨_, rfl⟩
  obtain ⟨g1, hg1⟩ : ∃ g1, g1 = w.heap.size := ⟨_, rfl⟩
  obtain ⟨g2, hg2⟩ : ∃ g2, g2 = w.heap.size + 1 := ⟨_, rfl⟩
  have HWA : Hid (Below w.heap.size w wA) := by rw [hwA]; exact ((Below.refl _ _).alloc (Nat.le_refl _) _).alloc (by simp) _
  have H1 : Hid (Blk wA g1 47 x.oc.toArray) := by rw [hwA, hg1]; exact (Blk.new _ _ _).alloc _
  have H2 : Hid (Blk wA g2 47 #[.slice none 0 0, .slice none 0 0]) := by
    rw [hwA, hg2]
    have h := Blk.new (w.alloc (.cells x.oc.toArray 47)) 47 #[.slice none 0 0, .slice none 0 0]
    simpa [Hid] using h
  have HGS : Hid (w.heap.size ≤ g1 ∧ g1 < g2) := by show _ ∧ _; omega
  have HRY := Lib.hid ((HXA.out wA HWA.out).2)
  show Calls Try.prog 63 #[.agg #[.slice x.sA x.secs.length x.sc, .slice x.yA x.syms.length x.yc]] w _
  have HLY := Lib.hid (World.ownsRow_lit (base := wA.heap.size) (e := 55) (size := 4) wA #[] 0 (Nat.le_refl _) (by unfold maxLen; omega) rfl)
  have ea1 : (wA.alloc (.cells #[] 55)).cell? ⟨g1, 1, none⟩ = some (.slice x.yA x.syms.length x.yc) := (H1.out.alloc _).cell 1
  go_enter Try.func63, Try.ntmps63
  go_upto_region 1 with fail
  simp only [Obj.oc] at hwA
  rw [← hwA, ← hg2, ← hg1]
  clear hwA hg1 hg2
  have eb1 : wA.cell? ⟨g1, 1, none⟩ = some (.slice x.yA x.syms.length x.yc) := H1.out.cell 1
  have za1 : g1 < wA.heap.size := H1.out.lt
  go_upto_region 2 with (at_builtin; refine wpList_appendS _ rfl (.tmp 6) (.tmp 8) _ rfl wA.heap.size 55 k0 _ 4 40 Try.underlying45 ki kz ks_ kb rfl (by omega) (by omega) (some ⟨wA.heap.size, 0, none⟩) 0 0 [] rfl (by exact HLY.out) wA.heap.size x.yA x.syms.length x.yc (List.flatMap Sym.cells x.syms) rfl (by exact HRY.out.alloc (Nat.le_refl _) _) (syms_ones _) (by omega) (by simp) ?_; intro A1 c1 w1 ho hg _; have s1 : Below wA.heap.size wA w1 := below_lit hg (Nat.le_refl _); simp only [Nat.zero_add, List.nil_append] at ho ⊢; have HOY := Lib.hid ho; have HS1 := Lib.hid s1; clear ho hg s1)
  have HM1 : Hid (CpMem w g1 g2 w1.heap.size x ⟨[], none, 0, x.syms, A1, c1⟩ (w1.alloc (.cells #[.slice none 0 0, .slice A1 x.syms.length c1] 47))) := by
    have hlt := (H2.out.below HS1.out H2.out.lt).lt
    refine ⟨(H1.out.below HS1.out H1.out.lt).alloc _, (H2.out.below HS1.out H2.out.lt).alloc _, Blk.new _ _ _, ⟨⟨rfl, .inl ⟨rfl, rfl⟩⟩, (own_base HOY.out HWA.out.size).alloc _, fun s hs => by simp at hs⟩, (HWA.out.trans (HS1.out.mono HWA.out.size)).alloc (Nat.le_trans HWA.out.size HS1.out.size) _, HGS.out.1, HGS.out.2, hlt⟩
  clear HWA H1 H2 HGS HRY HLY ea1 eb1 za1 HOY HS1
  generalize w1.alloc (.cells #[.slice none 0 0, .slice A1 x.syms.length c1] 47) = v1 at *
  generalize w1.heap.size = g3 at *
  have HSY : Hid ((⟨[], none, 0, x.syms, A1, c1⟩ : Obj).secs = [] ∧ (⟨[], none, 0, x.syms, A1, c1⟩ : Obj).syms = x.syms) := ⟨rfl, rfl⟩
  generalize (⟨[], none, 0, x.syms, A1, c1⟩ : Obj) = z0 at *
  go_wp2
  go_loopw [4] (fun kv wr => ∃ (k : Nat) (z : Obj), kv = .int .i64 (k : Int) ∧ k ≤ x.secs.length ∧ Hid (CpMem w g1 g2 g3 x z wr) ∧ Hid (z.secs.length = k ∧ z.secs.map Sec.v = (x.secs.take k).map Sec.v ∧ z.syms = x.syms)) (fun kv _ => x.secs.length - (intOf kv).toNat)
  case atStart => exact ⟨0, z0, rfl, Nat.zero_le _, HM1, Lib.hid ⟨by rw [HSY.out.1]; rfl, by rw [HSY.out.1]; rfl, HSY.out.2⟩⟩
  case round =>
    obtain ⟨k, z, rfl, hk, HM, HZ⟩ := hrel
    clear HM1 HSY
    have ed0 : wr.cell? ⟨g1, 0, none⟩ = some (.slice x.sA x.secs.length x.sc) := HM.out.b1.cell 0
    by_cases hlt : k < x.secs.length
    · obtain ⟨b, off, hA, hbl, e0, e1, e2, e3, e4, e5⟩ := Sec.at_ ((HXA.out wr HM.out.bl).1.1) hlt
      have hlt' : (k : Int) < (x.secs.length : Int) := by omega
      have HI := Lib.hid ((HXA.out wr HM.out.bl).1.2 _ (List.getElem_mem hlt))
      have hst := HS.out _ (List.getElem_mem hlt)
      rw [hA] at ed0
      have HAH := Lib.hid hA
      clear hA
      have HXK : Hid (∃ q : Sec, q = x.secs[k]) := ⟨_, rfl⟩
      obtain ⟨q, hq⟩ := HXK.out
      clear HXK
      have HQ := Lib.hid (congrArg Sec.v hq)
      rw [← hq] at e0 e1 e2 e3 e4 e5 HI hst
      clear hq
      obtain ⟨name, kind, align, bytes, bA, bc, size, fixups, fA, fc⟩ := q
      simp only [Sec.In, Sec.small] at HI hst e0 e1 e2 e3 e4 e5
      obtain ⟨_, hm1, hm2⟩ := hst
      go_upto_region 6 with fail
      obtain ⟨v5, hv5⟩ : ∃ v5, v5 = wr.alloc (.cells #[.string name, .int .i64 kind, .int .i64 align, .slice bA bytes.length bc, .int .i64 size, .slice fA fixups.length fc] 80) := ⟨_, rfl⟩
      obtain ⟨g5, hg5⟩ : ∃ g5, g5 = wr.heap.size := ⟨_, rfl⟩
      have H5 : Hid (Blk v5 g5 80 #[.string name, .int .i64 kind, .int .i64 align, .slice bA bytes.length bc, .int .i64 size, .slice fA fixups.length fc]) := by rw [hv5, hg5]; exact Blk.new _ _ _
      have HB5 : Hid (Below wr.heap.size wr v5) := by rw [hv5]; exact (Below.refl _ _).alloc (Nat.le_refl _) _
      have hle5 : wr.heap.size ≤ g5 := by omega
      rw [← hv5, ← hg5]
      clear hv5 hg5 e0 e1 e2 e3 e4 e5 ed0
      have HR0 := Lib.hid (HI.out.1.below HB5.out)
      have HR1 := Lib.hid (HI.out.2.below HB5.out)
      clear HI
      have HL2 := Lib.hid (World.ownsRow_lit (base := v5.heap.size) (e := 5) (size := 1) v5 #[] 0 (Nat.le_refl _) (by unfold maxLen; omega) rfl)
      have ea2 : (v5.alloc (.cells #[] 5)).cell? ⟨g5, 3, none⟩ = some (.slice bA bytes.length bc) := (H5.out.alloc _).cell 3
      have eb2 : v5.cell? ⟨g5, 3, none⟩ = some (.slice bA bytes.length bc) := H5.out.cell 3
      have za2 : g5 < v5.heap.size := H5.out.lt
      go_upto_region 7 with (at_builtin; refine wpList_appendS _ rfl (.tmp 23) (.tmp 25) _ rfl v5.heap.size 5 i0 _ 1 1 Try.underlying22 ii iz is_ ib rfl (by omega) (by omega) (some ⟨v5.heap.size, 0, none⟩) 0 0 [] rfl (by exact HL2.out) wr.heap.size bA bytes.length bc (nums .u8 bytes) rfl (by exact HR0.out.alloc HB5.out.size _) (nums_one _ _) (by omega) (by simp) ?_; intro A2 c2 w2 ho hg _; have s2 : Below v5.heap.size v5 w2 := below_lit hg (Nat.le_refl _); simp only [Nat.zero_add, List.nil_append] at ho ⊢; have HO2 := Lib.hid ho; have HS2 := Lib.hid s2; have K2 := Lib.hid (H5.out.below s2 H5.out.lt); have ef2 : w2.frozen? ⟨g5, 3, none⟩ = false := K2.out.frozen 3; have ey2 : w2.cell? ⟨g5, 3, none⟩ = some (.slice bA bytes.length bc) := K2.out.cell 3; clear ho hg s2)
      have H52 : Hid (Blk (w2.setCell ⟨g5, 3, none⟩ (.slice A2 bytes.length c2)) g5 80 #[.string name, .int .i64 kind, .int .i64 align, .slice A2 bytes.length c2, .int .i64 size, .slice fA fixups.length fc]) := K2.out.set_ 3 _
      have KT2 : Hid (KeepT TS w2 (w2.setCell ⟨g5, 3, none⟩ (.slice A2 bytes.length c2))) := .of_set K2.out TS_s 3 _
      have HB2 : Hid (Below wr.heap.size wr (w2.setCell ⟨g5, 3, none⟩ (.slice A2 bytes.length c2))) := (HB5.out.trans (HS2.out.mono HB5.out.size)).setCell (p := ⟨g5, 3, none⟩) (by simp only; omega) _
      have HP2 : Hid ((w2.setCell ⟨g5, 3, none⟩ (.slice A2 bytes.length c2)).ownsRow w.heap.size 5 1 (.slice A2 bytes.length c2) bytes.length (nums .u8 bytes)) := KT2.out.own (own_base HO2.out (Nat.le_trans HM.out.bl.size HB5.out.size)) TS_b
      have HR12 : Hid (Reads (w2.setCell ⟨g5, 3, none⟩ (.slice A2 bytes.length c2)) wr.heap.size 4 fA fixups.length (List.flatMap Fix.cells fixups)) := (HR1.out.below (HS2.out.mono HB5.out.size)).setCell (by simp only; omega) _
      clear HO2 HS2 K2 KT2 ef2 ey2 ea2 eb2 za2 HL2 H5 HB5 HR0 HR1
      generalize (w2.setCell ⟨g5, 3, none⟩ (.slice A2 bytes.length c2)) = v2 at *
      have HL3 := Lib.hid (World.ownsRow_lit (base := v2.heap.size) (e := 107) (size := 4) v2 #[] 0 (Nat.le_refl _) (by unfold maxLen; omega) rfl)
      have ea3 : (v2.alloc (.cells #[] 107)).cell? ⟨g5, 5, none⟩ = some (.slice fA fixups.length fc) := (H52.out.alloc _).cell 5
      have eb3 : v2.cell? ⟨g5, 5, none⟩ = some (.slice fA fixups.length fc) := H52.out.cell 5
      have za3 : g5 < v2.heap.size := H52.out.lt
      go_upto_region 8 with (at_builtin; refine wpList_appendS _ rfl (.tmp 28) (.tmp 30) _ rfl v2.heap.size 107 j0 _ 4 32 Try.underlying78 ji jz js_ jb rfl (by omega) (by omega) (some ⟨v2.heap.size, 0, none⟩) 0 0 [] rfl (by exact HL3.out) wr.heap.size fA fixups.length fc (List.flatMap Fix.cells fixups) rfl (by exact HR12.out.alloc HB2.out.size _) (fixes_one _) (by omega) (by simp) ?_; intro A3 c3 w3 ho hg _; have s3 : Below v2.heap.size v2 w3 := below_lit hg (Nat.le_refl _); simp only [Nat.zero_add, List.nil_append] at ho ⊢; have HO3 := Lib.hid ho; have HS3 := Lib.hid s3; have K3 := Lib.hid (H52.out.below s3 H52.out.lt); have ef3 : w3.frozen? ⟨g5, 5, none⟩ = false := K3.out.frozen 5; have ey3 : w3.cell? ⟨g5, 5, none⟩ = some (.slice fA fixups.length fc) := K3.out.cell 5; clear ho hg s3)
      have H53 : Hid (Blk (w3.setCell ⟨g5, 5, none⟩ (.slice A3 fixups.length c3)) g5 80 #[.string name, .int .i64 kind, .int .i64 align, .slice A2 bytes.length c2, .int .i64 size, .slice A3 fixups.length c3]) := K3.out.set_ 5 _
      have KT3 : Hid (KeepT TS w3 (w3.setCell ⟨g5, 5, none⟩ (.slice A3 fixups.length c3))) := .of_set K3.out TS_s 5 _
      have HB3 : Hid (Below wr.heap.size wr (w3.setCell ⟨g5, 5, none⟩ (.slice A3 fixups.length c3))) := (HB2.out.trans (HS3.out.mono HB2.out.size)).setCell (p := ⟨g5, 5, none⟩) (by simp only; omega) _
      have HP3 : Hid ((w3.setCell ⟨g5, 5, none⟩ (.slice A3 fixups.length c3)).ownsRow w.heap.size 107 4 (.slice A3 fixups.length c3) fixups.length (List.flatMap Fix.cells fixups)) := KT3.out.own (own_base HO3.out (Nat.le_trans HM.out.bl.size HB2.out.size)) TS_f
      have HP23 : Hid ((w3.setCell ⟨g5, 5, none⟩ (.slice A3 fixups.length c3)).ownsRow w.heap.size 5 1 (.slice A2 bytes.length c2) bytes.length (nums .u8 bytes)) := KT3.out.own (own_below HP2.out HS3.out) TS_b
      have HM3 : Hid (CpMem w g1 g2 g3 x z (w3.setCell ⟨g5, 5, none⟩ (.slice A3 fixups.length c3))) := HM.out.below HB3.out
      clear HO3 HS3 K3 KT3 ef3 ey3 ea3 eb3 za3 HL3 H52 HB2 HP2 HR12 HM HB3
      generalize (w3.setCell ⟨g5, 5, none⟩ (.slice A3 fixups.length c3)) = v3 at *
      obtain ⟨y, hy⟩ : ∃ y : Sec, y = ⟨name, kind, align, bytes, A2, c2, size, fixups, A3, c3⟩ := ⟨_, rfl⟩
      have HYO : Hid (y.Own v3 w.heap.size) := by rw [hy]; exact ⟨HP23.out, HP3.out⟩
      have HYV : Hid (y.v = x.secs[k].v) := by rw [hy]; exact HQ.out
      have HYC : Hid (y.cells = [.string name, .int .i64 kind, .int .i64 align, .slice A2 bytes.length c2, .int .i64 size, .slice A3 fixups.length c3]) := by rw [hy]; rfl
      clear hy HP23 HP3 HQ
      have hl : z.secs.length ≤ 1048576 := by have := HZ.out.1; omega
      have x0 : v3.cell? ⟨g5, 0, none⟩ = some (.string name) := H53.out.cell 0
      have x1 : v3.cell? ⟨g5, 1, none⟩ = some (.int .i64 kind) := H53.out.cell 1
      have x2 : v3.cell? ⟨g5, 2, none⟩ = some (.int .i64 align) := H53.out.cell 2
      have x3 : v3.cell? ⟨g5, 3, none⟩ = some (.slice A2 bytes.length c2) := H53.out.cell 3
      have x4 : v3.cell? ⟨g5, 4, none⟩ = some (.int .i64 size) := H53.out.cell 4
      have x5 : v3.cell? ⟨g5, 5, none⟩ = some (.slice A3 fixups.length c3) := H53.out.cell 5
      have xz : v3.cell? ⟨g3, 0, none⟩ = some (.slice z.sA z.secs.length z.sc) := HM3.out.b3.cell 0
      have HRY : Hid (Reads (v3.alloc (.cells #[.string name, .int .i64 kind, .int .i64 align, .slice A2 bytes.length c2, .int .i64 size, .slice A3 fixups.length c3] 80)) (v3.heap.size + 1) 6 (some ⟨v3.heap.size, 0, none⟩) 1 y.cells) := by
        have h := blk_reads6 (B := v3.heap.size + 1) (y := y) (Blk.new v3 80 y.cells.toArray) (by simp)
        rw [HYC.out] at h ⊢
        exact h
      go_wp2_with (at_builtin; refine wpList_append_any _ rfl (.tmp 34) (.tmp 36) _ rfl w.heap.size 80 l0 _ 6 88 Try.underlying44 li lz ls_ lb rfl (by omega) (.slice z.sA z.secs.length z.sc) z.secs.length (z.secs.flatMap Sec.cells) rfl (by exact HM3.out.rows.os.alloc _) (v3.heap.size + 1) (some ⟨v3.heap.size, 0, none⟩) 1 1 y.cells rfl (by exact HRY.out) (by simpa using secs_ones [y]) (by unfold maxLen; omega) (by omega) (by have := HM3.out.bl.size; simp; omega) ?_; intro v' w6 ho hg _; obtain ⟨A6, c6, rfl⟩ := own_sliceG ho; rw [own_blockS] at hg; obtain ⟨q3, q4⟩ := (HM3.out.below ((Below.refl _ _).alloc (Nat.le_refl _) (.cells #[.string name, .int .i64 kind, .int .i64 align, .slice A2 bytes.length c2, .int .i64 size, .slice A3 fixups.length c3] 80))).push (HYO.out.below ((Below.refl _ _).alloc (Nat.le_refl _) _)) ho hg; have HM6 := Lib.hid q4; have xa : w6.cell? ⟨g3, 0, none⟩ = some (.slice z.sA z.secs.length z.sc) := q3.cell 0; have xf : w6.frozen? ⟨g3, 0, none⟩ = false := q3.frozen 0; clear q3 q4 ho hg)
      have HZ2 : Hid ((z.secs ++ [y]).length = k + 1 ∧ (z.secs ++ [y]).map Sec.v = (x.secs.take (k + 1)).map Sec.v ∧ z.syms = x.syms) := ⟨by simp [HZ.out.1], by rw [List.map_append, HZ.out.2.1, List.take_succ_eq_append_getElem hlt, List.map_append]; simp [HYV.out], HZ.out.2.2⟩
      go_roundw
      case rel => exact ⟨k + 1, { z with secs := z.secs ++ [y], sA := A6, sc := c6 }, by go_num, by omega, HM6, HZ2⟩
      case measure => simp [intOf]; omega
    · have y0 : wr.cell? ⟨g3, 0, none⟩ = some (.slice z.sA z.secs.length z.sc) := HM.out.b3.cell 0
      have y1 : wr.cell? ⟨g3, 1, none⟩ = some (.slice z.yA z.syms.length z.yc) := HM.out.b3.cell 1
      have z0' : wr.cell? ⟨g2, 0, none⟩ = some (.slice none 0 0) := HM.out.b2.cell 0
      have z1' : wr.cell? ⟨g2, 1, none⟩ = some (.slice none 0 0) := HM.out.b2.cell 1
      have f0 : wr.frozen? ⟨g2, 0, none⟩ = false := HM.out.b2.frozen 0
      have f1 : wr.frozen? ⟨g2, 1, none⟩ = false := HM.out.b2.frozen 1
      have HQ := Lib.hid ((HM.out.b2.set_ 0 (.slice z.sA z.secs.length z.sc)).set_ 1 (.slice z.yA z.syms.length z.yc))
      have HRW := Lib.hid (HM.out.rows.keep ((KeepT.of_set HM.out.b2 TO_o 0 (.slice z.sA z.secs.length z.sc)).trans (KeepT.of_set (HM.out.b2.set_ 0 _) TO_o 1 (.slice z.yA z.syms.length z.yc))))
      have HBF := Lib.hid ((HM.out.bl.setCell (p := ⟨g2, 0, none⟩) (by have := HM.out.lt; simp only; omega) (.slice z.sA z.secs.length z.sc)).setCell (p := ⟨g2, 1, none⟩) (by have := HM.out.lt; simp only; omega) (.slice z.yA z.syms.length z.yc))
      have HV : Hid (z.v = x.v) := by
        have h := HZ.out.2.1
        rw [List.take_of_length_le (by omega)] at h
        show (_, _) = (_, _)
        rw [h, HZ.out.2.2]
      go_wp2
      generalize World.setCell _ ⟨g2, 1, none⟩ _ = WF at HQ HRW HBF ⊢
      have x0 : WF.cell? ⟨g2, 0, none⟩ = some (.slice z.sA z.secs.length z.sc) := HQ.out.cell 0
      have x1 : WF.cell? ⟨g2, 1, none⟩ = some (.slice z.yA z.syms.length z.yc) := HQ.out.cell 1
      refine bodyPost_ret (v := .agg #[.slice z.sA z.secs.length z.sc, .slice z.yA z.syms.length z.yc]) (by simp [results, Try.results63, go_sem, x0, x1]) rfl ?_
      exact ⟨z, rfl, HV.out, HRW.out, HBF.out⟩
end Go.Proofs.Ytdaamgonendkkaa
namespace Go.Proofs.Ytdaamgonendkkaa
open Go Go.RowKit

theorem ObjFit.small {x : Obj} (h : ObjFit x) : x.small := by
  refine ⟨by have := h.ls; omega, fun s hs => ?_, by have := h.ly; omega, fun y hy => by have := h.fy y hy; omega⟩
  obtain ⟨h1, h2, h3, h4⟩ := h.fs s hs
  unfold Sec.small
  omega
theorem syms_set : ∀ (l : List Sym) (k : Nat) (hk : k < l.length) (nm : ByteArray), (l.set k { l[k] with name := nm }).flatMap Sym.cells = (l.flatMap Sym.cells).set (k * 4) (.string nm)
  | [], k, hk, _ => by simp at hk
  | a :: l, 0, _, nm => by simp [Sym.cells]
  | a :: l, k + 1, hk, nm => by
    have ih := syms_set l k (by simpa using hk) nm
    have e : (k + 1) * 4 = k * 4 + 1 + 1 + 1 + 1 := by omega
    rw [e]
    simp only [List.set_cons_succ, List.flatMap_cons, List.getElem_cons_succ, Sym.cells, List.cons_append, List.nil_append] at ih ⊢
    rw [ih]
/-- One symbol has another name. -/
def Obj.named (z : Obj) (k : Nat) (nm : ByteArray) : Obj := if h : k < z.syms.length then { z with syms := z.syms.set k { z.syms[k] with name := nm } } else z
theorem Obj.named_len (z : Obj) (k : Nat) (nm : ByteArray) : (z.named k nm).syms.length = z.syms.length := by
  unfold Obj.named
  split
  · simp
  · rfl
theorem Obj.named_oc (z : Obj) (k : Nat) (nm : ByteArray) : (z.named k nm).oc = z.oc := by
  unfold Obj.named
  split
  · simp [Obj.oc]
  · rfl
theorem Obj.named_small {z : Obj} (h : z.small) (k : Nat) {nm : ByteArray} (hn : nm.size ≤ 9) : (z.named k nm).small := by
  unfold Obj.named
  split
  · obtain ⟨h1, h2, h3, h4⟩ := h
    refine ⟨h1, h2, by simpa using h3, fun y hy => ?_⟩
    rcases List.mem_or_eq_of_mem_set hy with hy | hy
    · exact h4 y hy
    · rw [hy]; simp only; omega
  · exact h
theorem ObjRows.named {H : Nat} {z : Obj} {w : World} (h : ObjRows H z w) {k gy : Nat} (hk : k < z.syms.length) (hA : z.yA = some ⟨gy, 0, none⟩) (nm : ByteArray) : ObjRows H (z.named k nm) (w.setCell ⟨gy, k * 4, none⟩ (.string nm)) := by
  have hy := h.oy
  rw [hA] at hy
  have hst := (hy.stored (k * 4) (.string nm)).1
  have hgr : w.grownBy (w.setCell ⟨gy, k * 4, none⟩ (.string nm)) ((some (⟨gy, 0, none⟩ : Addr)).map (·.block)) := ⟨rfl, rfl, rfl, by simp [World.setCell], fun k _ hne => Below.heap_setCell w _ _ k (fun e => hne (by rw [e]; rfl))⟩
  unfold Obj.named
  rw [dif_pos hk]
  refine ⟨?_, ?_, fun s hs => ?_⟩
  · exact own_other h.os hgr (own_types_ne2 h.os hy (by decide))
  · simp only [List.length_set, hA]
    rw [syms_set z.syms k hk nm]
    exact hst
  · obtain ⟨p1, p2⟩ := h.ow s hs
    exact ⟨own_other p1 hgr (own_types_ne2 p1 hy (by decide)), own_other p2 hgr (own_types_ne2 p2 hy (by decide))⟩
/-- Two objects were drawn. -/
def DrewCh (w : World) (e : Ending) (w' : World) : Prop := ∃ x y : Obj, e = .returned (.tuple #[x.val, y.val]) ∧ ObjRows w.heap.size x w' ∧ ObjRows w.heap.size y w' ∧ x.small ∧ y.small ∧ Below w.heap.size w w'
/-- While two objects are drawn. -/
structure DcMem (w : World) (r q g2 g3 g5 : Nat) (x : Obj) (wq : World) : Prop where
  z2 : Blk wq g2 47 #[.slice none 0 0, .slice none 0 0]
  z3 : Blk wq g3 47 #[.slice none 0 0, .slice none 0 0]
  b5 : Blk wq g5 47 x.oc.toArray
  rx : ObjRows w.heap.size x wq
  rd : Rdr wq r q
  bl : Below w.heap.size w wq
  lt : w.heap.size ≤ g2 ∧ g2 < g3 ∧ g3 < r ∧ r < g5
section
variable {w wq w' : World} {r q g2 g3 g5 : Nat} {x : Obj}
theorem DcMem.below (h : DcMem w r q g2 g3 g5 x wq) (hb : Below wq.heap.size wq w') : DcMem w r q g2 g3 g5 x w' :=
  ⟨h.z2.below hb h.z2.lt, h.z3.below hb h.z3.lt, h.b5.below hb h.b5.lt, h.rx.below hb, h.rd.below hb, h.bl.trans (hb.mono h.bl.size), h.lt⟩
theorem DcMem.pick {q' : Nat} (h : DcMem w r q g2 g3 g5 x wq) (hr : Rdr w' r q') (hg : wq.grownBy w' (some r)) : DcMem w r q' g2 g3 g5 x w' :=
  ⟨h.z2.grown hg (by have := h.lt; simp; omega), h.z3.grown hg (by have := h.lt; simp; omega), h.b5.grown hg (by have := h.lt; simp; omega), h.rx.keep (.of_pick h.rd hg TO_r), hr, h.bl.grown hg h.bl.size (fun k hk => by injection hk with hk; have := h.lt; omega), h.lt⟩
end
/-- A second object beside it: its rows lie behind hz, those of the first ahead of it. -/
structure DcTwo (w : World) (r q g2 g3 g5 g6 hz : Nat) (x z : Obj) (wq : World) : Prop where
  m : DcMem w r q g2 g3 g5 x wq
  b6 : Blk wq g6 47 z.oc.toArray
  rz : ObjRows hz z wq
  lz : w.heap.size ≤ hz ∧ r < hz ∧ g5 < g6 ∧ hz ≤ g6
  ux : (∀ a, x.sA = some a → a.block < hz) ∧ (∀ a, x.yA = some a → a.block < hz) ∧ ∀ s ∈ x.secs, (∀ a, s.bytesA = some a → a.block < hz) ∧ ∀ a, s.fixupsA = some a → a.block < hz
section
variable {w wq w' : World} {r q g2 g3 g5 g6 hz : Nat} {x z : Obj}
theorem DcTwo.below (h : DcTwo w r q g2 g3 g5 g6 hz x z wq) (hb : Below wq.heap.size wq w') : DcTwo w r q g2 g3 g5 g6 hz x z w' := ⟨h.m.below hb, h.b6.below hb h.b6.lt, h.rz.below hb, h.lz, h.ux⟩
theorem DcTwo.pick {q' : Nat} (h : DcTwo w r q g2 g3 g5 g6 hz x z wq) (hr : Rdr w' r q') (hg : wq.grownBy w' (some r)) : DcTwo w r q' g2 g3 g5 g6 hz x z w' :=
  ⟨h.m.pick hr hg, h.b6.grown hg (by have := h.lz; have := h.m.lt; simp; omega), h.rz.keep (.of_pick h.m.rd hg TO_r), h.lz, h.ux⟩
theorem DcTwo.name {k gy : Nat} (h : DcTwo w r q g2 g3 g5 g6 hz x z wq) (hk : k < z.syms.length) (hA : z.yA = some ⟨gy, 0, none⟩) (nm : ByteArray) : DcTwo w r q g2 g3 g5 g6 hz x (z.named k nm) (wq.setCell ⟨gy, k * 4, none⟩ (.string nm)) := by
  have hy := h.rz.oy
  rw [hA] at hy
  have hup := own_up hy _ rfl
  simp only at hup
  have hlt := h.m.lt
  have hlz := h.lz
  have hgr : wq.grownBy (wq.setCell ⟨gy, k * 4, none⟩ (.string nm)) ((some (⟨gy, 0, none⟩ : Addr)).map (·.block)) := ⟨rfl, rfl, rfl, by simp [World.setCell], fun k _ hne => Below.heap_setCell wq _ _ k (fun e => hne (by rw [e]; rfl))⟩
  have nb : ∀ {g : Nat} {cs : Array Value}, Blk wq g 47 cs → Blk (wq.setCell ⟨gy, k * 4, none⟩ (.string nm)) g 47 cs := fun hb => hb.grown hgr (blk_row_ne hb hy (by decide))
  have no : ∀ {lo size n c : Nat} {t : TypeId} {A : Option Addr} {xs : List Value}, wq.ownsRow lo t size (.slice A n c) n xs → (∀ a, A = some a → a.block < hz) → (wq.setCell ⟨gy, k * 4, none⟩ (.string nm)).ownsRow lo t size (.slice A n c) n xs := fun ho hu => own_other ho hgr (fun a a2 h1 h2 => by injection h2 with h2; subst h2; have := hu a h1; simp only [ne_eq]; omega)
  refine ⟨⟨nb h.m.z2, nb h.m.z3, nb h.m.b5, ⟨no h.m.rx.os h.ux.1, no h.m.rx.oy h.ux.2.1, fun s hs => ⟨no (h.m.rx.ow s hs).1 (h.ux.2.2 s hs).1, no (h.m.rx.ow s hs).2 (h.ux.2.2 s hs).2⟩⟩, h.m.rd.setCell (by simp only; omega) _, h.m.bl.setCell (by simp only; omega) _, hlt⟩, ?_, h.rz.named hk hA nm, hlz, h.ux⟩
  rw [Obj.named_oc]
  exact nb h.b6
/-- At the end. -/
structure DcFin (w : World) (g2 g3 : Nat) (x z : Obj) (wq : World) : Prop where
  z2 : Blk wq g2 47 x.oc.toArray
  z3 : Blk wq g3 47 z.oc.toArray
  rx : ObjRows w.heap.size x wq
  rz : ObjRows w.heap.size z wq
  bl : Below w.heap.size w wq
end
theorem rows_up {lo : Nat} {x : Obj} {w : World} (h : ObjRows lo x w) : (∀ a, x.sA = some a → a.block < w.heap.size) ∧ (∀ a, x.yA = some a → a.block < w.heap.size) ∧ ∀ s ∈ x.secs, (∀ a, s.bytesA = some a → a.block < w.heap.size) ∧ ∀ a, s.fixupsA = some a → a.block < w.heap.size :=
  ⟨fun a ha => (own_up h.os a ha).2, fun a ha => (own_up h.oy a ha).2, fun s hs => ⟨fun a ha => (own_up (h.ow s hs).1 a ha).2, fun a ha => (own_up (h.ow s hs).2 a ha).2⟩⟩
set_option maxRecDepth 100000 in
set_option maxHeartbeats 8000000 in
theorem DrawChangesOf_any {A : Option Addr} {c : Nat} (cs : List Int) (w : World) (h1 : Reads w w.heap.size 1 A cs.length (nums .u8 cs)) (hx : ∀ x ∈ cs, 0 ≤ x ∧ x ≤ 255) (hm : cs.length ≤ 1048576) (hc : cs.length ≤ c) (hc2 : c ≤ maxLen) :
    Calls Try.prog 32 #[.slice A cs.length c] w (DrewCh w) := by
  obtain ⟨wA, hwA⟩ : ∃ wA, wA = (w.alloc (.cells #[.slice none 0 0, .slice none 0 0] 47)).alloc (.cells #[.slice none 0 0, .slice none 0 0] 47) := ⟨_, rfl⟩
  obtain ⟨g2, hg2⟩ : ∃ g2, g2 = w.heap.size := ⟨_, rfl⟩
  obtain ⟨g3, hg3⟩ : ∃ g3, g3 = w.heap.size + 1 := ⟨_, rfl⟩
  have HWA : Hid (Below w.heap.size w wA) := by rw [hwA]; exact ((Below.refl _ _).alloc (Nat.le_refl _) _).alloc (by simp) _
  have H2 : Hid (Blk wA g2 47 #[.slice none 0 0, .slice none 0 0]) := by rw [hwA, hg2]; exact (Blk.new _ _ _).alloc _
  have H3 : Hid (Blk wA g3 47 #[.slice none 0 0, .slice none 0 0]) := by
    rw [hwA, hg3]
    have h := Blk.new (w.alloc (.cells #[.slice none 0 0, .slice none 0 0] 47)) 47 #[.slice none 0 0, .slice none 0 0]
    simpa [Hid] using h
  have hgs : w.heap.size ≤ g2 ∧ g2 < g3 := by omega
  have h3l := H3.out.lt
  have HO := Lib.hid (open_any (A := A) (c := c) cs wA ((h1.below HWA.out).more HWA.out.size) hx hm hc hc2)
  clear h1 hx
  go_enter Try.func32, Try.ntmps32
  go_upto_region 1 with fail
  rw [← hwA, ← hg3, ← hg2]
  clear hwA hg2 hg3
  go_wp2_with fail
  refine HO.out.mono ?_
  rintro e w1 ⟨rfl, hr, hz, hb⟩
  have H21 := Lib.hid (H2.out.below hb H2.out.lt)
  have H31 := Lib.hid (H3.out.below hb H3.out.lt)
  have HB1 := Lib.hid (HWA.out.trans (hb.mono HWA.out.size))
  have HR := Lib.hid hr
  obtain ⟨r, hrr⟩ : ∃ r, r = wA.heap.size := ⟨_, rfl⟩
  rw [← hrr] at HR h3l ⊢
  have hrz : r < w1.heap.size := by omega
  clear hr hz hb hrr HO HWA H2 H3
  go_wp2_with fail
  refine (l20Object_any r 0 12 _ HR.out (by omega) (by omega) (by omega)).mono ?_
  rintro e w2 ⟨x, rfl, hrows, hft, hr2, hg9⟩
  have HSX := Lib.hid hft.small
  have HLX := Lib.hid hft.ly
  have hsz := hg9.size
  have HM2 : Hid (DcMem w r 800 g2 g3 w2.heap.size x (w2.alloc (.cells #[.slice x.sA x.secs.length x.sc, .slice x.yA x.syms.length x.yc] 47))) :=
    ⟨(H21.out.grown hg9 (by simp; omega)).alloc _, (H31.out.grown hg9 (by simp; omega)).alloc _, Blk.new w2 47 _, (hrows.base HB1.out.size).keep (.of_alloc _ _ _), (hr2.more (by omega)).alloc _, (HB1.out.grown hg9 HB1.out.size (fun k hk => by injection hk with hk; omega)).alloc (by have := HB1.out.size; omega) _, by omega⟩
  clear H21 H31 HB1 HR hrows hft hr2 hg9
  simp only [Obj.val]
  go_wp2_with fail
  obtain ⟨g5, hg5⟩ : ∃ g5, g5 = w2.heap.size := ⟨_, rfl⟩
  rw [← hg5] at HM2 ⊢
  generalize w2.alloc _ = v2 at HM2 ⊢
  clear hg5 hsz hrz
  refine (pick_any r _ 3 _ HM2.out.rd (by omega) (by omega) (by omega)).mono ?_
  rintro e w3 ⟨v, rfl, ⟨va, vb⟩, hr3, hg3'⟩
  have HM3 := Lib.hid (HM2.out.pick hr3 hg3')
  clear HM2 hr3 hg3'
  by_cases hv : v = 0
  · subst hv
    clear va vb
    have e0 : w3.cell? ⟨g5, 0, none⟩ = some (.slice x.sA x.secs.length x.sc) := HM3.out.b5.cell 0
    have e1 : w3.cell? ⟨g5, 1, none⟩ = some (.slice x.yA x.syms.length x.yc) := HM3.out.b5.cell 1
    have HC := Lib.hid (copy4_any x w3 HM3.out.rx.at_ (Nat.le_refl _) HSX.out)
    simp only [Obj.val] at HC
    go_wp2_with fail
    refine HC.out.mono ?_
    rintro e w4 ⟨z, rfl, hzv, hzr, hb⟩
    have HSZ := Lib.hid (small_v HSX.out hzv)
    have HFZ : Hid (z.syms.length ≤ 1000000) := by
      rw [(Obj.v_eq hzv).2]
      have := HLX.out
      show _ ≤ _
      omega
    have HM4 : Hid (DcTwo w r (800 + 1) g2 g3 g5 w4.heap.size w3.heap.size x z (w4.alloc (.cells #[.slice z.sA z.secs.length z.sc, .slice z.yA z.syms.length z.yc] 47))) := by
      have hm := (HM3.out.below hb).below ((Below.refl _ _).alloc (Nat.le_refl _) (.cells #[.slice z.sA z.secs.length z.sc, .slice z.yA z.syms.length z.yc] 47))
      exact ⟨hm, Blk.new w4 47 _, hzr.keep (.of_alloc _ _ _), ⟨HM3.out.bl.size, HM3.out.rd.lt, (HM3.out.below hb).b5.lt, hb.size⟩, rows_up HM3.out.rx⟩
    clear HM3 HC hzv hzr hb e0 e1
    generalize hH : w3.heap.size = hz at HM4
    clear hH
    go_upto_region 5 with fail
    obtain ⟨g6, hg6⟩ : ∃ g6, g6 = w4.heap.size := ⟨_, rfl⟩
    rw [← hg6] at HM4 ⊢
    generalize w4.alloc _ = v4 at HM4 ⊢
    clear hg6
    have e1 : v4.cell? ⟨g6, 1, none⟩ = some (.slice z.yA z.syms.length z.yc) := HM4.out.b6.cell 1
    by_cases hl : 0 < z.syms.length
    · have hli : (0 : Int) < (z.syms.length : Int) := by omega
      have hsm : z.syms.length ≤ 1048576 := HSZ.out.2.2.1
      have hfs : z.syms.length ≤ 1000000 := HFZ.out
      go_wp2_with fail
      refine (pick_any r _ (z.syms.length : Int) _ HM4.out.m.rd (by omega) (by omega) (by omega)).mono ?_
      rintro e w5 ⟨k', rfl, ⟨ka, kb⟩, hr5, hg5⟩
      have HM5 := Lib.hid (HM4.out.pick hr5 hg5)
      clear HM4 hr5 hg5 e1
      obtain ⟨k, rfl⟩ := Int.eq_ofNat_of_zero_le ka
      have hkl : k < z.syms.length := by omega
      obtain ⟨gy, hgA, hgy1, hgy2⟩ := own_addrS HM5.out.rz.oy (by omega)
      have HGA := Lib.hid hgA
      clear hgA
      go_wp2
      refine wp_region_facts (fun i v wv => match i with
          | 0 => v = .pointer (some ⟨g6, 1, none⟩)
          | 1 => v = .slice z.yA z.syms.length z.yc
          | 2 => v = .int .i64 (k : Int)
          | 3 => v = .pointer (some ⟨r, 0, none⟩)
          | 4 => ∃ nm : ByteArray, v = .string nm ∧ nm.size ≤ 9
          | 5 => v = .pointer (some ⟨gy, k * 4, none⟩)
          | 6 => v = .pointer (some ⟨gy, k * 4, none⟩)
          | _ => True)
        (fun fl vs wq => (fl 4 = false → DcTwo w r (800 + 1 + 1) g2 g3 g5 g6 hz x z wq) ∧ (fl 4 = true → fl 7 = false → DcTwo w r (800 + 1 + 1 + 2) g2 g3 g5 g6 hz x z wq) ∧ (fl 7 = true → ∃ nm : ByteArray, nm.size ≤ 9 ∧ DcTwo w r (800 + 1 + 1 + 2) g2 g3 g5 g6 hz x (z.named k nm) wq)) (fun _ _ => True) (by kernel_rfl) (by kernel_rfl) ?_ ?_ ?_ ?_
      · intro i v u u2 hk h
        exact h
      · intro fl vs hfl
        have n4 := hfl 4 (by simp)
        have n7 := hfl 7 (by simp)
        exact ⟨fun _ => HM5.out.below (below_drewN (Below.refl _ _) 1), fun h => by simp [n4] at h, fun h => by simp [n7] at h⟩
      · refine ⟨?_, ?_, ?_, ?_, ?_, ?_, ?_, ?_, trivial⟩
        all_goals intro fl vs wr9 a1 hc hG hfi hcl hp K hK
        · have e1 : a1.eval (.tmp 6) = .pointer (some ⟨g6, 0, none⟩) := hc.ev0 6 rfl
          unfold Oper.wp execOp
          simp only [e1]
          go_simp
          exact hK _ _ trivial rfl (by simpa [upd] using hG)
        · have n7 : fl 7 = false := by cases h : fl 7 with
            | false => rfl
            | true => have h5 := hcl 7 6 (by kernel_rfl) h; have h6 := hcl 6 5 (by kernel_rfl) h5; have h1 := hcl 5 1 (by kernel_rfl) h6; rw [show fl 1 = false from hfi] at h1; cases h1
          have e1 := hc.ev 26 0 rfl
          rw [show vs 0 = _ from (hp 0 (by kernel_rfl)).2] at e1
          have c0 : wr9.cell? ⟨g6, 1, none⟩ = some (.slice z.yA z.syms.length z.yc) := by
            cases h4 : fl 4 with
            | false => exact (hG.1 h4).b6.cell 1
            | true => exact (hG.2.1 h4 n7).b6.cell 1
          unfold Oper.wp execOp
          simp only [e1]
          go_simp
          exact hK _ _ trivial rfl (by simpa [upd] using hG)
        · refine op_move rfl ?_
          rw [hc.ev0 _ rfl]
          exact hK _ _ trivial rfl (by simpa [upd] using hG)
        · refine op_move rfl ?_
          rw [hc.ev0 _ rfl]
          exact hK _ _ trivial rfl (by simpa [upd] using hG)
        · have n7 : fl 7 = false := by cases h : fl 7 with
            | false => rfl
            | true => have h5 := hcl 7 4 (by kernel_rfl) h; rw [show fl 4 = false from hfi] at h5; cases h5
          have hfi4 : fl 4 = false := hfi
          have hM := hG.1 hfi4
          have e1 := hc.ev 29 3 rfl
          rw [show vs 3 = _ from (hp 3 (by kernel_rfl)).2] at e1
          refine op_name rfl e1 rfl hM.m.rd (by omega) (by omega) (by omega) ?_
          intro v w9 sa sb hr9 hg9
          exact hK _ _ trivial ⟨v, rfl, sa⟩ ⟨fun h => by simp [upd] at h, fun _ _ => hM.pick hr9 hg9, fun h => by simp [upd, n7] at h⟩
        · have e1 := hc.ev 27 1 rfl
          rw [show vs 1 = _ from (hp 1 (by kernel_rfl)).2, HGA.out] at e1
          have e2 := hc.ev 28 2 rfl
          rw [show vs 2 = _ from (hp 2 (by kernel_rfl)).2] at e2
          have i0 : (0 : Int) ≤ (k : Int) := Int.natCast_nonneg _
          have i1 : (k : Int) < (z.syms.length : Int) := by omega
          unfold Oper.wp execOp
          simp only [e1, e2]
          go_simp
          exact hK _ _ trivial (by simp) (by simpa [upd] using hG)
        · have e1 := hc.ev 31 5 rfl
          rw [show vs 5 = _ from (hp 5 (by kernel_rfl)).2] at e1
          unfold Oper.wp execOp
          simp only [e1]
          go_simp
          exact hK _ _ trivial rfl (by simpa [upd] using hG)
        · have n7 : fl 7 = false := hfi
          have f4 := (hp 4 (by kernel_rfl)).1
          obtain ⟨nm, hnm, hn9⟩ := (hp 4 (by kernel_rfl)).2
          have hM := hG.2.1 f4 n7
          have e1 := hc.ev 32 6 rfl
          rw [show vs 6 = _ from (hp 6 (by kernel_rfl)).2] at e1
          have e2 := hc.ev 30 4 rfl
          rw [hnm] at e2
          have HQ := Lib.hid (hM.name hkl HGA.out nm)
          have hrow := hM.rz.oy
          rw [HGA.out] at hrow
          have c0 : wr9.cell? ⟨gy, k * 4, none⟩ = some (.string z.syms[k].name) := (hrow.cellAt (k * 4) (by omega)).trans (by have := flat_get Sym.cells 4 Sym.cells_len z.syms k 0 hkl (by omega); simpa [Sym.cells] using this)
          have f0 : wr9.frozen? ⟨gy, k * 4, none⟩ = false := hrow.frozenAt _
          clear hM hG hrow hnm
          unfold Oper.wp execOp
          simp only [e1, e2]
          go_simp
          exact hK undef _ trivial trivial ⟨fun h => by simp [upd, f4] at h, fun _ h => by simp [upd] at h, fun _ => ⟨nm, hn9, HQ.out⟩⟩
      · intro fl vs w9 hfl hG hF
        obtain ⟨nm, hn9, hM⟩ := hG.2.2 (hfl 7 (by simp))
        have HM6 := Lib.hid hM
        have HSZ2 := Lib.hid (Obj.named_small HSZ.out k hn9)
        clear hG hF hfl hM HM5 HSZ
        simp only [fill]
        go_simp
        generalize z.named k nm = z2 at HM6 HSZ2
        have HM5 := HM6
        have HSZ := HSZ2
        clear HM6 HSZ2
        go_wp2
        have hlt5 := HM5.out.m.lt
        have hlz5 := HM5.out.lz
        refine wp_region_facts (fun i v wv => match i with
            | 0 => v = x.val
            | 1 => v = z2.val
            | 2 => True
            | _ => True)
          (fun fl vs wq => ObjRows w.heap.size x wq ∧ ObjRows w.heap.size z2 wq ∧ Below w.heap.size w wq ∧ Blk wq g5 47 x.oc.toArray ∧ Blk wq g6 47 z2.oc.toArray ∧ (fl 2 = false → Blk wq g2 47 #[.slice none 0 0, .slice none 0 0]) ∧ (fl 2 = true → Blk wq g2 47 x.oc.toArray) ∧ (fl 3 = false → Blk wq g3 47 #[.slice none 0 0, .slice none 0 0]) ∧ (fl 3 = true → Blk wq g3 47 z2.oc.toArray)) (fun _ _ => True) (by kernel_rfl) (by kernel_rfl) ?_ ?_ ?_ ?_
        · intro i v u u2 hk h
          exact h
        · intro fl vs hfl
          have n2 := hfl 2 (by simp)
          have n3 := hfl 3 (by simp)
          have hM := HM5.out.below (below_drewN (Below.refl _ _) 1)
          exact ⟨hM.m.rx, hM.rz.base hM.lz.1, hM.m.bl, hM.m.b5, hM.b6, fun _ => hM.m.z2, fun h => by simp [n2] at h, fun _ => hM.m.z3, fun h => by simp [n3] at h⟩
        · refine ⟨?_, ?_, ?_, ?_, trivial⟩
          all_goals intro fl vs wr9 a1 hc hG hfi hcl hp K hK
          · have e1 : a1.eval (.tmp 5) = .pointer (some ⟨g5, 0, none⟩) := hc.ev0 5 rfl
            have c0 : wr9.cell? ⟨g5, 0, none⟩ = some (.slice x.sA x.secs.length x.sc) := hG.2.2.2.1.cell 0
            have c1 : wr9.cell? ⟨g5, 1, none⟩ = some (.slice x.yA x.syms.length x.yc) := hG.2.2.2.1.cell 1
            unfold Oper.wp execOp
            simp only [e1]
            go_simp
            exact hK _ _ trivial rfl (by simpa [upd] using hG)
          · have e1 : a1.eval (.tmp 6) = .pointer (some ⟨g6, 0, none⟩) := hc.ev0 6 rfl
            have c0 : wr9.cell? ⟨g6, 0, none⟩ = some (.slice z2.sA z2.secs.length z2.sc) := hG.2.2.2.2.1.cell 0
            have c1 : wr9.cell? ⟨g6, 1, none⟩ = some (.slice z2.yA z2.syms.length z2.yc) := hG.2.2.2.2.1.cell 1
            unfold Oper.wp execOp
            simp only [e1]
            go_simp
            exact hK _ _ trivial rfl (by simpa [upd] using hG)
          · obtain ⟨h1, h2, h3, h4, h5, h6, h7, h8, h9⟩ := hG
            have hO2 := (⟨h6, h7⟩ : _ ∧ _)
            have hO3 := (⟨h8, h9⟩ : _ ∧ _)
            have hz0 := h6 hfi
            have e1 : a1.eval (.tmp 2) = .pointer (some ⟨g2, 0, none⟩) := hc.ev0 2 rfl
            have e2 := hc.ev 33 0 rfl
            rw [show vs 0 = _ from (hp 0 (by kernel_rfl)).2] at e2
            simp only [Obj.val] at e2
            have c0 : wr9.cell? ⟨g2, 0, none⟩ = some (.slice none 0 0) := hz0.cell 0
            have c1 : wr9.cell? ⟨g2, 1, none⟩ = some (.slice none 0 0) := hz0.cell 1
            have f0 : wr9.frozen? ⟨g2, 0, none⟩ = false := hz0.frozen 0
            have f1 : wr9.frozen? ⟨g2, 1, none⟩ = false := hz0.frozen 1
            have kk : KeepT TO wr9 ((wr9.setCell ⟨g2, 0, none⟩ (.slice x.sA x.secs.length x.sc)).setCell ⟨g2, 1, none⟩ (.slice x.yA x.syms.length x.yc)) := (KeepT.of_set hz0 TO_o 0 _).trans (KeepT.of_set (hz0.set_ 0 _) TO_o 1 _)
            have HQ := Lib.hid (⟨h1.keep kk, h2.keep kk, (h3.setCell (p := ⟨g2, 0, none⟩) (by simp only; omega) (.slice x.sA x.secs.length x.sc)).setCell (p := ⟨g2, 1, none⟩) (by simp only; omega) (.slice x.yA x.syms.length x.yc), (h4.far (by simp only [ne_eq]; omega) _).far (by simp only [ne_eq]; omega) _, (h5.far (by simp only [ne_eq]; omega) _).far (by simp only [ne_eq]; omega) _, fun h => by simp [upd] at h, fun _ => (hz0.set_ 0 (.slice x.sA x.secs.length x.sc)).set_ 1 (.slice x.yA x.syms.length x.yc), fun h => ((hO3.1 (by simpa [upd] using h)).far (by simp only [ne_eq]; omega) _).far (by simp only [ne_eq]; omega) _, fun h => ((hO3.2 (by simpa [upd] using h)).far (by simp only [ne_eq]; omega) _).far (by simp only [ne_eq]; omega) _⟩ : ObjRows w.heap.size x ((wr9.setCell ⟨g2, 0, none⟩ (.slice x.sA x.secs.length x.sc)).setCell ⟨g2, 1, none⟩ (.slice x.yA x.syms.length x.yc)) ∧ ObjRows w.heap.size z2 ((wr9.setCell ⟨g2, 0, none⟩ (.slice x.sA x.secs.length x.sc)).setCell ⟨g2, 1, none⟩ (.slice x.yA x.syms.length x.yc)) ∧ Below w.heap.size w ((wr9.setCell ⟨g2, 0, none⟩ (.slice x.sA x.secs.length x.sc)).setCell ⟨g2, 1, none⟩ (.slice x.yA x.syms.length x.yc)) ∧ Blk ((wr9.setCell ⟨g2, 0, none⟩ (.slice x.sA x.secs.length x.sc)).setCell ⟨g2, 1, none⟩ (.slice x.yA x.syms.length x.yc)) g5 47 x.oc.toArray ∧ Blk ((wr9.setCell ⟨g2, 0, none⟩ (.slice x.sA x.secs.length x.sc)).setCell ⟨g2, 1, none⟩ (.slice x.yA x.syms.length x.yc)) g6 47 z2.oc.toArray ∧ (upd fl 2 true 2 = false → Blk ((wr9.setCell ⟨g2, 0, none⟩ (.slice x.sA x.secs.length x.sc)).setCell ⟨g2, 1, none⟩ (.slice x.yA x.syms.length x.yc)) g2 47 #[.slice none 0 0, .slice none 0 0]) ∧ (upd fl 2 true 2 = true → Blk ((wr9.setCell ⟨g2, 0, none⟩ (.slice x.sA x.secs.length x.sc)).setCell ⟨g2, 1, none⟩ (.slice x.yA x.syms.length x.yc)) g2 47 x.oc.toArray) ∧ (upd fl 2 true 3 = false → Blk ((wr9.setCell ⟨g2, 0, none⟩ (.slice x.sA x.secs.length x.sc)).setCell ⟨g2, 1, none⟩ (.slice x.yA x.syms.length x.yc)) g3 47 #[.slice none 0 0, .slice none 0 0]) ∧ (upd fl 2 true 3 = true → Blk ((wr9.setCell ⟨g2, 0, none⟩ (.slice x.sA x.secs.length x.sc)).setCell ⟨g2, 1, none⟩ (.slice x.yA x.syms.length x.yc)) g3 47 z2.oc.toArray))
            clear h1 h2 h3 h4 h5 h6 h7 h8 h9 hO2 hO3 hz0 kk
            unfold Oper.wp execOp
            simp only [e1, e2]
            go_simp
            exact hK undef _ trivial trivial HQ.out
          · obtain ⟨h1, h2, h3, h4, h5, h6, h7, h8, h9⟩ := hG
            have hO2 := (⟨h6, h7⟩ : _ ∧ _)
            have hO3 := (⟨h8, h9⟩ : _ ∧ _)
            have hz0 := h8 hfi
            have e1 : a1.eval (.tmp 3) = .pointer (some ⟨g3, 0, none⟩) := hc.ev0 3 rfl
            have e2 := hc.ev 34 1 rfl
            rw [show vs 1 = _ from (hp 1 (by kernel_rfl)).2] at e2
            simp only [Obj.val] at e2
            have c0 : wr9.cell? ⟨g3, 0, none⟩ = some (.slice none 0 0) := hz0.cell 0
            have c1 : wr9.cell? ⟨g3, 1, none⟩ = some (.slice none 0 0) := hz0.cell 1
            have f0 : wr9.frozen? ⟨g3, 0, none⟩ = false := hz0.frozen 0
            have f1 : wr9.frozen? ⟨g3, 1, none⟩ = false := hz0.frozen 1
            have kk : KeepT TO wr9 ((wr9.setCell ⟨g3, 0, none⟩ (.slice z2.sA z2.secs.length z2.sc)).setCell ⟨g3, 1, none⟩ (.slice z2.yA z2.syms.length z2.yc)) := (KeepT.of_set hz0 TO_o 0 _).trans (KeepT.of_set (hz0.set_ 0 _) TO_o 1 _)
            have HQ := Lib.hid (⟨h1.keep kk, h2.keep kk, (h3.setCell (p := ⟨g3, 0, none⟩) (by simp only; omega) (.slice z2.sA z2.secs.length z2.sc)).setCell (p := ⟨g3, 1, none⟩) (by simp only; omega) (.slice z2.yA z2.syms.length z2.yc), (h4.far (by simp only [ne_eq]; omega) _).far (by simp only [ne_eq]; omega) _, (h5.far (by simp only [ne_eq]; omega) _).far (by simp only [ne_eq]; omega) _, fun h => ((hO2.1 (by simpa [upd] using h)).far (by simp only [ne_eq]; omega) _).far (by simp only [ne_eq]; omega) _, fun h => ((hO2.2 (by simpa [upd] using h)).far (by simp only [ne_eq]; omega) _).far (by simp only [ne_eq]; omega) _, fun h => by simp [upd] at h, fun _ => (hz0.set_ 0 (.slice z2.sA z2.secs.length z2.sc)).set_ 1 (.slice z2.yA z2.syms.length z2.yc)⟩ : ObjRows w.heap.size x ((wr9.setCell ⟨g3, 0, none⟩ (.slice z2.sA z2.secs.length z2.sc)).setCell ⟨g3, 1, none⟩ (.slice z2.yA z2.syms.length z2.yc)) ∧ ObjRows w.heap.size z2 ((wr9.setCell ⟨g3, 0, none⟩ (.slice z2.sA z2.secs.length z2.sc)).setCell ⟨g3, 1, none⟩ (.slice z2.yA z2.syms.length z2.yc)) ∧ Below w.heap.size w ((wr9.setCell ⟨g3, 0, none⟩ (.slice z2.sA z2.secs.length z2.sc)).setCell ⟨g3, 1, none⟩ (.slice z2.yA z2.syms.length z2.yc)) ∧ Blk ((wr9.setCell ⟨g3, 0, none⟩ (.slice z2.sA z2.secs.length z2.sc)).setCell ⟨g3, 1, none⟩ (.slice z2.yA z2.syms.length z2.yc)) g5 47 x.oc.toArray ∧ Blk ((wr9.setCell ⟨g3, 0, none⟩ (.slice z2.sA z2.secs.length z2.sc)).setCell ⟨g3, 1, none⟩ (.slice z2.yA z2.syms.length z2.yc)) g6 47 z2.oc.toArray ∧ (upd fl 3 true 2 = false → Blk ((wr9.setCell ⟨g3, 0, none⟩ (.slice z2.sA z2.secs.length z2.sc)).setCell ⟨g3, 1, none⟩ (.slice z2.yA z2.syms.length z2.yc)) g2 47 #[.slice none 0 0, .slice none 0 0]) ∧ (upd fl 3 true 2 = true → Blk ((wr9.setCell ⟨g3, 0, none⟩ (.slice z2.sA z2.secs.length z2.sc)).setCell ⟨g3, 1, none⟩ (.slice z2.yA z2.syms.length z2.yc)) g2 47 x.oc.toArray) ∧ (upd fl 3 true 3 = false → Blk ((wr9.setCell ⟨g3, 0, none⟩ (.slice z2.sA z2.secs.length z2.sc)).setCell ⟨g3, 1, none⟩ (.slice z2.yA z2.syms.length z2.yc)) g3 47 #[.slice none 0 0, .slice none 0 0]) ∧ (upd fl 3 true 3 = true → Blk ((wr9.setCell ⟨g3, 0, none⟩ (.slice z2.sA z2.secs.length z2.sc)).setCell ⟨g3, 1, none⟩ (.slice z2.yA z2.syms.length z2.yc)) g3 47 z2.oc.toArray))
            clear h1 h2 h3 h4 h5 h6 h7 h8 h9 hO2 hO3 hz0 kk
            unfold Oper.wp execOp
            simp only [e1, e2]
            go_simp
            exact hK undef _ trivial trivial HQ.out
        · intro fl vs w11 hfl hG hF
          obtain ⟨h1, h2, h3, h4, h5, h6, h7, h8, h9⟩ := hG
          have HFI := Lib.hid (⟨h7 (hfl 2 (by simp)), h9 (hfl 3 (by simp)), h1, h2, h3⟩ : DcFin w g2 g3 x z2 w11)
          clear h1 h2 h3 h4 h5 h6 h7 h8 h9 hF hfl
          simp only [fill]
          go_simp
          go_wp2
          have y0 : w11.cell? ⟨g2, 0, none⟩ = some (.slice x.sA x.secs.length x.sc) := HFI.out.z2.cell 0
          have y1 : w11.cell? ⟨g2, 1, none⟩ = some (.slice x.yA x.syms.length x.yc) := HFI.out.z2.cell 1
          have y2 : w11.cell? ⟨g3, 0, none⟩ = some (.slice z2.sA z2.secs.length z2.sc) := HFI.out.z3.cell 0
          have y3 : w11.cell? ⟨g3, 1, none⟩ = some (.slice z2.yA z2.syms.length z2.yc) := HFI.out.z3.cell 1
          refine bodyPost_ret (v := .tuple #[x.val, z2.val]) (by simp [results, Try.results32, go_sem, y0, y1, y2, y3, Obj.val]) rfl ?_
          exact ⟨x, z2, rfl, HFI.out.rx, HFI.out.rz, HSX.out, HSZ.out, HFI.out.bl⟩
    · have hli : ¬ (0 : Int) < (z.syms.length : Int) := by omega
      have HM5 := HM4
      clear HM4
      go_wp2
      have hlt5 := HM5.out.m.lt
      have hlz5 := HM5.out.lz
      refine wp_region_facts (fun i v wv => match i with
          | 0 => v = x.val
          | 1 => v = z.val
          | 2 => True
          | _ => True)
        (fun fl vs wq => ObjRows w.heap.size x wq ∧ ObjRows w.heap.size z wq ∧ Below w.heap.size w wq ∧ Blk wq g5 47 x.oc.toArray ∧ Blk wq g6 47 z.oc.toArray ∧ (fl 2 = false → Blk wq g2 47 #[.slice none 0 0, .slice none 0 0]) ∧ (fl 2 = true → Blk wq g2 47 x.oc.toArray) ∧ (fl 3 = false → Blk wq g3 47 #[.slice none 0 0, .slice none 0 0]) ∧ (fl 3 = true → Blk wq g3 47 z.oc.toArray)) (fun _ _ => True) (by kernel_rfl) (by kernel_rfl) ?_ ?_ ?_ ?_
      · intro i v u u2 hk h
        exact h
      · intro fl vs hfl
        have n2 := hfl 2 (by simp)
        have n3 := hfl 3 (by simp)
        have hM := HM5.out.below (below_drewN (Below.refl _ _) 1)
        exact ⟨hM.m.rx, hM.rz.base hM.lz.1, hM.m.bl, hM.m.b5, hM.b6, fun _ => hM.m.z2, fun h => by simp [n2] at h, fun _ => hM.m.z3, fun h => by simp [n3] at h⟩
      · refine ⟨?_, ?_, ?_, ?_, trivial⟩
        all_goals intro fl vs wr9 a1 hc hG hfi hcl hp K hK
        · have e1 : a1.eval (.tmp 5) = .pointer (some ⟨g5, 0, none⟩) := hc.ev0 5 rfl
          have c0 : wr9.cell? ⟨g5, 0, none⟩ = some (.slice x.sA x.secs.length x.sc) := hG.2.2.2.1.cell 0
          have c1 : wr9.cell? ⟨g5, 1, none⟩ = some (.slice x.yA x.syms.length x.yc) := hG.2.2.2.1.cell 1
          unfold Oper.wp execOp
          simp only [e1]
          go_simp
          exact hK _ _ trivial rfl (by simpa [upd] using hG)
        · have e1 : a1.eval (.tmp 6) = .pointer (some ⟨g6, 0, none⟩) := hc.ev0 6 rfl
          have c0 : wr9.cell? ⟨g6, 0, none⟩ = some (.slice z.sA z.secs.length z.sc) := hG.2.2.2.2.1.cell 0
          have c1 : wr9.cell? ⟨g6, 1, none⟩ = some (.slice z.yA z.syms.length z.yc) := hG.2.2.2.2.1.cell 1
          unfold Oper.wp execOp
          simp only [e1]
          go_simp
          exact hK _ _ trivial rfl (by simpa [upd] using hG)
        · obtain ⟨h1, h2, h3, h4, h5, h6, h7, h8, h9⟩ := hG
          have hO2 := (⟨h6, h7⟩ : _ ∧ _)
          have hO3 := (⟨h8, h9⟩ : _ ∧ _)
          have hz0 := h6 hfi
          have e1 : a1.eval (.tmp 2) = .pointer (some ⟨g2, 0, none⟩) := hc.ev0 2 rfl
          have e2 := hc.ev 33 0 rfl
          rw [show vs 0 = _ from (hp 0 (by kernel_rfl)).2] at e2
          simp only [Obj.val] at e2
          have c0 : wr9.cell? ⟨g2, 0, none⟩ = some (.slice none 0 0) := hz0.cell 0
          have c1 : wr9.cell? ⟨g2, 1, none⟩ = some (.slice none 0 0) := hz0.cell 1
          have f0 : wr9.frozen? ⟨g2, 0, none⟩ = false := hz0.frozen 0
          have f1 : wr9.frozen? ⟨g2, 1, none⟩ = false := hz0.frozen 1
          have kk : KeepT TO wr9 ((wr9.setCell ⟨g2, 0, none⟩ (.slice x.sA x.secs.length x.sc)).setCell ⟨g2, 1, none⟩ (.slice x.yA x.syms.length x.yc)) := (KeepT.of_set hz0 TO_o 0 _).trans (KeepT.of_set (hz0.set_ 0 _) TO_o 1 _)
          have HQ := Lib.hid (⟨h1.keep kk, h2.keep kk, (h3.setCell (p := ⟨g2, 0, none⟩) (by simp only; omega) (.slice x.sA x.secs.length x.sc)).setCell (p := ⟨g2, 1, none⟩) (by simp only; omega) (.slice x.yA x.syms.length x.yc), (h4.far (by simp only [ne_eq]; omega) _).far (by simp only [ne_eq]; omega) _, (h5.far (by simp only [ne_eq]; omega) _).far (by simp only [ne_eq]; omega) _, fun h => by simp [upd] at h, fun _ => (hz0.set_ 0 (.slice x.sA x.secs.length x.sc)).set_ 1 (.slice x.yA x.syms.length x.yc), fun h => ((hO3.1 (by simpa [upd] using h)).far (by simp only [ne_eq]; omega) _).far (by simp only [ne_eq]; omega) _, fun h => ((hO3.2 (by simpa [upd] using h)).far (by simp only [ne_eq]; omega) _).far (by simp only [ne_eq]; omega) _⟩ : ObjRows w.heap.size x ((wr9.setCell ⟨g2, 0, none⟩ (.slice x.sA x.secs.length x.sc)).setCell ⟨g2, 1, none⟩ (.slice x.yA x.syms.length x.yc)) ∧ ObjRows w.heap.size z ((wr9.setCell ⟨g2, 0, none⟩ (.slice x.sA x.secs.length x.sc)).setCell ⟨g2, 1, none⟩ (.slice x.yA x.syms.length x.yc)) ∧ Below w.heap.size w ((wr9.setCell ⟨g2, 0, none⟩ (.slice x.sA x.secs.length x.sc)).setCell ⟨g2, 1, none⟩ (.slice x.yA x.syms.length x.yc)) ∧ Blk ((wr9.setCell ⟨g2, 0, none⟩ (.slice x.sA x.secs.length x.sc)).setCell ⟨g2, 1, none⟩ (.slice x.yA x.syms.length x.yc)) g5 47 x.oc.toArray ∧ Blk ((wr9.setCell ⟨g2, 0, none⟩ (.slice x.sA x.secs.length x.sc)).setCell ⟨g2, 1, none⟩ (.slice x.yA x.syms.length x.yc)) g6 47 z.oc.toArray ∧ (upd fl 2 true 2 = false → Blk ((wr9.setCell ⟨g2, 0, none⟩ (.slice x.sA x.secs.length x.sc)).setCell ⟨g2, 1, none⟩ (.slice x.yA x.syms.length x.yc)) g2 47 #[.slice none 0 0, .slice none 0 0]) ∧ (upd fl 2 true 2 = true → Blk ((wr9.setCell ⟨g2, 0, none⟩ (.slice x.sA x.secs.length x.sc)).setCell ⟨g2, 1, none⟩ (.slice x.yA x.syms.length x.yc)) g2 47 x.oc.toArray) ∧ (upd fl 2 true 3 = false → Blk ((wr9.setCell ⟨g2, 0, none⟩ (.slice x.sA x.secs.length x.sc)).setCell ⟨g2, 1, none⟩ (.slice x.yA x.syms.length x.yc)) g3 47 #[.slice none 0 0, .slice none 0 0]) ∧ (upd fl 2 true 3 = true → Blk ((wr9.setCell ⟨g2, 0, none⟩ (.slice x.sA x.secs.length x.sc)).setCell ⟨g2, 1, none⟩ (.slice x.yA x.syms.length x.yc)) g3 47 z.oc.toArray))
          clear h1 h2 h3 h4 h5 h6 h7 h8 h9 hO2 hO3 hz0 kk
          unfold Oper.wp execOp
          simp only [e1, e2]
          go_simp
          exact hK undef _ trivial trivial HQ.out
        · obtain ⟨h1, h2, h3, h4, h5, h6, h7, h8, h9⟩ := hG
          have hO2 := (⟨h6, h7⟩ : _ ∧ _)
          have hO3 := (⟨h8, h9⟩ : _ ∧ _)
          have hz0 := h8 hfi
          have e1 : a1.eval (.tmp 3) = .pointer (some ⟨g3, 0, none⟩) := hc.ev0 3 rfl
          have e2 := hc.ev 34 1 rfl
          rw [show vs 1 = _ from (hp 1 (by kernel_rfl)).2] at e2
          simp only [Obj.val] at e2
          have c0 : wr9.cell? ⟨g3, 0, none⟩ = some (.slice none 0 0) := hz0.cell 0
          have c1 : wr9.cell? ⟨g3, 1, none⟩ = some (.slice none 0 0) := hz0.cell 1
          have f0 : wr9.frozen? ⟨g3, 0, none⟩ = false := hz0.frozen 0
          have f1 : wr9.frozen? ⟨g3, 1, none⟩ = false := hz0.frozen 1
          have kk : KeepT TO wr9 ((wr9.setCell ⟨g3, 0, none⟩ (.slice z.sA z.secs.length z.sc)).setCell ⟨g3, 1, none⟩ (.slice z.yA z.syms.length z.yc)) := (KeepT.of_set hz0 TO_o 0 _).trans (KeepT.of_set (hz0.set_ 0 _) TO_o 1 _)
          have HQ := Lib.hid (⟨h1.keep kk, h2.keep kk, (h3.setCell (p := ⟨g3, 0, none⟩) (by simp only; omega) (.slice z.sA z.secs.length z.sc)).setCell (p := ⟨g3, 1, none⟩) (by simp only; omega) (.slice z.yA z.syms.length z.yc), (h4.far (by simp only [ne_eq]; omega) _).far (by simp only [ne_eq]; omega) _, (h5.far (by simp only [ne_eq]; omega) _).far (by simp only [ne_eq]; omega) _, fun h => ((hO2.1 (by simpa [upd] using h)).far (by simp only [ne_eq]; omega) _).far (by simp only [ne_eq]; omega) _, fun h => ((hO2.2 (by simpa [upd] using h)).far (by simp only [ne_eq]; omega) _).far (by simp only [ne_eq]; omega) _, fun h => by simp [upd] at h, fun _ => (hz0.set_ 0 (.slice z.sA z.secs.length z.sc)).set_ 1 (.slice z.yA z.syms.length z.yc)⟩ : ObjRows w.heap.size x ((wr9.setCell ⟨g3, 0, none⟩ (.slice z.sA z.secs.length z.sc)).setCell ⟨g3, 1, none⟩ (.slice z.yA z.syms.length z.yc)) ∧ ObjRows w.heap.size z ((wr9.setCell ⟨g3, 0, none⟩ (.slice z.sA z.secs.length z.sc)).setCell ⟨g3, 1, none⟩ (.slice z.yA z.syms.length z.yc)) ∧ Below w.heap.size w ((wr9.setCell ⟨g3, 0, none⟩ (.slice z.sA z.secs.length z.sc)).setCell ⟨g3, 1, none⟩ (.slice z.yA z.syms.length z.yc)) ∧ Blk ((wr9.setCell ⟨g3, 0, none⟩ (.slice z.sA z.secs.length z.sc)).setCell ⟨g3, 1, none⟩ (.slice z.yA z.syms.length z.yc)) g5 47 x.oc.toArray ∧ Blk ((wr9.setCell ⟨g3, 0, none⟩ (.slice z.sA z.secs.length z.sc)).setCell ⟨g3, 1, none⟩ (.slice z.yA z.syms.length z.yc)) g6 47 z.oc.toArray ∧ (upd fl 3 true 2 = false → Blk ((wr9.setCell ⟨g3, 0, none⟩ (.slice z.sA z.secs.length z.sc)).setCell ⟨g3, 1, none⟩ (.slice z.yA z.syms.length z.yc)) g2 47 #[.slice none 0 0, .slice none 0 0]) ∧ (upd fl 3 true 2 = true → Blk ((wr9.setCell ⟨g3, 0, none⟩ (.slice z.sA z.secs.length z.sc)).setCell ⟨g3, 1, none⟩ (.slice z.yA z.syms.length z.yc)) g2 47 x.oc.toArray) ∧ (upd fl 3 true 3 = false → Blk ((wr9.setCell ⟨g3, 0, none⟩ (.slice z.sA z.secs.length z.sc)).setCell ⟨g3, 1, none⟩ (.slice z.yA z.syms.length z.yc)) g3 47 #[.slice none 0 0, .slice none 0 0]) ∧ (upd fl 3 true 3 = true → Blk ((wr9.setCell ⟨g3, 0, none⟩ (.slice z.sA z.secs.length z.sc)).setCell ⟨g3, 1, none⟩ (.slice z.yA z.syms.length z.yc)) g3 47 z.oc.toArray))
          clear h1 h2 h3 h4 h5 h6 h7 h8 h9 hO2 hO3 hz0 kk
          unfold Oper.wp execOp
          simp only [e1, e2]
          go_simp
          exact hK undef _ trivial trivial HQ.out
      · intro fl vs w11 hfl hG hF
        obtain ⟨h1, h2, h3, h4, h5, h6, h7, h8, h9⟩ := hG
        have HFI := Lib.hid (⟨h7 (hfl 2 (by simp)), h9 (hfl 3 (by simp)), h1, h2, h3⟩ : DcFin w g2 g3 x z w11)
        clear h1 h2 h3 h4 h5 h6 h7 h8 h9 hF hfl
        simp only [fill]
        go_simp
        go_wp2
        have y0 : w11.cell? ⟨g2, 0, none⟩ = some (.slice x.sA x.secs.length x.sc) := HFI.out.z2.cell 0
        have y1 : w11.cell? ⟨g2, 1, none⟩ = some (.slice x.yA x.syms.length x.yc) := HFI.out.z2.cell 1
        have y2 : w11.cell? ⟨g3, 0, none⟩ = some (.slice z.sA z.secs.length z.sc) := HFI.out.z3.cell 0
        have y3 : w11.cell? ⟨g3, 1, none⟩ = some (.slice z.yA z.syms.length z.yc) := HFI.out.z3.cell 1
        refine bodyPost_ret (v := .tuple #[x.val, z.val]) (by simp [results, Try.results32, go_sem, y0, y1, y2, y3, Obj.val]) rfl ?_
        exact ⟨x, z, rfl, HFI.out.rx, HFI.out.rz, HSX.out, HSZ.out, HFI.out.bl⟩
  · have hvn : ¬ (v = 0) := hv
    have hvb : (v == 0) = false := by rw [beq_eq_false_iff_ne]; exact hv
    clear hv va vb
    have HM := HM3
    clear HM3
    go_wp2
    have hlt5 := HM.out.lt
    refine wp_region_facts (fun i v wv => match i with
        | 0 => v = x.val
        | 1 => v = .pointer (some ⟨r, 0, none⟩)
        | 2 => ∃ y : Obj, v = y.val ∧ y.small ∧ ObjRows w.heap.size y wv
        | 3 => True
        | _ => True)
      (fun fl vs wq => ObjRows w.heap.size x wq ∧ Below w.heap.size w wq ∧ Blk wq g5 47 x.oc.toArray ∧ (fl 2 = false → Rdr wq r (800 + 1)) ∧ (fl 3 = false → Blk wq g2 47 #[.slice none 0 0, .slice none 0 0]) ∧ (fl 3 = true → Blk wq g2 47 x.oc.toArray) ∧ (fl 4 = false → Blk wq g3 47 #[.slice none 0 0, .slice none 0 0]) ∧ (fl 4 = true → ∃ yy : Obj, yy.small ∧ ObjRows w.heap.size yy wq ∧ Blk wq g3 47 yy.oc.toArray)) (fun w w' => KeepT TO w w') (by kernel_rfl) (by kernel_rfl) ?_ ?_ ?_ ?_
    · intro i v u u2 hk h
      match i, h with
      | 0, h => exact h
      | 1, h => exact h
      | 2, h => exact let ⟨y, h1, h2, h3⟩ := h; ⟨y, h1, h2, h3.keep hk⟩
      | 3, h => exact h
      | _ + 4, h => exact h
    · intro fl vs hfl
      have n3 := hfl 3 (by simp)
      have n4 := hfl 4 (by simp)
      have hM := HM.out.below (below_drewN (Below.refl _ _) 1)
      exact ⟨hM.rx, hM.bl, hM.b5, fun _ => hM.rd, fun _ => hM.z2, fun h => by simp [n3] at h, fun _ => hM.z3, fun h => by simp [n4] at h⟩
    · refine ⟨?_, ?_, ?_, ?_, ?_, trivial⟩
      all_goals intro fl vs wr9 a1 hc hG hfi hcl hp K hK
      · have e1 : a1.eval (.tmp 5) = .pointer (some ⟨g5, 0, none⟩) := hc.ev0 5 rfl
        have c0 : wr9.cell? ⟨g5, 0, none⟩ = some (.slice x.sA x.secs.length x.sc) := hG.2.2.1.cell 0
        have c1 : wr9.cell? ⟨g5, 1, none⟩ = some (.slice x.yA x.syms.length x.yc) := hG.2.2.1.cell 1
        unfold Oper.wp execOp
        simp only [e1]
        go_simp
        exact hK _ _ ⟨Nat.le_refl _, fun _ _ _ _ _ => rfl⟩ rfl (by simpa [upd] using hG)
      · refine op_move rfl ?_
        rw [hc.ev0 _ rfl]
        exact hK _ _ ⟨Nat.le_refl _, fun _ _ _ _ _ => rfl⟩ rfl (by simpa [upd] using hG)
      · have hfi2 : fl 2 = false := hfi
        have n4 : fl 4 = false := by cases h : fl 4 with
          | false => rfl
          | true => have := hcl 4 2 (by kernel_rfl) h; rw [hfi2] at this; cases this
        obtain ⟨h1, h2, h3, h4, h5, h6, h7, h8⟩ := hG
        have e1 := hc.ev 36 1 rfl
        rw [show vs 1 = _ from (hp 1 (by kernel_rfl)).2] at e1
        refine op_call rfl (vs := #[.pointer (some ⟨r, 0, none⟩), .int .i64 12]) (by simp only [List.map_toArray, List.map_cons, List.map_nil, e1]; rfl) (by kernel_rfl) (l20Object_any r (800 + 1) 12 wr9 (h4 hfi2) (by omega) (by omega) (by omega)) ?_
        rintro e w9 ⟨y, rfl, hyr, hyf, hr9, hg9⟩
        have kk : KeepT TO wr9 w9 := .of_pick (h4 hfi2) hg9 TO_r
        exact ⟨_, rfl, hK _ _ kk ⟨y, rfl, hyf.small, hyr.base h2.size⟩ ⟨h1.keep kk, h2.grown hg9 h2.size (fun k hk => by injection hk with hk; omega), h3.grown hg9 (by simp; omega), fun h => by simp [upd] at h, fun h => (h5 (by simpa [upd] using h)).grown hg9 (by simp; omega), fun h => (h6 (by simpa [upd] using h)).grown hg9 (by simp; omega), fun h => (h7 (by simpa [upd] using h)).grown hg9 (by simp; omega), fun h => by simp [upd, n4] at h⟩⟩
      · obtain ⟨h1, h2, h3, h4, h5, h6, h7, h8⟩ := hG
        have hz0 := h5 hfi
        have f2 := (hp 2 (by kernel_rfl)).1
        have e1 : a1.eval (.tmp 2) = .pointer (some ⟨g2, 0, none⟩) := hc.ev0 2 rfl
        have e2 := hc.ev 35 0 rfl
        rw [show vs 0 = _ from (hp 0 (by kernel_rfl)).2] at e2
        simp only [Obj.val] at e2
        have c0 : wr9.cell? ⟨g2, 0, none⟩ = some (.slice none 0 0) := hz0.cell 0
        have c1 : wr9.cell? ⟨g2, 1, none⟩ = some (.slice none 0 0) := hz0.cell 1
        have f0 : wr9.frozen? ⟨g2, 0, none⟩ = false := hz0.frozen 0
        have f1 : wr9.frozen? ⟨g2, 1, none⟩ = false := hz0.frozen 1
        have kk : KeepT TO wr9 ((wr9.setCell ⟨g2, 0, none⟩ (.slice x.sA x.secs.length x.sc)).setCell ⟨g2, 1, none⟩ (.slice x.yA x.syms.length x.yc)) := (KeepT.of_set hz0 TO_o 0 _).trans (KeepT.of_set (hz0.set_ 0 _) TO_o 1 _)
        have HQ : Hid ((ObjRows w.heap.size x ((wr9.setCell ⟨g2, 0, none⟩ (.slice x.sA x.secs.length x.sc)).setCell ⟨g2, 1, none⟩ (.slice x.yA x.syms.length x.yc)) ∧ Below w.heap.size w ((wr9.setCell ⟨g2, 0, none⟩ (.slice x.sA x.secs.length x.sc)).setCell ⟨g2, 1, none⟩ (.slice x.yA x.syms.length x.yc)) ∧ Blk ((wr9.setCell ⟨g2, 0, none⟩ (.slice x.sA x.secs.length x.sc)).setCell ⟨g2, 1, none⟩ (.slice x.yA x.syms.length x.yc)) g5 47 x.oc.toArray ∧ (upd fl 3 true 2 = false → Rdr ((wr9.setCell ⟨g2, 0, none⟩ (.slice x.sA x.secs.length x.sc)).setCell ⟨g2, 1, none⟩ (.slice x.yA x.syms.length x.yc)) r (800 + 1)) ∧ (upd fl 3 true 3 = false → Blk ((wr9.setCell ⟨g2, 0, none⟩ (.slice x.sA x.secs.length x.sc)).setCell ⟨g2, 1, none⟩ (.slice x.yA x.syms.length x.yc)) g2 47 #[.slice none 0 0, .slice none 0 0]) ∧ (upd fl 3 true 3 = true → Blk ((wr9.setCell ⟨g2, 0, none⟩ (.slice x.sA x.secs.length x.sc)).setCell ⟨g2, 1, none⟩ (.slice x.yA x.syms.length x.yc)) g2 47 x.oc.toArray) ∧ (upd fl 3 true 4 = false → Blk ((wr9.setCell ⟨g2, 0, none⟩ (.slice x.sA x.secs.length x.sc)).setCell ⟨g2, 1, none⟩ (.slice x.yA x.syms.length x.yc)) g3 47 #[.slice none 0 0, .slice none 0 0]) ∧ (upd fl 3 true 4 = true → ∃ yy : Obj, yy.small ∧ ObjRows w.heap.size yy ((wr9.setCell ⟨g2, 0, none⟩ (.slice x.sA x.secs.length x.sc)).setCell ⟨g2, 1, none⟩ (.slice x.yA x.syms.length x.yc)) ∧ Blk ((wr9.setCell ⟨g2, 0, none⟩ (.slice x.sA x.secs.length x.sc)).setCell ⟨g2, 1, none⟩ (.slice x.yA x.syms.length x.yc)) g3 47 yy.oc.toArray)) ∧ KeepT TO wr9 ((wr9.setCell ⟨g2, 0, none⟩ (.slice x.sA x.secs.length x.sc)).setCell ⟨g2, 1, none⟩ (.slice x.yA x.syms.length x.yc))) := ⟨⟨h1.keep kk, (h2.setCell (p := ⟨g2, 0, none⟩) (by simp only; omega) (.slice x.sA x.secs.length x.sc)).setCell (p := ⟨g2, 1, none⟩) (by simp only; omega) (.slice x.yA x.syms.length x.yc), (h3.far (by simp only [ne_eq]; omega) _).far (by simp only [ne_eq]; omega) _, fun h => by simp [upd, f2] at h, fun h => by simp [upd] at h, fun _ => (hz0.set_ 0 (.slice x.sA x.secs.length x.sc)).set_ 1 (.slice x.yA x.syms.length x.yc), fun h => ((h7 (by simpa [upd] using h)).far (by simp only [ne_eq]; omega) _).far (by simp only [ne_eq]; omega) _, fun h => (by obtain ⟨y, y1, y2, y3⟩ := h8 (by simpa [upd] using h); exact ⟨y, y1, y2.keep kk, (y3.far (by simp only [ne_eq]; omega) _).far (by simp only [ne_eq]; omega) _⟩)⟩, kk⟩
        clear h1 h2 h3 h4 h5 h6 h7 h8 hz0 kk
        unfold Oper.wp execOp
        simp only [e1, e2]
        go_simp
        exact hK undef _ HQ.out.2 trivial HQ.out.1
      · obtain ⟨h1, h2, h3, h4, h5, h6, h7, h8⟩ := hG
        have hz0 := h7 hfi
        have f2 := (hp 2 (by kernel_rfl)).1
        have e1 : a1.eval (.tmp 3) = .pointer (some ⟨g3, 0, none⟩) := hc.ev0 3 rfl
        obtain ⟨y, hyv, hys, hyr⟩ := (hp 2 (by kernel_rfl)).2
        have e2 := hc.ev 37 2 rfl
        rw [hyv] at e2
        simp only [Obj.val] at e2
        have c0 : wr9.cell? ⟨g3, 0, none⟩ = some (.slice none 0 0) := hz0.cell 0
        have c1 : wr9.cell? ⟨g3, 1, none⟩ = some (.slice none 0 0) := hz0.cell 1
        have f0 : wr9.frozen? ⟨g3, 0, none⟩ = false := hz0.frozen 0
        have f1 : wr9.frozen? ⟨g3, 1, none⟩ = false := hz0.frozen 1
        have kk : KeepT TO wr9 ((wr9.setCell ⟨g3, 0, none⟩ (.slice y.sA y.secs.length y.sc)).setCell ⟨g3, 1, none⟩ (.slice y.yA y.syms.length y.yc)) := (KeepT.of_set hz0 TO_o 0 _).trans (KeepT.of_set (hz0.set_ 0 _) TO_o 1 _)
        have HQ : Hid ((ObjRows w.heap.size x ((wr9.setCell ⟨g3, 0, none⟩ (.slice y.sA y.secs.length y.sc)).setCell ⟨g3, 1, none⟩ (.slice y.yA y.syms.length y.yc)) ∧ Below w.heap.size w ((wr9.setCell ⟨g3, 0, none⟩ (.slice y.sA y.secs.length y.sc)).setCell ⟨g3, 1, none⟩ (.slice y.yA y.syms.length y.yc)) ∧ Blk ((wr9.setCell ⟨g3, 0, none⟩ (.slice y.sA y.secs.length y.sc)).setCell ⟨g3, 1, none⟩ (.slice y.yA y.syms.length y.yc)) g5 47 x.oc.toArray ∧ (upd fl 4 true 2 = false → Rdr ((wr9.setCell ⟨g3, 0, none⟩ (.slice y.sA y.secs.length y.sc)).setCell ⟨g3, 1, none⟩ (.slice y.yA y.syms.length y.yc)) r (800 + 1)) ∧ (upd fl 4 true 3 = false → Blk ((wr9.setCell ⟨g3, 0, none⟩ (.slice y.sA y.secs.length y.sc)).setCell ⟨g3, 1, none⟩ (.slice y.yA y.syms.length y.yc)) g2 47 #[.slice none 0 0, .slice none 0 0]) ∧ (upd fl 4 true 3 = true → Blk ((wr9.setCell ⟨g3, 0, none⟩ (.slice y.sA y.secs.length y.sc)).setCell ⟨g3, 1, none⟩ (.slice y.yA y.syms.length y.yc)) g2 47 x.oc.toArray) ∧ (upd fl 4 true 4 = false → Blk ((wr9.setCell ⟨g3, 0, none⟩ (.slice y.sA y.secs.length y.sc)).setCell ⟨g3, 1, none⟩ (.slice y.yA y.syms.length y.yc)) g3 47 #[.slice none 0 0, .slice none 0 0]) ∧ (upd fl 4 true 4 = true → ∃ yy : Obj, yy.small ∧ ObjRows w.heap.size yy ((wr9.setCell ⟨g3, 0, none⟩ (.slice y.sA y.secs.length y.sc)).setCell ⟨g3, 1, none⟩ (.slice y.yA y.syms.length y.yc)) ∧ Blk ((wr9.setCell ⟨g3, 0, none⟩ (.slice y.sA y.secs.length y.sc)).setCell ⟨g3, 1, none⟩ (.slice y.yA y.syms.length y.yc)) g3 47 yy.oc.toArray)) ∧ KeepT TO wr9 ((wr9.setCell ⟨g3, 0, none⟩ (.slice y.sA y.secs.length y.sc)).setCell ⟨g3, 1, none⟩ (.slice y.yA y.syms.length y.yc))) := ⟨⟨h1.keep kk, (h2.setCell (p := ⟨g3, 0, none⟩) (by simp only; omega) (.slice y.sA y.secs.length y.sc)).setCell (p := ⟨g3, 1, none⟩) (by simp only; omega) (.slice y.yA y.syms.length y.yc), (h3.far (by simp only [ne_eq]; omega) _).far (by simp only [ne_eq]; omega) _, fun h => by simp [upd, f2] at h, fun h => ((h5 (by simpa [upd] using h)).far (by simp only [ne_eq]; omega) _).far (by simp only [ne_eq]; omega) _, fun h => ((h6 (by simpa [upd] using h)).far (by simp only [ne_eq]; omega) _).far (by simp only [ne_eq]; omega) _, fun h => by simp [upd] at h, fun _ => ⟨y, hys, hyr.keep kk, (hz0.set_ 0 (.slice y.sA y.secs.length y.sc)).set_ 1 (.slice y.yA y.syms.length y.yc)⟩⟩, kk⟩
        clear h1 h2 h3 h4 h5 h6 h7 h8 hz0 kk hyr hyv
        unfold Oper.wp execOp
        simp only [e1, e2]
        go_simp
        exact hK undef _ HQ.out.2 trivial HQ.out.1
    · intro fl vs w11 hfl hG hF
      obtain ⟨h1, h2, h3, h4, h5, h6, h7, h8⟩ := hG
      obtain ⟨y, y1, y2, y3⟩ := h8 (hfl 4 (by simp))
      have HFI := Lib.hid (⟨h6 (hfl 3 (by simp)), y3, h1, y2, h2⟩ : DcFin w g2 g3 x y w11)
      have HSZ := Lib.hid y1
      clear h1 h2 h3 h4 h5 h6 h7 h8 hF hfl y1 y2 y3
      simp only [fill]
      go_simp
      go_wp2
      have y0 : w11.cell? ⟨g2, 0, none⟩ = some (.slice x.sA x.secs.length x.sc) := HFI.out.z2.cell 0
      have y1 : w11.cell? ⟨g2, 1, none⟩ = some (.slice x.yA x.syms.length x.yc) := HFI.out.z2.cell 1
      have y2 : w11.cell? ⟨g3, 0, none⟩ = some (.slice y.sA y.secs.length y.sc) := HFI.out.z3.cell 0
      have y3 : w11.cell? ⟨g3, 1, none⟩ = some (.slice y.yA y.syms.length y.yc) := HFI.out.z3.cell 1
      refine bodyPost_ret (v := .tuple #[x.val, y.val]) (by simp [results, Try.results32, go_sem, y0, y1, y2, y3, Obj.val]) rfl ?_
      exact ⟨x, y, rfl, HFI.out.rx, HFI.out.rz, HSX.out, HSZ.out, HFI.out.bl⟩
end Go.Proofs.Ytdaamgonendkkaa
