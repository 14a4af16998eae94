/- Contract of the program's ReadVersion. Condition: the size, and the library's variables. -/
import Derived.Test.YtogdeekjfgbneaaDoorRows
import Derived.Test.YtogdeekjfgbneaaDoorBase
import Derived.Test.YtogdeekjfgbneaaDoorBase2
import Derived.Test.YtogdeekjfgbneaaDoorName
import Derived.Test.YtogdeekjfgbneaaDoorVer
import Derived.Test.YtogdeekjfgbneaaDoorVerP
import Derived.Test.YtogdeekjfgbneaaDoorDec
import Derived.Test.YtogdeekjfgbneaaDoorVtx
import Derived.Test.YtogdeekjfgbneaaDoorVtf
import Derived.Test.YtogdeekjfgbneaaDoorLibR
import Derived.WalkKit
import Derived.WalkSpells
import Derived.WalkLawsBesides
import Derived.Handy
import Derived.BigQuiet
import Derived.Deep.RegionHeld3
import Derived.Deep.DrawnRows
import Derived.Deep.QuietTactic
namespace Go.Proofs.YtogdeekjfgbneaaDoor
open Go Go.RowKit

def ReadRes (s : ByteArray) (w : World) (e : Ending) (w' : World) : Prop := ∃ (v : Ver) (b : Bool), e = .returned (.tuple #[v.val, .bool b]) ∧ IsVer s v b ∧ Below w.heap.size w w'
set_option maxRecDepth 100000 in
set_option maxHeartbeats 4000000 in
theorem implReadVer_any (s : ByteArray) (w : World) (hs : s.size ≤ 1048578) (hL : LibW w) : Calls Tryd.prog 14 #[.string s] w (ReadRes s w) := by
  have B0 : Below w.heap.size w (w.alloc (.cells #[.string ⟨#[]⟩, .int .i64 0] 26)) := (Below.refl _ _).alloc (Nat.le_refl _) _
  have K0 := Blk.new w 26 #[.string ⟨#[]⟩, .int .i64 0]
  have HL := Lib.hid hL
  have hA := cutA_size s 64
  have hB := cutB_size s 64
  have HNO := Lib.hid (implVer_no (s := s))
  have HYE := Lib.hid (fun n => implVer_yes (s := s) (n := n))
  have EA : Hid ((⟨(Lib.cut s.data.toList [64]).1.toArray⟩ : ByteArray) = cutA s 64) := rfl
  have EB : Hid ((Lib.cut s.data.toList [64]).2.1 = (cutB s 64).data.toList) := rfl
  rw [EA.out, EB.out] at HNO HYE
  clear EA EB
  have HC := Lib.hid (fun w hL => cut_any s 64 w (by omega) hL)
  have HT := Lib.hid (fun w hL => atoi_any (cutB s 64) w (by omega) hL)
  unfold AtoiRes at HT
  generalize cutA s 64 = nm at *
  generalize cutB s 64 = nb at *
  clear hB hL
  go_enter Tryd.func14, Tryd.ntmps14
  go_wp2_with fail
  refine (HC.out _ (HL.out.below B0)).mono ?_
  rintro e w1 ⟨z, rfl, hb1⟩
  have B1 := B0.trans (hb1.mono (by simp))
  replace K0 := K0.below hb1 (by simp)
  clear HC hb1 B0
  go_wp2_with fail
  refine (HT.out _ (HL.out.below B1)).mono ?_
  rintro e w2 ⟨n, ev, rfl, hb2, hev⟩
  have hRw1 := K0.lt
  have B2 := B1.trans (hb2.mono B1.size)
  replace K0 := K0.below hb2 hRw1
  have hRw2 := K0.lt
  clear HT hb2 B1 HL hRw1
  rcases hev with ⟨rfl, ha⟩ | ⟨⟨t, a, rfl⟩, hna⟩
  · have HY := Lib.hid (HYE.out n ha)
    have HN2 : Hid (verText ⟨nm, n⟩ ≠ s → IsVer s noV false) := fun hne => HNO.out (fun k hk => by
      rw [ha] at hk
      injection hk with hk
      rw [← hk]
      exact hne)
    have KV := Blk.new w2 26 #[.string nm, .int .i64 n]
    have K3 := K0.alloc (.cells #[.string nm, .int .i64 n] 26)
    have B3 := B2.alloc B2.size (.cells #[.string nm, .int .i64 n] 26)
    have hz3 : w2.heap.size < (w2.alloc (.cells #[.string nm, .int .i64 n] 26)).heap.size := by simp
    have HV := Lib.hid (fun w => implVerText_any ⟨nm, n⟩ w (show nm.size ≤ maxLen by unfold maxLen; omega))
    simp only [Ver.val] at HV
    have HKV := Lib.hid KV
    have HK3 := Lib.hid K3
    have HB3 := Lib.hid B3
    clear ha HYE HNO KV K3 B3 K0 B2
    go_wp2_with fail
    refine (HV.out _).mono ?_
    rintro e w4 ⟨rfl, hb4⟩
    have B4 := HB3.out.trans (hb4.mono (by omega))
    have KV := HKV.out.below hb4 hz3
    have K4 := HK3.out.below hb4 (by omega)
    clear HKV HK3 HB3 hb4 HV
    have hRw4 := K4.lt
    have c0 := K4.cell 0
    have c1 := K4.cell 1
    have f0 := K4.frozen 0
    have f1 := K4.frozen 1
    have v0 := KV.cell 0
    have v1 := KV.cell 1
    by_cases hts : verText ⟨nm, n⟩ = s
    · have e1 : ((verText ⟨nm, n⟩).toList == s.toList) = true := by simp [hts]
      have HI := Lib.hid (HY.out hts)
      have KF := Lib.hid ((K4.set_ 0 (.string nm)).set_ 1 (.int .i64 n))
      have BF := Lib.hid ((B4.setCell (p := ⟨w.heap.size, 0, none⟩) (Nat.le_refl _) (.string nm)).setCell (p := ⟨w.heap.size, 1, none⟩) (Nat.le_refl _) (.int .i64 n))
      clear hts HN2 HY
      go_wp2
      have d0 : ((w4.setCell ⟨w.heap.size, 0, none⟩ (.string nm)).setCell ⟨w.heap.size, 1, none⟩ (.int .i64 n)).cell? ⟨w.heap.size, 0, none⟩ = some (.string nm) := KF.out.cell 0
      have d1 : ((w4.setCell ⟨w.heap.size, 0, none⟩ (.string nm)).setCell ⟨w.heap.size, 1, none⟩ (.int .i64 n)).cell? ⟨w.heap.size, 1, none⟩ = some (.int .i64 n) := KF.out.cell 1
      refine bodyPost_ret (v := .tuple #[(⟨nm, n⟩ : Ver).val, .bool true]) (by simp [results, Tryd.results14, go_sem, Ver.val, d0, d1]) rfl ?_
      exact ⟨⟨nm, n⟩, true, rfl, HI.out, BF.out⟩
    · have e1 : ((verText ⟨nm, n⟩).toList == s.toList) = false := by
        rw [beq_eq_false_iff_ne]
        exact fun h => hts (toList_inj h)
      have HI := Lib.hid (HN2.out hts)
      have KF := Lib.hid ((K4.set_ 0 (.string ⟨#[]⟩)).set_ 1 (.int .i64 0))
      have BF := Lib.hid ((B4.setCell (p := ⟨w.heap.size, 0, none⟩) (Nat.le_refl _) (.string ⟨#[]⟩)).setCell (p := ⟨w.heap.size, 1, none⟩) (Nat.le_refl _) (.int .i64 0))
      clear hts HN2 HY
      go_wp2
      have d0 : ((w4.setCell ⟨w.heap.size, 0, none⟩ (.string ⟨#[]⟩)).setCell ⟨w.heap.size, 1, none⟩ (.int .i64 0)).cell? ⟨w.heap.size, 0, none⟩ = some (.string ⟨#[]⟩) := KF.out.cell 0
      have d1 : ((w4.setCell ⟨w.heap.size, 0, none⟩ (.string ⟨#[]⟩)).setCell ⟨w.heap.size, 1, none⟩ (.int .i64 0)).cell? ⟨w.heap.size, 1, none⟩ = some (.int .i64 0) := KF.out.cell 1
      refine bodyPost_ret (v := .tuple #[noV.val, .bool false]) (by simp [results, Tryd.results14, go_sem, Ver.val, noV, d0, d1]) rfl ?_
      exact ⟨noV, false, rfl, HI.out, BF.out⟩
  · have HF := Lib.hid (HNO.out (fun k hk => absurd hk (hna k)))
    have c0 := K0.cell 0
    have c1 := K0.cell 1
    have f0 := K0.frozen 0
    have f1 := K0.frozen 1
    have KF := Lib.hid (((K0.set_ 0 (.string ⟨#[]⟩)).set_ 1 (.int .i64 0)).alloc (.cells #[.string nm, .int .i64 n] 26))
    have BF := Lib.hid (((B2.setCell (p := ⟨w.heap.size, 0, none⟩) (Nat.le_refl _) (.string ⟨#[]⟩)).setCell (p := ⟨w.heap.size, 1, none⟩) (Nat.le_refl _) (.int .i64 0)).alloc (by have := B2.size; simp; omega) (.cells #[.string nm, .int .i64 n] 26))
    clear hna HYE HNO
    go_wp2
    have d0 : (((w2.setCell ⟨w.heap.size, 0, none⟩ (.string ⟨#[]⟩)).setCell ⟨w.heap.size, 1, none⟩ (.int .i64 0)).alloc (.cells #[.string nm, .int .i64 n] 26)).cell? ⟨w.heap.size, 0, none⟩ = some (.string ⟨#[]⟩) := KF.out.cell 0
    have d1 : (((w2.setCell ⟨w.heap.size, 0, none⟩ (.string ⟨#[]⟩)).setCell ⟨w.heap.size, 1, none⟩ (.int .i64 0)).alloc (.cells #[.string nm, .int .i64 n] 26)).cell? ⟨w.heap.size, 1, none⟩ = some (.int .i64 0) := KF.out.cell 1
    refine bodyPost_ret (v := .tuple #[noV.val, .bool false]) (by simp [results, Tryd.results14, go_sem, Ver.val, noV, d0, d1]) rfl ?_
    exact ⟨noV, false, rfl, HF.out, BF.out⟩
end Go.Proofs.YtogdeekjfgbneaaDoor
