/- Symbols and objects: they are marked. No condition but the sizes. -/
import Derived.Test.YtmmenedjmdcbcaaRows
import Derived.Test.YtmmenedjmdcbcaaBase
import Derived.Test.YtmmenedjmdcbcaaBase2
import Derived.Test.YtmmenedjmdcbcaaOpen
import Derived.Test.YtmmenedjmdcbcaaOpen2
import Derived.Test.YtmmenedjmdcbcaaOnly
import Derived.Test.YtmmenedjmdcbcaaIn
import Derived.Test.YtmmenedjmdcbcaaName
import Derived.Test.YtmmenedjmdcbcaaByteS
import Derived.Test.YtmmenedjmdcbcaaBulk
import Derived.Test.YtmmenedjmdcbcaaFix
import Derived.Test.YtmmenedjmdcbcaaSzF
import Derived.Test.YtmmenedjmdcbcaaMarkT
import Derived.Test.YtmmenedjmdcbcaaMarkB
import Derived.Test.YtmmenedjmdcbcaaMarkF
import Derived.Test.YtmmenedjmdcbcaaSec
import Derived.Test.YtmmenedjmdcbcaaSecM
import Derived.Test.YtmmenedjmdcbcaaSecO
import Derived.Test.YtmmenedjmdcbcaaSecK
import Derived.Test.YtmmenedjmdcbcaaSym
import Derived.Test.YtmmenedjmdcbcaaObj
import Derived.WalkKit
import Derived.WalkSpells
import Derived.WalkLawsBesides
import Derived.Handy
import Derived.BigQuiet
import Derived.Deep.RegionHeld3
import Derived.Deep.DrawnRows
import Derived.Deep.QuietTactic
namespace Go.Proofs.Ytmmenedjmdcbcaa
open Go Go.RowKit

set_option maxRecDepth 100000 in
set_option maxHeartbeats 4000000 in
theorem markSymbolS_any {lo hi c n : Nat} {A : Option Addr} {xs : List Value} (k0 : Int) (w : World) (h : w.ownsRow lo 61 4 (.slice A n c) n xs) (hh : ∀ a, A = some a → a.block < hi) (hk0 : 0 ≤ k0) (hk1 : k0 ≤ 67108864) (hn : n ≤ 4194304) :
    Calls Try.prog 50 #[.slice A n c, .int .i64 k0] w fun e w' => e = .returned (.int .i64 (k0 + 4 * n)) ∧ Only lo hi w w' := by
  have HOwn := Lib.hid h
  have HH := Lib.hid hh
  clear h hh
  go_enter Try.func50, Try.ntmps50
  go_wp2
  go_loopw [1, 5] (fun kv i wr => ∃ (j : Nat) (z : Int) (xs : List Value), j ≤ n ∧ i = .int .i64 j ∧ kv = .int .i64 z ∧ Hid (z = k0 + 4 * j) ∧ 0 ≤ z ∧ z ≤ 134217728 ∧ Hid (Only lo hi w wr) ∧ Hid (wr.ownsRow lo 61 4 (.slice A n c) n xs)) (fun _ i _ => n - (intOf i).toNat)
  case atStart => exact ⟨0, k0, _, Nat.zero_le _, rfl, rfl, by simp [Hid], hk0, by omega, Only.refl _ _ _, HOwn⟩
  case round =>
    obtain ⟨j, z, xs, hj, rfl, rfl, HZ, hz0, hz1, HN, HO⟩ := hrel
    clear HOwn
    by_cases hlt : j < n
    · obtain ⟨g, rfl, hlo, hgs⟩ := own_addrN HO.out (by omega)
      have hhi := HH.out _ rfl
      go_wp2_with fail
      refine (markText_any z _ (by omega)).mono ?_
      rintro e w1 ⟨rfl, s1⟩
      have Ob := Lib.hid (own_below HO.out s1)
      have Nb := Lib.hid (HN.out.trans (Only.of_below s1))
      clear s1
      have f0 : w1.frozen? ⟨g, j * 4, none⟩ = false := Ob.out.frozenAt _
      obtain ⟨v0, c0⟩ : ∃ v, w1.cell? ⟨g, j * 4, none⟩ = some v := ⟨_, (Ob.out.cellAt (j * 4) (by omega)).trans (List.getElem?_eq_getElem (by have := Ob.out.1; omega))⟩
      have O0 := Lib.hid (Ob.out.stored (j * 4) (.string (mkText z))).1
      have N0 := Lib.hid (Nb.out.set_ (p := ⟨g, j * 4, none⟩) (.string (mkText z)) hlo hhi)
      have f1 : (w1.setCell ⟨g, j * 4, none⟩ (.string (mkText z))).frozen? ⟨g, j * 4 + 1, none⟩ = false := O0.out.frozenAt _
      obtain ⟨v1, c1⟩ : ∃ v, (w1.setCell ⟨g, j * 4, none⟩ (.string (mkText z))).cell? ⟨g, j * 4 + 1, none⟩ = some v := ⟨_, (O0.out.cellAt (j * 4 + 1) (by omega)).trans (List.getElem?_eq_getElem (by have := O0.out.1; omega))⟩
      have O1 := Lib.hid (O0.out.stored (j * 4 + 1) (.int .i64 (z + 1))).1
      have N1 := Lib.hid (N0.out.set_ (p := ⟨g, j * 4 + 1, none⟩) (.int .i64 (z + 1)) hlo hhi)
      have f2 : ((w1.setCell ⟨g, j * 4, none⟩ (.string (mkText z))).setCell ⟨g, j * 4 + 1, none⟩ (.int .i64 (z + 1))).frozen? ⟨g, j * 4 + 2, none⟩ = false := O1.out.frozenAt _
      obtain ⟨v2, c2⟩ : ∃ v, ((w1.setCell ⟨g, j * 4, none⟩ (.string (mkText z))).setCell ⟨g, j * 4 + 1, none⟩ (.int .i64 (z + 1))).cell? ⟨g, j * 4 + 2, none⟩ = some v := ⟨_, (O1.out.cellAt (j * 4 + 2) (by omega)).trans (List.getElem?_eq_getElem (by have := O1.out.1; omega))⟩
      have O2 := Lib.hid (O1.out.stored (j * 4 + 2) (.int .i64 (z + 1 + 1))).1
      have N2 := Lib.hid (N1.out.set_ (p := ⟨g, j * 4 + 2, none⟩) (.int .i64 (z + 1 + 1)) hlo hhi)
      have f3 : (((w1.setCell ⟨g, j * 4, none⟩ (.string (mkText z))).setCell ⟨g, j * 4 + 1, none⟩ (.int .i64 (z + 1))).setCell ⟨g, j * 4 + 2, none⟩ (.int .i64 (z + 1 + 1))).frozen? ⟨g, j * 4 + 3, none⟩ = false := O2.out.frozenAt _
      obtain ⟨v3, c3⟩ : ∃ v, (((w1.setCell ⟨g, j * 4, none⟩ (.string (mkText z))).setCell ⟨g, j * 4 + 1, none⟩ (.int .i64 (z + 1))).setCell ⟨g, j * 4 + 2, none⟩ (.int .i64 (z + 1 + 1))).cell? ⟨g, j * 4 + 3, none⟩ = some v := ⟨_, (O2.out.cellAt (j * 4 + 3) (by omega)).trans (List.getElem?_eq_getElem (by have := O2.out.1; omega))⟩
      have O3 := Lib.hid (O2.out.stored (j * 4 + 3) (.int .i64 (z + 1 + 1 + 1))).1
      have N3 := Lib.hid (N2.out.set_ (p := ⟨g, j * 4 + 3, none⟩) (.int .i64 (z + 1 + 1 + 1)) hlo hhi)
      go_wp2
      go_roundw
      case rel =>
        have q1 := HZ.out
        exact ⟨j + 1, _, _, by omega, by go_num, rfl, Lib.hid (by omega), by omega, by omega, N3, O3⟩
      case measure => simp [intOf]; omega
    · obtain rfl : j = n := by omega
      go_wp2
      go_ret
      rw [← HZ.out]
      exact ⟨rfl, HN.out⟩
set_option maxRecDepth 100000 in
set_option maxHeartbeats 4000000 in
theorem markObj_any {lo hi : Nat} (x : Obj) (k0 : Int) (w : World) (h : x.Own w lo hi) (hk0 : 0 ≤ k0) (hk1 : k0 ≤ 4194304) (hcb : Sec.cnts x.secs ≤ 4194304) (hs : x.small) :
    Calls Try.prog 22 #[.agg #[.slice x.sA x.secs.length x.sc, .slice x.yA x.syms.length x.yc], .int .i64 k0] w fun e w' => ∃ k : Int, e = .returned (.int .i64 k) ∧ (0 ≤ k ∧ k ≤ 33554432) ∧ Only lo hi w w' ∧ w.heap.size ≤ w'.heap.size := by
  obtain ⟨secs, sA, sc, syms, yA, yc⟩ := x
  obtain ⟨g, m, rfl, hS, hY, hya, hmh, hhw⟩ := h
  obtain ⟨b0, b1, b2, b3⟩ := hs
  have HB1 := Lib.hid b1
  have HYA := Lib.hid hya
  clear b1 b3 hya
  simp only at *
  have hcn := (Sec.cnts_bd secs).1
  have hlom : lo ≤ m := Nat.le_of_lt (Nat.lt_of_le_of_lt hS.1 hS.2.2.1)
  have BX : Hid (Below w.heap.size w (w.alloc (.cells #[Value.slice (some ⟨g, 0, none⟩) secs.length sc, Value.slice yA syms.length yc] 26))) := (Below.refl _ _).alloc (Nat.le_refl _) _
  have KX := Lib.hid (Blk.new w 26 #[Value.slice (some ⟨g, 0, none⟩) secs.length sc, Value.slice yA syms.length yc])
  have HSX := Lib.hid (hS.below BX.out)
  have HYX := Lib.hid (own_below hY BX.out)
  clear hS hY
  have x0 := KX.out.cell 0
  have x1 := KX.out.cell 1
  go_enter Try.func22, Try.ntmps22
  go_wp2_with fail
  refine (markSectionS_any secs k0 _ HSX.out hk0 hk1 hcb b0 HB1.out).mono ?_
  rintro e w1 ⟨rfl, on1⟩
  have HY1 := Lib.hid (own_only HYX.out on1 (fun a ha => Or.inr (own_up HYX.out a ha).1))
  have K1 := Lib.hid (blk_only KX.out on1 (Or.inr (by omega)))
  have N1 := Lib.hid ((Only.of_below BX.out : Only lo hi w _).trans (on1.wider (Nat.le_refl _) hmh))
  have zz1 : w.heap.size ≤ w1.heap.size := N1.out.size
  clear BX KX HSX HYX x0 x1 on1
  have x0 := K1.out.cell 0
  have x1 := K1.out.cell 1
  go_wp2_with fail
  refine (markSymbolS_any (k0 + Sec.cnts secs) _ HY1.out HYA.out (by omega) (by omega) (by omega)).mono ?_
  rintro e w2 ⟨rfl, on2⟩
  have zz2 : w.heap.size ≤ w2.heap.size := Nat.le_trans zz1 on2.size
  go_wp2
  go_ret
  exact ⟨_, rfl, ⟨by omega, by omega⟩, N1.out.trans (on2.wider hlom (Nat.le_refl _)), zz2⟩
end Go.Proofs.Ytmmenedjmdcbcaa
