/- Contracts of the two SymbolOf. No condition but the sizes. -/
import Derived.Test.YtdaamgonendkkaaRows
import Derived.Test.YtdaamgonendkkaaBase
import Derived.Test.YtdaamgonendkkaaBase2
import Derived.Test.YtdaamgonendkkaaIn
import Derived.Test.YtdaamgonendkkaaName
import Derived.Test.YtdaamgonendkkaaByteS
import Derived.Test.YtdaamgonendkkaaFix
import Derived.Test.YtdaamgonendkkaaSec
import Derived.Test.YtdaamgonendkkaaObjS
import Derived.Test.YtdaamgonendkkaaSecV
import Derived.Test.YtdaamgonendkkaaSecW
import Derived.Test.YtdaamgonendkkaaSym
import Derived.Test.YtdaamgonendkkaaSymV
import Derived.Test.YtdaamgonendkkaaFindSym
import Derived.Test.YtdaamgonendkkaaObj
import Derived.Test.YtdaamgonendkkaaGlob
import Derived.Test.YtdaamgonendkkaaObjI
import Derived.Test.YtdaamgonendkkaaObjW
import Derived.WalkKit
import Derived.WalkSpells
import Derived.WalkLawsBesides
import Derived.Handy
import Derived.BigQuiet
import Derived.Deep.RegionHeld3
import Derived.Deep.DrawnRows
import Derived.Deep.QuietTactic
namespace Go.Proofs.Ytdaamgonendkkaa
open Go Go.RowKit

def sPlace (ys : List Sym) (nm : ByteArray) : Int := idxOf (fun s : Sym => decide (s.name = nm)) ys
noncomputable def symOf (secs : List Sec) (ys : List Sym) (nm : ByteArray) : Int := if objOk secs ys = true then sPlace ys nm else -1
theorem symOf_no {secs : List Sec} {ys : List Sym} {nm : ByteArray} (h : objOk secs ys = false) : symOf secs ys nm = -1 := by unfold symOf; rw [h]; rfl
theorem symOf_yes {secs : List Sec} {ys : List Sym} {nm : ByteArray} (h : objOk secs ys = true) : symOf secs ys nm = sPlace ys nm := by unfold symOf; rw [if_pos h]
set_option maxHeartbeats 1000000 in
theorem symC_any (l : Sym) (nm : ByteArray) (a : Addr) (w : World) (hc : w.cell? a = some (.string nm)) :
    Calls Try.prog 46 #[l.val, .pointer (some a)] w (Gives w (.bool (decide (l.name = nm)))) := by
  obtain ⟨name, bind, wh, val⟩ := l
  simp only [Sym.val] at *
  have hc2 : (w.alloc (.cells #[Value.string name, Value.int .i64 bind, Value.int .i64 wh, Value.int .i64 val] 55)).cell? a = some (.string nm) := (World.cell?_alloc_lt w _ a (World.block_lt_of_cell? w a hc)).trans hc
  by_cases he : name = nm
  · have HR : Hid (decide (name = nm) = true) := decide_eq_true he
    have ht : (name.toList == nm.toList) = true := by simp [he]
    clear he
    go_enter Try.func46, Try.ntmps46
    go_wp2
    go_ret
    rw [HR.out]
    exact ⟨rfl, by go_grown⟩
  · have HR : Hid (decide (name = nm) = false) := decide_eq_false he
    have ht : (name.toList == nm.toList) = false := by simpa using fun h => he (toList_inj h)
    clear he
    go_enter Try.func46, Try.ntmps46
    go_wp2
    go_ret
    rw [HR.out]
    exact ⟨rfl, by go_grown⟩
set_option maxHeartbeats 2000000 in
theorem implSymOf_any {B : Nat} (x : Obj) (nm : ByteArray) (w : World) (h : x.At w B) (hB : B ≤ w.heap.size) (hs : x.small) (hc : x.syms.length ≤ x.yc) :
    Calls Try.prog 24 #[x.val, .string nm] w (Gives w (.int .i64 (symOf x.secs x.syms nm))) := by
  have HO := Lib.hid (fun w' (hb : Below w.heap.size w w') => implObj_any x w' ((h.more hB).below hb) hb.size hs hc)
  have HNO := Lib.hid (fun h => symOf_no (secs := x.secs) (ys := x.syms) (nm := nm) h)
  have HYE := Lib.hid (fun h => symOf_yes (secs := x.secs) (ys := x.syms) (nm := nm) h)
  have HR1 := Lib.hid (fun w' (hb : Below w.heap.size w w') => (h.2.more hB).below hb)
  have hm : x.syms.length ≤ maxLen := by have := hs.2.2.1; unfold maxLen; omega
  clear h hs hc
  obtain ⟨secs, sA, sc, syms, yA, yc⟩ := x
  simp only [Obj.val] at *
  have hb0 : Below w.heap.size w (w.alloc (.cells #[Value.slice sA secs.length sc, Value.slice yA syms.length yc] 47)) := (Below.refl _ _).alloc (Nat.le_refl _) _
  have KO := Lib.hid (Blk.new w 47 #[Value.slice sA secs.length sc, Value.slice yA syms.length yc])
  have HB2 := Lib.hid (hb0.alloc hb0.size (.cells #[Value.string nm] 9))
  have KO2 := Lib.hid (KO.out.alloc (.cells #[Value.string nm] 9))
  have KN := Lib.hid (Blk.new (w.alloc (.cells #[Value.slice sA secs.length sc, Value.slice yA syms.length yc] 47)) 9 #[Value.string nm])
  clear hb0 KO
  generalize objOk secs syms = ok at *
  generalize symOf secs syms nm = res at *
  go_enter Try.func24, Try.ntmps24
  go_wp2_with fail
  refine (HO.out _ HB2.out).mono ?_
  rintro e w1 ⟨rfl, s1⟩
  have HB1 := Lib.hid (HB2.out.trans (s1.mono HB2.out.size))
  have KO1 := Lib.hid (KO2.out.below s1 KO2.out.lt)
  have KN1 := Lib.hid (KN.out.below s1 KN.out.lt)
  have zn : (w.alloc (.cells #[Value.slice sA secs.length sc, Value.slice yA syms.length yc] 47)).heap.size = w.heap.size + 1 := World.size_alloc _ _
  clear s1 HB2 KO2 KN
  have z1 := KO1.out.cell 1
  cases ok
  · have HR : Hid (res = -1) := HNO.out rfl
    go_wp2
    go_ret
    rw [HR.out]
    exact ⟨rfl, HB1.out⟩
  · have HR : Hid (res = sPlace syms nm) := HYE.out rfl
    have HI : Hid (idxOf (fun l : Sym => decide (l.name = nm)) syms = sPlace syms nm) := rfl
    go_wp2_with fail
    refine (indexFuncSym_any yA yc _ 46 #[.pointer (some ⟨w.heap.size + 1, 0, none⟩)] (fun l => decide (l.name = nm)) syms _ (HR1.out _ HB1.out) HB1.out.size hm (fun args w => by kernel_rfl) (fun y _ w' hb' => ?_)).mono ?_
    · have K3 := (KN1.out.below hb' KN1.out.lt).cell 0
      rw [zn] at K3
      simpa using symC_any y nm _ w' K3
    rintro e w3 ⟨rfl, hb3⟩
    rw [HI.out]
    go_wp2
    go_ret
    rw [HR.out]
    exact ⟨rfl, HB1.out.trans (hb3.mono HB1.out.size)⟩
set_option maxRecDepth 100000 in
set_option maxHeartbeats 4000000 in
theorem specSymOf_any {B : Nat} (x : Obj) (nm : ByteArray) (w : World) (h : x.At w B) (hB : B ≤ w.heap.size) (hs : x.small) :
    Calls Try.prog 22 #[x.val, .string nm] w (Gives w (.int .i64 (symOf x.secs x.syms nm))) := by
  have HO := Lib.hid (fun w' (hb : Below w.heap.size w w') => specObj_any x w' ((h.more hB).below hb) hb.size hs)
  have HNO := Lib.hid (fun h => symOf_no (secs := x.secs) (ys := x.syms) (nm := nm) h)
  have HYE := Lib.hid (fun h => symOf_yes (secs := x.secs) (ys := x.syms) (nm := nm) h)
  have H1 := Lib.hid (h.2.more hB)
  have hm : x.syms.length ≤ 1048576 := hs.2.2.1
  clear h hs
  obtain ⟨secs, sA, sc, syms, yA, yc⟩ := x
  simp only [Obj.val] at *
  have BB : Hid (Below w.heap.size w (w.alloc (.cells #[Value.slice sA secs.length sc, Value.slice yA syms.length yc] 47))) := (Below.refl _ _).alloc (Nat.le_refl _) _
  have K := Lib.hid (Blk.new w 47 #[Value.slice sA secs.length sc, Value.slice yA syms.length yc])
  generalize objOk secs syms = ok at *
  generalize symOf secs syms nm = res at *
  have HSP : Hid (res = if ok = true then sPlace syms nm else -1) := by
    cases ok
    · rw [Hid, HNO.out rfl]; rfl
    · rw [Hid, HYE.out rfl]; rfl
  clear HNO HYE
  go_enter Try.func22, Try.ntmps22
  go_wp2
  go_loopw [5] (fun i wr => ∃ k : Nat, k ≤ syms.length ∧ i = .int .i64 k ∧ Hid (∀ j, (h : j < syms.length) → j < k → decide (syms[j].name = nm) = false) ∧ Hid (0 < k → ok = true) ∧ Hid (Below w.heap.size w wr) ∧ Hid (Blk wr w.heap.size 47 #[Value.slice sA secs.length sc, Value.slice yA syms.length yc]) ∧ w.heap.size < wr.heap.size) (fun i _ => syms.length - (intOf i).toNat)
  case atStart => exact ⟨0, Nat.zero_le _, rfl, Lib.hid (fun j _ hj => by omega), Lib.hid (fun h => by omega), BB, K, K.out.lt⟩
  case round =>
    clear BB K
    obtain ⟨k, hk, rfl, HA, HOK, HB, HX, hlt0⟩ := hrel
    have z0 := HX.out.cell 0
    have z1 := HX.out.cell 1
    by_cases hlt : k < syms.length
    · go_wp2_with fail
      refine (HO.out _ HB.out).mono ?_
      rintro e w2 ⟨rfl, s2⟩
      have HB3 := Lib.hid (HB.out.trans (s2.mono HB.out.size))
      have HX3 := Lib.hid (HX.out.below s2 HX.out.lt)
      clear s2 HB HX z0 z1 hlt0
      have hlt3 : w.heap.size < w2.heap.size := HX3.out.lt
      have z1 := HX3.out.cell 1
      cases ok
      · have HR : Hid (res = -1) := HSP.out
        go_wp2
        go_ret
        rw [HR.out]
        exact ⟨rfl, HB3.out⟩
      · obtain ⟨b, off, hfa, hbl, c0, c1, c2, c3⟩ := Sym.at_ (H1.out.below HB3.out) hlt
        subst hfa
        by_cases he : syms[k].name = nm
        · have HR : Hid (res = k) := by rw [Hid, HSP.out, if_pos rfl]; exact idxOf_at hlt (decide_eq_true he) (fun j h hj => HA.out j h hj)
          have ht : (syms[k].name.toList == nm.toList) = true := by simp [he]
          clear he
          go_wp2
          go_ret
          rw [HR.out]
          exact ⟨rfl, HB3.out⟩
        · have HN : Hid (decide (syms[k].name = nm) = false) := decide_eq_false he
          have ht : (syms[k].name.toList == nm.toList) = false := by simpa using fun h => he (toList_inj h)
          clear he
          go_wp2
          go_roundw
          case rel => exact ⟨k + 1, by omega, by go_num, Lib.hid (fun j h hj => by
            by_cases hjk : j < k
            · exact HA.out j h hjk
            · obtain rfl : j = k := by omega
              exact HN.out), Lib.hid (fun _ => by first | rfl | trivial), HB3, HX3, hlt3⟩
          case measure => simp [intOf]; omega
    · have HR : Hid (res = -1) := by
        rw [Hid, HSP.out]
        cases ok
        · rfl
        · exact (if_pos rfl).trans (idxOf_none (fun j h => HA.out j h (by omega)))
      go_wp2
      go_ret
      rw [HR.out]
      exact ⟨rfl, HB.out⟩
end Go.Proofs.Ytdaamgonendkkaa
