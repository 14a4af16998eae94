/- The walk of FnSymbolOf. No condition. -/
import Derived.Test.YtdaamgonendkkaaRows
import Derived.Test.YtdaamgonendkkaaBase
import Derived.Test.YtdaamgonendkkaaBase2
import Derived.Test.YtdaamgonendkkaaBase3
import Derived.Test.YtdaamgonendkkaaOnly
import Derived.Test.YtdaamgonendkkaaIn
import Derived.Test.YtdaamgonendkkaaName
import Derived.Test.YtdaamgonendkkaaSec
import Derived.Test.YtdaamgonendkkaaSecM
import Derived.Test.YtdaamgonendkkaaSym
import Derived.Test.YtdaamgonendkkaaObj
import Derived.Test.YtdaamgonendkkaaFindSym
import Derived.Test.YtdaamgonendkkaaSymO
import Derived.Test.YtdaamgonendkkaaObjI
import Derived.Test.YtdaamgonendkkaaAlive
import Derived.Test.YtdaamgonendkkaaOpenC
import Derived.Test.YtdaamgonendkkaaDobj
import Derived.Test.YtdaamgonendkkaaDme
import Derived.Test.YtdaamgonendkkaaDso
import Derived.WalkKit
import Derived.WalkSpells
import Derived.WalkLawsBesides
import Derived.Handy
import Derived.BigQuiet
import Derived.Deep.RegionHeld3
import Derived.Deep.DrawnRows
import Derived.Deep.QuietTactic
namespace Go.Proofs.Ytdaamgonendkkaa
open Go Go.RowKit

theorem ObjFit.small {x : Obj} (h : ObjFit x) : x.small := by
  refine ⟨by have := h.ls; omega, fun s hs => ?_, by have := h.ly; omega, fun y hy => by have := h.fy y hy; omega⟩
  obtain ⟨h1, h2, h3, h4⟩ := h.fs s hs
  unfold Sec.small
  omega
theorem sPlace_at {ys : List Sym} {nm : ByteArray} {k : Nat} (hk : k < ys.length) (h : ys[k].name = nm) (hb : ∀ j, (h : j < ys.length) → j < k → ys[j].name ≠ nm) : sPlace ys nm = (k : Int) :=
  idxOf_at (p := fun s : Sym => decide (s.name = nm)) hk (by simpa using h) (fun j hj hjk => by simpa using hb j hj hjk)
theorem sPlace_no {ys : List Sym} {nm : ByteArray} (hb : ∀ j, (h : j < ys.length) → ys[j].name ≠ nm) : sPlace ys nm = -1 :=
  idxOf_none (p := fun s : Sym => decide (s.name = nm)) (fun j hj => by simpa using hb j hj)
set_option maxRecDepth 100000 in
set_option maxHeartbeats 8000000 in
theorem FnSymbolOf_walk (W : World) (v0 : Value) (a0 : ArgCode W v0) : Calls Try.prog 6 #[v0] W (Gives W (.bool true)) := by
  obtain ⟨A, c, cs, rfl, hr, hc1, hc2, hcb⟩ := a0
  by_cases hl : cs.length ≤ 1048576
  · have HD := Lib.hid (DrawSymbolOf_any cs W hr hcb hl hc1 hc2)
    clear hcb hr
    unfold maxLen at hc2
    go_enter Try.func6, Try.ntmps6
    go_wp2_with fail
    refine HD.out.mono ?_
    rintro e w1 ⟨x, nm, rfl, hx, hft, hyc, hn9, b1⟩
    clear HD
    have HX : Hid (x.At (w1.alloc (.cells #[.slice x.sA x.secs.length x.sc, .slice x.yA x.syms.length x.yc] 47)) (w1.alloc (.cells #[.slice x.sA x.secs.length x.sc, .slice x.yA x.syms.length x.yc] 47)).heap.size) := (hx.below ((Below.refl _ _).alloc (Nat.le_refl _) _)).more (by simp)
    have HB3 : Hid (Blk (w1.alloc (.cells #[.slice x.sA x.secs.length x.sc, .slice x.yA x.syms.length x.yc] 47)) w1.heap.size 47 x.oc.toArray) := Blk.new _ _ _
    have HG : Hid (Below W.heap.size W (w1.alloc (.cells #[.slice x.sA x.secs.length x.sc, .slice x.yA x.syms.length x.yc] 47))) := b1.alloc b1.size _
    have HFT := Lib.hid hft
    have hsm := hft.small
    have HSM := Lib.hid hsm
    have hl13 := hft.ly
    clear hx b1 hft hsm
    simp only [Obj.val]
    have HI := Lib.hid (fun w' h => implSymOf_any (B := w'.heap.size) x nm w' h (Nat.le_refl _) HSM.out hyc)
    have HS := Lib.hid (fun w' h => specSymOf_any (B := w'.heap.size) x nm w' h (Nat.le_refl _) HSM.out)
    have HV := Lib.hid (fun w' h => implObj_any (B := w'.heap.size) x w' h (Nat.le_refl _) HSM.out hyc)
    simp only [Obj.val] at HI HS HV
    go_wp2_with fail
    obtain ⟨g3, hg3⟩ : ∃ g3, g3 = w1.heap.size := ⟨_, rfl⟩
    rw [← hg3] at HB3 ⊢
    generalize w1.alloc _ = wA at HX HB3 HG ⊢
    clear hg3
    refine (HI.out wA HX.out).mono ?_
    rintro e w2 ⟨rfl, s2⟩
    have HT2 := Lib.hid s2
    have hc20 : w2.cell? ⟨g3, 0, none⟩ = some (.slice x.sA x.secs.length x.sc) := (s2.cell HB3.out.lt).trans (HB3.out.cell 0)
    have hc21 : w2.cell? ⟨g3, 1, none⟩ = some (.slice x.yA x.syms.length x.yc) := (s2.cell HB3.out.lt).trans (HB3.out.cell 1)
    clear s2 HI
    go_wp2_with fail
    refine (HS.out w2 ((HX.out.below HT2.out).more HT2.out.size)).mono ?_
    rintro e w3 ⟨rfl, s3⟩
    have HT3 := Lib.hid (HT2.out.trans (s3.mono HT2.out.size))
    clear s3 HS HT2 hc20 hc21
    by_cases hok : objOk x.secs x.syms = true
    · have HOK := Lib.hid hok
      have HZ : Hid (symOf x.secs x.syms nm = sPlace x.syms nm) := symOf_yes hok
      rw [HZ.out]
      clear hok HZ
      have HAT : Hid (∀ k, (h : k < x.syms.length) → x.syms[k].name = nm → (∀ j, (h : j < x.syms.length) → j < k → x.syms[j].name ≠ nm) → sPlace x.syms nm = (k : Int)) := fun k h h1 h2 => sPlace_at h h1 h2
      have HNO : Hid ((∀ j, (h : j < x.syms.length) → x.syms[j].name ≠ nm) → sPlace x.syms nm = -1) := fun h => sPlace_no h
      rw [HOK.out] at HV
      generalize sPlace x.syms nm = z at *
      go_wp2
      go_loopw [6] (fun iv wr => ∃ k : Nat, k ≤ x.syms.length ∧ iv = .int .i64 k ∧ Hid (Below wA.heap.size wA wr) ∧ Hid (∀ j, (h : j < x.syms.length) → j < k → x.syms[j].name ≠ nm)) (fun iv _ => x.syms.length - (intOf iv).toNat)
      case atStart => exact ⟨0, Nat.zero_le _, rfl, HT3, Lib.hid (fun j _ hj => by omega)⟩
      case round =>
        clear HT3
        obtain ⟨k, hk, rfl, HT, HN⟩ := hrel
        have HXr : Hid (x.At wr wr.heap.size) := (HX.out.below HT.out).more HT.out.size
        have e0 : wr.cell? ⟨g3, 0, none⟩ = some (.slice x.sA x.secs.length x.sc) := (HT.out.cell HB3.out.lt).trans (HB3.out.cell 0)
        have e1 : wr.cell? ⟨g3, 1, none⟩ = some (.slice x.yA x.syms.length x.yc) := (HT.out.cell HB3.out.lt).trans (HB3.out.cell 1)
        by_cases hlt : k < x.syms.length
        · have i1 : (k : Int) < (x.syms.length : Int) := by omega
          have i1d : decide ((k : Int) < (x.syms.length : Int)) = true := decide_eq_true i1
          go_wp2_with fail
          refine (HV.out wr HXr.out).mono ?_
          rintro e w5 ⟨rfl, s5⟩
          have HT5 := Lib.hid (HT.out.trans (s5.mono HT.out.size))
          clear s5 e0 e1 HXr HT
          have HX5 : Hid (x.At w5 w5.heap.size) := (HX.out.below HT5.out).more HT5.out.size
          have e1 : w5.cell? ⟨g3, 1, none⟩ = some (.slice x.yA x.syms.length x.yc) := (HT5.out.cell HB3.out.lt).trans (HB3.out.cell 1)
          obtain ⟨b, off, hA, hbl, c0, c1, c2, c3⟩ := Sym.at_ HX5.out.2 hlt
          rw [hA] at e1
          clear c1 c2 c3 hA
          have i0 : (0 : Int) ≤ (k : Int) := Int.natCast_nonneg _
          have HB9 := Lib.hid (HG.out.trans (HT5.out.mono HG.out.size))
          by_cases hn : x.syms[k].name = nm
          · have hz := HAT.out k hlt hn HN.out
            have hb : (x.syms[k].name.toList == nm.toList) = true := by rw [hn]; exact beq_self_eq_true _
            generalize x.syms[k].name = nk at *
            have hzz : (z == (k : Int)) = true := by rw [hz]; exact beq_self_eq_true _
            clear hz hn
            go_wp2
            go_ret
            exact ⟨rfl, HB9.out⟩
          · have hb : (x.syms[k].name.toList == nm.toList) = false := by rw [beq_eq_false_iff_ne]; exact fun h => hn (toList_inj h)
            have HN2 : Hid (∀ j, (h : j < x.syms.length) → j < k + 1 → x.syms[j].name ≠ nm) := fun j h hj => by
              by_cases hjk : j = k
              · subst hjk; exact hn
              · exact HN.out j h (by omega)
            generalize x.syms[k].name = nk at *
            clear hn
            go_wp2
            go_roundw
            case rel => exact ⟨k + 1, by omega, by go_num, HT5, HN2⟩
            case measure => simp [intOf]; omega
        · obtain rfl : k = x.syms.length := by omega
          have hz := HNO.out (fun j h => HN.out j h h)
          subst hz
          have HB9 := Lib.hid (HG.out.trans (HT.out.mono HG.out.size))
          have i1d : decide ((x.syms.length : Int) < (x.syms.length : Int)) = false := decide_eq_false (by omega)
          go_wp2_with fail
          refine (alive_any _).mono ?_
          rintro e w' ⟨rfl, rfl⟩
          go_wp2
          go_ret
          exact ⟨rfl, HB9.out⟩
    · have hok' : objOk x.secs x.syms = false := by simpa using hok
      have HZ : Hid (symOf x.secs x.syms nm = -1) := symOf_no hok'
      rw [HZ.out]
      rw [hok'] at HV
      clear hok hok' HZ
      have e0 : w3.cell? ⟨g3, 0, none⟩ = some (.slice x.sA x.secs.length x.sc) := (HT3.out.cell HB3.out.lt).trans (HB3.out.cell 0)
      have e1 : w3.cell? ⟨g3, 1, none⟩ = some (.slice x.yA x.syms.length x.yc) := (HT3.out.cell HB3.out.lt).trans (HB3.out.cell 1)
      have HX3 : Hid (x.At w3 w3.heap.size) := (HX.out.below HT3.out).more HT3.out.size
      go_wp2
      go_loopw [6] (fun iv wr => iv = .int .i64 0 ∧ wr = w3) (fun iv _ => 0)
      case atStart => exact ⟨rfl, rfl⟩
      case round =>
        obtain ⟨rfl, rfl⟩ := hrel
        by_cases hly : 0 < x.syms.length
        · have i1 : (0 : Int) < (x.syms.length : Int) := by omega
          go_wp2_with fail
          refine (HV.out _ HX3.out).mono ?_
          rintro e w5 ⟨rfl, s5⟩
          have HB9 := Lib.hid (HG.out.trans ((HT3.out.trans (s5.mono HT3.out.size)).mono HG.out.size))
          clear s5
          go_wp2_with fail
          refine (alive_any _).mono ?_
          rintro e w' ⟨rfl, rfl⟩
          go_wp2
          go_ret
          exact ⟨rfl, HB9.out⟩
        · have i1 : ¬ (0 : Int) < (x.syms.length : Int) := by omega
          have i1d : decide ((0 : Int) < (x.syms.length : Int)) = false := decide_eq_false i1
          have HB9 := Lib.hid (HG.out.trans (HT3.out.mono HG.out.size))
          clear hly
          go_wp2_with fail
          refine (alive_any _).mono ?_
          rintro e w' ⟨rfl, rfl⟩
          go_wp2
          go_ret
          exact ⟨rfl, HB9.out⟩
  · go_enter Try.func6, Try.ntmps6
    go_wp2
    go_ret
    exact ⟨rfl, Below.refl _ _⟩
end Go.Proofs.Ytdaamgonendkkaa
