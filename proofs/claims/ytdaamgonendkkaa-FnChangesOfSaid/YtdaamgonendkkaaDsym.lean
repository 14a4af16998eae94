/- Contract of the drawing of a symbol. Condition: not too many draws. -/
import Derived.Test.YtdaamgonendkkaaRows
import Derived.Test.YtdaamgonendkkaaBase
import Derived.Test.YtdaamgonendkkaaBase2
import Derived.Test.YtdaamgonendkkaaBase3
import Derived.Test.YtdaamgonendkkaaOnly
import Derived.Test.YtdaamgonendkkaaIn
import Derived.Test.YtdaamgonendkkaaName
import Derived.Test.YtdaamgonendkkaaEqB
import Derived.Test.YtdaamgonendkkaaFix
import Derived.Test.YtdaamgonendkkaaSec
import Derived.Test.YtdaamgonendkkaaObjS
import Derived.Test.YtdaamgonendkkaaSym
import Derived.Test.YtdaamgonendkkaaPick
import Derived.Test.YtdaamgonendkkaaPick2
import Derived.Test.YtdaamgonendkkaaReg
import Derived.Test.YtdaamgonendkkaaRegS
import Derived.Test.YtdaamgonendkkaaDrawN
import Derived.Test.YtdaamgonendkkaaRegK
import Derived.Test.YtdaamgonendkkaaKT
import Derived.Test.YtdaamgonendkkaaDby
import Derived.Test.YtdaamgonendkkaaDsec
import Derived.WalkKit
import Derived.WalkSpells
import Derived.WalkLawsBesides
import Derived.Handy
import Derived.BigQuiet
import Derived.Deep.RegionHeld3
import Derived.Deep.DrawnRows
import Derived.Deep.QuietTactic
import Derived.Deep.CutBlock
namespace Go.Proofs.Ytdaamgonendkkaa
open Go Go.RowKit

theorem own_addrS {w : World} {base size : Nat} {t : TypeId} {A : Option Addr} {n c : Nat} {xs : List Value} (h : w.ownsRow base t size (.slice A n c) n xs) (hn : 0 < n) : ∃ g, A = some ⟨g, 0, none⟩ ∧ base ≤ g ∧ g < w.heap.size := by
  rcases h.2 with ⟨_, h0⟩ | ⟨g, cap, cur, hv, hb, hg, _⟩
  · omega
  · injection hv with h1 h2 h3
    exact ⟨g, h1, hb, (Array.getElem?_eq_some_iff.1 hg).1⟩
def TY (t : TypeId) : Prop := t = 80
theorem TY_y : ¬ TY 55 := by unfold TY; decide
theorem TY_r : ¬ TY 90 := by unfold TY; decide
def zSym : Sym := ⟨ByteArray.empty, 0, 0, 0⟩
/-- While a symbol is drawn. -/
structure SymMem (w : World) (r q g6 g7 base : Nat) (A : Option Addr) (c : Nat) (secs : List Sec) (z x : List Value) (wq : World) : Prop where
  z6 : Blk wq g6 55 z.toArray
  b7 : Blk wq g7 55 x.toArray
  os : wq.ownsRow base 80 6 (.slice A secs.length c) secs.length (secs.flatMap Sec.cells)
  rd : Rdr wq r q
  gr : w.grownBy wq (some r)
  hr : r < w.heap.size
  h6 : w.heap.size ≤ g6
  h67 : g6 < g7
section
variable {w wq w' : World} {r q g6 g7 base c : Nat} {A : Option Addr} {secs : List Sec} {z x : List Value}
theorem SymMem.alloc (h : SymMem w r q g6 g7 base A c secs z x wq) (o : Go.Obj) : SymMem w r q g6 g7 base A c secs z x (wq.alloc o) :=
  ⟨h.z6.alloc _, h.b7.alloc _, h.os.alloc _, h.rd.alloc _, gr_alloc h.gr _, h.hr, h.h6, h.h67⟩
theorem SymMem.below (h : SymMem w r q g6 g7 base A c secs z x wq) (hb : Below wq.heap.size wq w') : SymMem w r q g6 g7 base A c secs z x w' :=
  ⟨h.z6.below hb h.z6.lt, h.b7.below hb h.b7.lt, own_below h.os hb, h.rd.below hb, gr_below h.gr hb, h.hr, h.h6, h.h67⟩
theorem SymMem.pick {q' : Nat} (h : SymMem w r q g6 g7 base A c secs z x wq) (hr' : Rdr w' r q') (hg : wq.grownBy w' (some r)) : SymMem w r q' g6 g7 base A c secs z x w' :=
  ⟨h.z6.grown hg (by have := h.hr; have := h.h6; simp; omega), h.b7.grown hg (by have := h.hr; have := h.h6; have := h.h67; simp; omega), (KeepT.of_pick (T := TY) h.rd hg TY_r).own h.os rfl, hr', gr_trans h.gr hg, h.hr, h.h6, h.h67⟩
theorem SymMem.put (h : SymMem w r q g6 g7 base A c secs z x wq) (i : Nat) (u : Value) : SymMem w r q g6 g7 base A c secs z (x.set i u) (wq.setCell ⟨g7, i, none⟩ u) :=
  ⟨h.z6.far (by have := h.h67; simp only [ne_eq]; omega) _, by have := h.b7.set_ i u; simpa using this, (KeepT.of_set (T := TY) h.b7 TY_y i u).own h.os rfl, h.rd.setCell (by have := h.hr; have := h.h6; have := h.h67; simp only; omega) _, gr_setCell h.gr (by have := h.h6; have := h.h67; simp only; omega) _, h.hr, h.h6, h.h67⟩
theorem SymMem.put6 (h : SymMem w r q g6 g7 base A c secs z x wq) (i : Nat) (u : Value) : SymMem w r q g6 g7 base A c secs (z.set i u) x (wq.setCell ⟨g6, i, none⟩ u) :=
  ⟨by have := h.z6.set_ i u; simpa using this, h.b7.far (by have := h.h67; simp only [ne_eq]; omega) _, (KeepT.of_set (T := TY) h.z6 TY_y i u).own h.os rfl, h.rd.setCell (by have := h.hr; have := h.h6; have := h.h67; simp only; omega) _, gr_setCell h.gr (by have := h.h6; simp only; omega) _, h.hr, h.h6, h.h67⟩
theorem SymMem.cells (h : SymMem w r q g6 g7 base A c secs z x wq) (i : Nat) : wq.cell? ⟨g7, i, none⟩ = x.toArray[i]? := h.b7.cell i
theorem SymMem.free (h : SymMem w r q g6 g7 base A c secs z x wq) (i : Nat) : wq.frozen? ⟨g7, i, none⟩ = false := h.b7.frozen i
theorem SymMem.size (h : SymMem w r q g6 g7 base A c secs z x wq) : w.heap.size ≤ wq.heap.size ∧ r < wq.heap.size ∧ g7 < wq.heap.size ∧ g6 < wq.heap.size := ⟨h.gr.size, by have := h.gr.size; have := h.hr; omega, h.b7.lt, h.z6.lt⟩
end
/-- A symbol was drawn. -/
def DrewSym (w : World) (r P : Nat) (e : Ending) (w' : World) : Prop := ∃ x : Sym, e = .returned x.val ∧ x.name.size ≤ 9 ∧ Rdr w' r (P + 30) ∧ w.grownBy w' (some r)
set_option maxRecDepth 100000 in
set_option maxHeartbeats 8000000 in
theorem l20Symbol_any {A : Option Addr} {c base : Nat} (r P : Nat) (secs : List Sec) (n : Int) (w : World) (hr : Rdr w r P) (hP : P ≤ 100000) (os : w.ownsRow base 80 6 (.slice A secs.length c) secs.length (secs.flatMap Sec.cells)) (hsl : secs.length ≤ 100) (hsz : ∀ s ∈ secs, 0 ≤ secSize s ∧ secSize s ≤ 48) (hn : n = 0 ∨ n = 1) :
    Calls Try.prog 76 #[.pointer (some ⟨r, 0, none⟩), .slice A secs.length c, .int .i64 n] w (DrewSym w r P) := by
  have hrl := hr.lt
  have HR := Lib.hid hr
  have HNN := Lib.hid hn
  have HOS := Lib.hid os
  have HSZ := Lib.hid hsz
  clear hr hn os hsz
  go_enter Try.func76, Try.ntmps76
  go_wp2_with fail
  refine (l20Name_any r P 0 _ (HR.out.alloc _) (by omega) (by omega) (by omega)).mono ?_
  rintro e w1 ⟨nm, rfl, ⟨hnm, _⟩, hr1, hg1⟩
  go_wp2_with fail
  refine (pick_any r _ 4 _ (hr1.alloc _) (by omega) (by omega) (by omega)).mono ?_
  rintro e w3 ⟨v3, rfl, ⟨v3a, v3b⟩, hr3, hg3⟩
  have z1 := hg1.size
  have z3 := hg3.size
  simp only [World.size_alloc] at z1 z3
  have hK : Blk w3 w1.heap.size 3 (nums .i64 [0, 1, 1, 2]).toArray := (Blk.new w1 3 (nums .i64 [0, 1, 1, 2]).toArray).grown hg3 (by simp; omega)
  obtain ⟨bd, hbd, hcal⟩ := lit_at hK v3a (by simp; omega)
  have HM : Hid (SymMem w r (P + 3) w.heap.size w3.heap.size base A c secs zSym.cells [.string nm, .int .i64 bd, .int .i64 0, .int .i64 0] (w3.alloc (.cells #[.string nm, .int .i64 bd, .int .i64 0, .int .i64 0] 55))) := by
    have zz : Blk w3 w.heap.size 55 zSym.cells.toArray := (((Blk.new w 55 zSym.cells.toArray).grown hg1 (by simp; omega)).alloc _).grown hg3 (by simp; omega)
    have hgg : w.grownBy w3 (some r) := gr_trans (gr_alloc (gr_trans (gr_alloc (grown_refl w (some r)) _) hg1) _) hg3
    have ho1 := (KeepT.of_pick (T := TY) (HR.out.alloc _) hg1 TY_r).own (HOS.out.alloc _) rfl
    have ho3 := (KeepT.of_pick (T := TY) (hr1.alloc _) hg3 TY_r).own (ho1.alloc _) rfl
    exact ⟨zz.alloc _, Blk.new w3 55 _, ho3.alloc _, hr3.alloc _, gr_alloc hgg _, hrl, Nat.le_refl _, by omega⟩
  clear hK hbd hg1 hg3 hr1 hr3 HR HOS
  go_upto_block 0 with fail
  clear hcal
  obtain ⟨g7, hg7⟩ : ∃ g7, g7 = w3.heap.size := ⟨_, rfl⟩
  rw [← hg7] at HM ⊢
  generalize w3.alloc _ = W0 at HM ⊢
  clear z1 z3 hg7
  go_cut [] from 8 (fun wc => ∃ (x : Sym) (q : Nat), Hid (SymMem w r q w.heap.size g7 base A c secs zSym.cells x.cells wc) ∧ q ≤ P + 10 ∧ x.name.size ≤ 9)
  case first =>
    go_wp2_with fail
    refine (pick_any r _ 3 _ HM.out.rd (by omega) (by omega) (by omega)).mono ?_
    rintro e w4 ⟨v4, rfl, ⟨v4a, v4b⟩, hr4, hg4⟩
    have HM4 := Lib.hid (HM.out.pick hr4 hg4)
    have hz4 := HM4.out.size
    clear HM hr4 hg4
    by_cases hv : v4 = 0
    · subst hv
      obtain ⟨e1, f1⟩ : w4.cell? ⟨g7, 1, none⟩ = some (.int .i64 bd) ∧ w4.frozen? ⟨g7, 1, none⟩ = false := ⟨HM4.out.cells 1, HM4.out.free 1⟩
      obtain ⟨e2, f2⟩ : w4.cell? ⟨g7, 2, none⟩ = some (.int .i64 0) ∧ w4.frozen? ⟨g7, 2, none⟩ = false := ⟨HM4.out.cells 2, HM4.out.free 2⟩
      have HF : ∀ u : Int, Hid (SymMem w r (P + 3 + 1) w.heap.size g7 base A c secs zSym.cells (Sym.mk nm u (-1) 0).cells ((w4.setCell ⟨g7, 2, none⟩ (.int .i64 (-1))).setCell ⟨g7, 1, none⟩ (.int .i64 u))) := fun u => (HM4.out.put 2 (.int .i64 (-1))).put 1 (.int .i64 u)
      have HF' := Lib.hid HF
      clear HM4 HF
      go_wp2
      all_goals
        go_meet
        case rel => exact ⟨Sym.mk nm _ (-1) 0, _, HF'.out _, by omega, hnm⟩
    · have hvb : (v4 == 0) = false := by rw [beq_eq_false_iff_ne]; exact hv
      clear hv
      go_wp2_with fail
      refine (pick_any r _ 6 _ HM4.out.rd (by omega) (by omega) (by omega)).mono ?_
      rintro e w5 ⟨v5, rfl, ⟨v5a, v5b⟩, hr5, hg5⟩
      have HM5 := Lib.hid (HM4.out.pick hr5 hg5)
      have hz5 := HM5.out.size
      obtain ⟨e2, f2⟩ : w5.cell? ⟨g7, 2, none⟩ = some (.int .i64 0) ∧ w5.frozen? ⟨g7, 2, none⟩ = false := ⟨HM5.out.cells 2, HM5.out.free 2⟩
      clear HM4 hr5 hg5 hz4
      by_cases hc : v5 = 0 ∨ secs.length = 0
      · have hkey : ((v5 == 0) = true) ∨ ((v5 == 0) = false ∧ ((secs.length : Int) == 0) = true) := by
          by_cases h0 : v5 = 0
          · exact .inl (by rw [h0]; rfl)
          · exact .inr ⟨by rw [beq_eq_false_iff_ne]; exact h0, by rw [hc.resolve_left h0]; rfl⟩
        have HP5 := Lib.hid (HM5.out.put 2 (.int .i64 (-2)))
        clear hc HM5
        rcases hkey with k1 | ⟨k1, k2⟩
        all_goals
          go_wp2_with fail
          generalize w5.setCell _ _ = W5 at HP5 ⊢
          clear e2 f2
          refine (pick_any r _ 256 _ HP5.out.rd (by omega) (by omega) (by omega)).mono ?_
          rintro e w6 ⟨v6, rfl, ⟨v6a, v6b⟩, hr6, hg6⟩
          have HM6 := Lib.hid (HP5.out.pick hr6 hg6)
          have hz6 := HM6.out.size
          have y6 : IntKind.i64.wrap (v6 * 16) = v6 * 16 := IntWalk.i64_in _ (by omega)
          clear HP5 hr6 hg6
          go_wp2_with fail
          refine (pick_any r _ 6 _ (HM6.out.alloc _).rd (by omega) (by omega) (by omega)).mono ?_
          rintro e w7 ⟨v7, rfl, ⟨v7a, v7b⟩, hr7, hg7⟩
          have HM7 := Lib.hid ((HM6.out.alloc (.cells #[.int .i64 (v6 * 16), .int .i64 60000] 3)).pick hr7 hg7)
          have hK : Blk w7 w6.heap.size 3 (nums .i64 [v6 * 16, 60000]).toArray := (Blk.new w6 3 (nums .i64 [v6 * 16, 60000]).toArray).grown hg7 (by simp; omega)
          have y7 : IntKind.i64.wrap (v7.tdiv 5) = v7 / 5 := quo_wrap v7a (by omega) (by omega)
          have yq0 : 0 ≤ v7 / 5 := by omega
          have yq1 : v7 / 5 < 2 := by omega
          obtain ⟨sz, hsz, hcs⟩ := lit_at hK yq0 (by simp; omega)
          obtain ⟨e3, f3⟩ : w7.cell? ⟨g7, 3, none⟩ = some (.int .i64 0) ∧ w7.frozen? ⟨g7, 3, none⟩ = false := ⟨HM7.out.cells 3, HM7.out.free 3⟩
          have HF : Hid (SymMem w r _ w.heap.size g7 base A c secs zSym.cells (Sym.mk nm bd (-2) sz).cells (w7.setCell ⟨g7, 3, none⟩ (.int .i64 sz))) := HM7.out.put 3 (.int .i64 sz)
          clear hK hsz hr7 hg7 HM6 HM7
          go_wp2
          go_meet
          case rel => exact ⟨_, _, HF, by omega, hnm⟩
      · have k1 : (v5 == 0) = false := by rw [beq_eq_false_iff_ne]; omega
        have k2 : ((secs.length : Int) == 0) = false := by rw [beq_eq_false_iff_ne]; omega
        have hsp : 1 ≤ secs.length := by omega
        clear hc
        go_wp2_with fail
        refine (pick_any r _ (secs.length : Int) _ HM5.out.rd (by omega) (by omega) (by omega)).mono ?_
        rintro e w6 ⟨v6, rfl, ⟨v6a, v6b⟩, hr6, hg6⟩
        have HM6 := Lib.hid (HM5.out.pick hr6 hg6)
        have hz6 := HM6.out.size
        clear HM5 hr6 hg6 e2 f2
        obtain ⟨k, rfl⟩ := Int.eq_ofNat_of_zero_le v6a
        have hk : k < secs.length := by omega
        have hki : (k : Int) < (secs.length : Int) := by omega
        obtain ⟨e2, f2⟩ : w6.cell? ⟨g7, 2, none⟩ = some (.int .i64 0) ∧ w6.frozen? ⟨g7, 2, none⟩ = false := ⟨HM6.out.cells 2, HM6.out.free 2⟩
        have HP6 := Lib.hid (HM6.out.put 2 (.int .i64 (k : Int)))
        have hsk := HSZ.out _ (List.getElem_mem hk)
        have HSS := Lib.hid (specSize_any secs[k])
        have HC : Hid (∃ b, A = some ⟨b, 0, none⟩ ∧ b ≠ g7 ∧ ∀ i, i < 6 → w6.cell? ⟨b, k * 6 + i, none⟩ = secs[k].cells[i]?) := by
          obtain ⟨b, off, hA, hbl, _⟩ := Sec.at_ (Reads.of_own HM6.out.os) hk
          obtain ⟨g, hg1, _, _⟩ := own_addrS HM6.out.os (by omega)
          refine ⟨g, hg1, fun e => ?_, fun i hi => ?_⟩
          · have h1 := own_blk_ne HM6.out.os HM6.out.b7 (by decide)
            rw [hg1] at h1
            exact h1 (by simp [Value.ownBlock, e])
          · have h1 := HM6.out.os
            rw [hg1] at h1
            have h2 := h1.cellAt (k * 6 + i) (by omega)
            rw [h2]
            exact flat_get Sec.cells 6 Sec.cells_len secs k i hk hi
        obtain ⟨b, rfl, hbg, hcc⟩ := HC.out
        have c0 : w6.cell? ⟨b, k * 6, none⟩ = some (.string secs[k].name) := hcc 0 (by omega)
        have c1 : w6.cell? ⟨b, k * 6 + 1, none⟩ = some (.int .i64 secs[k].kind) := hcc 1 (by omega)
        have c2 : w6.cell? ⟨b, k * 6 + 2, none⟩ = some (.int .i64 secs[k].align) := hcc 2 (by omega)
        have c3 : w6.cell? ⟨b, k * 6 + 3, none⟩ = some (.slice secs[k].bytesA secs[k].bytes.length secs[k].bytesc) := hcc 3 (by omega)
        have c4 : w6.cell? ⟨b, k * 6 + 4, none⟩ = some (.int .i64 secs[k].size) := hcc 4 (by omega)
        have c5 : w6.cell? ⟨b, k * 6 + 5, none⟩ = some (.slice secs[k].fixupsA secs[k].fixups.length secs[k].fixupsc) := hcc 5 (by omega)
        simp only [Sec.val] at HSS
        generalize secs[k] = sk at *
        have hbg' : ¬ g7 = b := fun e => hbg e.symm
        have hbg2 : ¬ b = g7 := hbg
        clear hcc HC hbg HM6
        have y8 : IntKind.i64.wrap (secSize sk + 1) = secSize sk + 1 := IntWalk.i64_in _ (by omega)
        go_wp2_with fail
        generalize w6.setCell _ _ = W6 at HP6 ⊢
        refine (HSS.out W6).mono ?_
        rintro e w7 ⟨rfl, hb7⟩
        have HM7 := Lib.hid (HP6.out.below hb7)
        clear e2 f2 c0 c1 c2 c3 c4 c5 HP6 hb7 HSS
        go_wp2_with fail
        refine (pick_any r _ (secSize sk + 1) _ HM7.out.rd (by omega) (by omega) (by omega)).mono ?_
        rintro e w8 ⟨v8, rfl, ⟨v8a, v8b⟩, hr8, hg8⟩
        have HM8 := Lib.hid (HM7.out.pick hr8 hg8)
        obtain ⟨e3, f3⟩ : w8.cell? ⟨g7, 3, none⟩ = some (.int .i64 0) ∧ w8.frozen? ⟨g7, 3, none⟩ = false := ⟨HM8.out.cells 3, HM8.out.free 3⟩
        have HF : Hid (SymMem w r _ w.heap.size g7 base _ c secs zSym.cells (Sym.mk nm bd (k : Int) v8).cells (w8.setCell ⟨g7, 3, none⟩ (.int .i64 v8))) := HM8.out.put 3 (.int .i64 v8)
        clear HM7 HM8 hr8 hg8 y8
        go_wp2
        go_meet
        case rel => exact ⟨_, _, HF, by omega, hnm⟩
  case rest =>
    clear HM
    obtain ⟨x, q, HM, hq, hx9⟩ := hcut
    have HODD : Hid (Calls Try.prog 77 #[.pointer (some ⟨r, 0, none⟩), .int .i64 n] wc fun e w' => ∃ b : Bool, e = .returned (.bool b) ∧ Rdr w' r (q + 1) ∧ wc.grownBy w' (some r)) := by
      rcases HNN.out with h | h
      all_goals
        rw [h]
        refine (odd_any r q _ wc HM.out.rd (by omega) (by omega) (by omega)).mono ?_
        rintro e w' ⟨b, rfl, hr', hg'⟩
        exact ⟨b, rfl, hr', hg'⟩
    clear v3a v3b hnm
    go_wp2_with fail
    refine HODD.out.mono ?_
    rintro e w4 ⟨b, rfl, hr4, hg4⟩
    have HM4 := Lib.hid (HM.out.pick hr4 hg4)
    clear HM hr4 hg4 HODD HNN
    go_upto_if 62 with fail
    go_cut [] from 8 (fun wc => ∃ (x : Sym) (q : Nat), Hid (SymMem w r q w.heap.size g7 base A c secs zSym.cells x.cells wc) ∧ q ≤ P + 20 ∧ x.name.size ≤ 9)
    case first =>
      cases b
      · go_wp2
        go_meet
        case rel => exact ⟨x, _, HM4, by omega, hx9⟩
      · go_wp2_with fail
        refine (pick_any r _ 5 _ HM4.out.rd (by omega) (by omega) (by omega)).mono ?_
        rintro e w5 ⟨v, rfl, ⟨va, vb⟩, hr5, hg5⟩
        have HM5 := Lib.hid (HM4.out.pick hr5 hg5)
        have hz5 := HM5.out.size
        clear HM4 hr5 hg5
        have hvs : v = 0 ∨ v = 1 ∨ v = 2 ∨ v = 3 ∨ v = 4 := by omega
        rcases hvs with rfl | rfl | rfl | rfl | rfl
        · go_wp2_with fail
          refine (l20Name_any r _ 1 _ HM5.out.rd (by omega) (by omega) (by omega)).mono ?_
          rintro e w6 ⟨s, rfl, ⟨hs9, _⟩, hr6, hg6⟩
          have HM6 := Lib.hid (HM5.out.pick hr6 hg6)
          clear HM5 hr6 hg6
          obtain ⟨ei, fi⟩ : w6.cell? ⟨g7, 0, none⟩ = some (.string x.name) ∧ w6.frozen? ⟨g7, 0, none⟩ = false := ⟨HM6.out.cells 0, HM6.out.free 0⟩
          have HF : Hid (SymMem w r _ w.heap.size g7 base A c secs zSym.cells (Sym.mk s x.bind x.where_ x.value).cells (w6.setCell ⟨g7, 0, none⟩ (.string s))) := HM6.out.put 0 (.string s)
          clear HM6
          go_wp2
          go_meet
          case rel => exact ⟨_, _, HF, by omega, hs9⟩
        · go_wp2_with fail
          refine (pick_any r _ 2 _ (HM5.out.alloc _).rd (by omega) (by omega) (by omega)).mono ?_
          rintro e w6 ⟨u, rfl, ⟨ua, ub⟩, hr6, hg6⟩
          have HM6 := Lib.hid ((HM5.out.alloc (.cells #[.int .i64 (-1), .int .i64 3] 3)).pick hr6 hg6)
          have hK : Blk w6 w5.heap.size 3 (nums .i64 [-1, 3]).toArray := (Blk.new w5 3 (nums .i64 [-1, 3]).toArray).grown hg6 (by simp; omega)
          obtain ⟨sz, hsz, hc⟩ := lit_at hK ua (by simp; omega)
          clear hK hsz HM5 hr6 hg6
          obtain ⟨ei, fi⟩ : w6.cell? ⟨g7, 1, none⟩ = some (.int .i64 x.bind) ∧ w6.frozen? ⟨g7, 1, none⟩ = false := ⟨HM6.out.cells 1, HM6.out.free 1⟩
          have HF : Hid (SymMem w r _ w.heap.size g7 base A c secs zSym.cells (Sym.mk x.name sz x.where_ x.value).cells (w6.setCell ⟨g7, 1, none⟩ (.int .i64 sz))) := HM6.out.put 1 (.int .i64 sz)
          clear HM6
          go_wp2
          go_meet
          case rel => exact ⟨_, _, HF, by omega, hx9⟩
        · go_wp2_with fail
          refine (pick_any r _ 2 _ (HM5.out.alloc _).rd (by omega) (by omega) (by omega)).mono ?_
          rintro e w6 ⟨u, rfl, ⟨ua, ub⟩, hr6, hg6⟩
          have HM6 := Lib.hid ((HM5.out.alloc (.cells #[.int .i64 (-3), .int .i64 (secs.length : Int)] 3)).pick hr6 hg6)
          have hK : Blk w6 w5.heap.size 3 (nums .i64 [-3, (secs.length : Int)]).toArray := (Blk.new w5 3 (nums .i64 [-3, (secs.length : Int)]).toArray).grown hg6 (by simp; omega)
          obtain ⟨sz, hsz, hc⟩ := lit_at hK ua (by simp; omega)
          clear hK hsz HM5 hr6 hg6
          obtain ⟨ei, fi⟩ : w6.cell? ⟨g7, 2, none⟩ = some (.int .i64 x.where_) ∧ w6.frozen? ⟨g7, 2, none⟩ = false := ⟨HM6.out.cells 2, HM6.out.free 2⟩
          have HF : Hid (SymMem w r _ w.heap.size g7 base A c secs zSym.cells (Sym.mk x.name x.bind sz x.value).cells (w6.setCell ⟨g7, 2, none⟩ (.int .i64 sz))) := HM6.out.put 2 (.int .i64 sz)
          clear HM6
          go_wp2
          go_meet
          case rel => exact ⟨_, _, HF, by omega, hx9⟩
        · go_wp2_with fail
          refine (pick_any r _ 2 _ (HM5.out.alloc _).rd (by omega) (by omega) (by omega)).mono ?_
          rintro e w6 ⟨u, rfl, ⟨ua, ub⟩, hr6, hg6⟩
          have HM6 := Lib.hid ((HM5.out.alloc (.cells #[.int .i64 (-1), .int .i64 60001] 3)).pick hr6 hg6)
          have hK : Blk w6 w5.heap.size 3 (nums .i64 [-1, 60001]).toArray := (Blk.new w5 3 (nums .i64 [-1, 60001]).toArray).grown hg6 (by simp; omega)
          obtain ⟨sz, hsz, hc⟩ := lit_at hK ua (by simp; omega)
          clear hK hsz HM5 hr6 hg6
          obtain ⟨ei, fi⟩ : w6.cell? ⟨g7, 3, none⟩ = some (.int .i64 x.value) ∧ w6.frozen? ⟨g7, 3, none⟩ = false := ⟨HM6.out.cells 3, HM6.out.free 3⟩
          have HF : Hid (SymMem w r _ w.heap.size g7 base A c secs zSym.cells (Sym.mk x.name x.bind x.where_ sz).cells (w6.setCell ⟨g7, 3, none⟩ (.int .i64 sz))) := HM6.out.put 3 (.int .i64 sz)
          clear HM6
          go_wp2
          go_meet
          case rel => exact ⟨_, _, HF, by omega, hx9⟩
        · obtain ⟨e0, f0⟩ : w5.cell? ⟨g7, 0, none⟩ = some (.string x.name) ∧ w5.frozen? ⟨g7, 0, none⟩ = false := ⟨HM5.out.cells 0, HM5.out.free 0⟩
          obtain ⟨e1, f1⟩ : w5.cell? ⟨g7, 1, none⟩ = some (.int .i64 x.bind) ∧ w5.frozen? ⟨g7, 1, none⟩ = false := ⟨HM5.out.cells 1, HM5.out.free 1⟩
          obtain ⟨e2, f2⟩ : w5.cell? ⟨g7, 2, none⟩ = some (.int .i64 x.where_) ∧ w5.frozen? ⟨g7, 2, none⟩ = false := ⟨HM5.out.cells 2, HM5.out.free 2⟩
          obtain ⟨e3, f3⟩ : w5.cell? ⟨g7, 3, none⟩ = some (.int .i64 x.value) ∧ w5.frozen? ⟨g7, 3, none⟩ = false := ⟨HM5.out.cells 3, HM5.out.free 3⟩
          have HF : Hid (SymMem w r _ w.heap.size g7 base A c secs zSym.cells (Sym.mk ⟨#[120]⟩ 0 (-1) 0).cells ((((w5.setCell ⟨g7, 0, none⟩ (.string ⟨#[120]⟩)).setCell ⟨g7, 1, none⟩ (.int .i64 0)).setCell ⟨g7, 2, none⟩ (.int .i64 (-1))).setCell ⟨g7, 3, none⟩ (.int .i64 0))) := (((HM5.out.put 0 (.string ⟨#[120]⟩)).put 1 (.int .i64 0)).put 2 (.int .i64 (-1))).put 3 (.int .i64 0)
          clear HM5
          go_wp2
          go_meet
          case rel => exact ⟨_, _, HF, by omega, by decide⟩
    case rest =>
      clear HM4
      obtain ⟨x, q, HM, hq, hx9⟩ := hcut
      have e0 : wc.cell? ⟨g7, 0, none⟩ = some (.string x.name) := HM.out.cells 0
      have e1 : wc.cell? ⟨g7, 1, none⟩ = some (.int .i64 x.bind) := HM.out.cells 1
      have e2 : wc.cell? ⟨g7, 2, none⟩ = some (.int .i64 x.where_) := HM.out.cells 2
      have e3 : wc.cell? ⟨g7, 3, none⟩ = some (.int .i64 x.value) := HM.out.cells 3
      have z0 : wc.cell? ⟨w.heap.size, 0, none⟩ = some (.string ByteArray.empty) := HM.out.z6.cell 0
      have z1 : wc.cell? ⟨w.heap.size, 1, none⟩ = some (.int .i64 0) := HM.out.z6.cell 1
      have z2 : wc.cell? ⟨w.heap.size, 2, none⟩ = some (.int .i64 0) := HM.out.z6.cell 2
      have z3 : wc.cell? ⟨w.heap.size, 3, none⟩ = some (.int .i64 0) := HM.out.z6.cell 3
      have f0 : wc.frozen? ⟨w.heap.size, 0, none⟩ = false := HM.out.z6.frozen 0
      have f1 : wc.frozen? ⟨w.heap.size, 1, none⟩ = false := HM.out.z6.frozen 1
      have f2 : wc.frozen? ⟨w.heap.size, 2, none⟩ = false := HM.out.z6.frozen 2
      have f3 : wc.frozen? ⟨w.heap.size, 3, none⟩ = false := HM.out.z6.frozen 3
      have HRES : Hid (SymMem w r q w.heap.size g7 base A c secs x.cells x.cells ((((wc.setCell ⟨w.heap.size, 0, none⟩ (.string x.name)).setCell ⟨w.heap.size, 1, none⟩ (.int .i64 x.bind)).setCell ⟨w.heap.size, 2, none⟩ (.int .i64 x.where_)).setCell ⟨w.heap.size, 3, none⟩ (.int .i64 x.value))) :=
        (((HM.out.put6 0 (.string x.name)).put6 1 (.int .i64 x.bind)).put6 2 (.int .i64 x.where_)).put6 3 (.int .i64 x.value)
      clear HM
      go_wp2
      generalize World.setCell _ ⟨w.heap.size, 3, none⟩ _ = WF at HRES ⊢
      have y0 : WF.cell? ⟨w.heap.size, 0, none⟩ = some (.string x.name) := HRES.out.z6.cell 0
      have y1 : WF.cell? ⟨w.heap.size, 1, none⟩ = some (.int .i64 x.bind) := HRES.out.z6.cell 1
      have y2 : WF.cell? ⟨w.heap.size, 2, none⟩ = some (.int .i64 x.where_) := HRES.out.z6.cell 2
      have y3 : WF.cell? ⟨w.heap.size, 3, none⟩ = some (.int .i64 x.value) := HRES.out.z6.cell 3
      refine bodyPost_ret (v := x.val) (by simp [results, Try.results76, go_sem, y0, y1, y2, y3, Sym.val]) rfl ?_
      exact ⟨x, rfl, hx9, HRES.out.rd.more (by omega), HRES.out.gr⟩
end Go.Proofs.Ytdaamgonendkkaa
