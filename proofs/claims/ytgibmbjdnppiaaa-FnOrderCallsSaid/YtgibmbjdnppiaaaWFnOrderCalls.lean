/- The walk of FnOrderCalls. Condition: the argument was opened. -/
import Derived.Test.YtgibmbjdnppiaaaRows
import Derived.Test.YtgibmbjdnppiaaaBase
import Derived.Test.YtgibmbjdnppiaaaBase2
import Derived.Test.YtgibmbjdnppiaaaBase3
import Derived.Test.YtgibmbjdnppiaaaIn
import Derived.Test.YtgibmbjdnppiaaaIn2
import Derived.Test.YtgibmbjdnppiaaaEdge
import Derived.Test.YtgibmbjdnppiaaaEdgeV
import Derived.Test.YtgibmbjdnppiaaaEdgeW
import Derived.Test.YtgibmbjdnppiaaaCallP
import Derived.Test.YtgibmbjdnppiaaaCall
import Derived.Test.YtgibmbjdnppiaaaSameI
import Derived.Test.YtgibmbjdnppiaaaAlive
import Derived.Test.YtgibmbjdnppiaaaPick
import Derived.Test.YtgibmbjdnppiaaaPick2
import Derived.Test.YtgibmbjdnppiaaaOpen
import Derived.Test.YtgibmbjdnppiaaaOpenC
import Derived.Test.YtgibmbjdnppiaaaDrawE
import Derived.Test.YtgibmbjdnppiaaaOrdP
import Derived.Test.YtgibmbjdnppiaaaOrdI
import Derived.Test.YtgibmbjdnppiaaaOrdS
import Derived.Test.YtgibmbjdnppiaaaReg
import Derived.Test.YtgibmbjdnppiaaaRegS
import Derived.WalkKit
import Derived.WalkSpells
import Derived.WalkLawsBesides
import Derived.Handy
import Derived.BigQuiet
import Derived.Deep.RegionHeld3
import Derived.Deep.DrawnRows
import Derived.Deep.QuietTactic
import Derived.Deep.CutBlock
namespace Go.Proofs.Ytgibmbjdnppiaaa
open Go Go.RowKit

def DrewOC (w : World) (e : Ending) (w' : World) : Prop :=
  ∃ (many : Int) (A : Option Addr) (c : Nat) (xs : List Edg), e = .returned (.tuple #[.int .i64 many, .slice A xs.length c]) ∧ w'.ownsRow w.heap.size 33 3 (.slice A xs.length c) xs.length (xs.flatMap Edg.cells) ∧
    (0 ≤ many ∧ many ≤ 9) ∧ xs.length ≤ 8 ∧ Below w.heap.size w w'
set_option maxRecDepth 100000 in
set_option maxHeartbeats 4000000 in
theorem DrawOrderCalls_any {A : Option Addr} {c : Nat} (xs : List Int) (w : World) (h1 : Reads w w.heap.size 1 A xs.length (nums .u8 xs)) (hx : ∀ x ∈ xs, 0 ≤ x ∧ x ≤ 255) (hm : xs.length ≤ 1048576) (hc : xs.length ≤ c) (hc2 : c ≤ maxLen) :
    Calls Try.prog 26 #[.slice A xs.length c] w (DrewOC w) := by
  have HO := Lib.hid (open_any xs w h1 hx hm hc hc2)
  clear h1 hx
  go_enter Try.func26, Try.ntmps26
  go_wp2_with fail
  refine HO.out.mono ?_
  rintro e w1 ⟨rfl, hr, hz, hb⟩
  have HZ := Lib.hid hz
  clear hz
  go_wp2_with fail
  refine (l20Edges_any _ 0 9 _ hr (by omega) (by omega) (by omega)).mono ?_
  rintro e w2 ⟨many, A1, c1, es, rfl, oa, hm1, hl, hr2, hg⟩
  go_wp2
  refine bodyPost_ret (v := .tuple #[.int .i64 many, .slice A1 es.length c1]) (by simp [results, Try.results26, go_sem]) rfl ?_
  exact ⟨many, A1, c1, es, rfl, own_base oa hb.size, hm1, hl, below_gr hb hg (Nat.le_refl _)⟩
theorem reads_first {w : World} {B : Nat} {A : Option Addr} {es : List Edg} (h : Reads w B 3 A es.length (es.flatMap Edg.cells)) (h0 : 0 < es.length) : Reads w B 3 A 1 ([es[0]].flatMap Edg.cells) := by
  obtain ⟨b, off, rfl, hb, x0, x1, x2⟩ := Edg.at_ h h0
  refine ⟨rfl, fun _ => ⟨_, rfl, hb, fun j u hu => ?_⟩⟩
  match j, hu with
  | 0, hu =>
    have e : u = .int .i64 es[0].from_ := by simpa [Edg.cells] using hu.symm
    subst e
    simpa [Addr.add_lit] using x0
  | 1, hu =>
    have e : u = .int .i64 es[0].to_ := by simpa [Edg.cells] using hu.symm
    subst e
    simpa [Addr.add_lit] using x1
  | 2, hu =>
    have e : u = .int .i64 es[0].count := by simpa [Edg.cells] using hu.symm
    subst e
    simpa [Addr.add_lit] using x2
  | j + 3, hu => simp [Edg.cells] at hu
set_option maxRecDepth 100000 in
set_option maxHeartbeats 8000000 in
theorem FnOrderCalls_walk (W : World) (v0 : Value) (a0 : ArgCode W v0) : Calls Try.prog 8 #[v0] W (Gives W (.bool true)) := by
  obtain ⟨A, c, cs, rfl, hr, hc1, hc2, hcb⟩ := a0
  by_cases hl : cs.length ≤ 1048576
  · have HD := Lib.hid (DrawOrderCalls_any cs W hr hcb hl hc1 hc2)
    clear hcb hr
    unfold maxLen at hc2
    go_enter Try.func8, Try.ntmps8
    go_wp2_with fail
    refine HD.out.mono ?_
    rintro e w1 ⟨many, AE, cE, es, rfl, oe, hmb, hel, b1⟩
    clear HD
    have hsm := ordR_small many es
    go_wp2_with fail
    refine (implOrder_any many es _ (Reads.of_own oe) (Nat.le_refl _) (by omega)).mono ?_
    rintro e w2 ⟨AX, cX, rfl, ox, s2⟩
    have HX2 := Lib.hid ox
    have HE2 := Lib.hid (own_below oe s2)
    have HB2 : Hid (Below W.heap.size W w2) := b1.trans (s2.mono b1.size)
    clear ox oe b1
    have hs2 := s2.size
    clear s2
    go_wp2_with fail
    refine (specOrder_any many es _ (Reads.of_own HE2.out) (Nat.le_refl _) (by omega)).mono ?_
    rintro e w3 ⟨AY, cY, rfl, oy, s3⟩
    have HX3 := Lib.hid (own_below HX2.out s3)
    have HE3 := Lib.hid (own_below HE2.out s3)
    have HB3 : Hid (Below W.heap.size W w3) := HB2.out.trans (s3.mono HB2.out.size)
    have hs3 := s3.size
    clear s3 HX2 HE2 HB2
    go_wp2_with fail
    refine (sameInts_any _ _ _ _ _ _ (ordR many es) (ordR many es) _ (Reads.of_own HX3.out) (Reads.of_own oy) (by omega) (by omega)).mono ?_
    rintro e w4 ⟨rfl, s4⟩
    rw [decide_eq_true rfl]
    have HX4 := Lib.hid (own_below HX3.out s4)
    have HE4 := Lib.hid (own_below HE3.out s4)
    have HB4 : Hid (Below W.heap.size W w4) := HB3.out.trans (s4.mono HB3.out.size)
    have hs4 := s4.size
    clear s4 HX3 HE3 HB3 oy
    go_wp2_with fail
    refine (implEdgesValid_any many es _ (Reads.of_own HE4.out) (Nat.le_refl _) (by unfold maxLen; omega)).mono ?_
    rintro e w5 ⟨rfl, s5⟩
    have HX := Lib.hid (own_below HX4.out s5)
    have HE := Lib.hid (own_below HE4.out s5)
    have HB : Hid (Below W.heap.size W w5) := HB4.out.trans (s5.mono HB4.out.size)
    have hs5 := s5.size
    clear s5 HX4 HE4 HB4 hs2 hs3 hs4 hs5
    cases hOk : edgesOk many es
    · have hl0 : (ordR many es).length = 0 := by rw [ordR_no hOk]; rfl
      rw [hl0]
      clear hOk hl0 hsm
      go_wp2_with fail
      refine (alive_any _).mono ?_
      rintro e w' ⟨rfl, rfl⟩
      go_wp2
      go_ret
      exact ⟨rfl, HB.out⟩
    · have hlen := ordR_len hOk
      have hfar := ordR_far hOk
      obtain ⟨cf, hcf⟩ : ∃ cf, cf = callsFar many es (ordR many es) := ⟨_, rfl⟩
      have HCF : Hid (∀ wq : World, Reads wq wq.heap.size 3 AE es.length (es.flatMap Edg.cells) → Reads wq wq.heap.size 1 AX (ordR many es).length (nums .i64 (ordR many es)) → Calls Try.prog 18 #[.int .i64 many, .slice AE es.length cE, .slice AX (ordR many es).length cX] wq (Gives wq (.int .i64 cf))) := fun wq h1 h2 => by
        rw [hcf]
        exact implCallsFar_any many es (ordR many es) wq h1 (Nat.le_refl _) h2 (Nat.le_refl _) (by omega) (by omega)
      rw [← hcf] at hfar
      clear hcf
      have hlb : (((ordR many es).length : Int) == many) = true := by rw [hlen]; simp
      have HOK := Lib.hid hOk
      clear hOk hlen
      by_cases he : 0 < es.length
      · have hei : (0 : Int) < (es.length : Int) := by omega
        obtain ⟨gE, rfl⟩ : ∃ gE, AE = some ⟨gE, 0, none⟩ := by
          rcases HE.out.2 with ⟨_, h0⟩ | ⟨g, cap, cur, hv, _⟩
          · omega
          · injection hv with hv
            exact ⟨g, hv⟩
        have hcE : es.length ≤ cE := by
          rcases HE.out.2 with ⟨_, h0⟩ | ⟨g, cap, cur, hv, _, _, hc, _⟩
          · omega
          · injection hv with _ _ hv
            omega
        have hcE1 : 1 ≤ cE := by omega
        have hcE2 : (1 : Int) ≤ (cE : Int) := by omega
        obtain ⟨e0, he0⟩ : ∃ e0, e0 = es[0] := ⟨_, rfl⟩
        have HF0 : Hid (Reads w5 w5.heap.size 3 (some ⟨gE, 0, none⟩) 1 ([e0].flatMap Edg.cells)) := by rw [he0]; exact reads_first (Reads.of_own HE.out) he
        have HOF := Lib.hid (one_far HOK.out (List.getElem_mem he))
        have HC0 : Hid (w5.cell? ⟨gE, 2, none⟩ = some (.int .i64 e0.count)) := by
          obtain ⟨b, off, hbo, _, _, _, x2⟩ := Edg.at_ (Reads.of_own HE.out) he
          injection hbo with hbo
          injection hbo with hb1 hb2
          subst hb1 hb2
          rw [he0]
          rw [Hid]
          simpa using x2
        rw [← he0] at HOF
        clear he0 HOK
        have hgE : gE < w5.heap.size := (own_up HE.out _ rfl).2
        have hsm1 := ordR_small many [e0]
        have HI1 := Lib.hid (implOrder_any (A := some ⟨gE, 0, none⟩) (c := cE) many [e0] w5 HF0.out (Nat.le_refl _) (by simp))
        simp only [List.length_singleton] at HI1
        go_wp2_with fail
        refine HI1.out.mono ?_
        rintro e w6 ⟨A1, c1, rfl, o1, s6⟩
        have HO6 := Lib.hid o1
        have HX6 := Lib.hid (own_below HX.out s6)
        have HE6 := Lib.hid (own_below HE.out s6)
        have HB6 : Hid (Below W.heap.size W w6) := HB.out.trans (s6.mono HB.out.size)
        have HF6 : Hid (Reads w6 w6.heap.size 3 (some ⟨gE, 0, none⟩) 1 ([e0].flatMap Edg.cells)) := (HF0.out.below s6).more s6.size
        have HC2 : Hid (w6.cell? ⟨gE, 2, none⟩ = some (.int .i64 e0.count)) := (s6.cell (p := ⟨gE, 2, none⟩) hgE).trans HC0.out
        have hg6 : gE < w6.heap.size := Nat.lt_of_lt_of_le hgE s6.size
        clear HX HE HB HF0 HC0 hgE o1 s6 HI1
        obtain ⟨cf1, hcf1⟩ : ∃ cf1, cf1 = e0.count := ⟨_, rfl⟩
        have HF1 : Hid (∀ wq : World, Below w6.heap.size w6 wq → Calls Try.prog 18 #[.int .i64 many, .slice (some ⟨gE, 0, none⟩) 1 cE, .slice A1 (ordR many [e0]).length c1] wq (Gives wq (.int .i64 cf1))) := fun wq hb => by
          have h := implCallsFar_any (A1 := some ⟨gE, 0, none⟩) (c1 := cE) (A2 := A1) (c2 := c1) many [e0] (ordR many [e0]) wq ((HF6.out.below hb).more hb.size) (Nat.le_refl _) (((Reads.of_own HO6.out).below hb).more hb.size) (Nat.le_refl _) (by simp) (by omega)
          rw [HOF.out, ← hcf1] at h
          exact h
        rw [← hcf1] at HC2
        clear hcf1 HOF HF6 HO6
        obtain ⟨w5, rfl⟩ : ∃ w5, w5 = w6 := ⟨_, rfl⟩
        have hgE := hg6
        have HX := HX6
        have HE := HE6
        have HB := HB6
        clear HX6 HE6 HB6 hg6 hsm1
        go_wp2
        refine wp_region_facts (fun i v _ => match i with
            | 0 => v = .int .i64 many
            | 1 => v = .slice (some ⟨gE, 0, none⟩) es.length cE
            | 2 => v = .slice (some ⟨gE, 0, none⟩) 1 cE
            | 3 => v = .slice A1 (ordR many [e0]).length c1
            | 4 => v = .int .i64 cf1
            | 5 => v = .slice (some ⟨gE, 0, none⟩) es.length cE
            | 6 => v = .pointer (some ⟨gE, 0, none⟩)
            | 7 => v = .pointer (some ⟨gE, 2, none⟩)
            | 8 => v = .int .i64 cf1
            | _ => v = .bool false)
          (fun _ _ wq => Below w5.heap.size w5 wq) (fun _ _ => True) (by kernel_rfl) (by kernel_rfl) ?_ ?_ ?_ ?_
        · intro i v u u2 _ h
          exact h
        · intro fl _ _
          exact below_drewN (Below.refl _ _) 1
        · refine ⟨?_, ?_, ?_, ?_, ?_, ?_, ?_, ?_, ?_, ?_, trivial⟩
          all_goals intro fl vs wr a1 hc hG hfi hcl hp K hK
          · refine op_move rfl ?_
            rw [hc.ev0 _ rfl]
            exact hK _ _ trivial rfl hG
          · refine op_move rfl ?_
            rw [hc.ev0 _ rfl]
            exact hK _ _ trivial rfl hG
          · have e1 := hc.ev 42 1 rfl
            rw [show vs 1 = _ from (hp 1 (by kernel_rfl)).2] at e1
            unfold Oper.wp execOp
            simp only [e1]
            go_simp
            exact hK _ _ trivial rfl hG
          · refine op_move rfl ?_
            rw [hc.ev0 _ rfl]
            exact hK _ _ trivial rfl hG
          · have e1 := hc.ev 41 0 rfl
            rw [show vs 0 = _ from (hp 0 (by kernel_rfl)).2] at e1
            have e2 := hc.ev 43 2 rfl
            rw [show vs 2 = _ from (hp 2 (by kernel_rfl)).2] at e2
            have e3 := hc.ev 44 3 rfl
            rw [show vs 3 = _ from (hp 3 (by kernel_rfl)).2] at e3
            refine op_call rfl (vs := #[.int .i64 many, .slice (some ⟨gE, 0, none⟩) 1 cE, .slice A1 (ordR many [e0]).length c1]) (by simp only [List.map_toArray, List.map_cons, List.map_nil, e1, e2, e3]) (by kernel_rfl) (HF1.out wr hG) ?_
            rintro e w' ⟨rfl, hb⟩
            exact ⟨_, rfl, hK _ _ trivial rfl (hG.trans (hb.mono hG.size))⟩
          · refine op_move rfl ?_
            rw [hc.ev0 _ rfl]
            exact hK _ _ trivial rfl hG
          · have e1 := hc.ev 46 5 rfl
            rw [show vs 5 = _ from (hp 5 (by kernel_rfl)).2] at e1
            unfold Oper.wp execOp
            simp only [e1]
            go_simp
            exact hK _ _ trivial rfl hG
          · have e1 := hc.ev 47 6 rfl
            rw [show vs 6 = _ from (hp 6 (by kernel_rfl)).2] at e1
            unfold Oper.wp execOp
            simp only [e1]
            go_simp
            exact hK _ _ trivial rfl hG
          · have e1 := hc.ev 48 7 rfl
            rw [show vs 7 = _ from (hp 7 (by kernel_rfl)).2] at e1
            have ec : wr.cell? ⟨gE, 2, none⟩ = some (.int .i64 cf1) := (hG.cell (p := ⟨gE, 2, none⟩) hgE).trans HC2.out
            unfold Oper.wp execOp
            simp only [e1]
            go_simp
            exact hK _ _ trivial rfl hG
          · have e1 := hc.ev 45 4 rfl
            rw [show vs 4 = _ from (hp 4 (by kernel_rfl)).2] at e1
            have e2 := hc.ev 49 8 rfl
            rw [show vs 8 = _ from (hp 8 (by kernel_rfl)).2] at e2
            have hne : (cf1 != cf1) = false := by simp
            unfold Oper.wp execOp
            simp only [e1, e2]
            go_simp
            exact hK _ _ trivial rfl hG
        · intro fl vs w9 hfl hG hF
          have h9 : vs 9 = _ := hF 9 (by simp)
          have HB' : Hid (Below W.heap.size W w9) := HB.out.trans (hG.mono HB.out.size)
          have HE' := Lib.hid ((Reads.of_own HE.out).below hG)
          have HX' := Lib.hid ((Reads.of_own HX.out).below hG)
          have hz9 := hG.size
          clear hG hF hfl HE HX HB HF1
          have HB := HB'
          clear HB'
          simp only [fill]
          rw [h9]
          go_simp
          have HCL : Hid (Calls Try.prog 18 #[.int .i64 many, .slice (some ⟨gE, 0, none⟩) es.length cE, .slice AX (ordR many es).length cX] w9 (Gives w9 (.int .i64 cf))) := HCF.out w9 (by exact HE'.out.more hz9) (by exact HX'.out.more hz9)
          clear HCF
          generalize (ordR many es).length = L at *
          go_wp2_with fail
          refine HCL.out.mono ?_
          rintro e wz ⟨rfl, s9⟩
          have HB9 : Hid (Below W.heap.size W wz) := HB.out.trans (s9.mono HB.out.size)
          clear s9 HCL
          go_wp2
          go_ret
          exact ⟨rfl, HB9.out⟩
      · have hei : ¬ (0 : Int) < (es.length : Int) := by omega
        clear HOK
        have HCL : Hid (Calls Try.prog 18 #[.int .i64 many, .slice AE es.length cE, .slice AX (ordR many es).length cX] w5 (Gives w5 (.int .i64 cf))) := HCF.out w5 (by exact Reads.of_own HE.out) (by exact Reads.of_own HX.out)
        clear HCF
        generalize (ordR many es).length = L at *
        go_wp2_with fail
        refine HCL.out.mono ?_
        rintro e w9 ⟨rfl, s9⟩
        have HB9 : Hid (Below W.heap.size W w9) := HB.out.trans (s9.mono HB.out.size)
        clear s9 HCL
        go_wp2
        go_ret
        exact ⟨rfl, HB9.out⟩
  · have hl2 : (1048576 : Int) < (cs.length : Int) := by omega
    clear hcb hr
    go_enter Try.func8, Try.ntmps8
    go_wp2
    go_ret
    exact ⟨rfl, Below.refl _ _⟩
end Go.Proofs.Ytgibmbjdnppiaaa
