/- Objects: counted, compared, opened. No condition but the sizes. -/
import Derived.Test.YtdaamgonendkkaaRows
import Derived.Test.YtdaamgonendkkaaBase
import Derived.Test.YtdaamgonendkkaaBase2
import Derived.Test.YtdaamgonendkkaaOpen
import Derived.Test.YtdaamgonendkkaaOpen2
import Derived.Test.YtdaamgonendkkaaOnly
import Derived.Test.YtdaamgonendkkaaByteS
import Derived.Test.YtdaamgonendkkaaBulk
import Derived.Test.YtdaamgonendkkaaFix
import Derived.Test.YtdaamgonendkkaaSzF
import Derived.Test.YtdaamgonendkkaaSec
import Derived.Test.YtdaamgonendkkaaSecM
import Derived.Test.YtdaamgonendkkaaSecO
import Derived.Test.YtdaamgonendkkaaSym
import Derived.Test.YtdaamgonendkkaaObj
import Derived.Lib.SmallJoins
import Derived.WalkKit
import Derived.WalkSpells
import Derived.WalkLawsBesides
import Derived.Handy
import Derived.BigQuiet
import Derived.Deep.RegionHeld3
import Derived.Deep.DrawnRows
import Derived.Deep.QuietTactic
namespace Go.Proofs.Ytdaamgonendkkaa
open Go Go.RowKit

def SymSmall (v : Sym) : Prop := v.name.size ≤ maxLen
set_option maxHeartbeats 1000000 in
theorem szSymbol_any (v : Sym) (left : Int) (w : World) (hs : SymSmall v) (h1 : -1 ≤ left) (h2 : left ≤ 1048576) :
    Calls Try.prog 68 #[v.val, .int .i64 left] w (Gives w (.int .i64 (szRes left v.name.size))) := by
  obtain ⟨nm, f1, f2, f3⟩ := v
  unfold SymSmall maxLen at hs
  simp only [Sym.val] at *
  by_cases hl : left < nm.size
  · have hx : left - (nm.size : Int) < 0 := by omega
    rw [szRes_neg hl]
    go_enter Try.func68, Try.ntmps68
    go_wp2
    go_ret
    exact ⟨rfl, by go_grown⟩
  · have hx : ¬ left - (nm.size : Int) < 0 := by omega
    rw [szRes_pos (by omega)]
    go_enter Try.func68, Try.ntmps68
    go_wp2
    go_ret
    exact ⟨rfl, by go_grown⟩

set_option maxHeartbeats 2000000 in
theorem szSymbolS_any {A : Option Addr} {c B : Nat} (xs : List Sym) (left : Int) (w : World) (h1 : Reads w B 4 A xs.length (xs.flatMap Sym.cells)) (hB : B ≤ w.heap.size) (hm : xs.length ≤ maxLen) (hs : ∀ v ∈ xs, SymSmall v) (h0 : -1 ≤ left) (hl : left ≤ 1048576) :
    Calls Try.prog 41 #[.slice A xs.length c, .int .i64 left] w (Gives w (.int .i64 (szRes left (xs.length + bulk (xs.map Sym.name))))) := by
  have HS := Lib.hid hs
  clear hs
  have hb0 := bulk_nonneg (xs.map Sym.name)
  unfold maxLen at hm
  by_cases hn : left - (xs.length : Int) < 0
  · have HR : Hid (szRes left (xs.length + bulk (xs.map Sym.name)) = -1) := szRes_neg (by omega)
    go_enter Try.func41, Try.ntmps41
    go_wp2
    go_ret
    rw [HR.out]
    exact ⟨rfl, Below.refl _ _⟩
  · go_enter Try.func41, Try.ntmps41
    go_wp2
    go_loopw [1, 5] (fun l i wr => ∃ (k : Nat) (z : Int), k ≤ xs.length ∧ i = .int .i64 k ∧ l = .int .i64 z ∧ Hid (z = left - xs.length - bulk ((xs.map Sym.name).take k)) ∧ 0 ≤ z ∧ z ≤ left ∧ Below w.heap.size w wr) (fun _ i _ => xs.length - (intOf i).toNat)
    case atStart => exact ⟨0, _, Nat.zero_le _, rfl, rfl, by simp [bulk, Hid], by omega, by omega, Below.refl _ _⟩
    case round =>
      obtain ⟨k, z, hk, rfl, rfl, HZ, hz0, hz1, hb⟩ := hrel
      by_cases hlt : k < xs.length
      · obtain ⟨b, off, rfl, hbl, e0, e1, e2, e3⟩ := Sym.at_ ((h1.more hB).below hb) hlt
        have HC := Lib.hid (fun w => szSymbol_any xs[k] z w (HS.out _ (List.getElem_mem hlt)) (by omega) (by omega))
        simp only [Sym.val] at HC
        have hlm : k < (xs.map Sym.name).length := by simpa using hlt
        have HT : Hid (bulk ((xs.map Sym.name).take (k + 1)) = bulk ((xs.map Sym.name).take k) + xs[k].name.size) := by
          have := bulk_take (xs.map Sym.name) hlm
          rw [List.getElem_map] at this
          exact this
        have HLE := Lib.hid (bulk_le (xs.map Sym.name) (k + 1))
        by_cases hneg : z < (xs[k].name.size : Int)
        · have HR : Hid (szRes left (xs.length + bulk (xs.map Sym.name)) = -1) := szRes_neg (by have h1 := HZ.out; have h2 := HT.out; have h3 := HLE.out; omega)
          have HQ := Lib.hid (szRes_neg hneg)
          go_wp2_with fail
          refine (HC.out _).mono ?_
          rintro e w2 ⟨rfl, hb2⟩
          rw [HQ.out]
          go_wp2
          go_ret
          rw [HR.out]
          exact ⟨rfl, hb.trans (hb2.mono hb.size)⟩
        · have HQ : Hid (szRes z xs[k].name.size = z - xs[k].name.size) := szRes_pos (by omega)
          go_wp2_with fail
          refine (HC.out _).mono ?_
          rintro e w2 ⟨rfl, hb2⟩
          rw [HQ.out]
          go_wp2
          go_roundw
          case rel => exact ⟨k + 1, _, by omega, by go_num, rfl, Lib.hid (by have h1 := HZ.out; have h2 := HT.out; omega), by omega, by omega, hb.trans (hb2.mono hb.size)⟩
          case measure => simp [intOf]; omega
      · have HR : Hid (szRes left (xs.length + bulk (xs.map Sym.name)) = z) := by
          have h1 := HZ.out
          rw [List.take_of_length_le (by simp; omega)] at h1
          rw [szRes_pos (by omega)]
          show _ = _
          omega
        go_wp2
        go_ret
        rw [HR.out]
        exact ⟨rfl, hb⟩
def Obj.big (x : Obj) : Prop := x.secs.length ≤ maxLen ∧ (∀ s ∈ x.secs, s.big) ∧ x.syms.length ≤ maxLen ∧ ∀ s ∈ x.syms, SymSmall s
/-- How much an object counts. -/
def Obj.tot (x : Obj) : Int := (x.secs.length + Sec.tots x.secs) + (x.syms.length + bulk (x.syms.map Sym.name))
theorem Obj.small_of {x : Obj} (h : x.tot ≤ 1048576) : x.small := by
  have h1 := Sec.tots_nonneg x.secs
  have h2 := bulk_nonneg (x.syms.map Sym.name)
  unfold Obj.tot at h
  refine ⟨by omega, Sec.small_of (by omega), by omega, fun s hs => ?_⟩
  obtain ⟨k, hk, rfl⟩ := List.getElem_of_mem hs
  have h3 := bulk_at (x.syms.map Sym.name) (k := k) (by simpa using hk)
  rw [List.getElem_map] at h3
  omega
theorem Obj.small_v {x y : Obj} (h : y.v = x.v) (hs : x.small) : y.small := by
  obtain ⟨h1, h2⟩ := Obj.v_eq h
  obtain ⟨a, b, c, d⟩ := hs
  have hl : y.secs.length = x.secs.length := by have := congrArg List.length h1; simpa using this
  exact ⟨by omega, Sec.small_map h1 b, by rw [h2]; exact c, by rw [h2]; exact d⟩
set_option maxRecDepth 100000 in
set_option maxHeartbeats 4000000 in
theorem szObj_any {B : Nat} (x : Obj) (left : Int) (w : World) (h : x.At w B) (hB : B ≤ w.heap.size) (hb : x.big) (hl0 : 0 ≤ left) (hl : left ≤ 1048576) :
    Calls Try.prog 21 #[x.val, .int .i64 left] w (Gives w (.int .i64 (szRes left x.tot))) := by
  obtain ⟨secs, sA, sc, syms, yA, yc⟩ := x
  obtain ⟨h0, h1⟩ := h
  obtain ⟨b0, b1, b2, b3⟩ := hb
  simp only [Obj.val, Obj.tot] at *
  have H0 := Lib.hid (h0.more hB)
  have H1 := Lib.hid (h1.more hB)
  have B1 := Lib.hid b1
  have B3 := Lib.hid b3
  have v0 := Sec.tots_nonneg secs
  have v1 := bulk_nonneg (syms.map Sym.name)
  clear h0 h1 b1 b3
  unfold maxLen at b0 b2
  have K1 := Lib.hid (Blk.new w 41 #[.slice sA secs.length sc, .slice yA syms.length yc])
  have BB : Hid (Below w.heap.size w (w.alloc (.cells #[.slice sA secs.length sc, .slice yA syms.length yc] 41))) := (Below.refl _ _).alloc (Nat.le_refl _) _
  go_enter Try.func21, Try.ntmps21
  go_wp2_with fail
  refine (szSectionS_any secs left _ (H0.out.below BB.out) BB.out.size (by unfold maxLen; omega) B1.out hl0 hl).mono ?_
  rintro e w1 ⟨rfl, s1⟩
  have K1' := Lib.hid (K1.out.below s1 K1.out.lt)
  have BB' := Lib.hid (BB.out.trans (s1.mono BB.out.size))
  clear K1 BB s1
  have K1 := K1'; have BB := BB'
  clear K1' BB'
  have e11 : w1.cell? ⟨w.heap.size, 1, none⟩ = some (.slice yA syms.length yc) := K1.out.cell 1
  by_cases t0 : left < (secs.length : Int) + Sec.tots secs
  · rw [szRes_neg t0]
    have HR : Hid (szRes left (((secs.length : Int) + Sec.tots secs) + ((syms.length : Int) + bulk (syms.map Sym.name))) = -1) := szRes_neg (by omega)
    go_wp2
    go_ret
    rw [HR.out]
    exact ⟨rfl, BB.out⟩
  · rw [szRes_pos (Int.not_lt.1 t0)]
    go_wp2_with fail
    refine (szSymbolS_any syms (left - ((secs.length : Int) + Sec.tots secs)) _ (H1.out.below BB.out) BB.out.size (by unfold maxLen; omega) B3.out (by omega) (by omega)).mono ?_
    rintro e w2 ⟨rfl, s2⟩
    have BB' := Lib.hid (BB.out.trans (s2.mono BB.out.size))
    clear s2
    by_cases t1 : left - ((secs.length : Int) + Sec.tots secs) < (syms.length : Int) + bulk (syms.map Sym.name)
    · rw [szRes_neg t1]
      have HR : Hid (szRes left (((secs.length : Int) + Sec.tots secs) + ((syms.length : Int) + bulk (syms.map Sym.name))) = -1) := szRes_neg (by omega)
      go_wp2
      go_ret
      rw [HR.out]
      exact ⟨rfl, BB'.out⟩
    · rw [szRes_pos (Int.not_lt.1 t1)]
      have HR : Hid (szRes left (((secs.length : Int) + Sec.tots secs) + ((syms.length : Int) + bulk (syms.map Sym.name))) = left - ((secs.length : Int) + Sec.tots secs) - ((syms.length : Int) + bulk (syms.map Sym.name))) := by rw [szRes_pos (by omega)]; show _ = _; omega
      go_wp2
      go_ret
      rw [HR.out]
      exact ⟨rfl, BB'.out⟩
set_option maxRecDepth 100000 in
set_option maxHeartbeats 4000000 in
theorem eqObj_same {B D : Nat} (x y : Obj) (w : World) (hv : x.v = y.v) (h : x.At w B) (g : y.At w D) (hB : B ≤ w.heap.size) (hD : D ≤ w.heap.size) (hs : x.small) :
    Calls Try.prog 25 #[x.val, y.val] w (Gives w (.bool true)) := by
  obtain ⟨e0, e1⟩ := Obj.v_eq hv
  obtain ⟨secs, sA, sc, syms, yA, yc⟩ := x
  obtain ⟨secs', sA', sc', syms', yA', yc'⟩ := y
  simp only at e0 e1
  subst e1
  obtain ⟨h0, h1⟩ := h
  obtain ⟨g0, g1⟩ := g
  obtain ⟨q0, q1, q2, q3⟩ := hs
  simp only [Obj.val] at *
  have H0 := Lib.hid (h0.more hB)
  have H1 := Lib.hid (h1.more hB)
  have G0 := Lib.hid (g0.more hD)
  have G1 := Lib.hid (g1.more hD)
  have E0 := Lib.hid e0
  have Q1 := Lib.hid q1
  clear h0 h1 g0 g1 e0 q1 q3 hv
  have K1 := Lib.hid ((Blk.new w 47 #[.slice sA secs.length sc, .slice yA syms.length yc]).alloc (.cells #[.slice sA' secs'.length sc', .slice yA' syms.length yc'] 47))
  have K2 : Hid (Blk ((w.alloc (.cells #[.slice sA secs.length sc, .slice yA syms.length yc] 47)).alloc (.cells #[.slice sA' secs'.length sc', .slice yA' syms.length yc'] 47)) (w.heap.size + 1) 47 #[.slice sA' secs'.length sc', .slice yA' syms.length yc']) := by
    have h := Blk.new (w.alloc (.cells #[.slice sA secs.length sc, .slice yA syms.length yc] 47)) 47 #[.slice sA' secs'.length sc', .slice yA' syms.length yc']
    rwa [World.size_alloc] at h
  have BB : Hid (Below w.heap.size w ((w.alloc (.cells #[.slice sA secs.length sc, .slice yA syms.length yc] 47)).alloc (.cells #[.slice sA' secs'.length sc', .slice yA' syms.length yc'] 47))) := ((Below.refl _ _).alloc (Nat.le_refl _) _).alloc (by simp) _
  go_enter Try.func25, Try.ntmps25
  go_wp2_with fail
  refine (eqSectionS_same _ _ _ E0.out (H0.out.below BB.out) (G0.out.below BB.out) BB.out.size BB.out.size q0 Q1.out).mono ?_
  rintro e w1 ⟨rfl, s1⟩
  have K1' := Lib.hid (K1.out.below s1 K1.out.lt)
  have K2' := Lib.hid (K2.out.below s1 K2.out.lt)
  have BB' := Lib.hid (BB.out.trans (s1.mono BB.out.size))
  clear K1 K2 BB s1
  have K1 := K1'; have K2 := K2'; have BB := BB'
  clear K1' K2' BB'
  have e11 : w1.cell? ⟨w.heap.size, 1, none⟩ = some (.slice yA syms.length yc) := K1.out.cell 1
  have f11 : w1.cell? ⟨w.heap.size + 1, 1, none⟩ = some (.slice yA' syms.length yc') := K2.out.cell 1
  go_wp2_with fail
  refine (eqSymbolS_any _ _ _ _ _ _ syms syms _ (H1.out.below BB.out) (G1.out.below BB.out) BB.out.size BB.out.size (by omega) (by omega)).mono ?_
  rintro e w2 ⟨rfl, s2⟩
  rw [decide_eq_true rfl]
  go_wp2
  go_ret
  exact ⟨rfl, BB.out.trans (s2.mono BB.out.size)⟩
open Go.ChangeShapes Go.WideShapes Go.ChangeAt Go.Deep
/-- An object that came in. -/
def ArgObj (W : World) (v : Value) : Prop := ∃ x : Obj, v = x.val ∧ x.At W W.heap.size ∧ x.big
section
variable {H : Type} {enc : TypeId × Value → H} {W : World} {base : Nat} {b0 : Nat} {r : Reach} {hd : Bool}
set_option maxRecDepth 100000 in
theorem read_syms {fuel : Nat} {v : Value} {x : DataW H × List MemPlace} (h : DataW.trod enc Try.prog W base (fun _ => true) hd fuel 39 [v] = some x) : ∃ (A : Option Addr) (c : Nat) (xs : List Sym), v = .slice A xs.length c ∧ Reads W W.heap.size 4 A xs.length (xs.flatMap Sym.cells) ∧ xs.length ≤ maxLen ∧ ∀ s ∈ xs, SymSmall s :=
  read_rows (T := Sym) Sym.cells (m := 4) Sym.cells_len SymSmall Try.underlying39 Try.underlying98 (by kernel_rfl) (by kernel_rfl) rfl (by omega) (fun vs hl n hvs => by
    match vs, hl, hvs with
    | [v0, v1, v2, v3], _, hvs =>
      obtain ⟨y0, h0⟩ := hvs 0 _ _ rfl rfl
      obtain ⟨y1, h1⟩ := hvs 1 _ _ rfl rfl
      obtain ⟨y2, h2⟩ := hvs 2 _ _ rfl rfl
      obtain ⟨y3, h3⟩ := hvs 3 _ _ rfl rfl
      obtain ⟨x0, e0, _, hw⟩ := DataW.trod_string Try.underlying9 h0
      obtain ⟨x1, e1, _, _⟩ := DataW.trod_int Try.underlying3 h1
      obtain ⟨x2, e2, _, _⟩ := DataW.trod_int Try.underlying3 h2
      obtain ⟨x3, e3, _, _⟩ := DataW.trod_int Try.underlying3 h3
      simp only [List.cons.injEq, and_true] at e0 e1 e2 e3
      subst e0 e1 e2 e3
      exact ⟨⟨x0, x1, x2, x3⟩, rfl, hw⟩) h
set_option maxRecDepth 100000 in
theorem arg_obj {v : Value} {d : DataW H} {p : List MemPlace} (hv : Value.okWide Try.prog W r b0 41 v) (h : DataW.Trod enc Try.prog W base (fun _ => true) hd 41 v d p) : ArgObj W v := by
  obtain ⟨v0, v1, y0, y1, m, rfl, rfl, rfl, hy0, hy1⟩ := Joins.open_agg2 Try.underlying41 (by kernel_rfl) (by kernel_rfl) hv h
  obtain ⟨A, c, xs, rfl, hr, hm, hq⟩ := read_Secs hy0
  obtain ⟨A', c', ys, rfl, hr', hm', hq'⟩ := read_syms hy1
  exact ⟨⟨xs, A, c, ys, A', c'⟩, rfl, ⟨hr, hr'⟩, hm, hq, hm', hq'⟩
end
end Go.Proofs.Ytdaamgonendkkaa
