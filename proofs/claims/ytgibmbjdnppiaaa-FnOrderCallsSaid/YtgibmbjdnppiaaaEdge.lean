/- Contracts of the laws' copying and comparing functions on Edge and slices of it. No condition but the sizes. -/
import Derived.Test.YtgibmbjdnppiaaaRows
import Derived.Test.YtgibmbjdnppiaaaBase
import Derived.WalkKit
import Derived.WalkSpells
import Derived.WalkLawsBesides
import Derived.Handy
import Derived.BigQuiet
import Derived.Deep.RegionHeld3
import Derived.Deep.DrawnRows
import Derived.Deep.QuietTactic
namespace Go.Proofs.Ytgibmbjdnppiaaa
open Go Go.RowKit


structure Edg where
  from_ : Int
  to_ : Int
  count : Int
deriving DecidableEq
instance : Inhabited Edg := ⟨⟨0, 0, 0⟩⟩
def Edg.cells (x : Edg) : List Value := [Value.int .i64 x.from_, Value.int .i64 x.to_, Value.int .i64 x.count]
def Edg.val (x : Edg) : Value := .agg #[Value.int .i64 x.from_, Value.int .i64 x.to_, Value.int .i64 x.count]
theorem Edg.cells_len (x : Edg) : x.cells.length = 3 := rfl
/-- The cells of element k of a row. -/
theorem Edg.at_ {w : World} {B : Nat} {A : Option Addr} {xs : List Edg} (h : Reads w B 3 A xs.length (xs.flatMap Edg.cells)) {k : Nat} (hk : k < xs.length) :
    ∃ b off, A = some ⟨b, off, none⟩ ∧ b < B ∧ w.cell? ⟨b, off + k * 3, none⟩ = some (Value.int .i64 xs[k].from_) ∧ w.cell? ⟨b, off + k * 3 + 1, none⟩ = some (Value.int .i64 xs[k].to_) ∧ w.cell? ⟨b, off + k * 3 + 2, none⟩ = some (Value.int .i64 xs[k].count) := by
  obtain ⟨b, off, rfl, hb, hc⟩ := h.row_ (by omega) (by omega)
  have e := fun i hi => flat_get Edg.cells 3 Edg.cells_len xs k i hk hi
  refine ⟨b, off, rfl, hb, ?_, ?_, ?_⟩
  · exact hc (k * 3) _ (e 0 (by omega))
  · have := hc (k * 3 + 1) _ (e 1 (by omega))
    rwa [← Nat.add_assoc] at this
  · have := hc (k * 3 + 2) _ (e 2 (by omega))
    rwa [← Nat.add_assoc] at this


set_option maxHeartbeats 400000 in
theorem toEdge_any (x : Edg) (w : World) : Calls Try.prog 29 #[x.val] w (Gives w x.val) := by
  obtain ⟨f0, f1, f2⟩ := x
  simp only [Edg.val]
  go_enter Try.func29, Try.ntmps29
  go_wp2
  go_returns
  exact ⟨rfl, by go_grown⟩


set_option maxHeartbeats 400000 in
theorem eqEdge_any (x y : Edg) (w : World) : Calls Try.prog 33 #[x.val, y.val] w (Gives w (.bool (decide (x = y)))) := by
  obtain ⟨f0, f1, f2⟩ := x
  obtain ⟨g0, g1, g2⟩ := y
  simp only [Edg.val]
  by_cases he : (Edg.mk f0 f1 f2) = (Edg.mk g0 g1 g2)
  · rw [decide_eq_true he]
    injection he with h0 h1 h2
    have e0 : (f0 != g0) = false := by simp [h0]
    have e1 : (f1 != g1) = false := by simp [h1]
    have e2 : (f2 != g2) = false := by simp [h2]
    clear h0 h1 h2
    go_enter Try.func33, Try.ntmps33
    go_wp2
    go_ret
    exact ⟨rfl, by go_grown⟩
  · rw [decide_eq_false he]
    have HE := Lib.hid he
    clear he
    go_enter Try.func33, Try.ntmps33
    go_wp2
    all_goals first
      | (go_ret; exact ⟨rfl, by go_grown⟩)
      | (exfalso; refine HE.out ?_; simp at *; simp [*]; done)
      | (exfalso; refine HE.out ?_; simp at *; refine ⟨?_, ?_⟩ <;> first | assumption | (exact toList_inj ‹_›); done)


theorem toEdgeS_info : (Try.prog.info? 33).map (fun i => (i.zero, i.size, i.bytes)) = some (some (.agg #[Value.int .i64 0, Value.int .i64 0, Value.int .i64 0]), 3, 24) := by kernel_rfl
set_option maxHeartbeats 1000000 in
theorem toEdgeS_any (A1 : Option Addr) (c1 B1 : Nat) (xs : List Edg) (w : World) (h1 : Reads w B1 3 A1 xs.length (xs.flatMap Edg.cells)) (hB : B1 ≤ w.heap.size) (hm : xs.length ≤ 1048576) :
    Calls Try.prog 11 #[.slice A1 xs.length c1] w (Fresh 33 3 w xs.length (xs.flatMap Edg.cells)) := by
  obtain ⟨i0, hi0, hz0, hz1, hz2⟩ := info_parts toEdgeS_info
  obtain ⟨w1, hmk, hown, hgr⟩ := run_make_full (P := Try.prog) w w.heap.size 25 33 i0 _ 3 Try.underlying25 hi0 hz0 hz1 .i64 .i64 xs.length (by rw [hz2]; omega) (by unfold maxLen; omega) (Nat.le_refl _)
  have hb1 : Below w.heap.size w w1 := (Below.refl _ _).grown hgr (Nat.le_refl _) (by simp)
  have hlen : xs.length ≤ 9223372036854775807 := by omega
  have hsz := hown.lt _ rfl
  go_enter Try.func11, Try.ntmps11
  go_wp2
  clear hmk
  have hown2 : w1.ownsRow w.heap.size 33 3 (.slice (some ⟨w.heap.size, 0, none⟩) xs.length xs.length) xs.length ((xs.flatMap Edg.cells).take (0 * 3) ++ ((madeCells (Value.agg #[Value.int .i64 0, Value.int .i64 0, Value.int .i64 0]).cells (xs.length * 3)).toList).drop (0 * 3)) := by simpa using hown
  clear hown
  go_loopw [4] (fun i wr => ∃ k : Nat, k ≤ xs.length ∧ i = .int .i64 k ∧ Below w.heap.size w wr ∧ w.heap.size < wr.heap.size ∧ wr.ownsRow w.heap.size 33 3 (.slice (some ⟨w.heap.size, 0, none⟩) xs.length xs.length) xs.length ((xs.flatMap Edg.cells).take (k * 3) ++ ((madeCells (Value.agg #[Value.int .i64 0, Value.int .i64 0, Value.int .i64 0]).cells (xs.length * 3)).toList).drop (k * 3))) (fun i _ => xs.length - (intOf i).toNat)
  case atStart => exact ⟨0, Nat.zero_le _, rfl, hb1, hsz.2, hown2⟩
  case round =>
    obtain ⟨k, hk, rfl, hb, hws, ho⟩ := hrel
    clear hown2 hb1 hgr hsz
    by_cases hlt : k < xs.length
    · obtain ⟨b, off, rfl, hbl, e0, e1, e2⟩ := Edg.at_ ((h1.more hB).below hb) hlt
      go_wp2_with fail
      refine (toEdge_any xs[k] _).mono ?_
      rintro e w2 ⟨rfl, hb2⟩
      simp only [Edg.val]
      have ho2 := own_below ho hb2
      have e := fun i hi => flat_get Edg.cells 3 Edg.cells_len xs k i hlt hi
      obtain ⟨o0, g0, z0, v0, q0⟩ := own_next (xs := (xs.flatMap Edg.cells)) (k := k * 3) ho2 (by omega) (e 0 (by omega))
      obtain ⟨o1, g1, z1, v1, q1⟩ := own_next (xs := (xs.flatMap Edg.cells)) (k := k * 3 + 1) o0 (by omega) (e 1 (by omega))
      obtain ⟨o2, g2, z2, v2, q2⟩ := own_next (xs := (xs.flatMap Edg.cells)) (k := k * 3 + 2) o1 (by omega) (e 2 (by omega))
      have O := Lib.hid o2
      have HG := Lib.hid ((g0.trans g1).trans g2)
      clear o0 g0 o1 g1 o2 g2 e ho2 ho
      go_wp2
      go_roundw
      case rel => exact ⟨k + 1, by omega, by go_num, (hb.trans (hb2.mono hb.size)).grown HG.out (Nat.le_trans hb.size hb2.size) (by simp), by have h1 := HG.out.size; have h2 := hb2.size; omega, by have h := O.out; rw [Nat.add_mul]; exact h⟩
      case measure => simp [intOf]; omega
    · obtain rfl : k = xs.length := by omega
      go_wp2
      go_ret
      refine ⟨_, _, rfl, ?_, hb⟩
      have hd : ((madeCells (Value.agg #[Value.int .i64 0, Value.int .i64 0, Value.int .i64 0]).cells (xs.length * 3)).toList).drop (xs.length * 3) = [] := List.drop_eq_nil_of_le (by simp [size_madeCells])
      have ht : (xs.flatMap Edg.cells).take (xs.length * 3) = (xs.flatMap Edg.cells) := List.take_of_length_le (by rw [flat_len _ 3 Edg.cells_len]; exact Nat.le_refl _)
      rw [hd, ht, List.append_nil] at ho
      exact ho


set_option maxHeartbeats 1000000 in
theorem eqEdgeS_any (A1 A2 : Option Addr) (c1 c2 B1 B2 : Nat) (xs ys : List Edg) (w : World) (h1 : Reads w B1 3 A1 xs.length (xs.flatMap Edg.cells)) (h2 : Reads w B2 3 A2 ys.length (ys.flatMap Edg.cells)) (hB1 : B1 ≤ w.heap.size) (hB2 : B2 ≤ w.heap.size) (hm1 : xs.length ≤ 1048576) (hm2 : ys.length ≤ 1048576) :
    Calls Try.prog 13 #[.slice A1 xs.length c1, .slice A2 ys.length c2] w (Gives w (.bool (decide (xs = ys)))) := by
  by_cases hl : xs.length = ys.length
  · have HL := Lib.hid hl
    have hb : ((xs.length : Int) != ys.length) = false := by simp [hl]
    clear hl
    go_enter Try.func13, Try.ntmps13
    go_wp2
    go_loopw [5] (fun i wr => ∃ k : Nat, k ≤ xs.length ∧ i = .int .i64 k ∧ Hid (∀ j < k, xs[j]? = ys[j]?) ∧ Below w.heap.size w wr) (fun i _ => xs.length - (intOf i).toNat)
    case atStart => exact ⟨0, Nat.zero_le _, rfl, fun j hj => by omega, Below.refl _ _⟩
    case round =>
      obtain ⟨k, hk, rfl, HA, hbw⟩ := hrel
      by_cases hlt : k < xs.length
      · have hlt2 : k < ys.length := by rw [← HL.out]; exact hlt
        obtain ⟨b, off, rfl, hbl, e0, e1, e2⟩ := Edg.at_ ((h1.more hB1).below hbw) hlt
        obtain ⟨b', off', rfl, hbl', d0, d1, d2⟩ := Edg.at_ ((h2.more hB2).below hbw) hlt2
        by_cases he : xs[k] = ys[k]
        · have HE := Lib.hid he
          have cC : ∀ d os, Calls Try.prog 33 #[xs[k].val, ys[k].val] (Go.Sort.grow (redrawn wr d) os) fun e w'' => e = .returned (.bool true) ∧ ∃ p : Regrown, w'' = Go.Sort.grow (redrawn wr p.d) p.os := fun d os => Calls.regrown_of (by have h := eqEdge_any xs[k] ys[k] (Go.Sort.grow (redrawn wr d) os); rw [decide_eq_true he] at h; exact h)
          clear he
          simp only [Edg.val] at cC
          go_wp2
          have k0 := cell_regrown e0
          have j0 := cell_regrown d0
          have k1 := cell_regrown e1
          have j1 := cell_regrown d1
          have k2 := cell_regrown e2
          have j2 := cell_regrown d2
          refine wp_region_quiet_below (by kernel_rfl) (by kernel_rfl) ?_
          repeat (quiet_step (exact cC _ _))
          refine wpQuiet_nil ?_
          intro _ hw'
          obtain ⟨⟨dq, osq⟩, hw''⟩ := hw'
          subst hw''
          have hbn := below_regrown wr dq osq
          have HB := Lib.hid (hbw.trans (hbn.mono hbw.size))
          clear hbn cC k0 j0 k1 j1 k2 j2
          generalize Go.Sort.grow (redrawn wr dq) osq = w3 at *
          go_wp2
          go_roundw
          case rel => exact ⟨k + 1, by omega, by go_num, Lib.hid (fun j hj => by
            by_cases hjk : j < k
            · exact HA.out j hjk
            · obtain rfl : j = k := by omega
              rw [List.getElem?_eq_getElem hlt, List.getElem?_eq_getElem hlt2, HE.out]), HB.out⟩
          case measure => simp [intOf]; omega
        · have cC : ∀ d os, Calls Try.prog 33 #[xs[k].val, ys[k].val] (Go.Sort.grow (redrawn wr d) os) fun e w'' => e = .returned (.bool false) ∧ ∃ p : Regrown, w'' = Go.Sort.grow (redrawn wr p.d) p.os := fun d os => Calls.regrown_of (by have h := eqEdge_any xs[k] ys[k] (Go.Sort.grow (redrawn wr d) os); rw [decide_eq_false he] at h; exact h)
          have HXY := Lib.hid (show decide (xs = ys) = false from decide_eq_false (by rintro rfl; exact he rfl))
          clear he
          simp only [Edg.val] at cC
          go_wp2
          have k0 := cell_regrown e0
          have j0 := cell_regrown d0
          have k1 := cell_regrown e1
          have j1 := cell_regrown d1
          have k2 := cell_regrown e2
          have j2 := cell_regrown d2
          refine wp_region_quiet_below (by kernel_rfl) (by kernel_rfl) ?_
          repeat (quiet_step (exact cC _ _))
          refine wpQuiet_nil ?_
          intro _ hw'
          obtain ⟨⟨dq, osq⟩, hw''⟩ := hw'
          subst hw''
          have hbn := below_regrown wr dq osq
          have HB := Lib.hid (hbw.trans (hbn.mono hbw.size))
          clear hbn cC k0 j0 k1 j1 k2 j2
          generalize Go.Sort.grow (redrawn wr dq) osq = w3 at *
          go_wp2
          go_ret
          rw [HXY.out]
          exact ⟨rfl, HB.out⟩
      · obtain rfl : k = xs.length := by omega
        go_wp2
        go_ret
        have hxy : xs = ys := by
          apply List.ext_getElem?
          intro j
          by_cases hj : j < xs.length
          · exact HA.out j hj
          · rw [List.getElem?_eq_none (by omega), List.getElem?_eq_none (by rw [← HL.out]; omega)]
        rw [decide_eq_true hxy]
        exact ⟨rfl, hbw⟩
  · have hb : ((xs.length : Int) != ys.length) = true := by simp [bne_iff_ne]; omega
    have HXY := Lib.hid (show decide (xs = ys) = false from decide_eq_false (by rintro rfl; exact hl rfl))
    clear hl
    go_enter Try.func13, Try.ntmps13
    go_wp2
    go_ret
    rw [HXY.out]
    exact ⟨rfl, Below.refl _ _⟩


end Go.Proofs.Ytgibmbjdnppiaaa

