/- Machines that came in; the laws' functions on machines. Condition: the sizes. -/
import Derived.Test.YtbljkdhokbhcdaaRows
import Derived.Test.YtbljkdhokbhcdaaBase
import Derived.Test.YtbljkdhokbhcdaaBase2
import Derived.Test.YtbljkdhokbhcdaaBase3
import Derived.Test.YtbljkdhokbhcdaaOnly
import Derived.Test.YtbljkdhokbhcdaaOpen
import Derived.Test.YtbljkdhokbhcdaaIn
import Derived.Test.YtbljkdhokbhcdaaIntS
import Derived.Test.YtbljkdhokbhcdaaMarkI
import Derived.Test.YtbljkdhokbhcdaaReg
import Derived.Test.YtbljkdhokbhcdaaRegS
import Derived.Test.YtbljkdhokbhcdaaPick2
import Derived.Test.YtbljkdhokbhcdaaKT
import Derived.Test.YtbljkdhokbhcdaaMc
import Derived.Test.YtbljkdhokbhcdaaMcy
import Derived.Test.YtbljkdhokbhcdaaMcM
import Derived.WalkKit
import Derived.WalkSpells
import Derived.WalkLawsBesides
import Derived.Handy
import Derived.BigQuiet
import Derived.Deep.RegionHeld3
import Derived.Deep.DrawnRows
import Derived.Deep.QuietTactic
import Derived.Lib.SmallJoins
namespace Go.Proofs.Ytbljkdhokbhcdaa
open Go Go.RowKit

theorem szIntS_any (A : Option Addr) (n c : Nat) (left : Int) (w : World) (hm : n ≤ maxLen) (h0 : -1 ≤ left) (hl : left ≤ 1048576) : Calls Try.prog 19 #[.slice A n c, .int .i64 left] w (Gives w (.int .i64 (szRes left n))) := by
  unfold maxLen at hm
  by_cases hn : left - (n : Int) < 0
  · have HR : Hid (szRes left n = -1) := szRes_neg (by omega)
    go_enter Try.func19, Try.ntmps19
    go_wp2
    go_ret
    rw [HR.out]
    exact ⟨rfl, Below.refl _ _⟩
  · have HR : Hid (szRes left n = left - n) := szRes_pos (by omega)
    go_enter Try.func19, Try.ntmps19
    go_wp2
    go_ret
    rw [HR.out]
    exact ⟨rfl, Below.refl _ _⟩
def Mc.tot (m : Mc) : Int := (m.st.length : Int) + (m.ca.length : Int)
set_option maxRecDepth 100000 in
set_option maxHeartbeats 2000000 in
theorem szMc_any (m : Mc) (left : Int) (w : World) (h1 : m.st.length ≤ maxLen) (h2 : m.ca.length ≤ maxLen) (h0 : 0 ≤ left) (hl : left ≤ 1048576) : Calls Try.prog 5 #[m.val, .int .i64 left] w (Gives w (.int .i64 (szRes left m.tot))) := by
  obtain ⟨pc, st, sA, sc, ca, cA, cc⟩ := m
  simp only [Mc.val, Mc.tot] at *
  have HB : Hid (Below w.heap.size w (w.alloc (.cells #[.int .i64 pc, .slice sA st.length sc, .slice cA ca.length cc] 24))) := (Below.refl _ _).alloc (Nat.le_refl _) _
  have HK := Lib.hid (Blk.new w 24 #[.int .i64 pc, .slice sA st.length sc, .slice cA ca.length cc])
  go_enter Try.func5, Try.ntmps5
  go_wp2_with fail
  refine (szIntS_any _ _ _ left _ h1 (by omega) hl).mono ?_
  rintro e w1 ⟨rfl, s1⟩
  have HB1 := Lib.hid (HB.out.trans (s1.mono HB.out.size))
  have HK1 := Lib.hid (HK.out.below s1 HK.out.lt)
  clear HB HK s1
  have x2 : w1.cell? ⟨w.heap.size, 2, none⟩ = some (.slice cA ca.length cc) := HK1.out.cell 2
  by_cases q1 : left < (st.length : Int)
  · rw [szRes_neg q1]
    have HR : Hid (szRes left ((st.length : Int) + (ca.length : Int)) = -1) := szRes_neg (by omega)
    go_wp2
    go_ret
    rw [HR.out]
    exact ⟨rfl, HB1.out⟩
  · rw [szRes_pos (Int.not_lt.1 q1)]
    go_wp2_with fail
    refine (szIntS_any _ _ _ (left - (st.length : Int)) _ h2 (by omega) (by omega)).mono ?_
    rintro e w2 ⟨rfl, s2⟩
    have HB2 := Lib.hid (HB1.out.trans (s2.mono HB1.out.size))
    clear s2 HB1 HK1 x2
    by_cases q2 : left - (st.length : Int) < (ca.length : Int)
    · rw [szRes_neg q2]
      have HR : Hid (szRes left ((st.length : Int) + (ca.length : Int)) = -1) := szRes_neg (by omega)
      go_wp2
      go_ret
      rw [HR.out]
      exact ⟨rfl, HB2.out⟩
    · rw [szRes_pos (Int.not_lt.1 q2)]
      have HR : Hid (szRes left ((st.length : Int) + (ca.length : Int)) = left - (st.length : Int) - (ca.length : Int)) := by rw [szRes_pos (by omega)]; show _ = _; omega
      go_wp2
      go_ret
      rw [HR.out]
      exact ⟨rfl, HB2.out⟩
theorem toMc_any {B : Nat} (m : Mc) (w : World) (h : m.At w B) (hB : B ≤ w.heap.size) (hs : m.small) : Calls Try.prog 7 #[m.val] w fun e w' => ∃ z : Mc, e = .returned (.agg #[.int .i64 z.pc, .slice z.sA z.st.length z.sc, .slice z.cA z.ca.length z.cc]) ∧ z.v = m.v ∧ z.Own w' w.heap.size ∧ Below w.heap.size w w' := by
  refine (toMachine_any m.pc m.st m.ca w h.1 hB hs.1 h.2 hB hs.2).mono ?_
  rintro e w' ⟨X1, d1, X2, d2, rfl, hb, o1, o2, ap⟩
  exact ⟨⟨m.pc, m.st, X1, d1, m.ca, X2, d2⟩, rfl, rfl, ⟨o1, o2, fun g h1 h2 => by
    cases X1 with
    | none => cases h1
    | some a1 =>
      cases X2 with
      | none => cases h2
      | some a2 =>
        have e1 : a1.block = g := by simpa [Value.ownBlock] using h1
        have e2 : a2.block = g := by simpa [Value.ownBlock] using h2
        exact ap a1 a2 rfl rfl (e1.trans e2.symm)⟩, hb⟩
theorem eqMc_any (z y : Mc) (w : World) (hv : z.v = y.v) (h : z.At w w.heap.size) (g : y.At w w.heap.size) (hs : z.small) : Calls Try.prog 10 #[.agg #[.int .i64 z.pc, .slice z.sA z.st.length z.sc, .slice z.cA z.ca.length z.cc], .agg #[.int .i64 y.pc, .slice y.sA y.st.length y.sc, .slice y.cA y.ca.length y.cc]] w (Gives w (.bool true)) := by
  unfold Mc.v at hv
  simp only [Prod.mk.injEq] at hv
  obtain ⟨e1, e2, e3⟩ := hv
  obtain ⟨pc, st, sA, sc, ca, cA, cc⟩ := z
  obtain ⟨pc', st', sA', sc', ca', cA', cc'⟩ := y
  simp only at e1 e2 e3 hs ⊢
  subst e1 e2 e3
  exact eqMachine_same pc st ca w h.1 (Nat.le_refl _) g.1 (Nat.le_refl _) hs.1 h.2 (Nat.le_refl _) g.2 (Nat.le_refl _) hs.2
def Mc.marked (z : Mc) (k0 : Int) : Mc := { z with st := mkI k0 z.st.length, ca := mkI (k0 + (z.st.length : Int)) z.ca.length }
theorem mkI_len' (k : Int) (n : Nat) : (mkI k n).length = n := by simp [mkI]
theorem markMc_any (z : Mc) (k0 : Int) (lo hi : Nat) (w : World) (h : z.Own w lo) (hu : (∀ a, z.sA = some a → a.block < hi) ∧ ∀ a, z.cA = some a → a.block < hi) (hs : z.small) (hhi : hi ≤ w.heap.size) (hk0 : 0 ≤ k0) (hk1 : k0 ≤ 4194304) :
    Calls Try.prog 12 #[.agg #[.int .i64 z.pc, .slice z.sA z.st.length z.sc, .slice z.cA z.ca.length z.cc], .int .i64 k0] w fun e w' => e = .returned (.int .i64 (k0 + (z.st.length : Int) + (z.ca.length : Int))) ∧ Only lo hi w w' ∧ (z.marked k0).Own w' lo := by
  refine (markMachine_any z.pc z.st z.ca k0 w h.os hu.1 hs.1 h.oc hu.2 hs.2 h.ap.apart hhi hk0 hk1).mono ?_
  rintro e w' ⟨rfl, ho, o1, o2⟩
  exact ⟨rfl, ho, by simp only [Mc.marked, mkI_len']; exact o1, by simp only [Mc.marked, mkI_len']; exact o2, by simp only [Mc.marked, mkI_len']; exact h.ap⟩
theorem heldMc_any (z : Mc) (w : World) (h : (z.marked 1).At w w.heap.size) (hs : z.small) :
    Calls Try.prog 14 #[.agg #[.int .i64 z.pc, .slice z.sA z.st.length z.sc, .slice z.cA z.ca.length z.cc], .int .i64 1] w (Gives w (.int .i64 (1 + (z.st.length : Int) + (z.ca.length : Int)))) := by
  have h1 := h.1
  have h2 := h.2
  simp only [Mc.marked, mkI_len'] at h1 h2
  exact heldMachine_any z.pc z.st z.ca 1 w h1 (Nat.le_refl _) hs.1 h2 (Nat.le_refl _) hs.2 (by omega) (by omega)
theorem Mc.Own.only {z : Mc} {w w' : World} {lo l u : Nat} (h : z.Own w lo) (ho : Only l u w w') (hd : (∀ a, z.sA = some a → a.block < l ∨ u ≤ a.block) ∧ ∀ a, z.cA = some a → a.block < l ∨ u ≤ a.block) : z.Own w' lo := ⟨own_only h.os ho hd.1, own_only h.oc ho hd.2, h.ap⟩
theorem Mc.Own.up {z : Mc} {w : World} {lo : Nat} (h : z.Own w lo) : (∀ a, z.sA = some a → lo ≤ a.block ∧ a.block < w.heap.size) ∧ ∀ a, z.cA = some a → lo ≤ a.block ∧ a.block < w.heap.size := ⟨own_up h.os, own_up h.oc⟩
open Go.ChangeShapes Go.WideShapes Go.ChangeAt Go.Deep
/-- A machine that came in. -/
def ArgMc (W : World) (v : Value) : Prop := ∃ m : Mc, v = m.val ∧ m.At W W.heap.size ∧ m.st.length ≤ maxLen ∧ m.ca.length ≤ maxLen
section
variable {H : Type} {enc : TypeId × Value → H} {W : World} {base : Nat} {b0 : Nat} {r : Reach} {hd : Bool}
set_option maxRecDepth 100000 in
theorem arg_mc {v : Value} {d : DataW H} {p : List MemPlace} (hv : Value.okWide Try.prog W r b0 24 v) (h : DataW.Trod enc Try.prog W base (fun _ => true) hd 24 v d p) : ArgMc W v := by
  obtain ⟨v0, v1, v2, y0, y1, y2, m, rfl, rfl, rfl, hy0, hy1, hy2⟩ := Joins.open_agg3 Try.underlying24 (by kernel_rfl) (by kernel_rfl) hv h
  obtain ⟨x0, e0, _, _⟩ := DataW.trod_int Try.underlying3 hy0
  simp only [List.cons.injEq, and_true] at e0
  subst e0
  obtain ⟨A1, c1, xs, rfl, hr1, hm1, _⟩ := read_nums Try.underlying22 Try.underlying3 (by kernel_rfl) hy1
  obtain ⟨A2, c2, ys, rfl, hr2, hm2, _⟩ := read_nums Try.underlying22 Try.underlying3 (by kernel_rfl) hy2
  exact ⟨⟨x0, xs, A1, c1, ys, A2, c2⟩, rfl, ⟨hr1, hr2⟩, hm1, hm2⟩
end
end Go.Proofs.Ytbljkdhokbhcdaa
