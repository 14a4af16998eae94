/- Machines; contracts of the validity of machines and of their copies. Condition: the sizes. -/
import Derived.Test.YtbljkdhokbhcdaaRows
import Derived.Test.YtbljkdhokbhcdaaBase
import Derived.Test.YtbljkdhokbhcdaaBase2
import Derived.Test.YtbljkdhokbhcdaaBase3
import Derived.Test.YtbljkdhokbhcdaaOnly
import Derived.Test.YtbljkdhokbhcdaaIn
import Derived.Test.YtbljkdhokbhcdaaFindI
import Derived.Test.YtbljkdhokbhcdaaIntS
import Derived.Test.YtbljkdhokbhcdaaReg
import Derived.Test.YtbljkdhokbhcdaaRegS
import Derived.Test.YtbljkdhokbhcdaaPick2
import Derived.Test.YtbljkdhokbhcdaaKT
import Derived.Test.YtbljkdhokbhcdaaShelf
import Derived.WalkKit
import Derived.WalkSpells
import Derived.WalkLawsBesides
import Derived.Handy
import Derived.BigQuiet
import Derived.Deep.RegionHeld3
import Derived.Deep.DrawnRows
import Derived.Deep.QuietTactic
import Derived.Deep.CutBlock
namespace Go.Proofs.Ytbljkdhokbhcdaa
open Go Go.RowKit

/-- A machine in memory. -/
structure Mc where
  pc : Int
  st : List Int
  sA : Option Addr
  sc : Nat
  ca : List Int
  cA : Option Addr
  cc : Nat
def Mc.cells (m : Mc) : Array Value := #[.int .i64 m.pc, .slice m.sA m.st.length m.sc, .slice m.cA m.ca.length m.cc]
def Mc.val (m : Mc) : Value := .agg #[.int .i64 m.pc, .slice m.sA m.st.length m.sc, .slice m.cA m.ca.length m.cc]
abbrev McV := Int × List Int × List Int
def Mc.v (m : Mc) : McV := (m.pc, m.st, m.ca)
def Mc.At (m : Mc) (w : World) (B : Nat) : Prop := Reads w B 1 m.sA m.st.length (nums .i64 m.st) ∧ Reads w B 1 m.cA m.ca.length (nums .i64 m.ca)
theorem Mc.At.below {m : Mc} {w w' : World} {B : Nat} (h : m.At w B) (hb : Below B w w') : m.At w' B := ⟨h.1.below hb, h.2.below hb⟩
theorem Mc.At.more {m : Mc} {w : World} {B B' : Nat} (h : m.At w B) (hb : B ≤ B') : m.At w B' := ⟨h.1.more hb, h.2.more hb⟩
def Mc.small (m : Mc) : Prop := m.st.length ≤ 1048576 ∧ m.ca.length ≤ 1048576
def ApV (u v : Value) : Prop := ∀ g, u.ownBlock = some g → v.ownBlock ≠ some g
theorem ApV.symm {u v : Value} (h : ApV u v) : ApV v u := fun g h1 h2 => h g h2 h1
theorem ApV.apart {A B : Option Addr} {n m c d : Nat} (h : ApV (.slice A n c) (.slice B m d)) : ∀ a b, A = some a → B = some b → a.block ≠ b.block := fun a b ha hb e => by
  subst ha hb
  exact h a.block (by simp [Value.ownBlock]) (by simp [Value.ownBlock, e])
/-- Its rows are a call's own. -/
structure Mc.Own (m : Mc) (w : World) (lo : Nat) : Prop where
  os : w.ownsRow lo 3 1 (.slice m.sA m.st.length m.sc) m.st.length (nums .i64 m.st)
  oc : w.ownsRow lo 3 1 (.slice m.cA m.ca.length m.cc) m.ca.length (nums .i64 m.ca)
  ap : ApV (.slice m.sA m.st.length m.sc) (.slice m.cA m.ca.length m.cc)
theorem Mc.Own.at_ {m : Mc} {w : World} {lo : Nat} (h : m.Own w lo) : m.At w w.heap.size := ⟨Reads.of_own h.os, Reads.of_own h.oc⟩
theorem Mc.Own.below {m : Mc} {w w' : World} {lo : Nat} (h : m.Own w lo) (hb : Below w.heap.size w w') : m.Own w' lo := ⟨own_below h.os hb, own_below h.oc hb, h.ap⟩
theorem Mc.Own.base {m : Mc} {w : World} {lo lo' : Nat} (h : m.Own w lo) (hb : lo' ≤ lo) : m.Own w lo' := ⟨own_base h.os hb, own_base h.oc hb, h.ap⟩
/-- The type that machines' rows have. -/
def TI (t : TypeId) : Prop := t = 3
theorem TI_m : ¬ TI 27 := by unfold TI; decide
theorem Mc.Own.keep {m : Mc} {w w' : World} {lo : Nat} (h : m.Own w lo) (k : KeepT TI w w') : m.Own w' lo := ⟨k.own h.os rfl, k.own h.oc rfl, h.ap⟩
/-- A valid machine. -/
def mOk (pc : Int) (st ca : List Int) : Bool := decide (0 ≤ pc) && (decide (st.length ≤ 8) && (decide (ca.length ≤ 8) && ((st.all fun n => inB n 0 65535) && (ca.all fun n => !decide (n < 0)))))
theorem m_any_not {α : Type} (p : α → Bool) (xs : List α) : (!xs.any fun x => !p x) = xs.all p := by
  induction xs with
  | nil => rfl
  | cons x xs ih => simp [List.all_cons, ih]
theorem m_any_not2 (xs : List Int) : (!xs.any fun n => decide (n < 0)) = xs.all fun n => !decide (n < 0) := by
  induction xs with
  | nil => rfl
  | cons x xs ih => simp [List.all_cons, ih]
theorem m_all_at {α : Type} {p : α → Bool} {xs : List α} (h : ∀ j, (h : j < xs.length) → p xs[j] = true) : xs.all p = true := by
  rw [List.all_eq_true]
  intro x hx
  obtain ⟨j, hj, rfl⟩ := List.getElem_of_mem hx
  exact h j hj
theorem m_all_not {α : Type} {p : α → Bool} {xs : List α} {k : Nat} (hk : k < xs.length) (h : p xs[k] = false) : xs.all p = false := by
  rw [List.all_eq_false]
  exact ⟨_, List.getElem_mem hk, by simp [h]⟩
theorem mOk_parts {pc : Int} {st ca : List Int} (h : mOk pc st ca = true) : 0 ≤ pc ∧ st.length ≤ 8 ∧ ca.length ≤ 8 ∧ (∀ x ∈ st, 0 ≤ x ∧ x ≤ 65535) ∧ ∀ x ∈ ca, 0 ≤ x := by
  unfold mOk at h
  simp only [Bool.and_eq_true, decide_eq_true_eq, List.all_eq_true] at h
  obtain ⟨h1, h2, h3, h4, h5⟩ := h
  exact ⟨h1, h2, h3, fun x hx => inB_iff.1 (h4 x hx), fun x hx => by have := h5 x hx; simpa using this⟩
set_option maxHeartbeats 1000000 in
theorem mv1_any (n : Int) (w : World) : Calls Try.prog 37 #[.int .i64 n] w (Gives w (.bool (!inB n 0 65535))) := by
  go_enter Try.func37, Try.ntmps37
  go_wp2_with (go_at_call 25; refine (within_any _ _ _ _).mono ?_; rintro e w' ⟨rfl, rfl⟩)
  go_ret
  exact ⟨rfl, Below.refl _ _⟩
set_option maxHeartbeats 1000000 in
theorem mv2_any (n : Int) (w : World) : Calls Try.prog 38 #[.int .i64 n] w (Gives w (.bool (decide (n < 0)))) := by
  go_enter Try.func38, Try.ntmps38
  go_wp2
  go_ret
  exact ⟨rfl, Below.refl _ _⟩
set_option maxRecDepth 100000 in
set_option maxHeartbeats 4000000 in
theorem implMOk_any {B : Nat} (m : Mc) (w : World) (h : m.At w B) (hB : B ≤ w.heap.size) (hs : m.small) : Calls Try.prog 17 #[m.val] w (Gives w (.bool (mOk m.pc m.st m.ca))) := by
  obtain ⟨pc, st, sA, sc, ca, cA, cc⟩ := m
  simp only [Mc.val, Mc.At, Mc.small] at *
  obtain ⟨hs1, hs2⟩ := hs
  have HB0 : Hid (Below w.heap.size w (w.alloc (.cells #[.int .i64 pc, .slice sA st.length sc, .slice cA ca.length cc] 27))) := (Below.refl _ _).alloc (Nat.le_refl _) _
  have HK := Lib.hid (Blk.new w 27 #[.int .i64 pc, .slice sA st.length sc, .slice cA ca.length cc])
  have HC1 := Lib.hid (fun w' (hb : Below w.heap.size w w') => containsFuncInt_any sA sc w'.heap.size 37 #[] (fun n => !inB n 0 65535) st w' (((h.1.more hB).below hb).more hb.size) (Nat.le_refl _) (by unfold maxLen; omega) (fun args w => by kernel_rfl) (fun x _ w' _ => by simpa using mv1_any x w'))
  have HC2 := Lib.hid (fun w' (hb : Below w.heap.size w w') => containsFuncInt_any cA cc w'.heap.size 38 #[] (fun n => decide (n < 0)) ca w' (((h.2.more hB).below hb).more hb.size) (Nat.le_refl _) (by unfold maxLen; omega) (fun args w => by kernel_rfl) (fun x _ w' _ => by simpa using mv2_any x w'))
  clear h
  have HN1 := Lib.hid (m_any_not (fun n => inB n 0 65535) st)
  have HN2 := Lib.hid (m_any_not2 ca)
  by_cases q0 : 0 ≤ pc
  · by_cases q1 : st.length ≤ 8
    · by_cases q2 : ca.length ≤ 8
      · have q1' : (st.length : Int) ≤ 8 := by omega
        have q2' : (ca.length : Int) ≤ 8 := by omega
        have HR : Hid (mOk pc st ca = ((!st.any fun n => !inB n 0 65535) && (!ca.any fun n => decide (n < 0)))) := by
          show mOk pc st ca = _
          unfold mOk
          rw [HN1.out, HN2.out, decide_eq_true q0, decide_eq_true q1, decide_eq_true q2]
          rfl
        go_enter Try.func17, Try.ntmps17
        go_wp2_with fail
        refine (HC1.out _ HB0.out).mono ?_
        rintro e w1 ⟨rfl, s1⟩
        have HB1 := Lib.hid (HB0.out.trans (s1.mono HB0.out.size))
        have HK1 := Lib.hid (HK.out.below s1 HK.out.lt)
        clear HB0 HK s1 HC1
        have x2 : w1.cell? ⟨w.heap.size, 2, none⟩ = some (.slice cA ca.length cc) := HK1.out.cell 2
        generalize (st.any fun n => !inB n 0 65535) = b1 at *
        cases b1
        · go_wp2_with fail
          refine (HC2.out w1 HB1.out).mono ?_
          rintro e w2 ⟨rfl, s2⟩
          have HB2 := Lib.hid (HB1.out.trans (s2.mono HB1.out.size))
          clear s2 HB1 HC2 x2 HK1
          generalize (ca.any fun n => decide (n < 0)) = b2 at *
          cases b2
          all_goals
            go_wp2
            go_ret
            rw [HR.out]
            exact ⟨rfl, HB2.out⟩
        · go_wp2
          go_ret
          rw [HR.out]
          exact ⟨by simp, HB1.out⟩
      · have q2' : ¬ (ca.length : Int) ≤ 8 := by omega
        have q1' : (st.length : Int) ≤ 8 := by omega
        have HR : Hid (mOk pc st ca = false) := by
          show mOk pc st ca = false
          unfold mOk
          rw [decide_eq_false q2]
          simp
        go_enter Try.func17, Try.ntmps17
        go_wp2
        go_ret
        rw [HR.out]
        exact ⟨rfl, HB0.out⟩
    · have q1' : ¬ (st.length : Int) ≤ 8 := by omega
      have HR : Hid (mOk pc st ca = false) := by
        show mOk pc st ca = false
        unfold mOk
        rw [decide_eq_false q1]
        simp
      go_enter Try.func17, Try.ntmps17
      go_wp2
      go_ret
      rw [HR.out]
      exact ⟨rfl, HB0.out⟩
  · have HR : Hid (mOk pc st ca = false) := by
      show mOk pc st ca = false
      unfold mOk
      rw [decide_eq_false q0]
      simp
    go_enter Try.func17, Try.ntmps17
    go_wp2
    go_ret
    rw [HR.out]
    exact ⟨rfl, HB0.out⟩
set_option maxRecDepth 100000 in
set_option maxHeartbeats 4000000 in
theorem specMOk_any {B : Nat} (m : Mc) (w : World) (h : m.At w B) (hB : B ≤ w.heap.size) (hs : m.small) : Calls Try.prog 20 #[m.val] w (Gives w (.bool (mOk m.pc m.st m.ca))) := by
  obtain ⟨pc, st, sA, sc, ca, cA, cc⟩ := m
  simp only [Mc.val, Mc.At, Mc.small] at *
  obtain ⟨hs1, hs2⟩ := hs
  have HB0 : Hid (Below w.heap.size w (w.alloc (.cells #[.int .i64 pc, .slice sA st.length sc, .slice cA ca.length cc] 27))) := (Below.refl _ _).alloc (Nat.le_refl _) _
  have HK := Lib.hid (Blk.new w 27 #[.int .i64 pc, .slice sA st.length sc, .slice cA ca.length cc])
  have H1 := Lib.hid (h.1.more hB)
  have H2 := Lib.hid (h.2.more hB)
  clear h
  go_enter Try.func20, Try.ntmps20
  go_wp2
  go_loopw [3] (fun kv wr => ∃ k : Nat, kv = .int .i64 (k : Int) ∧ k ≤ st.length ∧ Hid (∀ j, (h : j < st.length) → j < k → inB st[j] 0 65535 = true) ∧ Hid (Below w.heap.size w wr) ∧ Hid (Blk wr w.heap.size 27 #[.int .i64 pc, .slice sA st.length sc, .slice cA ca.length cc])) (fun kv _ => st.length - (intOf kv).toNat)
  case atStart => exact ⟨0, rfl, Nat.zero_le _, Lib.hid (fun j _ h => by omega), HB0, HK⟩
  case round =>
    obtain ⟨k, rfl, hk, HA, HB, HX⟩ := hrel
    clear HB0 HK
    have x1 : wr.cell? ⟨w.heap.size, 1, none⟩ = some (.slice sA st.length sc) := HX.out.cell 1
    by_cases hlt : k < st.length
    · obtain ⟨b, off, hA, _, hc⟩ := (H1.out.below HB.out).row_ (by omega) (by omega)
      have c0 : wr.cell? ⟨b, off + k, none⟩ = some (.int .i64 st[k]) := hc k _ (by simp [nums, hlt])
      have hlt' : (k : Int) < (st.length : Int) := by omega
      rw [hA] at x1
      have HNT : Hid (inB st[k] 0 65535 = false → mOk pc st ca = false) := fun hq => by
        unfold mOk
        rw [m_all_not (p := fun n => inB n 0 65535) hlt hq]
        simp
      have HTT : Hid (inB st[k] 0 65535 = true → ∀ j, (h : j < st.length) → j < k + 1 → inB st[j] 0 65535 = true) := fun hq j hj hjk => by
        by_cases hjk2 : j < k
        · exact HA.out j hj hjk2
        · obtain rfl : j = k := by omega
          exact hq
      clear hA hc HA
      generalize st[k] = z at *
      go_wp2_with fail
      refine (l1In_any _ _ _ _).mono ?_
      rintro e w' ⟨rfl, rfl⟩
      cases hq : inB z 0 65535
      · have HR := Lib.hid (HNT.out hq)
        clear hq HNT HTT
        go_wp2
        go_ret
        rw [HR.out]
        exact ⟨rfl, HB.out⟩
      · have HR := Lib.hid (HTT.out hq)
        clear hq HNT HTT
        go_wp2
        go_roundw
        case rel => exact ⟨k + 1, by go_num, by omega, HR, HB, HX⟩
        case measure => simp [intOf]; omega
    · have HALL : Hid ((st.all fun n => inB n 0 65535) = true) := m_all_at (fun j hj => HA.out j hj (by omega))
      clear HA
      go_wp2
      go_loopw [4] (fun kv wr => ∃ k : Nat, kv = .int .i64 (k : Int) ∧ k ≤ ca.length ∧ Hid (∀ j, (h : j < ca.length) → j < k → (!decide (ca[j] < 0)) = true) ∧ Hid (Below w.heap.size w wr) ∧ Hid (Blk wr w.heap.size 27 #[.int .i64 pc, .slice sA st.length sc, .slice cA ca.length cc])) (fun kv _ => ca.length - (intOf kv).toNat)
      case atStart => exact ⟨0, rfl, Nat.zero_le _, Lib.hid (fun j _ h => by omega), HB, HX⟩
      case round =>
        clear HB HX x1 hlt hk
        obtain ⟨k, rfl, hk, HA, HB, HX⟩ := hrel
        have x0 : wr.cell? ⟨w.heap.size, 0, none⟩ = some (.int .i64 pc) := HX.out.cell 0
        have x1 : wr.cell? ⟨w.heap.size, 1, none⟩ = some (.slice sA st.length sc) := HX.out.cell 1
        have x2 : wr.cell? ⟨w.heap.size, 2, none⟩ = some (.slice cA ca.length cc) := HX.out.cell 2
        by_cases hlt : k < ca.length
        · obtain ⟨b, off, hA, _, hc⟩ := (H2.out.below HB.out).row_ (by omega) (by omega)
          have c0 : wr.cell? ⟨b, off + k, none⟩ = some (.int .i64 ca[k]) := hc k _ (by simp [nums, hlt])
          have hlt' : (k : Int) < (ca.length : Int) := by omega
          rw [hA] at x2
          have HNT : Hid (ca[k] < 0 → mOk pc st ca = false) := fun hq => by
            unfold mOk
            rw [m_all_not (p := fun n => !decide (n < 0)) hlt (by simp [hq])]
            simp
          have HTT : Hid (¬ ca[k] < 0 → ∀ j, (h : j < ca.length) → j < k + 1 → (!decide (ca[j] < 0)) = true) := fun hq j hj hjk => by
            by_cases hjk2 : j < k
            · exact HA.out j hj hjk2
            · obtain rfl : j = k := by omega
              simp [hq]
          clear hA hc HA
          generalize ca[k] = z at *
          by_cases hq : z < 0
          · have HR := Lib.hid (HNT.out hq)
            clear HNT HTT
            go_wp2
            go_ret
            rw [HR.out]
            exact ⟨rfl, HB.out⟩
          · have HR := Lib.hid (HTT.out hq)
            clear HNT HTT
            go_wp2
            go_roundw
            case rel => exact ⟨k + 1, by go_num, by omega, HR, HB, HX⟩
            case measure => simp [intOf]; omega
        · have HALL2 : Hid ((ca.all fun n => !decide (n < 0)) = true) := m_all_at (fun j hj => HA.out j hj (by omega))
          have HR : Hid (mOk pc st ca = (decide (0 ≤ pc) && (decide (st.length ≤ 8) && decide (ca.length ≤ 8)))) := by
            show mOk pc st ca = _
            unfold mOk
            rw [HALL.out, HALL2.out]
            simp
          clear HA HALL HALL2
          by_cases q0 : 0 ≤ pc
          · by_cases q1 : st.length ≤ 8
            · have q1' : (st.length : Int) ≤ 8 := by omega
              by_cases q2 : ca.length ≤ 8
              · have q2' : (ca.length : Int) ≤ 8 := by omega
                rw [decide_eq_true q0, decide_eq_true q1, decide_eq_true q2] at HR
                go_wp2
                go_ret
                rw [HR.out]
                exact ⟨rfl, HB.out⟩
              · have q2' : ¬ (ca.length : Int) ≤ 8 := by omega
                rw [decide_eq_true q0, decide_eq_true q1, decide_eq_false q2] at HR
                go_wp2
                go_ret
                rw [HR.out]
                exact ⟨rfl, HB.out⟩
            · have q1' : ¬ (st.length : Int) ≤ 8 := by omega
              rw [decide_eq_true q0, decide_eq_false q1] at HR
              go_wp2
              go_ret
              rw [HR.out]
              exact ⟨rfl, HB.out⟩
          · rw [decide_eq_false q0] at HR
            go_wp2
            go_ret
            rw [HR.out]
            exact ⟨rfl, HB.out⟩
end Go.Proofs.Ytbljkdhokbhcdaa
