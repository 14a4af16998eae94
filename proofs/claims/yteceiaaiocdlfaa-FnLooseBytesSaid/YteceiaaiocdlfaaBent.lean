/- Contract of l20Bent, and of the drawing of bytes that are loosened. Condition: not too many draws. -/
import Derived.Test.YteceiaaiocdlfaaRows
import Derived.Test.YteceiaaiocdlfaaBase
import Derived.Test.YteceiaaiocdlfaaBase2
import Derived.Test.YteceiaaiocdlfaaBase3
import Derived.Test.YteceiaaiocdlfaaIn
import Derived.Test.YteceiaaiocdlfaaSqz
import Derived.Test.YteceiaaiocdlfaaRepB
import Derived.Test.YteceiaaiocdlfaaFill
import Derived.Test.YteceiaaiocdlfaaLooP
import Derived.Test.YteceiaaiocdlfaaLoo
import Derived.Test.YteceiaaiocdlfaaPick
import Derived.Test.YteceiaaiocdlfaaPick2
import Derived.Test.YteceiaaiocdlfaaOpenC
import Derived.Test.YteceiaaiocdlfaaDrawLo
import Derived.WalkKit
import Derived.WalkSpells
import Derived.WalkLawsBesides
import Derived.Handy
import Derived.BigQuiet
import Derived.Deep.RegionHeld3
import Derived.Deep.DrawnRows
import Derived.Deep.QuietTactic
namespace Go.Proofs.Yteceiaaiocdlfaa
open Go Go.RowKit

theorem u8_wrap_bd (x : Int) : 0 ≤ IntKind.u8.wrap x ∧ IntKind.u8.wrap x ≤ 255 := by
  have e : IntKind.u8.wrap x = x % 256 := by simp [IntKind.wrap, IntKind.signed, IntKind.bits]
  omega
theorem own_cutn {w : World} {base : Nat} {t : TypeId} {A : Option Addr} {n c m : Nat} {xs : List Value} (h : w.ownsRow base t 1 (.slice A n c) n xs) (hm : m ≤ n) : w.ownsRow base t 1 (.slice A m c) m (xs.take m) := by
  refine ⟨by have := h.1; rw [List.length_take]; omega, ?_⟩
  rcases h.2 with ⟨hv, h0⟩ | ⟨g, cap, cur, hv, hbg, hh, hnc, hcm, hcs, htk⟩
  · injection hv with h1 h2 h3
    subst h1 h0 h3
    obtain rfl : m = 0 := by omega
    exact .inl ⟨rfl, rfl⟩
  · injection hv with h1 h2 h3
    subst h1 h3
    refine .inr ⟨g, c, cur, rfl, hbg, hh, by omega, hcm, hcs, ?_⟩
    rw [← htk, List.take_take]
    congr 1
    omega
theorem own_capB {w : World} {base : Nat} {t : TypeId} {size : Nat} {A : Option Addr} {n c : Nat} {xs : List Value} (h : w.ownsRow base t size (.slice A n c) n xs) : n ≤ c ∧ c ≤ maxLen := by
  rcases h.2 with ⟨hv, h0⟩ | ⟨g, cap, cur, hv, _, _, hnc, hcm, _⟩
  · injection hv with h1 h2 h3
    subst h3
    exact ⟨by omega, Nat.zero_le _⟩
  · injection hv with h1 h2 h3
    subst h3
    exact ⟨hnc, hcm⟩
theorem isB_take {bs : List Int} (h : isB bs) (m : Nat) : isB (bs.take m) := fun x hx => h x (List.mem_of_mem_take hx)
theorem isB_set {bs : List Int} (h : isB bs) (k : Nat) {v : Int} (h0 : 0 ≤ v) (h1 : v ≤ 255) : isB (bs.set k v) := fun x hx => by
  rcases List.mem_or_eq_of_mem_set hx with hx | rfl
  · exact h x hx
  · exact ⟨h0, h1⟩
theorem isB_snoc {bs : List Int} (h : isB bs) {v : Int} (h0 : 0 ≤ v) (h1 : v ≤ 255) : isB (bs ++ [v]) := fun x hx => by
  rcases List.mem_append.1 hx with hx | hx
  · exact h x hx
  · rw [List.mem_singleton.1 hx]; exact ⟨h0, h1⟩
/-- Bytes were bent. -/
def DrewBent (w : World) (r P n : Nat) (e : Ending) (w' : World) : Prop :=
  ∃ (A : Option Addr) (c : Nat) (bs : List Int), e = .returned (.slice A bs.length c) ∧ w'.ownsRow w.heap.size 5 1 (.slice A bs.length c) bs.length (nums .u8 bs) ∧ bs.length ≤ n + 1 ∧ isB bs ∧ Rdr w' r (P + 4) ∧ w.grownBy w' (some r)
theorem bent_set {w w4 : World} {r P k g c2 : Nat} {bs : List Int} {z : Int} (h : w4.ownsRow w.heap.size 5 1 (.slice (some ⟨g, 0, none⟩) bs.length c2) bs.length (nums .u8 bs)) (hz : 0 ≤ z ∧ z ≤ 255) (hx : isB bs) (hr : Rdr w4 r (P + 4)) (hg : w.grownBy w4 (some r)) (hrl : r < w.heap.size) :
    DrewBent w r P bs.length (.returned (.slice (some ⟨g, 0, none⟩) bs.length c2)) (w4.setCell ⟨g, k, none⟩ (.int .u8 z)) := by
  have hup := (own_up h _ rfl).1
  simp only at hup
  have hst := (h.stored k (.int .u8 z)).1
  have e : nums .u8 (bs.set k z) = (nums .u8 bs).set k (.int .u8 z) := by simp [nums, List.map_set]
  have hl : (bs.set k z).length = bs.length := List.length_set
  refine ⟨some ⟨g, 0, none⟩, c2, bs.set k z, by rw [hl], ?_, by omega, isB_set hx k hz.1 hz.2, hr.setCell (by show r < g; omega) _, gr_setCell hg hup _⟩
  rw [hl, e]
  exact hst
set_option maxRecDepth 100000 in
set_option maxHeartbeats 8000000 in
theorem l20Bent_any {A1 : Option Addr} {c1 B1 : Nat} (r P : Nat) (bs : List Int) (w : World) (hr : Rdr w r P) (hP : P ≤ 100000) (h1 : Reads w B1 1 A1 bs.length (nums .u8 bs)) (hB1 : B1 ≤ w.heap.size) (hm : bs.length ≤ 100000) (hx : isB bs) :
    Calls Try.prog 62 #[.pointer (some ⟨r, 0, none⟩), .slice A1 bs.length c1] w (DrewBent w r P bs.length) := by
  obtain ⟨i0, hi0, hz0, hz1, hz2⟩ := info_parts byte_info
  have hrl := hr.lt
  have HR := Lib.hid hr
  have HX := Lib.hid hx
  have H1 := Lib.hid (h1.more hB1)
  clear hr hx h1
  go_enter Try.func62, Try.ntmps62
  go_wp2_with (at_builtin; refine wpList_appendS _ rfl (.tmp 7) (.tmp 8) _ rfl w.heap.size 5 i0 _ 1 1 Try.underlying28 hi0 hz0 hz1 hz2 rfl (by omega) (by omega) (some ⟨w.heap.size, 0, none⟩) 0 0 [] rfl (by exact World.ownsRow_lit (base := w.heap.size) (e := 5) (size := 1) w #[] 0 (Nat.le_refl _) (by unfold maxLen; omega) rfl) w.heap.size A1 bs.length c1 (nums .u8 bs) rfl (by exact H1.out.alloc (Nat.le_refl _) _) (nums_one _ _) (by omega) (by simp) ?_; intro A2 c2 w1 ho1 hg1 ha1; have s1 : Below w.heap.size w w1 := below_lit hg1 (Nat.le_refl _); simp only [Nat.zero_add, List.nil_append] at ho1; have Ha := Lib.hid ho1; have HR1 := Lib.hid (HR.out.below s1); have HG1 : Hid (w.grownBy w1 (some r)) := gr_below (grown_refl w (some r)) s1; clear ho1 hg1 ha1 s1 HR)
  have zz1 := HG1.out.size
  refine (pick_any r P 3 _ HR1.out (by omega) (by omega) (by omega)).mono ?_
  rintro e w2 ⟨v, rfl, ⟨va, vb⟩, hr2, hg2⟩
  replace Ha := Lib.hid (own_pick Ha.out hg2 hrl)
  have HG2 := Lib.hid (gr_trans HG1.out hg2)
  have HR2 := Lib.hid hr2
  have zz2 := HG2.out.size
  clear HG1 HR1 hr2 hg2
  rcases (by omega : v = 0 ∨ v = 1 ∨ v = 2) with rfl | rfl | rfl
  · by_cases hl : 0 < bs.length
    · have hl1 : (0 : Int) < (bs.length : Int) := by omega
      go_wp2_with fail
      refine (pick_any r _ (bs.length : Int) _ HR2.out (by omega) (by omega) (by omega)).mono ?_
      rintro e w3 ⟨u, rfl, ⟨ua, ub⟩, hr3, hg3⟩
      obtain ⟨k, rfl⟩ := Int.eq_ofNat_of_zero_le ua
      have hk : k < bs.length := by omega
      have hk1 : (k : Int) < (bs.length : Int) := by omega
      replace Ha := Lib.hid (own_pick Ha.out hg3 hrl)
      have HG3 := Lib.hid (gr_trans HG2.out hg3)
      have HRd : Hid (Rdr w3.drew r (P + 1 + 1)) := hr3
      have zz3 := HG3.out.size
      clear HG2 HR2 hr3 hg3 ub
      obtain ⟨g, rfl, hg, _⟩ := own_addr Ha.out hl
      have e0 : w3.cell? ⟨g, k, none⟩ = some (.int .u8 bs[k]) := (Ha.out.cellAt k (by omega)).trans (nums_get _ _ hk)
      have q3 : P + 1 + 1 ≤ 1000000 := by omega
      go_wp2
      go_region_law (go_simp; go_at_call 49; (with_reducible refine (pick_any r _ 255 _ HRd.out q3 (by omega) (by omega)).mono ?_); rintro e w4 ⟨y, rfl, ⟨ya, yb⟩, hr4, hg4⟩; have hg34 : w3.grownBy w4 (some r) := ⟨hg4.os, hg4.tape, hg4.output, hg4.size, hg4.block⟩; have Ha4 := Lib.hid (own_pick Ha.out hg34 hrl); have HG4 := Lib.hid (gr_trans HG3.out hg34); have HR4 := Lib.hid hr4; have e1 : w4.cell? ⟨g, k, none⟩ = some (.int .u8 bs[k]) := (Ha4.out.cellAt k (by omega)).trans (nums_get _ _ hk); have f1 : w4.frozen? ⟨g, k, none⟩ = false := Ha4.out.frozenAt k; clear hr4 hg4 hg34)
      all_goals
        go_wp2
        go_ret
        exact bent_set Ha4.out (u8_wrap_bd _) HX.out (HR4.out.more (by omega)) HG4.out (by omega)
    · have hl1 : decide ((bs.length : Int) > 0) = false := decide_eq_false (by omega)
      go_wp2
      go_ret
      exact ⟨A2, c2, bs, rfl, Ha.out, by omega, HX.out, HR2.out.more (by omega), HG2.out⟩
  · go_wp2_with fail
    refine (pick_any r _ ((bs.length : Int) + 1) _ HR2.out (by omega) (by omega) (by omega)).mono ?_
    rintro e w3 ⟨u, rfl, ⟨ua, ub⟩, hr3, hg3⟩
    obtain ⟨k, rfl⟩ := Int.eq_ofNat_of_zero_le ua
    replace Ha := Lib.hid (own_pick Ha.out hg3 hrl)
    have HG3 := Lib.hid (gr_trans HG2.out hg3)
    have HR3 := Lib.hid hr3
    have zz3 := HG3.out.size
    have hk : k ≤ bs.length := by omega
    have hcap := own_capB Ha.out
    have hk1 : (k : Int) ≤ (c2 : Int) := by omega
    clear HG2 HR2 hr3 hg3 ub
    go_wp2
    go_ret
    have hl2 : (bs.take k).length = k := by simp; omega
    refine ⟨A2, c2, bs.take k, by rw [hl2]; rfl, ?_, by omega, isB_take HX.out k, HR3.out.more (by omega), HG3.out⟩
    rw [hl2]
    have e : nums .u8 (bs.take k) = (nums .u8 bs).take k := by simp [nums, List.map_take]
    rw [e]
    exact own_cutn Ha.out hk
  · go_wp2_with fail
    refine (pick_any r _ 256 _ HR2.out (by omega) (by omega) (by omega)).mono ?_
    rintro e w3 ⟨y, rfl, ⟨ya, yb⟩, hr3, hg3⟩
    replace Ha := Lib.hid (own_pick Ha.out hg3 hrl)
    have HG3 := Lib.hid (gr_trans HG2.out hg3)
    have HR3 := Lib.hid hr3
    have zz3 := HG3.out.size
    clear HG2 HR2 hr3 hg3
    go_wp2_with (at_builtin; refine wpList_push _ rfl (.tmp 12) (.tmp 16) _ rfl w.heap.size 5 i0 _ 1 1 Try.underlying28 hi0 hz0 hz1 hz2 rfl (by omega) (by omega) A2 bs.length c2 1 1 _ [.int .u8 y] (by exact Ha.out.alloc _) rfl ⟨w3.heap.size, 0, none⟩ rfl rfl (World.news_of_block (cs := #[.int .u8 y]) (t := 5) (fr := (0, 0)) (by exact heap_alloc_new w3 _)) (by simp [Value.oneCell']) (by omega) (by omega) (by simp; omega) ?_; intro A' c' w7 ho7 hg7 ha7 hk7; have HR7 := Lib.hid ((HR3.out.alloc _).row hg7 (Ha.out.alloc _) hrl); have HG7 := Lib.hid (gr_row (gr_alloc HG3.out _) hg7 (Ha.out.alloc _) (Nat.le_refl _)); have HO7 := Lib.hid ho7; clear ho7 hg7 ha7 hk7)
    go_ret
    refine ⟨A', c', bs ++ [y], by simp, ?_, by simp, isB_snoc HX.out ya (by omega), HR7.out.more (by omega), HG7.out⟩
    have e : nums .u8 (bs ++ [y]) = nums .u8 bs ++ [.int .u8 y] := by simp [nums]
    rw [e, List.length_append, List.length_singleton]
    exact HO7.out
end Go.Proofs.Yteceiaaiocdlfaa
