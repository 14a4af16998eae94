/- Contract of slices.Equal at Fixup. No condition but the sizes. -/
import Derived.Test.YtmmenedjmdcbcaaRows
import Derived.Test.YtmmenedjmdcbcaaBase
import Derived.Test.YtmmenedjmdcbcaaBase2
import Derived.Test.YtmmenedjmdcbcaaFix
import Derived.WalkKit
import Derived.WalkSpells
import Derived.WalkLawsBesides
import Derived.Handy
import Derived.BigQuiet
import Derived.Deep.RegionHeld3
import Derived.Deep.DrawnRows
import Derived.Deep.QuietTactic
namespace Go.Proofs.Ytmmenedjmdcbcaa
open Go Go.RowKit

theorem Fix.same {a b : Fix} : ((a.pos == b.pos) && ((a.kind == b.kind) && ((a.to_ == b.to_) && (a.add_ == b.add_)))) = decide (a = b) := by
  obtain ⟨p, k, t, d⟩ := a
  obtain ⟨p2, k2, t2, d2⟩ := b
  by_cases h : (⟨p, k, t, d⟩ : Fix) = ⟨p2, k2, t2, d2⟩
  · rw [decide_eq_true h]; injection h with h1 h2 h3 h4; subst h1 h2 h3 h4; simp
  · rw [decide_eq_false h]
    cases hq : ((p == p2) && ((k == k2) && ((t == t2) && (d == d2)))) with
    | false => rfl
    | true =>
      simp only [Bool.and_eq_true, beq_iff_eq] at hq
      obtain ⟨rfl, rfl, rfl, rfl⟩ := hq
      exact absurd rfl h
set_option maxHeartbeats 1000000 in
theorem eqFixes_any {A1 A2 : Option Addr} {c1 c2 B1 B2 : Nat} (xs ys : List Fix) (w : World) (h1 : Reads w B1 4 A1 xs.length (xs.flatMap Fix.cells)) (h2 : Reads w B2 4 A2 ys.length (ys.flatMap Fix.cells)) (hm1 : xs.length ≤ 1048576) (hm2 : ys.length ≤ 1048576) :
    Calls Try.prog 55 #[.slice A1 xs.length c1, .slice A2 ys.length c2] w (Gives w (.bool (decide (xs = ys)))) := by
  by_cases hl : xs.length = ys.length
  · have HL := Lib.hid hl
    have hb : ((xs.length : Int) != ys.length) = false := by simp [hl]
    clear hl
    go_enter Try.func55, Try.ntmps55
    go_wp2
    go_loopw [13, 5] (fun i _ wr => ∃ k : Nat, k ≤ xs.length ∧ i = .int .i64 k ∧ Hid (∀ j < k, xs[j]? = ys[j]?) ∧ ∃ d, wr = w.drewN d) (fun i _ _ => xs.length - (intOf i).toNat)
    case atStart => exact ⟨0, Nat.zero_le _, rfl, fun j hj => by omega, 0, rfl⟩
    case round =>
      obtain ⟨k, hk, rfl, HA, d, rfl⟩ := hrel
      by_cases hlt : k < xs.length
      · have hlt2 : k < ys.length := by rw [← HL.out]; exact hlt
        obtain ⟨b, off, rfl, hbl, e0, e1, e2, e3⟩ := Fix.at_ h1 hlt
        obtain ⟨b', off', rfl, hbl', d0, d1, d2, d3⟩ := Fix.at_ h2 hlt2
        have k0 : (0 : Int) ≤ (k : Int) := Int.natCast_nonneg _
        have k1 : (k : Int) < (xs.length : Int) := by omega
        have k2 : (k : Int) < (ys.length : Int) := by omega
        have HNE : Hid (xs[k] ≠ ys[k] → decide (xs = ys) = false) := fun hn => decide_eq_false (fun e => hn (by subst e; rfl))
        have HST : Hid (xs[k] = ys[k] → ∀ j < k + 1, xs[j]? = ys[j]?) := fun he j hj => by
          by_cases hjk : j < k
          · exact HA.out j hjk
          · obtain rfl : j = k := by omega
            rw [List.getElem?_eq_getElem hlt, List.getElem?_eq_getElem hlt2, he]
        have HEQ : Hid (∀ a b : Fix, a = b ↔ a.pos = b.pos ∧ a.kind = b.kind ∧ a.to_ = b.to_ ∧ a.add_ = b.add_) := fun a b => ⟨fun h => by subst h; exact ⟨rfl, rfl, rfl, rfl⟩, fun h => by cases a; cases b; simp only at h; obtain ⟨rfl, rfl, rfl, rfl⟩ := h; rfl⟩
        have HST' : Hid (xs[k].pos = ys[k].pos ∧ xs[k].kind = ys[k].kind ∧ xs[k].to_ = ys[k].to_ ∧ xs[k].add_ = ys[k].add_ → ∀ j < k + 1, xs[j]? = ys[j]?) := fun hq => HST.out ((HEQ.out _ _).2 hq)
        have HNE' : Hid (¬ (xs[k].pos = ys[k].pos ∧ xs[k].kind = ys[k].kind ∧ xs[k].to_ = ys[k].to_ ∧ xs[k].add_ = ys[k].add_) → decide (xs = ys) = false) := fun hn => HNE.out (fun he => hn ((HEQ.out _ _).1 he))
        clear HNE HEQ HST
        generalize xs[k].pos = x0 at *
        generalize xs[k].kind = x1 at *
        generalize xs[k].to_ = x2 at *
        generalize xs[k].add_ = x3 at *
        generalize ys[k].pos = y0 at *
        generalize ys[k].kind = y1 at *
        generalize ys[k].to_ = y2 at *
        generalize ys[k].add_ = y3 at *
        by_cases t0 : x0 = y0
        · subst t0
          by_cases t1 : x1 = y1
          · subst t1
            by_cases t2 : x2 = y2
            · subst t2
              by_cases t3 : x3 = y3
              · subst t3
                have HN := Lib.hid (HST'.out ⟨rfl, rfl, rfl, rfl⟩)
                clear HNE' HST' HA
                go_wp2
                go_quiet (fail)
                go_wp2
                go_roundw
                case rel => exact ⟨k + 1, by omega, by go_num, HN, _, rfl⟩
                case measure => simp [intOf]; omega
              · have HN : Hid (decide (xs = ys) = false) := HNE'.out (by rintro ⟨h0, h1, h2, h3⟩; exact t3 h3)
                clear HNE' HST' HA
                go_wp2
                go_quiet (fail)
                go_wp2
                go_ret
                rw [HN.out]
                exact ⟨rfl, below_drewN (below_drewN (Below.refl _ _) _) _⟩
            · have HN : Hid (decide (xs = ys) = false) := HNE'.out (by rintro ⟨h0, h1, h2, h3⟩; exact t2 h2)
              clear HNE' HST' HA
              go_wp2
              go_quiet (fail)
              go_wp2
              go_ret
              rw [HN.out]
              exact ⟨rfl, below_drewN (below_drewN (Below.refl _ _) _) _⟩
          · have HN : Hid (decide (xs = ys) = false) := HNE'.out (by rintro ⟨h0, h1, h2, h3⟩; exact t1 h1)
            clear HNE' HST' HA
            go_wp2
            go_quiet (fail)
            go_wp2
            go_ret
            rw [HN.out]
            exact ⟨rfl, below_drewN (below_drewN (Below.refl _ _) _) _⟩
        · have HN : Hid (decide (xs = ys) = false) := HNE'.out (by rintro ⟨h0, h1, h2, h3⟩; exact t0 h0)
          clear HNE' HST' HA
          go_wp2
          go_quiet (fail)
          go_wp2
          go_ret
          rw [HN.out]
          exact ⟨rfl, below_drewN (below_drewN (Below.refl _ _) _) _⟩
      · have HN : Hid (decide (xs = ys) = true) := decide_eq_true (List.ext_getElem? fun j => by
          by_cases hj : j < k
          · exact HA.out j hj
          · have := HL.out
            rw [List.getElem?_eq_none (by omega), List.getElem?_eq_none (by omega)])
        go_wp2
        go_ret
        rw [HN.out]
        exact ⟨rfl, below_drewN (Below.refl _ _) _⟩
  · have HN : Hid (decide (xs = ys) = false) := decide_eq_false (fun e => hl (by rw [e]))
    have hb : ((xs.length : Int) != ys.length) = true := by simp [bne_iff_ne]; omega
    clear hl
    go_enter Try.func55, Try.ntmps55
    go_wp2
    go_ret
    rw [HN.out]
    exact ⟨rfl, Below.refl _ _⟩
end Go.Proofs.Ytmmenedjmdcbcaa
