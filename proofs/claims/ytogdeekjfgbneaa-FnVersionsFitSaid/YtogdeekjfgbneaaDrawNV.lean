/- The walk of FnNewestVersion. No condition. -/
import Derived.Test.YtogdeekjfgbneaaRows
import Derived.Test.YtogdeekjfgbneaaBase
import Derived.Test.YtogdeekjfgbneaaBase2
import Derived.Test.YtogdeekjfgbneaaBase3
import Derived.Test.YtogdeekjfgbneaaIn
import Derived.Test.YtogdeekjfgbneaaIn2
import Derived.Test.YtogdeekjfgbneaaName
import Derived.Test.YtogdeekjfgbneaaVer
import Derived.Test.YtogdeekjfgbneaaVerF
import Derived.Test.YtogdeekjfgbneaaVerG
import Derived.Test.YtogdeekjfgbneaaAlive
import Derived.Test.YtogdeekjfgbneaaPick
import Derived.Test.YtogdeekjfgbneaaPick2
import Derived.Test.YtogdeekjfgbneaaOpenC
import Derived.Test.YtogdeekjfgbneaaDrawN
import Derived.Test.YtogdeekjfgbneaaDrawV
import Derived.Test.YtogdeekjfgbneaaDrawVs
import Derived.WalkKit
import Derived.WalkSpells
import Derived.WalkLawsBesides
import Derived.Handy
import Derived.BigQuiet
import Derived.Deep.RegionHeld3
import Derived.Deep.DrawnRows
import Derived.Deep.RegionWith
import Derived.Deep.QuietTactic
namespace Go.Proofs.Ytogdeekjfgbneaa
open Go Go.RowKit

theorem own_addr2 {w : World} {base : Nat} {t : TypeId} {A : Option Addr} {n c : Nat} {xs : List Value} (h : w.ownsRow base t 2 (.slice A n c) n xs) (hn : 0 < n) : ∃ g, A = some ⟨g, 0, none⟩ ∧ base ≤ g ∧ g < w.heap.size := by
  rcases h.2 with ⟨_, h0⟩ | ⟨g, cap, cur, hv, hb, hg, _⟩
  · omega
  · injection hv with h1 h2 h3
    exact ⟨g, h1, hb, (Array.getElem?_eq_some_iff.1 hg).1⟩
theorem ver_cell {w : World} {base : Nat} {t : TypeId} {g c : Nat} {xs : List Ver} (h : w.ownsRow base t 2 (.slice (some ⟨g, 0, none⟩) xs.length c) xs.length (xs.flatMap Ver.cells)) {k : Nat} (hk : k < xs.length) : w.cell? ⟨g, k * 2, none⟩ = some (.string xs[k].name) := by
  obtain ⟨b, off, he, _, h1, _⟩ := Ver.at_ (Reads.of_own h) hk
  injection he with he
  injection he with e1 e2
  subst e1 e2
  simpa using h1
/-- Versions and a name were drawn. -/
def DrewNewest (w : World) (e : Ending) (w' : World) : Prop :=
  ∃ (A : Option Addr) (c : Nat) (xs : List Ver) (nm : ByteArray), e = .returned (.tuple #[.slice A xs.length c, .string nm]) ∧ w'.ownsRow w.heap.size 26 2 (.slice A xs.length c) xs.length (xs.flatMap Ver.cells) ∧ xs.length ≤ 5 ∧ (∀ x ∈ xs, x.name.size ≤ 9) ∧ nm.size ≤ 9 ∧ Below w.heap.size w w'
set_option maxRecDepth 100000 in
set_option maxHeartbeats 8000000 in
theorem DrawNewestVersion_any {A : Option Addr} {c : Nat} (cs : List Int) (w : World) (h1 : Reads w w.heap.size 1 A cs.length (nums .u8 cs)) (hx : ∀ x ∈ cs, 0 ≤ x ∧ x ≤ 255) (hm : cs.length ≤ 1048576) (hc : cs.length ≤ c) (hc2 : c ≤ maxLen) :
    Calls Try.prog 20 #[.slice A cs.length c] w (DrewNewest w) := by
  have HO := Lib.hid (open_any cs w h1 hx hm hc hc2)
  clear h1 hx
  go_enter Try.func20, Try.ntmps20
  go_wp2_with fail
  refine HO.out.mono ?_
  rintro e w1 ⟨rfl, hr, hz, hb⟩
  obtain ⟨r, hrr⟩ : ∃ r, r = w.heap.size := ⟨_, rfl⟩
  rw [← hrr] at hr ⊢
  have hrl : r < w1.heap.size := by omega
  have hrw : w.heap.size ≤ r := by omega
  have HZ := Lib.hid hz
  have HRR := Lib.hid hrr
  have HB := Lib.hid hb
  clear hz hrr hb HO
  go_wp2_with fail
  refine (l20Versions_any r 0 30 _ hr (by omega) (by omega) (by omega)).mono ?_
  rintro e w2 ⟨A1, c1, xs, rfl, oa, hl, hq, hr2, hg2⟩
  have Ha := Lib.hid oa
  have HQ : Hid (∀ x ∈ xs, x.name.size ≤ 9) := fun x h => (hq x h).1
  have HG2 := Lib.hid hg2
  have HR2 := Lib.hid hr2
  have zz2 := hg2.size
  clear oa hq hg2 hr2 hr
  by_cases hx0 : 0 < xs.length
  · have hx1 : (0 : Int) < (xs.length : Int) := by omega
    go_wp2_with fail
    refine (pick_any r _ 4 _ HR2.out (by omega) (by omega) (by omega)).mono ?_
    rintro e w3 ⟨v, rfl, ⟨va, vb⟩, hr3, hg3⟩
    replace Ha := Lib.hid (own_pick Ha.out hg3 hrl)
    have HG3 := Lib.hid (gr_trans HG2.out hg3)
    have HR3 := Lib.hid hr3
    have zz3 := HG3.out.size
    clear hr3 hg3 HG2 HR2
    by_cases hv : 0 < v
    · obtain ⟨g, rfl, hg, _⟩ := own_addr2 Ha.out hx0
      have HRd : Hid (Rdr w3.drew r (0 + 31 + 1)) := HR3.out
      have q1 : (1 : Int) ≤ (xs.length : Int) := by omega
      have q2 : (xs.length : Int) ≤ 1000000 := by omega
      have q3 : 0 + 31 + 1 ≤ 1000000 := by omega
      go_wp2
      go_region_with (first | (go_at_call 35; (with_reducible refine (pick_any r _ (xs.length : Int) _ HRd.out q3 q1 q2).mono ?_); rintro e w4 ⟨u, rfl, ⟨ua, ub⟩, hr4, hg4⟩; obtain ⟨un, rfl⟩ := Int.eq_ofNat_of_zero_le ua; have hg34 : w3.grownBy w4 (some r) := ⟨hg4.os, hg4.tape, hg4.output, hg4.size, hg4.block⟩; have Ha4 := Lib.hid (own_pick Ha.out hg34 hrl); have hun : un < xs.length := (by omega); have hun2 : (un : Int) < (xs.length : Int) := (by omega); have hcn : w4.cell? ⟨g, un * 2, none⟩ = some (.string xs[un].name) := ver_cell Ha4.out hun))
      go_wp2
      refine bodyPost_ret (v := .tuple #[.slice (some ⟨g, 0, none⟩) xs.length c1, .string xs[un].name]) (by simp [results, Try.results20, go_sem]) rfl ?_
      exact ⟨_, _, xs, _, rfl, own_base Ha4.out HB.out.size, hl, HQ.out, HQ.out _ (List.getElem_mem hun), below_gr HB.out (gr_trans HG3.out hg34) hrw⟩
    · have hv' : decide (v > 0) = false := decide_eq_false (by omega)
      clear hv
      go_wp2_with fail
      refine (l20Name_any r _ 6 _ HR3.out (by omega) (by omega) (by omega)).mono ?_
      rintro e w4 ⟨nm, rfl, ⟨hn9, _⟩, hr4, hg4⟩
      replace Ha := Lib.hid (own_pick Ha.out hg4 hrl)
      have HG4 := Lib.hid (gr_trans HG3.out hg4)
      go_wp2
      refine bodyPost_ret (v := .tuple #[.slice A1 xs.length c1, .string nm]) (by simp [results, Try.results20, go_sem]) rfl ?_
      exact ⟨_, _, xs, nm, rfl, own_base Ha.out HB.out.size, hl, HQ.out, hn9, below_gr HB.out HG4.out hrw⟩
  · have hx1 : decide ((xs.length : Int) > 0) = false := decide_eq_false (by omega)
    go_wp2_with fail
    refine (l20Name_any r _ 6 _ HR2.out (by omega) (by omega) (by omega)).mono ?_
    rintro e w4 ⟨nm, rfl, ⟨hn9, _⟩, hr4, hg4⟩
    replace Ha := Lib.hid (own_pick Ha.out hg4 hrl)
    have HG4 := Lib.hid (gr_trans HG2.out hg4)
    go_wp2
    refine bodyPost_ret (v := .tuple #[.slice A1 xs.length c1, .string nm]) (by simp [results, Try.results20, go_sem]) rfl ?_
    exact ⟨_, _, xs, nm, rfl, own_base Ha.out HB.out.size, hl, HQ.out, hn9, below_gr HB.out HG4.out hrw⟩
end Go.Proofs.Ytogdeekjfgbneaa
