/- Contract of DrawScriptValid and plain words of the law. No condition but the sizes. -/
import Derived.Test.YthjjbgpeajeneaaRows
import Derived.Test.YthjjbgpeajeneaaBase
import Derived.Test.YthjjbgpeajeneaaBase2
import Derived.Test.YthjjbgpeajeneaaBase3
import Derived.Test.YthjjbgpeajeneaaIn
import Derived.Test.YthjjbgpeajeneaaPart
import Derived.Test.YthjjbgpeajeneaaIntS
import Derived.Test.YthjjbgpeajeneaaScrV
import Derived.Test.YthjjbgpeajeneaaScrW
import Derived.Test.YthjjbgpeajeneaaAreV
import Derived.Test.YthjjbgpeajeneaaScrP
import Derived.Test.YthjjbgpeajeneaaMarkP
import Derived.Test.YthjjbgpeajeneaaPick
import Derived.Test.YthjjbgpeajeneaaPick2
import Derived.Test.YthjjbgpeajeneaaOpenC
import Derived.Test.YthjjbgpeajeneaaDrawSc
import Derived.WalkKit
import Derived.WalkSpells
import Derived.WalkLawsBesides
import Derived.Handy
import Derived.BigQuiet
import Derived.Deep.RegionHeld3
import Derived.Deep.DrawnRows
import Derived.Deep.QuietTactic
namespace Go.Proofs.Ythjjbgpeajeneaa
open Go Go.RowKit

def DrewScrV (w : World) (e : Ending) (w' : World) : Prop :=
  ∃ (A : Option Addr) (c : Nat) (xs : List Prt), e = .returned (.slice A xs.length c) ∧ Reads w' w'.heap.size 2 A xs.length (xs.flatMap Prt.cells) ∧ xs.length ≤ 3 ∧ xs.length ≤ c ∧ c ≤ maxLen ∧ Below w.heap.size w w'
set_option maxRecDepth 100000 in
set_option maxHeartbeats 4000000 in
theorem DrawScriptValid_any {A : Option Addr} {c : Nat} (cs : List Int) (w : World) (h1 : Reads w w.heap.size 1 A cs.length (nums .u8 cs)) (hx : ∀ x ∈ cs, 0 ≤ x ∧ x ≤ 255) (hm : cs.length ≤ 1048576) (hc : cs.length ≤ c) (hc2 : c ≤ maxLen) :
    Calls Try.prog 12 #[.slice A cs.length c] w (DrewScrV w) := by
  have HO := Lib.hid (open_any cs w h1 hx hm hc hc2)
  clear h1 hx
  go_enter Try.func12, Try.ntmps12
  go_wp2_with fail
  refine HO.out.mono ?_
  rintro e w1 ⟨rfl, hr, hz, hb⟩
  obtain ⟨r, hrr⟩ : ∃ r, r = w.heap.size := ⟨_, rfl⟩
  rw [← hrr] at hr ⊢
  have hrw : w.heap.size ≤ r := by omega
  clear hrr hz
  go_wp2_with fail
  refine (l20Script_any r 0 2 _ hr (by omega) (by omega) (by omega)).mono ?_
  rintro e w2 ⟨A1, c1, xs, rfl, rd, _, hl, hlc, hcm, _, hg2⟩
  have HRD := Lib.hid rd
  have HB := Lib.hid (below_gr hb hg2 hrw)
  have HC := Lib.hid hcm
  clear rd hb hg2 hcm hr
  go_wp2
  go_ret
  exact ⟨A1, c1, xs, rfl, HRD.out, hl, hlc, HC.out, HB.out⟩
theorem script_short {xs : List Prt} (h : scriptOk xs = true) : scriptOk (xs.drop 1) = false := by
  have hl := script_len h
  match hb : scriptOk (xs.drop 1) with
  | false => rfl
  | true => have h2 := script_len hb; rw [List.length_drop] at h2; omega
theorem script_rot {p q r : Prt} (h : scriptOk [p, q, r] = true) : scriptOk [q, r, p] = true := by
  obtain ⟨⟨h1, h2, h3⟩, ⟨d1, d2, d3⟩, a1, a2, a3⟩ := script_three h
  unfold scriptOk
  simp only [scGo, Bool.and_eq_true, Bool.and_false, Bool.or_false, Bool.not_false, Bool.false_or, Bool.not_eq_true', Bool.or_eq_false_iff, Bool.and_eq_false_iff, inB_iff, beq_eq_false_iff_ne, ne_eq]
  refine ⟨⟨⟨⟨h2, by simp⟩, a2⟩, ⟨⟨h3, by omega⟩, a3⟩, ⟨⟨h1, by omega⟩, a1⟩, by simp⟩, by simp⟩
end Go.Proofs.Ythjjbgpeajeneaa
