/- Contracts of sameParts, and of the drawing of scripts and of their texts. Condition: the sizes. -/
import Derived.Test.YthjjbgpeajeneaaDoorRows
import Derived.Test.YthjjbgpeajeneaaDoorBase
import Derived.Test.YthjjbgpeajeneaaDoorBase2
import Derived.Test.YthjjbgpeajeneaaDoorBase3
import Derived.Test.YthjjbgpeajeneaaDoorIn
import Derived.Test.YthjjbgpeajeneaaDoorPart
import Derived.Test.YthjjbgpeajeneaaDoorScrV
import Derived.Test.YthjjbgpeajeneaaDoorScr3
import Derived.Test.YthjjbgpeajeneaaDoorDec
import Derived.Test.YthjjbgpeajeneaaDoorStx
import Derived.Test.YthjjbgpeajeneaaDoorStf
import Derived.Test.YthjjbgpeajeneaaDoorStS
import Derived.Test.YthjjbgpeajeneaaDoorMarkP
import Derived.Test.YthjjbgpeajeneaaDoorPick
import Derived.Test.YthjjbgpeajeneaaDoorPick2
import Derived.Test.YthjjbgpeajeneaaDoorOpenC
import Derived.Test.YthjjbgpeajeneaaDoorDrawScD
import Derived.WalkKit
import Derived.WalkSpells
import Derived.WalkLawsBesides
import Derived.Handy
import Derived.BigQuiet
import Derived.Deep.RegionHeld3
import Derived.Deep.DrawnRows
import Derived.Deep.QuietTactic
namespace Go.Proofs.YthjjbgpeajeneaaDoor
open Go Go.RowKit

set_option maxHeartbeats 1000000 in
theorem sameParts_any (A1 A2 : Option Addr) (c1 c2 B1 B2 : Nat) (xs : List Prt) (w : World) (h1 : Reads w B1 2 A1 xs.length (xs.flatMap Prt.cells)) (h2 : Reads w B2 2 A2 xs.length (xs.flatMap Prt.cells)) (hB1 : B1 ≤ w.heap.size) (hB2 : B2 ≤ w.heap.size) (hm : xs.length ≤ 1048576) :
    Calls Tryd.prog 16 #[.slice A1 xs.length c1, .slice A2 xs.length c2] w (Gives w (.bool true)) := by
  go_enter Tryd.func16, Tryd.ntmps16
  go_wp2
  go_loopw [5] (fun i wr => ∃ k : Nat, k ≤ xs.length ∧ i = .int .i64 k ∧ Below w.heap.size w wr) (fun i _ => xs.length - (intOf i).toNat)
  case atStart => exact ⟨0, Nat.zero_le _, rfl, Below.refl _ _⟩
  case round =>
    obtain ⟨k, hk, rfl, hb⟩ := hrel
    by_cases hlt : k < xs.length
    · obtain ⟨b, off, rfl, hbl, e0, e1⟩ := Prt.at_ ((h1.more hB1).below hb) hlt
      obtain ⟨b', off', rfl, hbl', d0, d1⟩ := Prt.at_ ((h2.more hB2).below hb) hlt
      generalize xs[k].kind = kd at *
      generalize xs[k].align = al at *
      have y0 : (0 : Int) ≤ (k : Int) := by omega
      have y1 : (k : Int) < (xs.length : Int) := by omega
      go_wp2
      go_quiet (fail)
      go_wp2
      go_roundw
      case rel => exact ⟨k + 1, by omega, by go_num, below_drewN hb _⟩
      case measure => simp [intOf]; omega
    · obtain rfl : k = xs.length := by omega
      go_wp2
      go_ret
      exact ⟨rfl, hb⟩
/-- A script was drawn for a law. -/
def DrewScrT (w : World) (e : Ending) (w' : World) : Prop := ∃ (A : Option Addr) (c : Nat) (xs : List Prt), e = .returned (.slice A xs.length c) ∧ Reads w' w'.heap.size 2 A xs.length (xs.flatMap Prt.cells) ∧ xs.length ≤ 3 ∧ Below w.heap.size w w'
set_option maxRecDepth 100000 in
set_option maxHeartbeats 4000000 in
theorem DrawScriptText_any {A : Option Addr} {c : Nat} (xs : List Int) (w : World) (h1 : Reads w w.heap.size 1 A xs.length (nums .u8 xs)) (hx : ∀ x ∈ xs, 0 ≤ x ∧ x ≤ 255) (hm : xs.length ≤ 1048576) (hc : xs.length ≤ c) (hc2 : c ≤ maxLen) :
    Calls Tryd.prog 12 #[.slice A xs.length c] w (DrewScrT w) := by
  have HO := Lib.hid (open_any (A := A) (c := c) xs w h1 hx hm hc hc2)
  clear h1 hx
  go_enter Tryd.func12, Tryd.ntmps12
  go_wp2_with fail
  refine HO.out.mono ?_
  rintro e w1 ⟨rfl, hr, hz, hb⟩
  have HB1 := Lib.hid hb
  clear hb HO
  go_wp2_with fail
  refine (l20Script_any _ 0 6 _ hr (by omega) (by omega) (by omega)).mono ?_
  rintro e w2 ⟨A2, c2, ys, rfl, hrd, _, hl, _, _, hr2, hg2⟩
  have HB2 := Lib.hid (below_gr HB1.out hg2 (Nat.le_refl _))
  have HRD := Lib.hid hrd
  clear hr hr2 hg2 hrd HB1
  go_wp2
  go_ret
  exact ⟨A2, c2, ys, rfl, HRD.out, hl, HB2.out⟩
/-- A text was drawn. -/
def DrewTxt (w : World) (e : Ending) (w' : World) : Prop := ∃ s : ByteArray, e = .returned (.string s) ∧ s.size ≤ 1000 ∧ Below w.heap.size w w'
set_option maxRecDepth 100000 in
set_option maxHeartbeats 4000000 in
theorem DrawReadScript_any {A : Option Addr} {c : Nat} (xs : List Int) (w : World) (h1 : Reads w w.heap.size 1 A xs.length (nums .u8 xs)) (hx : ∀ x ∈ xs, 0 ≤ x ∧ x ≤ 255) (hm : xs.length ≤ 1048576) (hc : xs.length ≤ c) (hc2 : c ≤ maxLen) :
    Calls Tryd.prog 20 #[.slice A xs.length c] w (DrewTxt w) := by
  have HO := Lib.hid (open_any (A := A) (c := c) xs w h1 hx hm hc hc2)
  clear h1 hx
  go_enter Tryd.func20, Tryd.ntmps20
  go_wp2_with fail
  refine HO.out.mono ?_
  rintro e w1 ⟨rfl, hr, hz, hb⟩
  have HB1 := Lib.hid hb
  clear hb HO
  go_wp2_with fail
  refine (l20Script_any _ 0 0 _ hr (by omega) (by omega) (by omega)).mono ?_
  rintro e w2 ⟨A2, c2, ys, rfl, hrd, _, hl, _, _, hr2, hg2⟩
  have HB2 := Lib.hid (below_gr HB1.out hg2 (Nat.le_refl _))
  have HR2 := Lib.hid hr2
  have hts := scrText_size (xs := ys)
  have hz2 := hg2.size
  have HT := Lib.hid (specScrText_any (c1 := c2) ys w2 hrd (Nat.le_refl _) (by unfold maxLen; omega))
  clear hr hr2 hg2 hrd HB1
  generalize scrText ys = t at *
  go_wp2_with fail
  refine HT.out.mono ?_
  rintro e w3 ⟨rfl, hb3⟩
  have HB3 := Lib.hid (HB2.out.trans (hb3.mono HB2.out.size))
  have HR3 := Lib.hid (HR2.out.below hb3)
  have hz3 := hb3.size
  clear hb3 HB2 HR2 HT
  go_wp2_with fail
  refine (odd_any _ _ 3 _ HR3.out (by omega) (by omega) (by omega)).mono ?_
  rintro e w4 ⟨b, rfl, hr4, hg4⟩
  have HB4 := Lib.hid (below_gr HB3.out hg4 (Nat.le_refl _))
  have HR4 := Lib.hid hr4
  have hz4 := hg4.size
  clear HB3 HR3 hr4 hg4
  cases b
  · go_wp2
    go_ret
    exact ⟨t, rfl, by omega, HB4.out⟩
  · have L1 : (t ++ ⟨#[32]⟩ : ByteArray).size ≤ 40 := by rw [ByteArray.size_append]; show t.size + 1 ≤ 40; omega
    have L2 : (t ++ ⟨#[48]⟩ : ByteArray).size ≤ 40 := by rw [ByteArray.size_append]; show t.size + 1 ≤ 40; omega
    obtain ⟨l, hl⟩ : ∃ l : List ByteArray, l = [⟨#[]⟩, ⟨#[99, 111, 100, 101, 58, 49]⟩, ⟨#[99, 111, 100, 101, 58, 49, 32, 100, 97, 116, 97, 58, 49, 32, 100, 97, 116, 97, 58, 49]⟩, ⟨#[99, 111, 100, 101, 58, 51, 32, 100, 97, 116, 97, 58, 49, 32, 98, 108, 97, 110, 107, 58, 49]⟩, ⟨#[99, 111, 100, 101, 58, 49, 32, 100, 97, 116, 97, 58, 49, 32, 98, 108, 97, 110, 107, 58, 49, 50, 56]⟩, ⟨#[99, 111, 100, 101, 58, 49, 32, 32, 100, 97, 116, 97, 58, 49, 32, 98, 108, 97, 110, 107, 58, 49]⟩, ⟨#[99, 111, 100, 101, 58, 48, 49, 32, 100, 97, 116, 97, 58, 49, 32, 98, 108, 97, 110, 107, 58, 49]⟩, ⟨#[116, 101, 120, 116, 58, 49, 32, 100, 97, 116, 97, 58, 49, 32, 98, 108, 97, 110, 107, 58, 49]⟩, ⟨#[99, 111, 100, 101, 58, 32, 100, 97, 116, 97, 58, 49, 32, 98, 108, 97, 110, 107, 58, 49]⟩, t ++ ⟨#[32]⟩, t ++ ⟨#[48]⟩] := ⟨_, rfl⟩
    have hll : l.length = 11 := by rw [hl]; rfl
    have HSZ : Hid (∀ x ∈ l, x.size ≤ 40) := fun x hx => by
      rw [hl] at hx
      simp only [List.mem_cons, List.not_mem_nil, or_false] at hx
      rcases hx with rfl | rfl | rfl | rfl | rfl | rfl | rfl | rfl | rfl | rfl | rfl
      all_goals first | assumption | decide
    have HK : Hid (Blk (w4.alloc (.cells #[.string (⟨#[]⟩), .string (⟨#[99, 111, 100, 101, 58, 49]⟩), .string (⟨#[99, 111, 100, 101, 58, 49, 32, 100, 97, 116, 97, 58, 49, 32, 100, 97, 116, 97, 58, 49]⟩), .string (⟨#[99, 111, 100, 101, 58, 51, 32, 100, 97, 116, 97, 58, 49, 32, 98, 108, 97, 110, 107, 58, 49]⟩), .string (⟨#[99, 111, 100, 101, 58, 49, 32, 100, 97, 116, 97, 58, 49, 32, 98, 108, 97, 110, 107, 58, 49, 50, 56]⟩), .string (⟨#[99, 111, 100, 101, 58, 49, 32, 32, 100, 97, 116, 97, 58, 49, 32, 98, 108, 97, 110, 107, 58, 49]⟩), .string (⟨#[99, 111, 100, 101, 58, 48, 49, 32, 100, 97, 116, 97, 58, 49, 32, 98, 108, 97, 110, 107, 58, 49]⟩), .string (⟨#[116, 101, 120, 116, 58, 49, 32, 100, 97, 116, 97, 58, 49, 32, 98, 108, 97, 110, 107, 58, 49]⟩), .string (⟨#[99, 111, 100, 101, 58, 32, 100, 97, 116, 97, 58, 49, 32, 98, 108, 97, 110, 107, 58, 49]⟩), .string (t ++ ⟨#[32]⟩), .string (t ++ ⟨#[48]⟩)] 9)) w4.heap.size 9 (texts l).toArray) := by
      rw [hl]
      exact Blk.new _ _ _
    clear hl L1 L2
    go_wp2_with fail
    refine (pick_any _ _ 11 _ (HR4.out.alloc _) (by omega) (by omega) (by omega)).mono ?_
    rintro e w5 ⟨u, rfl, ⟨ua, ub⟩, hr5, hg5⟩
    have K5 := HK.out.grown hg5 (by simp; omega)
    obtain ⟨x, hx, hcx⟩ := lits_at K5 ua (by omega)
    have HX := Lib.hid (HSZ.out x hx)
    have HB5 := Lib.hid (below_gr (HB4.out.alloc HB4.out.size _) hg5 (Nat.le_refl _))
    have hu2 : u < 11 := by omega
    clear hr5 hg5 HK K5 HSZ hx HB4 HR4
    go_wp2
    go_ret
    exact ⟨x, rfl, by have := HX.out; omega, HB5.out⟩
end Go.Proofs.YthjjbgpeajeneaaDoor
