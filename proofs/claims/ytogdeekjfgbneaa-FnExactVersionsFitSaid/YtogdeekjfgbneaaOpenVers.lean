/- Arguments that are versions, opened; the counting functions. No condition but the sizes. -/
import Derived.Test.YtogdeekjfgbneaaRows
import Derived.Test.YtogdeekjfgbneaaBase
import Derived.Test.YtogdeekjfgbneaaBase2
import Derived.Test.YtogdeekjfgbneaaBulk
import Derived.Test.YtogdeekjfgbneaaOpen2
import Derived.Test.YtogdeekjfgbneaaOpenVer
import Derived.Test.YtogdeekjfgbneaaVer
import Derived.Test.YtogdeekjfgbneaaVerF
import Derived.WalkKit
import Derived.WalkSpells
import Derived.WalkLawsBesides
import Derived.Handy
import Derived.BigQuiet
import Derived.Deep.RegionHeld3
import Derived.Deep.DrawnRows
import Derived.Deep.QuietTactic
namespace Go.Proofs.Ytogdeekjfgbneaa
open Go Go.RowKit

open Go.ChangeShapes Go.WideShapes Go.ChangeAt Go.Deep
/-- A slice of versions that came in. -/
def ArgVers (W : World) (v : Value) : Prop :=
  ∃ (A : Option Addr) (c : Nat) (xs : List Ver), v = .slice A xs.length c ∧ Reads W W.heap.size 2 A xs.length (xs.flatMap Ver.cells) ∧ xs.length ≤ maxLen ∧ ∀ x ∈ xs, VerSmall x
section
variable {H : Type} {enc : TypeId × Value → H} {W : World} {base : Nat} {b0 : Nat} {r : Reach} {hd : Bool}
theorem arg_vers {v : Value} {d : DataW H} {p : List MemPlace} (hv : Value.okWide Try.prog W r b0 33 v) (h : DataW.Trod enc Try.prog W base (fun _ => true) hd 33 v d p) : ArgVers W v := by
  obtain ⟨a, len, cap, rfl⟩ := okWide_slice Try.underlying33 hv
  obtain ⟨fuel, hf⟩ := h
  have hf' : DataW.trod enc Try.prog W base (fun _ => true) hd fuel 33 [.slice a len cap] = some (d, p) := by simpa [Value.cells] using hf
  exact read_rows (T := Ver) Ver.cells (m := 2) Ver.cells_len VerSmall Try.underlying33 Try.underlying23 (by kernel_rfl) (by kernel_rfl) rfl (by omega) (fun vs hl n hvs => by
    match vs, hl, hvs with
    | [v0, v1], _, hvs =>
      obtain ⟨y0, h0⟩ := hvs 0 _ _ rfl rfl
      obtain ⟨y1, h1⟩ := hvs 1 _ _ rfl rfl
      obtain ⟨x0, e0, _, hw⟩ := DataW.trod_string Try.underlying9 h0
      obtain ⟨x1, e1, _, _⟩ := DataW.trod_int Try.underlying3 h1
      simp only [List.cons.injEq, and_true] at e0 e1
      subst e0 e1
      exact ⟨⟨x0, x1⟩, rfl, hw⟩) hf'
end

set_option maxHeartbeats 1000000 in
theorem szVersion_any (v : Ver) (left : Int) (w : World) (hs : VerSmall v) (h1 : -1 ≤ left) (h2 : left ≤ 1048576) :
    Calls Try.prog 9 #[v.val, .int .i64 left] w (Gives w (.int .i64 (szRes left v.name.size))) := by
  obtain ⟨nm, num⟩ := v
  unfold VerSmall maxLen at hs
  simp only [Ver.val] at *
  by_cases hl : left < nm.size
  · have hx : left - (nm.size : Int) < 0 := by omega
    rw [szRes_neg hl]
    go_enter Try.func9, Try.ntmps9
    go_wp2
    go_ret
    exact ⟨rfl, by go_grown⟩
  · have hx : ¬ left - (nm.size : Int) < 0 := by omega
    rw [szRes_pos (by omega)]
    go_enter Try.func9, Try.ntmps9
    go_wp2
    go_ret
    exact ⟨rfl, by go_grown⟩

set_option maxHeartbeats 2000000 in
theorem szVersionS_any {A : Option Addr} {c B : Nat} (xs : List Ver) (left : Int) (w : World) (h1 : Reads w B 2 A xs.length (xs.flatMap Ver.cells)) (hB : B ≤ w.heap.size) (hm : xs.length ≤ maxLen) (hs : ∀ v ∈ xs, VerSmall v) (h0 : -1 ≤ left) (hl : left ≤ 1048576) :
    Calls Try.prog 15 #[.slice A xs.length c, .int .i64 left] w (Gives w (.int .i64 (szRes left (xs.length + bulk (xs.map Ver.name))))) := by
  have HS := Lib.hid hs
  clear hs
  have hb0 := bulk_nonneg (xs.map Ver.name)
  unfold maxLen at hm
  by_cases hn : left - (xs.length : Int) < 0
  · have HR : Hid (szRes left (xs.length + bulk (xs.map Ver.name)) = -1) := szRes_neg (by omega)
    go_enter Try.func15, Try.ntmps15
    go_wp2
    go_ret
    rw [HR.out]
    exact ⟨rfl, Below.refl _ _⟩
  · go_enter Try.func15, Try.ntmps15
    go_wp2
    go_loopw [1, 5] (fun l i wr => ∃ (k : Nat) (z : Int), k ≤ xs.length ∧ i = .int .i64 k ∧ l = .int .i64 z ∧ Hid (z = left - xs.length - bulk ((xs.map Ver.name).take k)) ∧ 0 ≤ z ∧ z ≤ left ∧ Below w.heap.size w wr) (fun _ i _ => xs.length - (intOf i).toNat)
    case atStart => exact ⟨0, _, Nat.zero_le _, rfl, rfl, by simp [bulk, Hid], by omega, by omega, Below.refl _ _⟩
    case round =>
      obtain ⟨k, z, hk, rfl, rfl, HZ, hz0, hz1, hb⟩ := hrel
      by_cases hlt : k < xs.length
      · obtain ⟨b, off, rfl, hbl, e0, e1⟩ := Ver.at_ ((h1.more hB).below hb) hlt
        have HC := Lib.hid (fun w => szVersion_any xs[k] z w (HS.out _ (List.getElem_mem hlt)) (by omega) (by omega))
        simp only [Ver.val] at HC
        have hlm : k < (xs.map Ver.name).length := by simpa using hlt
        have HT : Hid (bulk ((xs.map Ver.name).take (k + 1)) = bulk ((xs.map Ver.name).take k) + xs[k].name.size) := by
          have := bulk_take (xs.map Ver.name) hlm
          rw [List.getElem_map] at this
          exact this
        have HLE := Lib.hid (bulk_le (xs.map Ver.name) (k + 1))
        by_cases hneg : z < (xs[k].name.size : Int)
        · have HR : Hid (szRes left (xs.length + bulk (xs.map Ver.name)) = -1) := szRes_neg (by have h1 := HZ.out; have h2 := HT.out; have h3 := HLE.out; omega)
          have HQ := Lib.hid (szRes_neg hneg)
          go_wp2_with fail
          refine (HC.out _).mono ?_
          rintro e w2 ⟨rfl, hb2⟩
          rw [HQ.out]
          go_wp2
          go_ret
          rw [HR.out]
          exact ⟨rfl, hb.trans (hb2.mono hb.size)⟩
        · have HQ : Hid (szRes z xs[k].name.size = z - xs[k].name.size) := szRes_pos (by omega)
          go_wp2_with fail
          refine (HC.out _).mono ?_
          rintro e w2 ⟨rfl, hb2⟩
          rw [HQ.out]
          go_wp2
          go_roundw
          case rel => exact ⟨k + 1, _, by omega, by go_num, rfl, Lib.hid (by have h1 := HZ.out; have h2 := HT.out; omega), by omega, by omega, hb.trans (hb2.mono hb.size)⟩
          case measure => simp [intOf]; omega
      · have HR : Hid (szRes left (xs.length + bulk (xs.map Ver.name)) = z) := by
          have h1 := HZ.out
          rw [List.take_of_length_le (by simp; omega)] at h1
          rw [szRes_pos (by omega)]
          show _ = _
          omega
        go_wp2
        go_ret
        rw [HR.out]
        exact ⟨rfl, hb⟩
end Go.Proofs.Ytogdeekjfgbneaa
