/- Contracts of the laws' copying and comparing functions on Version and slices of it. No condition but the sizes. -/
import Derived.Test.YtogdeekjfgbneaaDoorRows
import Derived.Test.YtogdeekjfgbneaaDoorBase
import Derived.WalkKit
import Derived.WalkSpells
import Derived.WalkLawsBesides
import Derived.Handy
import Derived.BigQuiet
import Derived.Deep.RegionHeld3
import Derived.Deep.DrawnRows
import Derived.Deep.QuietTactic
namespace Go.Proofs.YtogdeekjfgbneaaDoor
open Go Go.RowKit


structure Ver where
  name : ByteArray
  number : Int
deriving DecidableEq
instance : Inhabited Ver := ⟨⟨ByteArray.empty, 0⟩⟩
def Ver.cells (x : Ver) : List Value := [Value.string x.name, Value.int .i64 x.number]
def Ver.val (x : Ver) : Value := .agg #[Value.string x.name, Value.int .i64 x.number]
theorem Ver.cells_len (x : Ver) : x.cells.length = 2 := rfl
/-- The cells of element k of a row. -/
theorem Ver.at_ {w : World} {B : Nat} {A : Option Addr} {xs : List Ver} (h : Reads w B 2 A xs.length (xs.flatMap Ver.cells)) {k : Nat} (hk : k < xs.length) :
    ∃ b off, A = some ⟨b, off, none⟩ ∧ b < B ∧ w.cell? ⟨b, off + k * 2, none⟩ = some (Value.string xs[k].name) ∧ w.cell? ⟨b, off + k * 2 + 1, none⟩ = some (Value.int .i64 xs[k].number) := by
  obtain ⟨b, off, rfl, hb, hc⟩ := h.row_ (by omega) (by omega)
  have e := fun i hi => flat_get Ver.cells 2 Ver.cells_len xs k i hk hi
  refine ⟨b, off, rfl, hb, ?_, ?_⟩
  · exact hc (k * 2) _ (e 0 (by omega))
  · have := hc (k * 2 + 1) _ (e 1 (by omega))
    rwa [← Nat.add_assoc] at this


set_option maxHeartbeats 400000 in
theorem toVersion_any (x : Ver) (w : World) : Calls Tryd.prog 9 #[x.val] w (Gives w x.val) := by
  obtain ⟨f0, f1⟩ := x
  simp only [Ver.val]
  go_enter Tryd.func9, Tryd.ntmps9
  go_wp2
  go_returns
  exact ⟨rfl, by go_grown⟩


set_option maxHeartbeats 400000 in
theorem eqVersion_any (x y : Ver) (w : World) : Calls Tryd.prog 16 #[x.val, y.val] w (Gives w (.bool (decide (x = y)))) := by
  obtain ⟨f0, f1⟩ := x
  obtain ⟨g0, g1⟩ := y
  simp only [Ver.val]
  by_cases he : (Ver.mk f0 f1) = (Ver.mk g0 g1)
  · rw [decide_eq_true he]
    injection he with h0 h1
    have e0 : (!f0.toList == g0.toList) = false := by simp [h0]
    have e1 : (f1 != g1) = false := by simp [h1]
    clear h0 h1
    go_enter Tryd.func16, Tryd.ntmps16
    go_wp2
    go_ret
    exact ⟨rfl, by go_grown⟩
  · rw [decide_eq_false he]
    have HE := Lib.hid he
    clear he
    go_enter Tryd.func16, Tryd.ntmps16
    go_wp2
    all_goals first
      | (go_ret; exact ⟨rfl, by go_grown⟩)
      | (exfalso; refine HE.out ?_; simp at *; simp [*]; done)
      | (exfalso; refine HE.out ?_; simp at *; refine ⟨?_, ?_⟩ <;> first | assumption | (exact toList_inj ‹_›); done)






end Go.Proofs.YtogdeekjfgbneaaDoor

