/- Contract of globalOf. Valid objects in plain words. -/
import Derived.Test.YtdaamgonendkkaaRows
import Derived.Test.YtdaamgonendkkaaBase
import Derived.Test.YtdaamgonendkkaaBase2
import Derived.Test.YtdaamgonendkkaaIn
import Derived.Test.YtdaamgonendkkaaName
import Derived.Test.YtdaamgonendkkaaByteS
import Derived.Test.YtdaamgonendkkaaFix
import Derived.Test.YtdaamgonendkkaaSec
import Derived.Test.YtdaamgonendkkaaObjS
import Derived.Test.YtdaamgonendkkaaSecV
import Derived.Test.YtdaamgonendkkaaSym
import Derived.Test.YtdaamgonendkkaaSymV
import Derived.Test.YtdaamgonendkkaaFindSym
import Derived.WalkKit
import Derived.WalkSpells
import Derived.WalkLawsBesides
import Derived.Handy
import Derived.BigQuiet
import Derived.Deep.RegionHeld3
import Derived.Deep.DrawnRows
import Derived.Deep.QuietTactic
namespace Go.Proofs.Ytdaamgonendkkaa
open Go Go.RowKit

def glob (nm : ByteArray) (s : Sym) : Bool := decide (s.bind ≠ 0) && decide (s.name = nm)
def gPlace (ys : List Sym) (nm : ByteArray) : Int := idxOf (glob nm) ys
theorem gPlace_neg {ys : List Sym} {nm : ByteArray} : gPlace ys nm < 0 ↔ ∀ j, (h : j < ys.length) → glob nm ys[j] = false := by
  constructor
  · intro h j hj
    by_cases hp : glob nm ys[j] = true
    · exfalso
      have := idxOf_any (glob nm) ys
      rw [List.any_eq_true.2 ⟨_, List.getElem_mem hj, hp⟩] at this
      have := of_decide_eq_true this
      unfold gPlace at h
      omega
    · simpa using hp
  · intro h
    unfold gPlace
    rw [idxOf_none h]
    omega
theorem readsY_take {w : World} {B : Nat} {A : Option Addr} {ls : List Sym} (h : Reads w B 4 A ls.length (ls.flatMap Sym.cells)) {k : Nat} (hk : k ≤ ls.length) : Reads w B 4 A (ls.take k).length ((ls.take k).flatMap Sym.cells) := by
  refine ⟨flat_len Sym.cells 4 Sym.cells_len _, fun hn => ?_⟩
  rw [List.length_take] at hn
  obtain ⟨ad, e, hb, hc⟩ := h.2 (by omega)
  refine ⟨ad, e, hb, fun j u hu => hc j u ?_⟩
  have e2 : ls.flatMap Sym.cells = (ls.take k).flatMap Sym.cells ++ (ls.drop k).flatMap Sym.cells := by rw [← List.flatMap_append, List.take_append_drop]
  rw [e2, List.getElem?_append_left (List.getElem?_eq_some_iff.1 hu).1]
  exact hu
def symGood (secs : List Sec) (ys : List Sym) (k : Nat) (y : Sym) : Prop := symOk y secs = true ∧ (y.bind = 0 ∨ gPlace (ys.take k) y.name < 0)
def ObjGood (secs : List Sec) (ys : List Sym) : Prop := secs.length ≤ 8 ∧ ys.length ≤ 12 ∧ (∀ j, (h : j < secs.length) → secOk secs[j].name secs[j].kind secs[j].align secs[j].bytes.length secs[j].size secs[j].fixups ys.length = true) ∧ ∀ j, (h : j < ys.length) → symGood secs ys j ys[j]
open Classical in
noncomputable def objOk (secs : List Sec) (ys : List Sym) : Bool := decide (ObjGood secs ys)
theorem obj_yes {secs : List Sec} {ys : List Sym} (h : ObjGood secs ys) : objOk secs ys = true := @decide_eq_true _ (Classical.propDecidable _) h
theorem obj_no {secs : List Sec} {ys : List Sym} (h : ¬ ObjGood secs ys) : objOk secs ys = false := @decide_eq_false _ (Classical.propDecidable _) h
set_option maxHeartbeats 1000000 in
theorem globC_any (l : Sym) (nm : ByteArray) (a : Addr) (w : World) (hc : w.cell? a = some (.string nm)) :
    Calls Try.prog 82 #[l.val, .pointer (some a)] w (Gives w (.bool (glob nm l))) := by
  have HG : Hid (glob nm l = (decide (l.bind ≠ 0) && decide (l.name = nm))) := rfl
  generalize glob nm l = res at *
  obtain ⟨name, bind, wh, val⟩ := l
  simp only [Sym.val] at *
  have hc2 : (w.alloc (.cells #[Value.string name, Value.int .i64 bind, Value.int .i64 wh, Value.int .i64 val] 55)).cell? a = some (.string nm) := (World.cell?_alloc_lt w _ a (World.block_lt_of_cell? w a hc)).trans hc
  by_cases hb : bind = 0
  · have HR : Hid (res = false) := by rw [Hid, HG.out]; simp [hb]
    have u : (bind != 0) = false := by simpa using hb
    clear hb HG
    go_enter Try.func82, Try.ntmps82
    go_wp2
    go_ret
    rw [HR.out]
    exact ⟨rfl, by go_grown⟩
  · have u : (bind != 0) = true := by simpa using hb
    by_cases he : name = nm
    · have HR : Hid (res = true) := by rw [Hid, HG.out]; simp [hb, he]
      have ht : (name.toList == nm.toList) = true := by simp [he]
      clear he hb HG
      go_enter Try.func82, Try.ntmps82
      go_wp2
      go_ret
      rw [HR.out]
      exact ⟨rfl, by go_grown⟩
    · have HR : Hid (res = false) := by rw [Hid, HG.out]; simp [he]
      have ht : (name.toList == nm.toList) = false := by simpa using fun h => he (toList_inj h)
      clear he hb HG
      go_enter Try.func82, Try.ntmps82
      go_wp2
      go_ret
      rw [HR.out]
      exact ⟨rfl, by go_grown⟩
set_option maxHeartbeats 1000000 in
theorem glob_any {A : Option Addr} {c B : Nat} (ls : List Sym) (nm : ByteArray) (w : World) (h1 : Reads w B 4 A ls.length (ls.flatMap Sym.cells)) (hB : B ≤ w.heap.size) (hm : ls.length ≤ maxLen) :
    Calls Try.prog 54 #[.slice A ls.length c, .string nm] w (Gives w (.int .i64 (gPlace ls nm))) := by
  have hb0 : Below w.heap.size w (w.alloc (.cells #[Value.string nm] 9)) := (Below.refl _ _).alloc (Nat.le_refl _) _
  have K0 : Blk (w.alloc (.cells #[Value.string nm] 9)) w.heap.size 9 #[Value.string nm] := Blk.new _ _ _
  have HR := Lib.hid (fun w' (hb : Below w.heap.size w w') => (h1.more hB).below hb)
  have HI : Hid (idxOf (glob nm) ls = gPlace ls nm) := rfl
  go_enter Try.func54, Try.ntmps54
  go_wp2_with fail
  refine (indexFuncSym_any A c _ 82 #[.pointer (some ⟨w.heap.size, 0, none⟩)] (glob nm) ls _ (HR.out _ hb0) hb0.size hm (fun args w => by kernel_rfl) (fun x _ w' hb' => ?_)).mono ?_
  · have K3 := K0.below hb' K0.lt
    simpa using globC_any x nm _ w' (K3.cell 0)
  rintro e w3 ⟨rfl, hb3⟩
  rw [HI.out]
  go_wp2
  go_ret
  exact ⟨rfl, hb0.trans (hb3.mono hb0.size)⟩
end Go.Proofs.Ytdaamgonendkkaa
