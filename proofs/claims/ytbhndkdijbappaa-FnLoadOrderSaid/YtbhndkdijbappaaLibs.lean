/- Contracts of the two LibrariesValid and of what they call. No condition but the sizes. -/
import Derived.Test.YtbhndkdijbappaaRows
import Derived.Test.YtbhndkdijbappaaBase
import Derived.Test.YtbhndkdijbappaaBase2
import Derived.Test.YtbhndkdijbappaaOnly
import Derived.Test.YtbhndkdijbappaaIn
import Derived.Test.YtbhndkdijbappaaName
import Derived.Test.YtbhndkdijbappaaFindS
import Derived.Test.YtbhndkdijbappaaLb
import Derived.Test.YtbhndkdijbappaaFindLb
import Derived.WalkKit
import Derived.WalkSpells
import Derived.WalkLawsBesides
import Derived.Handy
import Derived.BigQuiet
import Derived.Deep.RegionHeld3
import Derived.Deep.DrawnRows
import Derived.Deep.QuietTactic
namespace Go.Proofs.Ytbhndkdijbappaa
open Go Go.RowKit

abbrev LbV := ByteArray × List ByteArray × List ByteArray
def fewOk (ns : List ByteArray) : Bool := decide (ns.length ≤ 6) && ns.all nameOk
def lPlace (vs : List LbV) (nm : ByteArray) : Int := idxOf (fun v => decide (v.1 = nm)) vs
def lOk1 (vs : List LbV) (k : Nat) (v : LbV) : Bool := nameOk v.1 && decide (lPlace (vs.take k) v.1 < 0) && fewOk v.2.1 && fewOk v.2.2
def libsOk (vs : List LbV) : Bool := decide (vs.length ≤ 6) && decide (∀ k, (h : k < vs.length) → lOk1 vs k vs[k] = true)
theorem libs_no {vs : List LbV} {k : Nat} (h : k < vs.length) (hk : lOk1 vs k vs[k] = false) : libsOk vs = false := by
  unfold libsOk
  have e : decide (∀ k, (h : k < vs.length) → lOk1 vs k vs[k] = true) = false := decide_eq_false (fun H => by rw [H k h] at hk; cases hk)
  rw [e, Bool.and_false]
theorem libs_all {vs : List LbV} (h : ∀ k, (h : k < vs.length) → lOk1 vs k vs[k] = true) : libsOk vs = decide (vs.length ≤ 6) := by
  unfold libsOk
  rw [decide_eq_true h, Bool.and_true]
theorem idxOf_map {α β : Type} (f : α → β) (p : β → Bool) (xs : List α) : idxOf (fun x => p (f x)) xs = idxOf p (xs.map f) := by
  have h : xs.findIdx? (fun x => p (f x)) = (xs.map f).findIdx? p := by
    rw [List.findIdx?_map]
    rfl
  unfold idxOf
  rw [h]
theorem reads_take {w : World} {B : Nat} {A : Option Addr} {ls : List Lb} (h : Reads w B 3 A ls.length (ls.flatMap Lb.cells)) {k : Nat} (hk : k ≤ ls.length) : Reads w B 3 A (ls.take k).length ((ls.take k).flatMap Lb.cells) := by
  refine ⟨flat_len Lb.cells 3 Lb.cells_len _, fun hn => ?_⟩
  rw [List.length_take] at hn
  obtain ⟨ad, e, hb, hc⟩ := h.2 (by omega)
  refine ⟨ad, e, hb, fun j u hu => hc j u ?_⟩
  have e2 : ls.flatMap Lb.cells = (ls.take k).flatMap Lb.cells ++ (ls.drop k).flatMap Lb.cells := by rw [← List.flatMap_append, List.take_append_drop]
  rw [e2, List.getElem?_append_left (List.getElem?_eq_some_iff.1 hu).1]
  exact hu

set_option maxHeartbeats 1000000 in
theorem areNamesC_any (s : ByteArray) (w : World) (hs : s.size ≤ maxLen) : Calls Try.prog 65 #[.string s] w (Gives w (.bool (!nameOk s))) := by
  have HN := Lib.hid (fun w => implName_any s w hs)
  generalize nameOk s = t at *
  go_enter Try.func65, Try.ntmps65
  go_wp2_with fail
  refine (HN.out _).mono ?_
  rintro e w' ⟨rfl, rfl⟩
  go_wp2
  go_ret
  exact ⟨rfl, Below.refl _ _⟩
def manyOk (ns : List ByteArray) : Bool := decide (ns.length ≤ 40) && ns.all nameOk
theorem any_notN (ns : List ByteArray) : (!ns.any fun x => !nameOk x) = ns.all nameOk := by
  induction ns with
  | nil => rfl
  | cons x xs ih => simp [List.all_cons, ih]
set_option maxHeartbeats 1000000 in
theorem areNames_any {A : Option Addr} {c B : Nat} (ns : List ByteArray) (w : World) (h1 : Reads w B 1 A ns.length (texts ns)) (hB : B ≤ w.heap.size) (hm : ns.length ≤ maxLen) (hs : ∀ s ∈ ns, s.size ≤ maxLen) :
    Calls Try.prog 56 #[.slice A ns.length c] w (Gives w (.bool (manyOk ns))) := by
  have HF := Lib.hid (fun h => containsFuncStr_any A c B 65 #[] (fun s => !nameOk s) ns w h1 hB hm (fun args w => by kernel_rfl) h)
  have HA := Lib.hid (any_notN ns)
  have HS := Lib.hid hs
  clear hs
  unfold maxLen at hm
  by_cases hl : ns.length ≤ 40
  · have HV : Hid (manyOk ns = ns.all nameOk) := by unfold manyOk; rw [decide_eq_true hl, Bool.true_and]; exact rfl
    go_enter Try.func56, Try.ntmps56
    go_wp2_with fail
    refine (HF.out (fun x hx w' _ => by simpa using areNamesC_any x w' (HS.out x hx))).mono ?_
    rintro e w1 ⟨rfl, hb⟩
    go_wp2
    go_ret
    rw [HV.out, ← HA.out]
    exact ⟨rfl, hb⟩
  · have HV : Hid (manyOk ns = false) := by unfold manyOk; rw [decide_eq_false hl, Bool.false_and]; exact rfl
    go_enter Try.func56, Try.ntmps56
    go_wp2_with fail
    go_ret
    rw [HV.out]
    exact ⟨rfl, Below.refl _ _⟩
set_option maxHeartbeats 1000000 in
theorem few_any {A : Option Addr} {c B : Nat} (ns : List ByteArray) (w : World) (h1 : Reads w B 1 A ns.length (texts ns)) (hB : B ≤ w.heap.size) (hm : ns.length ≤ maxLen) (hs : ∀ s ∈ ns, s.size ≤ maxLen) :
    Calls Try.prog 40 #[.slice A ns.length c] w (Gives w (.bool (fewOk ns))) := by
  have HF := Lib.hid (areNames_any (c := c) ns w h1 hB hm hs)
  clear hs
  unfold maxLen at hm
  by_cases hl : ns.length ≤ 6
  · have HV : Hid (manyOk ns = fewOk ns) := by unfold fewOk manyOk; rw [decide_eq_true hl, decide_eq_true (show ns.length ≤ 40 by omega)]; exact rfl
    go_enter Try.func40, Try.ntmps40
    go_wp2_with fail
    refine HF.out.mono ?_
    rintro e w1 ⟨rfl, hb⟩
    rw [HV.out]
    go_wp2
    go_ret
    exact ⟨rfl, hb⟩
  · have HV : Hid (fewOk ns = false) := by unfold fewOk; rw [decide_eq_false hl, Bool.false_and]; exact rfl
    go_enter Try.func40, Try.ntmps40
    go_wp2_with fail
    go_ret
    rw [HV.out]
    exact ⟨rfl, Below.refl _ _⟩
set_option maxHeartbeats 1000000 in
theorem specNames_any {A : Option Addr} {c B : Nat} (ns : List ByteArray) (w : World) (h1 : Reads w B 1 A ns.length (texts ns)) (hm : ns.length ≤ maxLen) (hs : ∀ s ∈ ns, s.size ≤ maxLen) :
    Calls Try.prog 42 #[.slice A ns.length c] w fun e w' => e = .returned (.bool (fewOk ns)) ∧ w = w' := by
  have HS := Lib.hid hs
  clear hs
  unfold maxLen at hm
  go_enter Try.func42, Try.ntmps42
  go_wp2
  go_loop [3] (fun i => ∃ k : Nat, k ≤ ns.length ∧ i = .int .i64 k ∧ Hid (∀ j, (h : j < ns.length) → j < k → nameOk ns[j] = true)) (fun i => ns.length - (intOf i).toNat)
  case atStart => exact ⟨0, Nat.zero_le _, rfl, fun j _ hj => by omega⟩
  case round =>
    obtain ⟨k, hk, rfl, HA⟩ := hrel
    by_cases hlt : k < ns.length
    · obtain ⟨ad, u1, rfl, hbl, hx1, hc1⟩ := h1.at_ hlt
      rw [texts_get _ _ hlt] at hx1
      injection hx1 with hx1
      subst hx1
      have HC := Lib.hid (fun w => specName_any ns[k] w (HS.out _ (List.getElem_mem hlt)))
      cases hv : nameOk ns[k]
      · have HR : Hid (fewOk ns = false) := by
          have : ns.all nameOk = false := by rw [List.all_eq_false]; exact ⟨_, List.getElem_mem hlt, by simp [hv]⟩
          unfold fewOk
          rw [this, Bool.and_false]
          exact rfl
        rw [hv] at HC
        clear hv
        go_wp2_with fail
        refine (HC.out _).mono ?_
        rintro e w2 ⟨rfl, rfl⟩
        go_wp2
        go_ret
        rw [HR.out]
        exact ⟨rfl, rfl⟩
      · have HV := Lib.hid hv
        rw [hv] at HC
        clear hv
        go_wp2_with fail
        refine (HC.out _).mono ?_
        rintro e w2 ⟨rfl, rfl⟩
        go_wp2
        go_round
        case rel => exact ⟨k + 1, by omega, by go_num, Lib.hid (fun j h hj => by
          by_cases hjk : j < k
          · exact HA.out j h hjk
          · obtain rfl : j = k := by omega
            exact HV.out)⟩
        case measure => simp [intOf]; omega
    · have HR : Hid (fewOk ns = decide (ns.length ≤ 6)) := by
        have : ns.all nameOk = true := by
          rw [List.all_eq_true]
          intro x hx
          obtain ⟨j, hj, rfl⟩ := List.getElem_of_mem hx
          exact HA.out j hj (by omega)
        unfold fewOk
        rw [this, Bool.and_true]
        exact rfl
      go_wp2
      go_ret
      rw [HR.out]
      exact ⟨by simp; omega, rfl⟩

set_option maxHeartbeats 1000000 in
theorem placeC_any (l : Lb) (nm : ByteArray) (a : Addr) (w : World) (hc : w.cell? a = some (.string nm)) :
    Calls Try.prog 55 #[l.val, .pointer (some a)] w (Gives w (.bool (decide (l.name = nm)))) := by
  obtain ⟨name, needs, nA, nc, gives, gA, gc⟩ := l
  simp only [Lb.val]
  have hc2 : (w.alloc (.cells #[Value.string name, Value.slice nA needs.length nc, Value.slice gA gives.length gc] 29)).cell? a = some (.string nm) := (World.cell?_alloc_lt w _ a (World.block_lt_of_cell? w a hc)).trans hc
  by_cases he : name = nm
  · have HR : Hid (decide (name = nm) = true) := decide_eq_true he
    have ht : (name.toList == nm.toList) = true := by simp [he]
    clear he
    go_enter Try.func55, Try.ntmps55
    go_wp2
    go_ret
    rw [HR.out]
    exact ⟨rfl, by go_grown⟩
  · have HR : Hid (decide (name = nm) = false) := decide_eq_false he
    have ht : (name.toList == nm.toList) = false := by simpa using fun h => he (toList_inj h)
    clear he
    go_enter Try.func55, Try.ntmps55
    go_wp2
    go_ret
    rw [HR.out]
    exact ⟨rfl, by go_grown⟩
set_option maxHeartbeats 1000000 in
theorem implPlace_any {A : Option Addr} {c B : Nat} (ls : List Lb) (nm : ByteArray) (w : World) (h1 : Reads w B 3 A ls.length (ls.flatMap Lb.cells)) (hB : B ≤ w.heap.size) (hm : ls.length ≤ maxLen) :
    Calls Try.prog 39 #[.slice A ls.length c, .string nm] w (Gives w (.int .i64 (lPlace (ls.map Lb.v) nm))) := by
  have hb0 : Below w.heap.size w (w.alloc (.cells #[Value.string nm] 9)) := (Below.refl _ _).alloc (Nat.le_refl _) _
  have K0 : Blk (w.alloc (.cells #[Value.string nm] 9)) w.heap.size 9 #[Value.string nm] := Blk.new _ _ _
  have HR := Lib.hid (fun w' (hb : Below w.heap.size w w') => (h1.more hB).below hb)
  have HI : Hid (idxOf (fun l : Lb => decide (l.name = nm)) ls = lPlace (ls.map Lb.v) nm) := idxOf_map Lb.v (fun v => decide (v.1 = nm)) ls
  go_enter Try.func39, Try.ntmps39
  go_wp2_with fail
  refine (indexFuncLb_any A c _ 55 #[.pointer (some ⟨w.heap.size, 0, none⟩)] (fun l => decide (l.name = nm)) ls _ (HR.out _ hb0) hb0.size hm (fun args w => by kernel_rfl) (fun x _ w' hb' => ?_)).mono ?_
  · have K3 := K0.below hb' K0.lt
    simpa using placeC_any x nm _ w' (K3.cell 0)
  rintro e w3 ⟨rfl, hb3⟩
  rw [HI.out]
  go_wp2
  go_ret
  exact ⟨rfl, hb0.trans (hb3.mono hb0.size)⟩
set_option maxHeartbeats 1000000 in
theorem specPlace_any {A : Option Addr} {c B : Nat} (ls : List Lb) (nm : ByteArray) (w : World) (h1 : Reads w B 3 A ls.length (ls.flatMap Lb.cells)) (hm : ls.length ≤ maxLen) :
    Calls Try.prog 43 #[.slice A ls.length c, .string nm] w fun e w' => e = .returned (.int .i64 (lPlace (ls.map Lb.v) nm)) ∧ w = w' := by
  have HI : Hid (lPlace (ls.map Lb.v) nm = idxOf (fun l : Lb => decide (l.name = nm)) ls) := (idxOf_map Lb.v (fun v => decide (v.1 = nm)) ls).symm
  unfold maxLen at hm
  rw [HI.out]
  clear HI
  go_enter Try.func43, Try.ntmps43
  go_wp2
  go_loop [5] (fun i => ∃ k : Nat, k ≤ ls.length ∧ i = .int .i64 k ∧ Hid (∀ j, (h : j < ls.length) → j < k → decide (ls[j].name = nm) = false)) (fun i => ls.length - (intOf i).toNat)
  case atStart => exact ⟨0, Nat.zero_le _, rfl, fun j _ hj => by omega⟩
  case round =>
    obtain ⟨k, hk, rfl, HA⟩ := hrel
    by_cases hlt : k < ls.length
    · obtain ⟨b, off, rfl, hbl, e0, e1, e2⟩ := Lb.at_ h1 hlt
      by_cases he : ls[k].name = nm
      · have HI := Lib.hid (idxOf_at (p := fun l : Lb => decide (l.name = nm)) hlt (decide_eq_true he) (fun j h hj => HA.out j h hj))
        have ht : (ls[k].name.toList == nm.toList) = true := by simp [he]
        clear he
        go_wp2
        go_ret
        rw [HI.out]
        exact ⟨rfl, rfl⟩
      · have HN : Hid (decide (ls[k].name = nm) = false) := decide_eq_false he
        have ht : (ls[k].name.toList == nm.toList) = false := by simpa using fun h => he (toList_inj h)
        clear he
        go_wp2
        go_round
        case rel => exact ⟨k + 1, by omega, by go_num, Lib.hid (fun j h hj => by
          by_cases hjk : j < k
          · exact HA.out j h hjk
          · obtain rfl : j = k := by omega
            exact HN.out)⟩
        case measure => simp [intOf]; omega
    · have HI := Lib.hid (idxOf_none (p := fun l : Lb => decide (l.name = nm)) (xs := ls) (fun j h => HA.out j h (by omega)))
      go_wp2
      go_ret
      rw [HI.out]
      exact ⟨rfl, rfl⟩
end Go.Proofs.Ytbhndkdijbappaa
