/- Contracts of the functions on lists of versions. No condition but the sizes. -/
import Derived.Test.YtogdeekjfgbneaaRows
import Derived.Test.YtogdeekjfgbneaaBase
import Derived.Test.YtogdeekjfgbneaaBase2
import Derived.Test.YtogdeekjfgbneaaIn
import Derived.Test.YtogdeekjfgbneaaName
import Derived.Test.YtogdeekjfgbneaaVer
import Derived.Test.YtogdeekjfgbneaaFindVer
import Derived.Test.YtogdeekjfgbneaaVerF
import Derived.WalkKit
import Derived.WalkSpells
import Derived.WalkLawsBesides
import Derived.Handy
import Derived.BigQuiet
import Derived.Deep.RegionHeld3
import Derived.Deep.DrawnRows
import Derived.Deep.QuietTactic
namespace Go.Proofs.Ytogdeekjfgbneaa
open Go Go.RowKit

def versOk (xs : List Ver) : Bool := decide (xs.length ≤ 40) && xs.all verOk
def newStep (nm : ByteArray) (m : Int) (v : Ver) : Int := if v.name = nm then max m v.number else m
def newestOf (xs : List Ver) (nm : ByteArray) : Int := xs.foldl (newStep nm) 0
def newestV (xs : List Ver) (nm : ByteArray) : Int := if versOk xs then newestOf xs nm else 0
theorem newestOf_take (xs : List Ver) (nm : ByteArray) {k : Nat} (hk : k < xs.length) : newestOf (xs.take (k + 1)) nm = newStep nm (newestOf (xs.take k) nm) xs[k] := by
  unfold newestOf
  rw [List.take_succ_eq_append_getElem hk, List.foldl_append]
  rfl
theorem any_not {α : Type} (p : α → Bool) (xs : List α) : (!xs.any fun x => !p x) = xs.all p := by
  induction xs with
  | nil => rfl
  | cons x xs ih => simp [List.all_cons, ih]
theorem all_at {α : Type} {p : α → Bool} {xs : List α} (h : ∀ j, (h : j < xs.length) → p xs[j] = true) : xs.all p = true := by
  rw [List.all_eq_true]
  intro x hx
  obtain ⟨j, hj, rfl⟩ := List.getElem_of_mem hx
  exact h j hj
theorem all_not {α : Type} {p : α → Bool} {xs : List α} {k : Nat} (hk : k < xs.length) (h : p xs[k] = false) : xs.all p = false := by
  rw [List.all_eq_false]
  exact ⟨_, List.getElem_mem hk, by simp [h]⟩

set_option maxHeartbeats 1000000 in
theorem areVersionsC_any (v : Ver) (w : World) (hs : VerSmall v) : Calls Try.prog 42 #[v.val] w (Gives w (.bool (!verOk v))) := by
  have HV := Lib.hid (fun w => implVerValid_any v w hs)
  generalize verOk v = t at *
  obtain ⟨nm, num⟩ := v
  simp only [Ver.val] at *
  have hb0 : Below w.heap.size w (w.alloc (.cells #[Value.string nm, Value.int .i64 num] 26)) := (Below.refl _ _).alloc (Nat.le_refl _) _
  go_enter Try.func42, Try.ntmps42
  go_wp2_with fail
  refine (Gives.keep (HV.out _) hb0).mono ?_
  rintro e w1 ⟨rfl, hb1⟩
  go_wp2
  go_ret
  exact ⟨rfl, hb1⟩

set_option maxHeartbeats 1000000 in
theorem areVersions_any {A : Option Addr} {c B : Nat} (xs : List Ver) (w : World) (h1 : Reads w B 2 A xs.length (xs.flatMap Ver.cells)) (hB : B ≤ w.heap.size) (hm : xs.length ≤ maxLen) (hs : ∀ v ∈ xs, VerSmall v) :
    Calls Try.prog 31 #[.slice A xs.length c] w (Gives w (.bool (versOk xs))) := by
  have HF := Lib.hid (fun h => containsFuncVer_any A c B 42 #[] (fun v => !verOk v) xs w h1 hB hm (fun args w => by kernel_rfl) h)
  have HA := Lib.hid (any_not verOk xs)
  have HS := Lib.hid hs
  clear hs
  unfold maxLen at hm
  by_cases hl : xs.length ≤ 40
  · have HV : Hid (versOk xs = xs.all verOk) := by unfold versOk; rw [decide_eq_true hl, Bool.true_and]; exact rfl
    go_enter Try.func31, Try.ntmps31
    go_wp2_with fail
    refine (HF.out (fun x hx w' _ => by simpa using areVersionsC_any x w' (HS.out x hx))).mono ?_
    rintro e w1 ⟨rfl, hb⟩
    go_wp2
    go_ret
    rw [HV.out, ← HA.out]
    exact ⟨rfl, hb⟩
  · have HV : Hid (versOk xs = false) := by unfold versOk; rw [decide_eq_false hl, Bool.false_and]; exact rfl
    go_enter Try.func31, Try.ntmps31
    go_wp2_with fail
    go_ret
    rw [HV.out]
    exact ⟨rfl, Below.refl _ _⟩

set_option maxHeartbeats 2000000 in
theorem newest_any {A : Option Addr} {c B : Nat} (xs : List Ver) (nm : ByteArray) (w : World) (h1 : Reads w B 2 A xs.length (xs.flatMap Ver.cells)) (hB : B ≤ w.heap.size) (hm : xs.length ≤ maxLen) :
    Calls Try.prog 32 #[.slice A xs.length c, .string nm] w (Gives w (.int .i64 (newestOf xs nm))) := by
  unfold maxLen at hm
  go_enter Try.func32, Try.ntmps32
  go_wp2
  go_loopw [5, 10] (fun m i wr => ∃ (k : Nat) (z : Int), k ≤ xs.length ∧ i = .int .i64 k ∧ m = .int .i64 z ∧ Hid (z = newestOf (xs.take k) nm) ∧ Below w.heap.size w wr) (fun _ i _ => xs.length - (intOf i).toNat)
  case atStart => exact ⟨0, 0, Nat.zero_le _, rfl, rfl, rfl, Below.refl _ _⟩
  case round =>
    obtain ⟨k, z, hk, rfl, rfl, HZ, hb⟩ := hrel
    by_cases hlt : k < xs.length
    · obtain ⟨b, off, rfl, hbl, e0, e1⟩ := Ver.at_ ((h1.more hB).below hb) hlt
      have HT := Lib.hid (newestOf_take xs nm hlt)
      have hbz := hb.size
      by_cases he : xs[k].name = nm
      · have HE : Hid (newStep nm z xs[k] = max z xs[k].number) := by unfold newStep; rw [if_pos he]; exact rfl
        have ht : (xs[k].name.toList == nm.toList) = true := by simp [he]
        clear he
        go_wp2
        all_goals
          go_roundw
          case rel => exact ⟨k + 1, _, by omega, by go_num, rfl, Lib.hid (by rw [HT.out, ← HZ.out, HE.out]; first | rfl | omega), by go_grown⟩
          case measure => simp [intOf]; omega
      · have HE : Hid (newStep nm z xs[k] = z) := by unfold newStep; rw [if_neg he]; exact rfl
        have ht : (xs[k].name.toList == nm.toList) = false := by simpa using fun h => he (toList_inj h)
        clear he
        go_wp2
        all_goals
          go_roundw
          case rel => exact ⟨k + 1, _, by omega, by go_num, rfl, Lib.hid (by rw [HT.out, ← HZ.out, HE.out]), by go_grown⟩
          case measure => simp [intOf]; omega
    · have HR : Hid (newestOf xs nm = z) := by
        have h := HZ.out
        rw [List.take_of_length_le (by omega)] at h
        exact h.symm
      go_wp2
      go_ret
      rw [HR.out]
      exact ⟨rfl, hb⟩

set_option maxHeartbeats 1000000 in
theorem implNewest_any {A : Option Addr} {c B : Nat} (xs : List Ver) (nm : ByteArray) (w : World) (h1 : Reads w B 2 A xs.length (xs.flatMap Ver.cells)) (hB : B ≤ w.heap.size) (hm : xs.length ≤ maxLen) (hs : ∀ v ∈ xs, VerSmall v) :
    Calls Try.prog 18 #[.slice A xs.length c, .string nm] w (Gives w (.int .i64 (newestV xs nm))) := by
  have HA := Lib.hid (areVersions_any (c := c) xs w h1 hB hm hs)
  have HN := Lib.hid (fun w' (hb : Below w.heap.size w w') => newest_any (A := A) (c := c) xs nm w' ((h1.more hB).below hb) hb.size hm)
  clear hs
  unfold newestV
  generalize newestOf xs nm = z at *
  cases hv : versOk xs
  · have HV := Lib.hid hv
    clear hv
    go_enter Try.func18, Try.ntmps18
    go_wp2_with fail
    refine HA.out.mono ?_
    rintro e w1 ⟨rfl, hb⟩
    rw [HV.out]
    go_wp2
    go_ret
    exact ⟨rfl, hb⟩
  · have HV := Lib.hid hv
    clear hv
    go_enter Try.func18, Try.ntmps18
    go_wp2_with fail
    refine HA.out.mono ?_
    rintro e w1 ⟨rfl, hb⟩
    rw [HV.out]
    go_wp2_with fail
    refine (HN.out _ hb).mono ?_
    rintro e w2 ⟨rfl, hb2⟩
    go_wp2
    go_ret
    exact ⟨rfl, hb.trans (hb2.mono hb.size)⟩

set_option maxHeartbeats 4000000 in
theorem specNewest_any {A : Option Addr} {c B : Nat} (xs : List Ver) (nm : ByteArray) (w : World) (h1 : Reads w B 2 A xs.length (xs.flatMap Ver.cells)) (hB : B ≤ w.heap.size) (hm : xs.length ≤ maxLen) (hs : ∀ v ∈ xs, VerSmall v) :
    Calls Try.prog 16 #[.slice A xs.length c, .string nm] w (Gives w (.int .i64 (newestV xs nm))) := by
  have HS := Lib.hid hs
  clear hs
  unfold maxLen at hm
  go_enter Try.func16, Try.ntmps16
  go_wp2
  go_loopw [5, 6] (fun m i wr => ∃ (k : Nat) (z : Int), k ≤ xs.length ∧ i = .int .i64 k ∧ m = .int .i64 z ∧ Hid (z = newestOf (xs.take k) nm) ∧ Below w.heap.size w wr ∧ Hid (∀ j, (h : j < xs.length) → j < k → verOk xs[j] = true) ∧ (0 < k → xs.length ≤ 40)) (fun _ i _ => xs.length - (intOf i).toNat)
  case atStart => exact ⟨0, 0, Nat.zero_le _, rfl, rfl, rfl, Below.refl _ _, Lib.hid (fun j _ hj => by omega), by omega⟩
  case round =>
    obtain ⟨k, z, hk, rfl, rfl, HZ, hb, HA, hl⟩ := hrel
    have HL := Lib.hid hl
    clear hl
    by_cases hlt : k < xs.length
    · have HC := Lib.hid (fun w => specVerValid_any xs[k] w (HS.out _ (List.getElem_mem hlt)))
      obtain ⟨b, off, rfl, hbl, e0, e1⟩ := Ver.at_ ((h1.more hB).below hb) hlt
      have HT := Lib.hid (newestOf_take xs nm hlt)
      have HRd := Lib.hid ((h1.more hB).below hb)
      cases hv : verOk xs[k]
      · have HR : Hid (newestV xs nm = 0) := by
          unfold newestV versOk
          rw [all_not hlt hv, Bool.and_false]
          exact rfl
        have HV := Lib.hid hv
        clear hv
        go_wp2_with fail
        refine (HC.out _).mono ?_
        rintro e w2 ⟨rfl, hb2⟩
        rw [HV.out]
        go_wp2
        go_ret
        rw [HR.out]
        exact ⟨rfl, hb.trans (hb2.mono hb.size)⟩
      · have HV := Lib.hid hv
        clear hv
        by_cases h40 : xs.length ≤ 40
        · by_cases he : xs[k].name = nm
          · have HE : Hid (newStep nm z xs[k] = max z xs[k].number) := by unfold newStep; rw [if_pos he]; exact rfl
            have ht : (xs[k].name.toList == nm.toList) = true := by simp [he]
            clear he
            go_wp2_with fail
            refine (HC.out _).mono ?_
            rintro e w2 ⟨rfl, hb2⟩
            rw [HV.out]
            obtain ⟨b', off', he', hbl', e0', e1'⟩ := Ver.at_ (HRd.out.below (hb2.mono hb.size)) hlt
            injection he' with he'
            injection he' with hq1 hq2
            subst hq1 hq2
            have HB2 := Lib.hid (hb.trans (hb2.mono hb.size))
            clear hb hb2 e0 e1
            go_wp2
            all_goals
              go_roundw
              case rel => exact ⟨k + 1, _, by omega, by go_num, rfl, Lib.hid (by rw [HT.out, ← HZ.out, HE.out]; first | rfl | omega), HB2.out, Lib.hid (fun j h hj => by
                by_cases hjk : j < k
                · exact HA.out j h hjk
                · obtain rfl : j = k := by omega
                  exact HV.out), fun _ => h40⟩
              case measure => simp [intOf]; omega
          · have HE : Hid (newStep nm z xs[k] = z) := by unfold newStep; rw [if_neg he]; exact rfl
            have ht : (xs[k].name.toList == nm.toList) = false := by simpa using fun h => he (toList_inj h)
            clear he
            go_wp2_with fail
            refine (HC.out _).mono ?_
            rintro e w2 ⟨rfl, hb2⟩
            rw [HV.out]
            obtain ⟨b', off', he', hbl', e0', e1'⟩ := Ver.at_ (HRd.out.below (hb2.mono hb.size)) hlt
            injection he' with he'
            injection he' with hq1 hq2
            subst hq1 hq2
            have HB2 := Lib.hid (hb.trans (hb2.mono hb.size))
            clear hb hb2 e0 e1
            go_wp2
            all_goals
              go_roundw
              case rel => exact ⟨k + 1, _, by omega, by go_num, rfl, Lib.hid (by rw [HT.out, ← HZ.out, HE.out]), HB2.out, Lib.hid (fun j h hj => by
                by_cases hjk : j < k
                · exact HA.out j h hjk
                · obtain rfl : j = k := by omega
                  exact HV.out), fun _ => h40⟩
              case measure => simp [intOf]; omega
        · have HR : Hid (newestV xs nm = 0) := by
            unfold newestV versOk
            rw [decide_eq_false h40, Bool.false_and]
            exact rfl
          go_wp2_with fail
          refine (HC.out _).mono ?_
          rintro e w2 ⟨rfl, hb2⟩
          rw [HV.out]
          go_wp2
          go_ret
          rw [HR.out]
          exact ⟨rfl, hb.trans (hb2.mono hb.size)⟩
    · have HR : Hid (newestV xs nm = z) := by
        have h := HZ.out
        rw [List.take_of_length_le (by omega)] at h
        have hv : versOk xs = true := by
          unfold versOk
          rw [all_at (fun j h => HA.out j h (by omega)), Bool.and_true]
          refine decide_eq_true ?_
          by_cases h0 : 0 < k
          · exact HL.out h0
          · omega
        unfold newestV
        rw [hv, if_pos rfl]
        exact h.symm
      go_wp2
      go_ret
      rw [HR.out]
      exact ⟨rfl, hb⟩
end Go.Proofs.Ytogdeekjfgbneaa
