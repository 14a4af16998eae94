/- Contracts of the small functions on sections: isAlign, isAdd, FixupWide, AlignUp at 0, SectionSize. No condition. -/
import Derived.Test.YtdaamgonendkkaaRows
import Derived.Test.YtdaamgonendkkaaBase
import Derived.Test.YtdaamgonendkkaaBase2
import Derived.Test.YtdaamgonendkkaaIn
import Derived.Test.YtdaamgonendkkaaByteS
import Derived.Test.YtdaamgonendkkaaFix
import Derived.Test.YtdaamgonendkkaaSec
import Derived.WalkKit
import Derived.WalkSpells
import Derived.WalkLawsBesides
import Derived.Handy
import Derived.BigQuiet
import Derived.Deep.RegionHeld3
import Derived.Deep.DrawnRows
import Derived.Deep.QuietTactic
namespace Go.Proofs.Ytdaamgonendkkaa
open Go Go.RowKit

def alignOk (a : Int) : Bool := a == 1 || a == 2 || a == 4 || a == 8
/-- What AlignUp gives at 0. -/
def alUp0 (a : Int) : Int := if alignOk a = true then 0 else -1
def wideOf (k : Int) : Int := if k = 1 then 1 else if k = 2 then 2 else if k = 3 then 4 else 0
theorem wideOf_bd (k : Int) : 0 ≤ wideOf k ∧ wideOf k ≤ 4 := by unfold wideOf; split <;> (try split) <;> (try split) <;> omega
set_option maxHeartbeats 1000000 in
theorem isAlign_any (a : Int) (w : World) : Calls Try.prog 64 #[.int .i64 a] w fun e w' => e = .returned (.bool (alignOk a)) ∧ w = w' := by
  by_cases h1 : a = 1
  · subst h1
    have HR : Hid (alignOk 1 = true) := Lib.hid (by decide)
    go_enter Try.func64, Try.ntmps64
    go_wp2
    go_ret
    rw [HR.out]
    exact ⟨rfl, rfl⟩
  · have b1 : (a == 1) = false := by simpa using h1
    have n1 : (a != 1) = true := by simpa using h1
    by_cases h2 : a = 2
    · subst h2
      have HR : Hid (alignOk 2 = true) := Lib.hid (by decide)
      go_enter Try.func64, Try.ntmps64
      go_wp2
      go_ret
      rw [HR.out]
      exact ⟨rfl, rfl⟩
    · have b2 : (a == 2) = false := by simpa using h2
      have n2 : (a != 2) = true := by simpa using h2
      by_cases h4 : a = 4
      · subst h4
        have HR : Hid (alignOk 4 = true) := Lib.hid (by decide)
        go_enter Try.func64, Try.ntmps64
        go_wp2
        go_ret
        rw [HR.out]
        exact ⟨rfl, rfl⟩
      · have b4 : (a == 4) = false := by simpa using h4
        have n4 : (a != 4) = true := by simpa using h4
        by_cases h8 : a = 8
        · subst h8
          have HR : Hid (alignOk 8 = true) := Lib.hid (by decide)
          go_enter Try.func64, Try.ntmps64
          go_wp2
          go_ret
          rw [HR.out]
          exact ⟨rfl, rfl⟩
        · have b8 : (a == 8) = false := by simpa using h8
          have n8 : (a != 8) = true := by simpa using h8
          have HR : Hid (alignOk a = false) := by unfold alignOk; rw [b1, b2, b4, b8]; rfl
          go_enter Try.func64, Try.ntmps64
          go_wp2
          go_ret
          rw [HR.out]
          exact ⟨rfl, rfl⟩
set_option maxHeartbeats 1000000 in
theorem alignUp0_any (a : Int) (w : World) : Calls Try.prog 91 #[.int .i64 0, .int .i64 a] w fun e w' => e = .returned (.int .i64 (alUp0 a)) ∧ w = w' := by
  have HI : Hid (inB 0 0 1000000 = true) := Lib.hid (by decide)
  by_cases h1 : a = 1
  · subst h1
    have HR : Hid (alUp0 1 = 0) := Lib.hid (by decide)
    go_enter Try.func91, Try.ntmps91
    go_wp2_with fail
    refine (l1In_any _ _ _ _).mono ?_
    rintro e w' ⟨rfl, rfl⟩
    rw [HI.out]
    go_wp2
    go_ret
    rw [HR.out]
    exact ⟨rfl, rfl⟩
  · have b1 : (a == 1) = false := by simpa using h1
    have n1 : (a != 1) = true := by simpa using h1
    by_cases h2 : a = 2
    · subst h2
      have HR : Hid (alUp0 2 = 0) := Lib.hid (by decide)
      go_enter Try.func91, Try.ntmps91
      go_wp2_with fail
      refine (l1In_any _ _ _ _).mono ?_
      rintro e w' ⟨rfl, rfl⟩
      rw [HI.out]
      go_wp2
      go_ret
      rw [HR.out]
      exact ⟨rfl, rfl⟩
    · have b2 : (a == 2) = false := by simpa using h2
      have n2 : (a != 2) = true := by simpa using h2
      by_cases h4 : a = 4
      · subst h4
        have HR : Hid (alUp0 4 = 0) := Lib.hid (by decide)
        go_enter Try.func91, Try.ntmps91
        go_wp2_with fail
        refine (l1In_any _ _ _ _).mono ?_
        rintro e w' ⟨rfl, rfl⟩
        rw [HI.out]
        go_wp2
        go_ret
        rw [HR.out]
        exact ⟨rfl, rfl⟩
      · have b4 : (a == 4) = false := by simpa using h4
        have n4 : (a != 4) = true := by simpa using h4
        by_cases h8 : a = 8
        · subst h8
          have HR : Hid (alUp0 8 = 0) := Lib.hid (by decide)
          go_enter Try.func91, Try.ntmps91
          go_wp2_with fail
          refine (l1In_any _ _ _ _).mono ?_
          rintro e w' ⟨rfl, rfl⟩
          rw [HI.out]
          go_wp2
          go_ret
          rw [HR.out]
          exact ⟨rfl, rfl⟩
        · have b8 : (a == 8) = false := by simpa using h8
          have n8 : (a != 8) = true := by simpa using h8
          have HA : Hid (alignOk a = false) := by unfold alignOk; rw [b1, b2, b4, b8]; rfl
          have HR : Hid (alUp0 a = -1) := by unfold alUp0; rw [HA.out]; rfl
          go_enter Try.func91, Try.ntmps91
          go_wp2_with fail
          refine (l1In_any _ _ _ _).mono ?_
          rintro e w' ⟨rfl, rfl⟩
          rw [HI.out]
          go_wp2
          go_ret
          rw [HR.out]
          exact ⟨rfl, rfl⟩
set_option maxHeartbeats 1000000 in
theorem isAdd_any (n : Int) (w : World) : Calls Try.prog 80 #[.int .i64 n] w fun e w' => e = .returned (.bool (inB n (-1000) 1000)) ∧ w = w' := by
  go_enter Try.func80, Try.ntmps80
  go_wp2_with fail
  refine (within_any _ _ _ _).mono ?_
  rintro e w' ⟨rfl, rfl⟩
  go_wp2
  go_ret
  exact ⟨rfl, rfl⟩
set_option maxHeartbeats 1000000 in
theorem implWide_any (k : Int) (w : World) : Calls Try.prog 79 #[.int .i64 k] w fun e w' => e = .returned (.int .i64 (wideOf k)) ∧ w = w' := by
  by_cases h1 : k = 1
  · subst h1
    have HR : Hid (wideOf 1 = 1) := Lib.hid (by decide)
    go_enter Try.func79, Try.ntmps79
    go_wp2
    go_ret
    rw [HR.out]
    exact ⟨rfl, rfl⟩
  · have b1 : (k == 1) = false := by simpa using h1
    have n1 : (k != 1) = true := by simpa using h1
    by_cases h2 : k = 2
    · subst h2
      have HR : Hid (wideOf 2 = 2) := Lib.hid (by decide)
      go_enter Try.func79, Try.ntmps79
      go_wp2
      go_ret
      rw [HR.out]
      exact ⟨rfl, rfl⟩
    · have b2 : (k == 2) = false := by simpa using h2
      have n2 : (k != 2) = true := by simpa using h2
      by_cases h3 : k = 3
      · subst h3
        have HR : Hid (wideOf 3 = 4) := Lib.hid (by decide)
        go_enter Try.func79, Try.ntmps79
        go_wp2
        go_ret
        rw [HR.out]
        exact ⟨rfl, rfl⟩
      · have b3 : (k == 3) = false := by simpa using h3
        have n3 : (k != 3) = true := by simpa using h3
        have HR : Hid (wideOf k = 0) := by unfold wideOf; rw [if_neg h1, if_neg h2, if_neg h3]; exact rfl
        go_enter Try.func79, Try.ntmps79
        go_wp2
        go_ret
        rw [HR.out]
        exact ⟨rfl, rfl⟩
set_option maxHeartbeats 1000000 in
theorem specWide_any (k : Int) (w : World) : Calls Try.prog 92 #[.int .i64 k] w (Gives w (.int .i64 (wideOf k))) := by
  by_cases h1 : k = 1
  · subst h1
    have HR : Hid (wideOf 1 = 1) := Lib.hid (by decide)
    have HI : Hid (inB 1 1 3 = true) := Lib.hid (by decide)
    go_enter Try.func92, Try.ntmps92
    go_wp2_with fail
    refine (l1In_any _ _ _ _).mono ?_
    rintro e w' ⟨rfl, rfl⟩
    rw [HI.out]
    go_wp2
    go_ret
    rw [HR.out]
    exact ⟨rfl, by go_grown⟩
  · have b1 : (k == 1) = false := by simpa using h1
    have n1 : (k != 1) = true := by simpa using h1
    by_cases h2 : k = 2
    · subst h2
      have HR : Hid (wideOf 2 = 2) := Lib.hid (by decide)
      have HI : Hid (inB 2 1 3 = true) := Lib.hid (by decide)
      go_enter Try.func92, Try.ntmps92
      go_wp2_with fail
      refine (l1In_any _ _ _ _).mono ?_
      rintro e w' ⟨rfl, rfl⟩
      rw [HI.out]
      go_wp2
      go_ret
      rw [HR.out]
      exact ⟨rfl, by go_grown⟩
    · have b2 : (k == 2) = false := by simpa using h2
      have n2 : (k != 2) = true := by simpa using h2
      by_cases h3 : k = 3
      · subst h3
        have HR : Hid (wideOf 3 = 4) := Lib.hid (by decide)
        have HI : Hid (inB 3 1 3 = true) := Lib.hid (by decide)
        go_enter Try.func92, Try.ntmps92
        go_wp2_with fail
        refine (l1In_any _ _ _ _).mono ?_
        rintro e w' ⟨rfl, rfl⟩
        rw [HI.out]
        go_wp2
        go_ret
        rw [HR.out]
        exact ⟨rfl, by go_grown⟩
      · have b3 : (k == 3) = false := by simpa using h3
        have n3 : (k != 3) = true := by simpa using h3
        have HR : Hid (wideOf k = 0) := by unfold wideOf; rw [if_neg h1, if_neg h2, if_neg h3]; exact rfl
        have HI : Hid (inB k 1 3 = false) := inB_false (by omega)
        go_enter Try.func92, Try.ntmps92
        go_wp2_with fail
        refine (l1In_any _ _ _ _).mono ?_
        rintro e w' ⟨rfl, rfl⟩
        rw [HI.out]
        go_wp2
        go_ret
        rw [HR.out]
        exact ⟨rfl, Below.refl _ _⟩
def secSize (x : Sec) : Int := if x.kind = 3 then x.size else x.bytes.length
set_option maxHeartbeats 1000000 in
theorem implSize_any (x : Sec) (w : World) : Calls Try.prog 81 #[x.val] w (Gives w (.int .i64 (secSize x))) := by
  obtain ⟨name, kind, align, bytes, bytesA, bytesc, size, fixups, fA, fc⟩ := x
  simp only [Sec.val]
  by_cases h3 : kind = 3
  · subst h3
    go_enter Try.func81, Try.ntmps81
    go_wp2
    go_ret
    exact ⟨rfl, by go_grown⟩
  · have b3 : (kind == 3) = false := by simpa using h3
    have HR : Hid (secSize ⟨name, kind, align, bytes, bytesA, bytesc, size, fixups, fA, fc⟩ = bytes.length) := if_neg h3
    go_enter Try.func81, Try.ntmps81
    go_wp2
    go_ret
    rw [HR.out]
    exact ⟨rfl, by go_grown⟩
set_option maxHeartbeats 1000000 in
theorem specSize_any (x : Sec) (w : World) : Calls Try.prog 93 #[x.val] w (Gives w (.int .i64 (secSize x))) := by
  obtain ⟨name, kind, align, bytes, bytesA, bytesc, size, fixups, fA, fc⟩ := x
  simp only [Sec.val]
  by_cases h3 : kind = 3
  · subst h3
    go_enter Try.func93, Try.ntmps93
    go_wp2
    go_ret
    exact ⟨rfl, by go_grown⟩
  · have b3 : (kind == 3) = false := by simpa using h3
    have HR : Hid (secSize ⟨name, kind, align, bytes, bytesA, bytesc, size, fixups, fA, fc⟩ = bytes.length) := if_neg h3
    go_enter Try.func93, Try.ntmps93
    go_wp2
    go_ret
    rw [HR.out]
    exact ⟨rfl, by go_grown⟩
end Go.Proofs.Ytdaamgonendkkaa
