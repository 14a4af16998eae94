/- Contracts of GetCode and of what it calls. Condition: the sizes. -/
import Derived.Test.YtbljkdhokbhcdaaRows
import Derived.Test.YtbljkdhokbhcdaaBase
import Derived.Test.YtbljkdhokbhcdaaBase2
import Derived.Test.YtbljkdhokbhcdaaBase3
import Derived.Test.YtbljkdhokbhcdaaOnly
import Derived.Test.YtbljkdhokbhcdaaIn
import Derived.Test.YtbljkdhokbhcdaaIn2
import Derived.Test.YtbljkdhokbhcdaaGet2IS
import Derived.Test.YtbljkdhokbhcdaaMc
import Derived.WalkKit
import Derived.WalkSpells
import Derived.WalkLawsBesides
import Derived.Handy
import Derived.BigQuiet
import Derived.Deep.RegionHeld3
import Derived.Deep.DrawnRows
import Derived.Deep.QuietTactic
import Derived.Deep.CutBlock
namespace Go.Proofs.Ytbljkdhokbhcdaa
open Go Go.RowKit

/-- An instruction may have a number. -/
def hasA (d : Int) : Bool := d == 1 || d == 4 || d == 5 || d == 6
theorem hasA_no {d : Int} (h1 : d ≠ 1) (h4 : d ≠ 4) (h5 : d ≠ 5) (h6 : d ≠ 6) : hasA d = false := by
  unfold hasA
  simp [h1, h4, h5, h6]
theorem hasA_in {d : Int} (h : hasA d = true) : d = 1 ∨ d = 4 ∨ d = 5 ∨ d = 6 := by
  unfold hasA at h
  simp at h
  omega
def codeOk (d a : Int) : Bool := if hasA d = true then inB a 0 65535 else (inB d 0 7 && decide (a = 0))
/-- The instruction at a place: what it does, its number, the place behind it. -/
def codeAt (bs : List Int) (pc : Int) : Int × Int × Int :=
  if 0 ≤ pc ∧ pc ≤ (bs.length : Int) - 1 then
    (if hasA (bs.getD pc.toNat 0) = true then (if pc + 3 ≤ bs.length then (bs.getD pc.toNat 0, get2 bs (pc + 1), pc + 3) else (0, 0, -1))
    else (if bs.getD pc.toNat 0 ≤ 7 then (bs.getD pc.toNat 0, 0, pc + 1) else (0, 0, -1)))
  else (0, 0, -1)
section
variable {bs : List Int} {pc : Int} {k : Nat}
theorem codeAt_out (h : ¬ (0 ≤ pc ∧ pc ≤ (bs.length : Int) - 1)) : codeAt bs pc = (0, 0, -1) := if_neg h
theorem codeAt_has (hk : k + 3 ≤ bs.length) (h : hasA (bs[k]'(by omega)) = true) : codeAt bs (k : Int) = (bs[k]'(by omega), 256 * (bs[k + 2]'(by omega)) + bs[k + 1]'(by omega), (k : Int) + 3) := by
  have e : bs.getD (k : Int).toNat 0 = bs[k]'(by omega) := by rw [Int.toNat_natCast, List.getD_eq_getElem?_getD, List.getElem?_eq_getElem (by omega)]; rfl
  unfold codeAt
  rw [if_pos (by omega), e, if_pos h, if_pos (by omega), show ((k : Int) + 1) = ((k + 1 : Nat) : Int) from by omega, get2_at (by omega)]
theorem codeAt_cut (hk : k < bs.length) (hk3 : ¬ k + 3 ≤ bs.length) (h : hasA bs[k] = true) : codeAt bs (k : Int) = (0, 0, -1) := by
  have e : bs.getD (k : Int).toNat 0 = bs[k] := by rw [Int.toNat_natCast, List.getD_eq_getElem?_getD, List.getElem?_eq_getElem hk]; rfl
  unfold codeAt
  rw [if_pos (by omega), e, if_pos h, if_neg (by omega)]
theorem codeAt_non (hk : k < bs.length) (h : hasA bs[k] = false) (h7 : bs[k] ≤ 7) : codeAt bs (k : Int) = (bs[k], 0, (k : Int) + 1) := by
  have e : bs.getD (k : Int).toNat 0 = bs[k] := by rw [Int.toNat_natCast, List.getD_eq_getElem?_getD, List.getElem?_eq_getElem hk]; rfl
  unfold codeAt
  rw [if_pos (by omega), e, if_neg (by simp [h]), if_pos h7]
theorem codeAt_bad (hk : k < bs.length) (h : hasA bs[k] = false) (h7 : ¬ bs[k] ≤ 7) : codeAt bs (k : Int) = (0, 0, -1) := by
  have e : bs.getD (k : Int).toNat 0 = bs[k] := by rw [Int.toNat_natCast, List.getD_eq_getElem?_getD, List.getElem?_eq_getElem hk]; rfl
  unfold codeAt
  rw [if_pos (by omega), e, if_neg (by simp [h]), if_neg h7]
/-- What an instruction is. -/
theorem codeAt_good (hx : ∀ x ∈ bs, 0 ≤ x ∧ x ≤ 255) (h : 0 ≤ (codeAt bs pc).2.2) : 0 ≤ (codeAt bs pc).1 ∧ (codeAt bs pc).1 ≤ 7 ∧ 0 ≤ (codeAt bs pc).2.1 ∧ (codeAt bs pc).2.1 ≤ 65535 ∧ (codeAt bs pc).2.2 ≤ bs.length := by
  by_cases h0 : 0 ≤ pc ∧ pc ≤ (bs.length : Int) - 1
  · obtain ⟨k, rfl⟩ := Int.eq_ofNat_of_zero_le h0.1
    have hk : k < bs.length := by omega
    have b0 := hx _ (List.getElem_mem hk)
    cases ha : hasA bs[k]
    · by_cases h7 : bs[k] ≤ 7
      · rw [codeAt_non hk ha h7] at h ⊢
        simp only
        omega
      · rw [codeAt_bad hk ha h7] at h
        simp at h
    · by_cases hk3 : k + 3 ≤ bs.length
      · rw [codeAt_has hk3 ha] at h ⊢
        have b1 := hx _ (List.getElem_mem (show k + 1 < bs.length by omega))
        have b2 := hx _ (List.getElem_mem (show k + 2 < bs.length by omega))
        have := hasA_in ha
        simp only at h ⊢
        omega
      · rw [codeAt_cut hk hk3 ha] at h
        simp at h
  · rw [codeAt_out h0] at h
    simp at h
end
set_option maxRecDepth 100000 in
set_option maxHeartbeats 2000000 in
theorem implHas_any (d : Int) (w : World) : Calls Try.prog 53 #[.int .i64 d] w (Gives w (.bool (hasA d))) := by
  by_cases h1 : d = 1
  · subst h1
    go_enter Try.func53, Try.ntmps53
    go_wp2
    go_ret
    exact ⟨rfl, Below.refl _ _⟩
  by_cases h4 : d = 4
  · subst h4
    go_enter Try.func53, Try.ntmps53
    go_wp2
    go_ret
    exact ⟨rfl, Below.refl _ _⟩
  by_cases h5 : d = 5
  · subst h5
    go_enter Try.func53, Try.ntmps53
    go_wp2
    go_ret
    exact ⟨rfl, Below.refl _ _⟩
  by_cases h6 : d = 6
  · subst h6
    go_enter Try.func53, Try.ntmps53
    go_wp2
    go_ret
    exact ⟨rfl, Below.refl _ _⟩
  have HN := Lib.hid (hasA_no h1 h4 h5 h6)
  have b1 : (d == 1) = false := by rw [beq_eq_false_iff_ne]; exact h1
  have b4 : (d == 4) = false := by rw [beq_eq_false_iff_ne]; exact h4
  have b5 : (d == 5) = false := by rw [beq_eq_false_iff_ne]; exact h5
  have b6 : (d == 6) = false := by rw [beq_eq_false_iff_ne]; exact h6
  clear h1 h4 h5 h6
  go_enter Try.func53, Try.ntmps53
  go_wp2
  go_ret
  rw [HN.out]
  exact ⟨rfl, Below.refl _ _⟩
set_option maxRecDepth 100000 in
set_option maxHeartbeats 2000000 in
theorem specHas_any (d : Int) (w : World) : Calls Try.prog 50 #[.int .i64 d] w (Gives w (.bool (hasA d))) := by
  by_cases h1 : d = 1
  · subst h1
    go_enter Try.func50, Try.ntmps50
    go_wp2
    go_ret
    exact ⟨rfl, Below.refl _ _⟩
  by_cases h4 : d = 4
  · subst h4
    go_enter Try.func50, Try.ntmps50
    go_wp2_with fail
    refine (l1In_any _ _ _ _).mono ?_
    rintro e w' ⟨rfl, rfl⟩
    go_wp2
    go_ret
    exact ⟨rfl, Below.refl _ _⟩
  by_cases h5 : d = 5
  · subst h5
    go_enter Try.func50, Try.ntmps50
    go_wp2_with fail
    refine (l1In_any _ _ _ _).mono ?_
    rintro e w' ⟨rfl, rfl⟩
    go_wp2
    go_ret
    exact ⟨rfl, Below.refl _ _⟩
  by_cases h6 : d = 6
  · subst h6
    go_enter Try.func50, Try.ntmps50
    go_wp2_with fail
    refine (l1In_any _ _ _ _).mono ?_
    rintro e w' ⟨rfl, rfl⟩
    go_wp2
    go_ret
    exact ⟨rfl, Below.refl _ _⟩
  have HN := Lib.hid (hasA_no h1 h4 h5 h6)
  have b1 : (d == 1) = false := by rw [beq_eq_false_iff_ne]; exact h1
  have b4 : (d == 4) = false := by rw [beq_eq_false_iff_ne]; exact h4
  have b5 : (d == 5) = false := by rw [beq_eq_false_iff_ne]; exact h5
  have b6 : (d == 6) = false := by rw [beq_eq_false_iff_ne]; exact h6
  have HI := Lib.hid (inB_false (n := d) (lo := 4) (hi := 6) (by omega))
  clear h1 h4 h5 h6
  go_enter Try.func50, Try.ntmps50
  go_wp2_with fail
  refine (l1In_any _ _ _ _).mono ?_
  rintro e w' ⟨rfl, rfl⟩
  rw [HI.out]
  go_wp2
  go_ret
  rw [HN.out]
  exact ⟨rfl, Below.refl _ _⟩
set_option maxRecDepth 100000 in
set_option maxHeartbeats 2000000 in
theorem implCodeOk_any (d a : Int) (w : World) : Calls Try.prog 55 #[.agg #[.int .i64 d, .int .i64 a]] w (Gives w (.bool (codeOk d a))) := by
  have HB : Hid (Below w.heap.size w (w.alloc (.cells #[.int .i64 d, .int .i64 a] 57))) := (Below.refl _ _).alloc (Nat.le_refl _) _
  have HK := Lib.hid (Blk.new w 57 #[.int .i64 d, .int .i64 a])
  go_enter Try.func55, Try.ntmps55
  go_wp2_with fail
  refine (implHas_any d _).mono ?_
  rintro e w1 ⟨rfl, s1⟩
  have HB1 := Lib.hid (HB.out.trans (s1.mono HB.out.size))
  have HK1 := Lib.hid (HK.out.below s1 HK.out.lt)
  have x0 : w1.cell? ⟨w.heap.size, 0, none⟩ = some (.int .i64 d) := HK1.out.cell 0
  have x1 : w1.cell? ⟨w.heap.size, 1, none⟩ = some (.int .i64 a) := HK1.out.cell 1
  clear HB HK s1
  cases hA : hasA d
  · have HR : Hid (codeOk d a = (inB d 0 7 && decide (a = 0))) := if_neg (by simp [hA])
    clear hA
    go_wp2_with fail
    refine (within_any _ _ _ _).mono ?_
    rintro e w' ⟨rfl, rfl⟩
    cases hI : inB d 0 7
    · rw [hI] at HR
      clear hI
      go_wp2
      go_ret
      rw [HR.out]
      exact ⟨rfl, HB1.out⟩
    · rw [hI] at HR
      clear hI
      by_cases h0 : a = 0
      · subst h0
        go_wp2
        go_ret
        rw [HR.out]
        exact ⟨rfl, HB1.out⟩
      · have hb : (a == 0) = false := by rw [beq_eq_false_iff_ne]; exact h0
        rw [decide_eq_false h0] at HR
        clear h0
        go_wp2
        go_ret
        rw [HR.out]
        exact ⟨rfl, HB1.out⟩
  · have HR : Hid (codeOk d a = inB a 0 65535) := if_pos hA
    clear hA
    go_wp2_with fail
    refine (within_any _ _ _ _).mono ?_
    rintro e w' ⟨rfl, rfl⟩
    go_wp2
    go_ret
    rw [HR.out]
    exact ⟨rfl, HB1.out⟩
theorem codeOk_spec (d a : Int) : codeOk d a = (inB d 0 7 && (inB a 0 65535 && (decide (a = 0) || hasA d))) := by
  unfold codeOk
  cases hA : hasA d
  · by_cases h0 : a = 0
    · subst h0; simp [inB]
    · simp [h0]
  · have := hasA_in hA
    rw [inB_true (n := d) (by omega) (by omega)]
    simp
set_option maxRecDepth 100000 in
set_option maxHeartbeats 2000000 in
theorem specCodeOk_any (d a : Int) (w : World) : Calls Try.prog 52 #[.agg #[.int .i64 d, .int .i64 a]] w (Gives w (.bool (codeOk d a))) := by
  have HB : Hid (Below w.heap.size w (w.alloc (.cells #[.int .i64 d, .int .i64 a] 57))) := (Below.refl _ _).alloc (Nat.le_refl _) _
  have HK := Lib.hid (Blk.new w 57 #[.int .i64 d, .int .i64 a])
  have HR := Lib.hid (codeOk_spec d a)
  obtain ⟨w0, hw0⟩ : ∃ w0, w0 = w.alloc (.cells #[.int .i64 d, .int .i64 a] 57) := ⟨_, rfl⟩
  go_enter Try.func52, Try.ntmps52
  go_upto_region 1 with fail
  rw [← hw0] at HB HK ⊢
  clear hw0
  have x0 : w0.cell? ⟨w.heap.size, 0, none⟩ = some (.int .i64 d) := HK.out.cell 0
  have x1 : w0.cell? ⟨w.heap.size, 1, none⟩ = some (.int .i64 a) := HK.out.cell 1
  go_wp2_with fail
  refine (l1In_any _ _ _ _).mono ?_
  rintro e w' ⟨rfl, rfl⟩
  cases hI : inB d 0 7
  · rw [hI] at HR
    clear hI
    go_wp2
    go_ret
    rw [HR.out]
    exact ⟨rfl, HB.out⟩
  · rw [hI] at HR
    clear hI
    go_wp2_with fail
    refine (l1In_any _ _ _ _).mono ?_
    rintro e w' ⟨rfl, rfl⟩
    cases hJ : inB a 0 65535
    · rw [hJ] at HR
      clear hJ
      go_wp2
      go_ret
      rw [HR.out]
      exact ⟨rfl, HB.out⟩
    · rw [hJ] at HR
      clear hJ
      by_cases h0 : a = 0
      · subst h0
        go_wp2
        go_ret
        rw [HR.out]
        exact ⟨by simp, HB.out⟩
      · have hb : (a == 0) = false := by rw [beq_eq_false_iff_ne]; exact h0
        rw [decide_eq_false h0] at HR
        clear h0
        go_wp2_with fail
        refine (specHas_any d _).mono ?_
        rintro e w1 ⟨rfl, s1⟩
        have HB1 := Lib.hid (HB.out.trans (s1.mono HB.out.size))
        clear s1
        go_wp2
        go_ret
        rw [HR.out]
        exact ⟨by simp, HB1.out⟩
set_option maxRecDepth 100000 in
set_option maxHeartbeats 4000000 in
theorem implGetCode_any {A : Option Addr} {c B : Nat} (bs : List Int) (pc : Int) (w : World) (h : Reads w B 1 A bs.length (nums .u8 bs)) (hB : B ≤ w.heap.size) (hm : bs.length ≤ 1048576) (hx : ∀ x ∈ bs, 0 ≤ x ∧ x ≤ 255) :
    Calls Try.prog 42 #[.slice A bs.length c, .int .i64 pc] w (Gives w (.tuple #[.agg #[.int .i64 (codeAt bs pc).1, .int .i64 (codeAt bs pc).2.1], .int .i64 (codeAt bs pc).2.2])) := by
  have HX := Lib.hid hx
  have HRD := Lib.hid (h.more hB)
  clear hx h
  have HB0 : Hid (Below w.heap.size w (w.alloc (.cells #[.int .i64 0, .int .i64 0] 57))) := (Below.refl _ _).alloc (Nat.le_refl _) _
  have HZ0 := Lib.hid (Blk.new w 57 #[.int .i64 0, .int .i64 0])
  have HRA := Lib.hid (HRD.out.below HB0.out)
  have yl : IntKind.i64.wrap ((bs.length : Int) - 1) = (bs.length : Int) - 1 := IntWalk.i64_in _ (by omega)
  obtain ⟨wA, hwA⟩ : ∃ wA, wA = w.alloc (.cells #[.int .i64 0, .int .i64 0] 57) := ⟨_, rfl⟩
  rw [← hwA] at HB0 HZ0 HRA
  by_cases h0 : 0 ≤ pc ∧ pc ≤ (bs.length : Int) - 1
  · obtain ⟨k, rfl⟩ := Int.eq_ofNat_of_zero_le h0.1
    have hk : k < bs.length := by omega
    have HI := Lib.hid (inB_true (n := (k : Int)) (lo := 0) (hi := (bs.length : Int) - 1) (by omega) (by omega))
    obtain ⟨b, off, hA, hbl, hcs⟩ := HRA.out.row_ (by omega) (by omega)
    have hc0 := hcs k _ (nums_get _ _ (by omega))
    have HAA := Lib.hid hA
    have hkb := HX.out _ (List.getElem_mem hk)
    have hki : (k : Int) < (bs.length : Int) := by omega
    have hkn : (0 : Int) ≤ (k : Int) := Int.natCast_nonneg _
    have yk1 : IntKind.i64.wrap ((k : Int) + 1) = (k : Int) + 1 := IntWalk.i64_in _ (by omega)
    have yk3 : IntKind.i64.wrap ((k : Int) + 3) = (k : Int) + 3 := IntWalk.i64_in _ (by omega)
    have ycv : IntKind.i64.wrap bs[k] = bs[k] := IntWalk.i64_in _ (by omega)
    have HG := Lib.hid (fun w' (hb : Below w.heap.size w w') => implGet2_any (A := A) (c := c) bs ((k : Int) + 1) w' (HRD.out.below hb) (by omega) HX.out (by omega) (by omega))
    have HHAS := Lib.hid (fun h1 h2 => codeAt_has (bs := bs) (k := k) h1 h2)
    have HCUT := Lib.hid (fun h1 h2 => codeAt_cut (bs := bs) (k := k) hk h1 h2)
    have HNON := Lib.hid (fun h1 h2 => codeAt_non (bs := bs) (k := k) hk h1 h2)
    have HBAD := Lib.hid (fun h1 h2 => codeAt_bad (bs := bs) (k := k) hk h1 h2)
    have HG2 := Lib.hid (fun (h1 : k + 1 + 2 ≤ bs.length) => get2_at (bs := bs) (a := k + 1) h1)
    have HGN : Hid (¬ k + 3 ≤ bs.length → get2 bs ((k : Int) + 1) = -1) := fun h => if_neg (by omega)
    rw [hA] at HG ⊢
    clear hcs h0 hA
    obtain ⟨d, hd⟩ : ∃ d, d = bs[k] := ⟨_, rfl⟩
    have HD := Lib.hid hd
    rw [← hd] at hc0 hkb ycv
    clear hd
    go_enter Try.func42, Try.ntmps42
    go_wp2_with fail
    refine (within_any _ _ _ _).mono ?_
    rintro e w' ⟨rfl, rfl⟩
    rw [HI.out]
    rw [← hwA]
    clear hwA HI
    have HB1 : Hid (Below w.heap.size w (wA.alloc (.cells #[.int .i64 d, .int .i64 0] 57))) := HB0.out.alloc HB0.out.size _
    have H61 := Lib.hid (Blk.new wA 57 #[.int .i64 d, .int .i64 0])
    have HZ1 := Lib.hid (HZ0.out.alloc (.cells #[.int .i64 d, .int .i64 0] 57))
    go_wp2_with fail
    obtain ⟨g6, hg6⟩ : ∃ g6, g6 = wA.heap.size := ⟨_, rfl⟩
    obtain ⟨w1, hw1⟩ : ∃ w1, w1 = wA.alloc (.cells #[.int .i64 d, .int .i64 0] 57) := ⟨_, rfl⟩
    have hg6w : w.heap.size < g6 := by rw [hg6]; exact HZ0.out.lt
    rw [← hg6] at H61
    rw [← hw1] at HB1 H61 HZ1
    rw [← hg6, ← hw1]
    clear hg6 hw1 HB0 HZ0
    refine (implHas_any d w1).mono ?_
    rintro e w2 ⟨rfl, s9⟩
    have HB := Lib.hid (HB1.out.trans (s9.mono HB1.out.size))
    have HZ := Lib.hid (HZ1.out.below s9 HZ1.out.lt)
    have H6 := Lib.hid (H61.out.below s9 H61.out.lt)
    clear s9 HB1 HZ1 H61
    cases hA : hasA d
    · have HOK : Hid (codeOk d 0 = decide (d ≤ 7)) := by
        show codeOk d 0 = decide (d ≤ 7)
        unfold codeOk
        rw [hA]
        by_cases h7 : d ≤ 7
        · rw [inB_true (n := d) (lo := 0) (hi := 7) (by omega) h7, decide_eq_true h7]; rfl
        · rw [inB_false (n := d) (lo := 0) (hi := 7) (by omega), decide_eq_false h7]; rfl
      by_cases h7 : d ≤ 7
      · have HR : Hid (codeAt bs (k : Int) = (d, 0, (k : Int) + 1)) := by
          rw [HD.out] at hA h7 ⊢
          exact HNON.out hA h7
        rw [decide_eq_true h7] at HOK
        clear hA h7 HG HHAS HCUT HNON HBAD HG2 HGN HD
        have u0 : w2.cell? ⟨g6, 0, none⟩ = some (.int .i64 d) := H6.out.cell 0
        have u1 : w2.cell? ⟨g6, 1, none⟩ = some (.int .i64 0) := H6.out.cell 1
        go_wp2_with fail
        refine (implCodeOk_any _ _ _).mono ?_
        rintro e w3 ⟨rfl, s9⟩
        rw [HOK.out]
        have HB' := Lib.hid (HB.out.trans (s9.mono HB.out.size))
        have HZ' := Lib.hid (HZ.out.below s9 HZ.out.lt)
        have H6' := Lib.hid (H6.out.below s9 H6.out.lt)
        clear HB HZ H6 s9 u0 u1
        have z0 : w3.cell? ⟨w.heap.size, 0, none⟩ = some (.int .i64 0) := HZ'.out.cell 0
        have z1 : w3.cell? ⟨w.heap.size, 1, none⟩ = some (.int .i64 0) := HZ'.out.cell 1
        have f0 : w3.frozen? ⟨w.heap.size, 0, none⟩ = false := HZ'.out.frozen 0
        have f1 : w3.frozen? ⟨w.heap.size, 1, none⟩ = false := HZ'.out.frozen 1
        have v0 : w3.cell? ⟨g6, 0, none⟩ = some (.int .i64 d) := H6'.out.cell 0
        have v1 : w3.cell? ⟨g6, 1, none⟩ = some (.int .i64 0) := H6'.out.cell 1
        have HQ := Lib.hid ((HZ'.out.set_ 0 (.int .i64 d)).set_ 1 (.int .i64 0))
        have HBF := Lib.hid ((HB'.out.setCell (p := ⟨w.heap.size, 0, none⟩) (Nat.le_refl _) (.int .i64 d)).setCell (p := ⟨w.heap.size, 1, none⟩) (Nat.le_refl _) (.int .i64 0))
        go_wp2
        have y0 := HQ.out.cell 0
        have y1 := HQ.out.cell 1
        refine bodyPost_ret (v := .tuple #[.agg #[.int .i64 d, .int .i64 0], .int .i64 ((k : Int) + 1)]) (by simp [results, Try.results42, go_sem, y0, y1]) rfl ?_
        rw [HR.out]
        exact ⟨rfl, HBF.out⟩
      · have HR : Hid (codeAt bs (k : Int) = (0, 0, -1)) := by
          rw [HD.out] at hA h7
          exact HBAD.out hA (by omega)
        rw [decide_eq_false h7] at HOK
        clear hA h7 HG HHAS HCUT HNON HBAD HG2 HGN HD
        have u0 : w2.cell? ⟨g6, 0, none⟩ = some (.int .i64 d) := H6.out.cell 0
        have u1 : w2.cell? ⟨g6, 1, none⟩ = some (.int .i64 0) := H6.out.cell 1
        go_wp2_with fail
        refine (implCodeOk_any _ _ _).mono ?_
        rintro e w3 ⟨rfl, s9⟩
        rw [HOK.out]
        have HB' := Lib.hid (HB.out.trans (s9.mono HB.out.size))
        have HZ' := Lib.hid (HZ.out.below s9 HZ.out.lt)
        have H6' := Lib.hid (H6.out.below s9 H6.out.lt)
        clear HB HZ H6 s9 u0 u1
        have z0 : w3.cell? ⟨w.heap.size, 0, none⟩ = some (.int .i64 0) := HZ'.out.cell 0
        have z1 : w3.cell? ⟨w.heap.size, 1, none⟩ = some (.int .i64 0) := HZ'.out.cell 1
        have f0 : w3.frozen? ⟨w.heap.size, 0, none⟩ = false := HZ'.out.frozen 0
        have f1 : w3.frozen? ⟨w.heap.size, 1, none⟩ = false := HZ'.out.frozen 1
        have HQ := Lib.hid ((HZ'.out.set_ 0 (.int .i64 0)).set_ 1 (.int .i64 0))
        have HBF := Lib.hid ((HB'.out.setCell (p := ⟨w.heap.size, 0, none⟩) (Nat.le_refl _) (.int .i64 0)).setCell (p := ⟨w.heap.size, 1, none⟩) (Nat.le_refl _) (.int .i64 0))
        go_wp2
        have y0 := HQ.out.cell 0
        have y1 := HQ.out.cell 1
        refine bodyPost_ret (v := .tuple #[.agg #[.int .i64 0, .int .i64 0], .int .i64 (-1)]) (by simp [results, Try.results42, go_sem, y0, y1]) rfl ?_
        rw [HR.out]
        exact ⟨rfl, HBF.out⟩
    · by_cases h3 : k + 3 ≤ bs.length
      · have e1 : bs[k + 1]'(by omega) = bs[k + 1]'(by omega) := rfl
        have b1 := HX.out _ (List.getElem_mem (show k + 1 < bs.length by omega))
        have b2 := HX.out _ (List.getElem_mem (show k + 2 < bs.length by omega))
        have HR0 : Hid (codeAt bs (k : Int) = (d, 256 * (bs[k + 2]'(by omega)) + bs[k + 1]'(by omega), (k : Int) + 3)) := by
          rw [HD.out] at hA ⊢
          exact HHAS.out h3 hA
        have HGV0 : Hid (get2 bs ((k : Int) + 1) = 256 * (bs[k + 2]'(by omega)) + bs[k + 1]'(by omega)) := by
          have h := HG2.out (by omega)
          rw [show (((k + 1 : Nat) : Int)) = (k : Int) + 1 from by omega] at h
          exact h
        obtain ⟨a, ha⟩ : ∃ a, a = 256 * (bs[k + 2]'(by omega)) + bs[k + 1]'(by omega) := ⟨_, rfl⟩
        have HAB : Hid (0 ≤ a ∧ a ≤ 65535) := by show _ ∧ _; omega
        have HR : Hid (codeAt bs (k : Int) = (d, a, (k : Int) + 3)) := by rw [ha]; exact HR0.out
        have HGV : Hid (get2 bs ((k : Int) + 1) = a) := by rw [ha]; exact HGV0.out
        have HOK : Hid (codeOk d a = true) := by
          show codeOk d a = true
          unfold codeOk
          rw [hA]
          exact inB_true HAB.out.1 HAB.out.2
        clear HR0 HGV0 ha b1 b2 e1 hA HHAS HCUT HNON HBAD HG2 HGN HD h3
        have u0 : w2.cell? ⟨g6, 0, none⟩ = some (.int .i64 d) := H6.out.cell 0
        go_wp2_with fail
        refine (HG.out w2 HB.out).mono ?_
        rintro e w' ⟨rfl, rfl⟩
        rw [HGV.out]
        have a0 : w2.cell? ⟨g6, 1, none⟩ = some (.int .i64 0) := H6.out.cell 1
        have a1 : w2.frozen? ⟨g6, 1, none⟩ = false := H6.out.frozen 1
        have HB2 := Lib.hid (HB.out.setCell (p := ⟨g6, 1, none⟩) (by simp only; omega) (.int .i64 a))
        have HZ2 : Hid (Blk (w2.setCell ⟨g6, 1, none⟩ (.int .i64 a)) w.heap.size 57 #[.int .i64 0, .int .i64 0]) := HZ.out.far (by simp only [ne_eq]; omega) _
        have H62 := Lib.hid (H6.out.set_ 1 (.int .i64 a))
        clear HB HZ H6
        go_wp2_with fail
        obtain ⟨w4, hw4⟩ : ∃ w4, w4 = w2.setCell ⟨g6, 1, none⟩ (.int .i64 a) := ⟨_, rfl⟩
        rw [← hw4] at HB2 HZ2 H62 ⊢
        have HB := HB2
        have HZ := HZ2
        have H6 : Hid (Blk w4 g6 57 #[.int .i64 d, .int .i64 a]) := H62.out
        clear HB2 HZ2 H62 hw4 a0 a1
        refine (implCodeOk_any _ _ _).mono ?_
        rintro e w5 ⟨rfl, s9⟩
        rw [HOK.out]
        have HB' := Lib.hid (HB.out.trans (s9.mono HB.out.size))
        have HZ' := Lib.hid (HZ.out.below s9 HZ.out.lt)
        have H6' := Lib.hid (H6.out.below s9 H6.out.lt)
        clear HB HZ H6 s9
        have z0 : w5.cell? ⟨w.heap.size, 0, none⟩ = some (.int .i64 0) := HZ'.out.cell 0
        have z1 : w5.cell? ⟨w.heap.size, 1, none⟩ = some (.int .i64 0) := HZ'.out.cell 1
        have f0 : w5.frozen? ⟨w.heap.size, 0, none⟩ = false := HZ'.out.frozen 0
        have f1 : w5.frozen? ⟨w.heap.size, 1, none⟩ = false := HZ'.out.frozen 1
        have v0 : w5.cell? ⟨g6, 0, none⟩ = some (.int .i64 d) := H6'.out.cell 0
        have v1 : w5.cell? ⟨g6, 1, none⟩ = some (.int .i64 a) := H6'.out.cell 1
        have HQ := Lib.hid ((HZ'.out.set_ 0 (.int .i64 d)).set_ 1 (.int .i64 a))
        have HBF := Lib.hid ((HB'.out.setCell (p := ⟨w.heap.size, 0, none⟩) (Nat.le_refl _) (.int .i64 d)).setCell (p := ⟨w.heap.size, 1, none⟩) (Nat.le_refl _) (.int .i64 a))
        go_wp2
        have y0 := HQ.out.cell 0
        have y1 := HQ.out.cell 1
        refine bodyPost_ret (v := .tuple #[.agg #[.int .i64 d, .int .i64 a], .int .i64 ((k : Int) + 3)]) (by simp [results, Try.results42, go_sem, y0, y1]) rfl ?_
        rw [HR.out]
        exact ⟨rfl, HBF.out⟩
      · have HR : Hid (codeAt bs (k : Int) = (0, 0, -1)) := by
          rw [HD.out] at hA
          exact HCUT.out (by omega) hA
        have HGV := Lib.hid (HGN.out (by omega))
        have HOK : Hid (codeOk d (-1) = false) := by
          show codeOk d (-1) = false
          unfold codeOk
          rw [hA]
          exact inB_false (by omega)
        clear hA HHAS HCUT HNON HBAD HG2 HGN HD h3
        have u0 : w2.cell? ⟨g6, 0, none⟩ = some (.int .i64 d) := H6.out.cell 0
        go_wp2_with fail
        refine (HG.out w2 HB.out).mono ?_
        rintro e w' ⟨rfl, rfl⟩
        rw [HGV.out]
        have a0 : w2.cell? ⟨g6, 1, none⟩ = some (.int .i64 0) := H6.out.cell 1
        have a1 : w2.frozen? ⟨g6, 1, none⟩ = false := H6.out.frozen 1
        have HB2 := Lib.hid (HB.out.setCell (p := ⟨g6, 1, none⟩) (by simp only; omega) (.int .i64 (-1)))
        have HZ2 : Hid (Blk (w2.setCell ⟨g6, 1, none⟩ (.int .i64 (-1))) w.heap.size 57 #[.int .i64 0, .int .i64 0]) := HZ.out.far (by simp only [ne_eq]; omega) _
        have H62 := Lib.hid (H6.out.set_ 1 (.int .i64 (-1)))
        clear HB HZ H6
        go_wp2_with fail
        obtain ⟨w4, hw4⟩ : ∃ w4, w4 = w2.setCell ⟨g6, 1, none⟩ (.int .i64 (-1)) := ⟨_, rfl⟩
        rw [← hw4] at HB2 HZ2 H62 ⊢
        have HB := HB2
        have HZ := HZ2
        have H6 : Hid (Blk w4 g6 57 #[.int .i64 d, .int .i64 (-1)]) := H62.out
        clear HB2 HZ2 H62 hw4 a0 a1
        refine (implCodeOk_any _ _ _).mono ?_
        rintro e w5 ⟨rfl, s9⟩
        rw [HOK.out]
        have HB' := Lib.hid (HB.out.trans (s9.mono HB.out.size))
        have HZ' := Lib.hid (HZ.out.below s9 HZ.out.lt)
        have H6' := Lib.hid (H6.out.below s9 H6.out.lt)
        clear HB HZ H6 s9
        have z0 : w5.cell? ⟨w.heap.size, 0, none⟩ = some (.int .i64 0) := HZ'.out.cell 0
        have z1 : w5.cell? ⟨w.heap.size, 1, none⟩ = some (.int .i64 0) := HZ'.out.cell 1
        have f0 : w5.frozen? ⟨w.heap.size, 0, none⟩ = false := HZ'.out.frozen 0
        have f1 : w5.frozen? ⟨w.heap.size, 1, none⟩ = false := HZ'.out.frozen 1
        have HQ := Lib.hid ((HZ'.out.set_ 0 (.int .i64 0)).set_ 1 (.int .i64 0))
        have HBF := Lib.hid ((HB'.out.setCell (p := ⟨w.heap.size, 0, none⟩) (Nat.le_refl _) (.int .i64 0)).setCell (p := ⟨w.heap.size, 1, none⟩) (Nat.le_refl _) (.int .i64 0))
        go_wp2
        have y0 := HQ.out.cell 0
        have y1 := HQ.out.cell 1
        refine bodyPost_ret (v := .tuple #[.agg #[.int .i64 0, .int .i64 0], .int .i64 (-1)]) (by simp [results, Try.results42, go_sem, y0, y1]) rfl ?_
        rw [HR.out]
        exact ⟨rfl, HBF.out⟩
  · have HI := Lib.hid (inB_false (n := pc) (lo := 0) (hi := (bs.length : Int) - 1) (by omega))
    have HR := Lib.hid (codeAt_out h0)
    clear h0
    go_enter Try.func42, Try.ntmps42
    go_wp2_with fail
    refine (within_any _ _ _ _).mono ?_
    rintro e w' ⟨rfl, rfl⟩
    rw [HI.out]
    rw [← hwA]
    clear hwA HI
    have z0 : wA.cell? ⟨w.heap.size, 0, none⟩ = some (.int .i64 0) := HZ0.out.cell 0
    have z1 : wA.cell? ⟨w.heap.size, 1, none⟩ = some (.int .i64 0) := HZ0.out.cell 1
    have f0 : wA.frozen? ⟨w.heap.size, 0, none⟩ = false := HZ0.out.frozen 0
    have f1 : wA.frozen? ⟨w.heap.size, 1, none⟩ = false := HZ0.out.frozen 1
    have HQ := Lib.hid ((HZ0.out.set_ 0 (.int .i64 0)).set_ 1 (.int .i64 0))
    have HBF := Lib.hid ((HB0.out.setCell (p := ⟨w.heap.size, 0, none⟩) (Nat.le_refl _) (.int .i64 0)).setCell (p := ⟨w.heap.size, 1, none⟩) (Nat.le_refl _) (.int .i64 0))
    go_wp2
    have y0 := HQ.out.cell 0
    have y1 := HQ.out.cell 1
    refine bodyPost_ret (v := .tuple #[.agg #[.int .i64 0, .int .i64 0], .int .i64 (-1)]) (by simp [results, Try.results42, go_sem, y0, y1]) rfl ?_
    rw [HR.out]
    exact ⟨rfl, HBF.out⟩
set_option maxRecDepth 100000 in
set_option maxHeartbeats 4000000 in
theorem specGetCode_any {A : Option Addr} {c B : Nat} (bs : List Int) (pc : Int) (w : World) (h : Reads w B 1 A bs.length (nums .u8 bs)) (hB : B ≤ w.heap.size) (hm : bs.length ≤ 1048576) (hx : ∀ x ∈ bs, 0 ≤ x ∧ x ≤ 255) :
    Calls Try.prog 40 #[.slice A bs.length c, .int .i64 pc] w (Gives w (.tuple #[.agg #[.int .i64 (codeAt bs pc).1, .int .i64 (codeAt bs pc).2.1], .int .i64 (codeAt bs pc).2.2])) := by
  have HX := Lib.hid hx
  have HRD := Lib.hid (h.more hB)
  clear hx h
  have HB0 : Hid (Below w.heap.size w (w.alloc (.cells #[.int .i64 0, .int .i64 0] 57))) := (Below.refl _ _).alloc (Nat.le_refl _) _
  have HZ0 := Lib.hid (Blk.new w 57 #[.int .i64 0, .int .i64 0])
  have HRA := Lib.hid (HRD.out.below HB0.out)
  have yl : IntKind.i64.wrap ((bs.length : Int) - 1) = (bs.length : Int) - 1 := IntWalk.i64_in _ (by omega)
  obtain ⟨wA, hwA⟩ : ∃ wA, wA = w.alloc (.cells #[.int .i64 0, .int .i64 0] 57) := ⟨_, rfl⟩
  rw [← hwA] at HB0 HZ0 HRA
  by_cases h0 : 0 ≤ pc ∧ pc ≤ (bs.length : Int) - 1
  · obtain ⟨k, rfl⟩ := Int.eq_ofNat_of_zero_le h0.1
    have hk : k < bs.length := by omega
    have HI := Lib.hid (inB_true (n := (k : Int)) (lo := 0) (hi := (bs.length : Int) - 1) (by omega) (by omega))
    obtain ⟨b, off, hA, hbl, hcs⟩ := HRA.out.row_ (by omega) (by omega)
    have hc0 := hcs k _ (nums_get _ _ (by omega))
    have HAA := Lib.hid hA
    have hkb := HX.out _ (List.getElem_mem hk)
    have hki : (k : Int) < (bs.length : Int) := by omega
    have hkn : (0 : Int) ≤ (k : Int) := Int.natCast_nonneg _
    have yk1 : IntKind.i64.wrap ((k : Int) + 1) = (k : Int) + 1 := IntWalk.i64_in _ (by omega)
    have yk3 : IntKind.i64.wrap ((k : Int) + 3) = (k : Int) + 3 := IntWalk.i64_in _ (by omega)
    have ycv : IntKind.i64.wrap bs[k] = bs[k] := IntWalk.i64_in _ (by omega)
    have HG := Lib.hid (fun w' (hb : Below w.heap.size w w') => specGet2_any (A := A) (c := c) bs ((k : Int) + 1) w' (HRD.out.below hb) (by omega) HX.out (by omega) (by omega))
    have HHAS := Lib.hid (fun h1 h2 => codeAt_has (bs := bs) (k := k) h1 h2)
    have HCUT := Lib.hid (fun h1 h2 => codeAt_cut (bs := bs) (k := k) hk h1 h2)
    have HNON := Lib.hid (fun h1 h2 => codeAt_non (bs := bs) (k := k) hk h1 h2)
    have HBAD := Lib.hid (fun h1 h2 => codeAt_bad (bs := bs) (k := k) hk h1 h2)
    have HG2 := Lib.hid (fun (h1 : k + 1 + 2 ≤ bs.length) => get2_at (bs := bs) (a := k + 1) h1)
    have HGN : Hid (¬ k + 3 ≤ bs.length → get2 bs ((k : Int) + 1) = -1) := fun h => if_neg (by omega)
    rw [hA] at HG ⊢
    clear hcs h0 hA
    obtain ⟨d, hd⟩ : ∃ d, d = bs[k] := ⟨_, rfl⟩
    have HD := Lib.hid hd
    rw [← hd] at hc0 hkb ycv
    clear hd
    go_enter Try.func40, Try.ntmps40
    go_wp2_with fail
    refine (l1In_any _ _ _ _).mono ?_
    rintro e w' ⟨rfl, rfl⟩
    rw [HI.out]
    rw [← hwA]
    clear hwA HI
    have HB1 : Hid (Below w.heap.size w (wA.alloc (.cells #[.int .i64 d, .int .i64 0] 57))) := HB0.out.alloc HB0.out.size _
    have H61 := Lib.hid (Blk.new wA 57 #[.int .i64 d, .int .i64 0])
    have HZ1 := Lib.hid (HZ0.out.alloc (.cells #[.int .i64 d, .int .i64 0] 57))
    go_wp2_with fail
    obtain ⟨g6, hg6⟩ : ∃ g6, g6 = wA.heap.size := ⟨_, rfl⟩
    obtain ⟨w1, hw1⟩ : ∃ w1, w1 = wA.alloc (.cells #[.int .i64 d, .int .i64 0] 57) := ⟨_, rfl⟩
    have hg6w : w.heap.size < g6 := by rw [hg6]; exact HZ0.out.lt
    rw [← hg6] at H61
    rw [← hw1] at HB1 H61 HZ1
    rw [← hg6, ← hw1]
    clear hg6 hw1 HB0 HZ0
    refine (specHas_any d w1).mono ?_
    rintro e w2 ⟨rfl, s9⟩
    have HB := Lib.hid (HB1.out.trans (s9.mono HB1.out.size))
    have HZ := Lib.hid (HZ1.out.below s9 HZ1.out.lt)
    have H6 := Lib.hid (H61.out.below s9 H61.out.lt)
    clear s9 HB1 HZ1 H61
    cases hA : hasA d
    · have HOK : Hid (codeOk d 0 = decide (d ≤ 7)) := by
        show codeOk d 0 = decide (d ≤ 7)
        unfold codeOk
        rw [hA]
        by_cases h7 : d ≤ 7
        · rw [inB_true (n := d) (lo := 0) (hi := 7) (by omega) h7, decide_eq_true h7]; rfl
        · rw [inB_false (n := d) (lo := 0) (hi := 7) (by omega), decide_eq_false h7]; rfl
      by_cases h7 : d ≤ 7
      · have HR : Hid (codeAt bs (k : Int) = (d, 0, (k : Int) + 1)) := by
          rw [HD.out] at hA h7 ⊢
          exact HNON.out hA h7
        rw [decide_eq_true h7] at HOK
        clear hA h7 HG HHAS HCUT HNON HBAD HG2 HGN HD
        have u0 : w2.cell? ⟨g6, 0, none⟩ = some (.int .i64 d) := H6.out.cell 0
        have u1 : w2.cell? ⟨g6, 1, none⟩ = some (.int .i64 0) := H6.out.cell 1
        go_wp2_with fail
        refine (specCodeOk_any _ _ _).mono ?_
        rintro e w3 ⟨rfl, s9⟩
        rw [HOK.out]
        have HB' := Lib.hid (HB.out.trans (s9.mono HB.out.size))
        have HZ' := Lib.hid (HZ.out.below s9 HZ.out.lt)
        have H6' := Lib.hid (H6.out.below s9 H6.out.lt)
        clear HB HZ H6 s9 u0 u1
        have z0 : w3.cell? ⟨w.heap.size, 0, none⟩ = some (.int .i64 0) := HZ'.out.cell 0
        have z1 : w3.cell? ⟨w.heap.size, 1, none⟩ = some (.int .i64 0) := HZ'.out.cell 1
        have f0 : w3.frozen? ⟨w.heap.size, 0, none⟩ = false := HZ'.out.frozen 0
        have f1 : w3.frozen? ⟨w.heap.size, 1, none⟩ = false := HZ'.out.frozen 1
        have v0 : w3.cell? ⟨g6, 0, none⟩ = some (.int .i64 d) := H6'.out.cell 0
        have v1 : w3.cell? ⟨g6, 1, none⟩ = some (.int .i64 0) := H6'.out.cell 1
        have HQ := Lib.hid ((HZ'.out.set_ 0 (.int .i64 d)).set_ 1 (.int .i64 0))
        have HBF := Lib.hid ((HB'.out.setCell (p := ⟨w.heap.size, 0, none⟩) (Nat.le_refl _) (.int .i64 d)).setCell (p := ⟨w.heap.size, 1, none⟩) (Nat.le_refl _) (.int .i64 0))
        go_wp2
        have y0 := HQ.out.cell 0
        have y1 := HQ.out.cell 1
        refine bodyPost_ret (v := .tuple #[.agg #[.int .i64 d, .int .i64 0], .int .i64 ((k : Int) + 1)]) (by simp [results, Try.results40, go_sem, y0, y1]) rfl ?_
        rw [HR.out]
        exact ⟨rfl, HBF.out⟩
      · have HR : Hid (codeAt bs (k : Int) = (0, 0, -1)) := by
          rw [HD.out] at hA h7
          exact HBAD.out hA (by omega)
        rw [decide_eq_false h7] at HOK
        clear hA h7 HG HHAS HCUT HNON HBAD HG2 HGN HD
        have u0 : w2.cell? ⟨g6, 0, none⟩ = some (.int .i64 d) := H6.out.cell 0
        have u1 : w2.cell? ⟨g6, 1, none⟩ = some (.int .i64 0) := H6.out.cell 1
        go_wp2_with fail
        refine (specCodeOk_any _ _ _).mono ?_
        rintro e w3 ⟨rfl, s9⟩
        rw [HOK.out]
        have HB' := Lib.hid (HB.out.trans (s9.mono HB.out.size))
        have HZ' := Lib.hid (HZ.out.below s9 HZ.out.lt)
        have H6' := Lib.hid (H6.out.below s9 H6.out.lt)
        clear HB HZ H6 s9 u0 u1
        have z0 : w3.cell? ⟨w.heap.size, 0, none⟩ = some (.int .i64 0) := HZ'.out.cell 0
        have z1 : w3.cell? ⟨w.heap.size, 1, none⟩ = some (.int .i64 0) := HZ'.out.cell 1
        have f0 : w3.frozen? ⟨w.heap.size, 0, none⟩ = false := HZ'.out.frozen 0
        have f1 : w3.frozen? ⟨w.heap.size, 1, none⟩ = false := HZ'.out.frozen 1
        have HQ := Lib.hid ((HZ'.out.set_ 0 (.int .i64 0)).set_ 1 (.int .i64 0))
        have HBF := Lib.hid ((HB'.out.setCell (p := ⟨w.heap.size, 0, none⟩) (Nat.le_refl _) (.int .i64 0)).setCell (p := ⟨w.heap.size, 1, none⟩) (Nat.le_refl _) (.int .i64 0))
        go_wp2
        have y0 := HQ.out.cell 0
        have y1 := HQ.out.cell 1
        refine bodyPost_ret (v := .tuple #[.agg #[.int .i64 0, .int .i64 0], .int .i64 (-1)]) (by simp [results, Try.results40, go_sem, y0, y1]) rfl ?_
        rw [HR.out]
        exact ⟨rfl, HBF.out⟩
    · by_cases h3 : k + 3 ≤ bs.length
      · have b1 := HX.out _ (List.getElem_mem (show k + 1 < bs.length by omega))
        have b2 := HX.out _ (List.getElem_mem (show k + 2 < bs.length by omega))
        have hgt : ¬ (bs.length : Int) < (k : Int) + 3 := by omega
        have HR0 : Hid (codeAt bs (k : Int) = (d, 256 * (bs[k + 2]'(by omega)) + bs[k + 1]'(by omega), (k : Int) + 3)) := by
          rw [HD.out] at hA ⊢
          exact HHAS.out h3 hA
        have HGV0 : Hid (get2 bs ((k : Int) + 1) = 256 * (bs[k + 2]'(by omega)) + bs[k + 1]'(by omega)) := by
          have h := HG2.out (by omega)
          rw [show (((k + 1 : Nat) : Int)) = (k : Int) + 1 from by omega] at h
          exact h
        obtain ⟨a, ha⟩ : ∃ a, a = 256 * (bs[k + 2]'(by omega)) + bs[k + 1]'(by omega) := ⟨_, rfl⟩
        have HAB : Hid (0 ≤ a ∧ a ≤ 65535) := by show _ ∧ _; omega
        have HR : Hid (codeAt bs (k : Int) = (d, a, (k : Int) + 3)) := by rw [ha]; exact HR0.out
        have HGV : Hid (get2 bs ((k : Int) + 1) = a) := by rw [ha]; exact HGV0.out
        have HOK : Hid (codeOk d a = true) := by
          show codeOk d a = true
          unfold codeOk
          rw [hA]
          exact inB_true HAB.out.1 HAB.out.2
        clear HR0 HGV0 ha b1 b2 hA HHAS HCUT HNON HBAD HG2 HGN HD h3
        have u0 : w2.cell? ⟨g6, 0, none⟩ = some (.int .i64 d) := H6.out.cell 0
        go_wp2_with fail
        refine (HG.out w2 HB.out).mono ?_
        rintro e w' ⟨rfl, rfl⟩
        rw [HGV.out]
        have a0 : w2.cell? ⟨g6, 1, none⟩ = some (.int .i64 0) := H6.out.cell 1
        have a1 : w2.frozen? ⟨g6, 1, none⟩ = false := H6.out.frozen 1
        have HB2 := Lib.hid (HB.out.setCell (p := ⟨g6, 1, none⟩) (by simp only; omega) (.int .i64 a))
        have HZ2 : Hid (Blk (w2.setCell ⟨g6, 1, none⟩ (.int .i64 a)) w.heap.size 57 #[.int .i64 0, .int .i64 0]) := HZ.out.far (by simp only [ne_eq]; omega) _
        have H62 := Lib.hid (H6.out.set_ 1 (.int .i64 a))
        clear HB HZ H6
        go_wp2_with fail
        obtain ⟨w4, hw4⟩ : ∃ w4, w4 = w2.setCell ⟨g6, 1, none⟩ (.int .i64 a) := ⟨_, rfl⟩
        rw [← hw4] at HB2 HZ2 H62 ⊢
        have HB := HB2
        have HZ := HZ2
        have H6 : Hid (Blk w4 g6 57 #[.int .i64 d, .int .i64 a]) := H62.out
        clear HB2 HZ2 H62 hw4 a0 a1
        refine (specCodeOk_any _ _ _).mono ?_
        rintro e w5 ⟨rfl, s9⟩
        rw [HOK.out]
        have HB' := Lib.hid (HB.out.trans (s9.mono HB.out.size))
        have HZ' := Lib.hid (HZ.out.below s9 HZ.out.lt)
        have H6' := Lib.hid (H6.out.below s9 H6.out.lt)
        clear HB HZ H6 s9
        have z0 : w5.cell? ⟨w.heap.size, 0, none⟩ = some (.int .i64 0) := HZ'.out.cell 0
        have z1 : w5.cell? ⟨w.heap.size, 1, none⟩ = some (.int .i64 0) := HZ'.out.cell 1
        have f0 : w5.frozen? ⟨w.heap.size, 0, none⟩ = false := HZ'.out.frozen 0
        have f1 : w5.frozen? ⟨w.heap.size, 1, none⟩ = false := HZ'.out.frozen 1
        have v0 : w5.cell? ⟨g6, 0, none⟩ = some (.int .i64 d) := H6'.out.cell 0
        have v1 : w5.cell? ⟨g6, 1, none⟩ = some (.int .i64 a) := H6'.out.cell 1
        have HQ := Lib.hid ((HZ'.out.set_ 0 (.int .i64 d)).set_ 1 (.int .i64 a))
        have HBF := Lib.hid ((HB'.out.setCell (p := ⟨w.heap.size, 0, none⟩) (Nat.le_refl _) (.int .i64 d)).setCell (p := ⟨w.heap.size, 1, none⟩) (Nat.le_refl _) (.int .i64 a))
        go_wp2
        have y0 := HQ.out.cell 0
        have y1 := HQ.out.cell 1
        refine bodyPost_ret (v := .tuple #[.agg #[.int .i64 d, .int .i64 a], .int .i64 ((k : Int) + 3)]) (by simp [results, Try.results40, go_sem, y0, y1]) rfl ?_
        rw [HR.out]
        exact ⟨rfl, HBF.out⟩
      · have hgt : (bs.length : Int) < (k : Int) + 3 := by omega
        have HR : Hid (codeAt bs (k : Int) = (0, 0, -1)) := by
          rw [HD.out] at hA
          exact HCUT.out (by omega) hA
        clear hA HHAS HCUT HNON HBAD HG2 HGN HD h3
        have z0 : w2.cell? ⟨w.heap.size, 0, none⟩ = some (.int .i64 0) := HZ.out.cell 0
        have z1 : w2.cell? ⟨w.heap.size, 1, none⟩ = some (.int .i64 0) := HZ.out.cell 1
        have f0 : w2.frozen? ⟨w.heap.size, 0, none⟩ = false := HZ.out.frozen 0
        have f1 : w2.frozen? ⟨w.heap.size, 1, none⟩ = false := HZ.out.frozen 1
        have HQ := Lib.hid ((HZ.out.set_ 0 (.int .i64 0)).set_ 1 (.int .i64 0))
        have HBF := Lib.hid ((HB.out.setCell (p := ⟨w.heap.size, 0, none⟩) (Nat.le_refl _) (.int .i64 0)).setCell (p := ⟨w.heap.size, 1, none⟩) (Nat.le_refl _) (.int .i64 0))
        go_wp2
        have y0 := HQ.out.cell 0
        have y1 := HQ.out.cell 1
        refine bodyPost_ret (v := .tuple #[.agg #[.int .i64 0, .int .i64 0], .int .i64 (-1)]) (by simp [results, Try.results40, go_sem, y0, y1]) rfl ?_
        rw [HR.out]
        exact ⟨rfl, HBF.out⟩
  · have HI := Lib.hid (inB_false (n := pc) (lo := 0) (hi := (bs.length : Int) - 1) (by omega))
    have HR := Lib.hid (codeAt_out h0)
    clear h0
    go_enter Try.func40, Try.ntmps40
    go_wp2_with fail
    refine (l1In_any _ _ _ _).mono ?_
    rintro e w' ⟨rfl, rfl⟩
    rw [HI.out]
    rw [← hwA]
    clear hwA HI
    have z0 : wA.cell? ⟨w.heap.size, 0, none⟩ = some (.int .i64 0) := HZ0.out.cell 0
    have z1 : wA.cell? ⟨w.heap.size, 1, none⟩ = some (.int .i64 0) := HZ0.out.cell 1
    have f0 : wA.frozen? ⟨w.heap.size, 0, none⟩ = false := HZ0.out.frozen 0
    have f1 : wA.frozen? ⟨w.heap.size, 1, none⟩ = false := HZ0.out.frozen 1
    have HQ := Lib.hid ((HZ0.out.set_ 0 (.int .i64 0)).set_ 1 (.int .i64 0))
    have HBF := Lib.hid ((HB0.out.setCell (p := ⟨w.heap.size, 0, none⟩) (Nat.le_refl _) (.int .i64 0)).setCell (p := ⟨w.heap.size, 1, none⟩) (Nat.le_refl _) (.int .i64 0))
    go_wp2
    have y0 := HQ.out.cell 0
    have y1 := HQ.out.cell 1
    refine bodyPost_ret (v := .tuple #[.agg #[.int .i64 0, .int .i64 0], .int .i64 (-1)]) (by simp [results, Try.results40, go_sem, y0, y1]) rfl ?_
    rw [HR.out]
    exact ⟨rfl, HBF.out⟩
end Go.Proofs.Ytbljkdhokbhcdaa
