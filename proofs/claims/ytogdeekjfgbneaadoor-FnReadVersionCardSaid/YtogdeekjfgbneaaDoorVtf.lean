/- Contracts of the two VersionText. Condition: the size. -/
import Derived.Test.YtogdeekjfgbneaaDoorRows
import Derived.Test.YtogdeekjfgbneaaDoorBase
import Derived.Test.YtogdeekjfgbneaaDoorIn
import Derived.Test.YtogdeekjfgbneaaDoorName
import Derived.Test.YtogdeekjfgbneaaDoorVer
import Derived.Test.YtogdeekjfgbneaaDoorVerP
import Derived.Test.YtogdeekjfgbneaaDoorDec
import Derived.Test.YtogdeekjfgbneaaDoorNum
import Derived.Test.YtogdeekjfgbneaaDoorRead8
import Derived.Test.YtogdeekjfgbneaaDoorVtx
import Derived.Test.YtogdeekjfgbneaaDoorShelf
import Derived.WalkKit
import Derived.WalkSpells
import Derived.WalkLawsBesides
import Derived.Handy
import Derived.BigQuiet
import Derived.Deep.RegionHeld3
import Derived.Deep.DrawnRows
import Derived.Deep.QuietTactic
namespace Go.Proofs.YtogdeekjfgbneaaDoor
open Go Go.RowKit

def decS (k : Nat) : ByteArray := ⟨(dec2 k).toArray⟩
theorem l8Number_small (k : Nat) (w : World) (h : k < 100) : Calls Tryd.prog 18 #[.int .i64 (k : Int)] w (Gives w (.string (decS k))) :=
  (l8Number_any (k : Int) w (by omega) (by omega)).mono fun e w' ⟨s, he, hn, hb⟩ => by
    have h1 := hn.2 (by omega) (by omega)
    rw [Int.toNat_natCast] at h1
    have h2 : s = decS k := by
      obtain ⟨a⟩ := s
      exact congrArg ByteArray.mk (Array.ext' h1)
    subst h2
    exact ⟨he, hb⟩
theorem itoa_small (k : Nat) (w : World) (h : k < 100) : Calls Tryd.prog 20 #[.int .i64 (k : Int)] w (Gives w (.string (decS k))) :=
  (Tryd.strconv_Itoa_small k h w).mono fun e w' ⟨he, hw⟩ => by
    subst hw
    rw [dec2_eq h] at he
    exact ⟨he, Below.refl _ _⟩
theorem decS_size {k : Nat} (h : k < 100) : (decS k).size ≤ 2 := by
  have := (dec2_len h).2
  simpa [decS, ByteArray.size] using this
theorem verText_cat {nm : ByteArray} {k : Nat} (h : verOk ⟨nm, (k : Int)⟩ = true) : verText ⟨nm, (k : Int)⟩ = nm ++ ⟨#[64]⟩ ++ decS k := by
  unfold verText
  rw [if_pos h]
  unfold verTextL decS
  have e : ∀ a b : ByteArray, a.data = b.data → a = b := fun ⟨_⟩ ⟨_⟩ h => congrArg ByteArray.mk h
  apply e
  simp only [ByteArray.data_append, Int.toNat_natCast]
  apply Array.ext'
  simp
set_option maxRecDepth 100000 in
set_option maxHeartbeats 2000000 in
theorem implVerText_any (v : Ver) (w : World) (hs : VerSmall v) : Calls Tryd.prog 10 #[v.val] w (Gives w (.string (verText v))) := by
  have HV := Lib.hid (fun w => implVerValid_any v w hs)
  cases hv : verOk v with
  | false =>
    have hz := verText_no hv
    rw [hz]
    rw [hv] at HV
    clear hv hz
    obtain ⟨nm, num⟩ := v
    simp only [Ver.val] at *
    go_enter Tryd.func10, Tryd.ntmps10
    go_wp2_with fail
    refine (HV.out _).mono ?_
    rintro e w1 ⟨rfl, hb1⟩
    go_wp2
    go_ret
    exact ⟨rfl, ((Below.refl _ _).alloc (Nat.le_refl _) _).trans (hb1.mono (by simp))⟩
  | true =>
    obtain ⟨n1, n2, n3⟩ := verOk_iff.1 hv
    obtain ⟨nm, num⟩ := v
    simp only at n1 n2 n3
    obtain ⟨k, rfl⟩ : ∃ k : Nat, num = (k : Int) := ⟨num.toNat, by omega⟩
    have hk : k < 100 := by omega
    have hn8 := (nameOk_size n1).2
    have HT := Lib.hid (verText_cat hv)
    rw [hv] at HV
    have hd2 := decS_size hk
    have hc9 : (nm ++ ⟨#[64]⟩ : ByteArray).size ≤ 9 := by rw [ByteArray.size_append]; show nm.size + 1 ≤ 9; omega
    clear hv n1 n2 n3 hs
    simp only [Ver.val] at *
    go_enter Tryd.func10, Tryd.ntmps10
    go_wp2_with fail
    refine (Gives.keep2 (a0 := ⟨w.heap.size, 0, none⟩) (a1 := ⟨w.heap.size, 1, none⟩) (HV.out _) ((Blk.new w _ _).cell 0) ((Blk.new w _ _).cell 1) ((Below.refl _ _).alloc (Nat.le_refl _) _)).mono ?_
    rintro e w1 ⟨rfl, c0, c1, hb1⟩
    have cC : ∀ d os, Calls Tryd.prog 20 #[.int .i64 (k : Int)] (Go.Sort.grow (redrawn w1 d) os) fun e w'' => e = .returned (.string (decS k)) ∧ ∃ p : Regrown, w'' = Go.Sort.grow (redrawn w1 p.d) p.os := fun d os => Calls.regrown_of (itoa_small k (Go.Sort.grow (redrawn w1 d) os) hk)
    have k0 := cell_regrown c0
    have k1 := cell_regrown c1
    go_wp2
    refine wp_region_quiet_below (by kernel_rfl) (by kernel_rfl) ?_
    repeat (go_big_quiet_step (exact cC _ _))
    refine wpQuiet_nil ?_
    intro _ hw'
    obtain ⟨⟨dq, osq⟩, hw''⟩ := hw'
    subst hw''
    have hbn := below_regrown w1 dq osq
    have HB := Lib.hid (hb1.trans (hbn.mono hb1.size))
    clear hbn cC k0 k1
    generalize Go.Sort.grow (redrawn w1 dq) osq = w3 at *
    go_wp2
    go_ret
    rw [HT.out]
    exact ⟨rfl, HB.out⟩
set_option maxRecDepth 100000 in
set_option maxHeartbeats 2000000 in
theorem specVerText_any (v : Ver) (w : World) (hs : VerSmall v) : Calls Tryd.prog 8 #[v.val] w (Gives w (.string (verText v))) := by
  have HV := Lib.hid (fun w => specVerValid_any v w hs)
  cases hv : verOk v with
  | false =>
    have hz := verText_no hv
    rw [hz]
    rw [hv] at HV
    clear hv hz
    obtain ⟨nm, num⟩ := v
    simp only [Ver.val] at *
    go_enter Tryd.func8, Tryd.ntmps8
    go_wp2_with fail
    refine (HV.out _).mono ?_
    rintro e w1 ⟨rfl, hb1⟩
    go_wp2
    go_ret
    exact ⟨rfl, ((Below.refl _ _).alloc (Nat.le_refl _) _).trans (hb1.mono (by simp))⟩
  | true =>
    obtain ⟨n1, n2, n3⟩ := verOk_iff.1 hv
    obtain ⟨nm, num⟩ := v
    simp only at n1 n2 n3
    obtain ⟨k, rfl⟩ : ∃ k : Nat, num = (k : Int) := ⟨num.toNat, by omega⟩
    have hk : k < 100 := by omega
    have hn8 := (nameOk_size n1).2
    have HT := Lib.hid (verText_cat hv)
    rw [hv] at HV
    have hd2 := decS_size hk
    have hc9 : (nm ++ ⟨#[64]⟩ : ByteArray).size ≤ 9 := by rw [ByteArray.size_append]; show nm.size + 1 ≤ 9; omega
    clear hv n1 n2 n3 hs
    simp only [Ver.val] at *
    go_enter Tryd.func8, Tryd.ntmps8
    go_wp2_with fail
    refine (Gives.keep2 (a0 := ⟨w.heap.size, 0, none⟩) (a1 := ⟨w.heap.size, 1, none⟩) (HV.out _) ((Blk.new w _ _).cell 0) ((Blk.new w _ _).cell 1) ((Below.refl _ _).alloc (Nat.le_refl _) _)).mono ?_
    rintro e w1 ⟨rfl, c0, c1, hb1⟩
    have cC : ∀ d os, Calls Tryd.prog 18 #[.int .i64 (k : Int)] (Go.Sort.grow (redrawn w1 d) os) fun e w'' => e = .returned (.string (decS k)) ∧ ∃ p : Regrown, w'' = Go.Sort.grow (redrawn w1 p.d) p.os := fun d os => Calls.regrown_of (l8Number_small k (Go.Sort.grow (redrawn w1 d) os) hk)
    have k0 := cell_regrown c0
    have k1 := cell_regrown c1
    go_wp2
    refine wp_region_quiet_below (by kernel_rfl) (by kernel_rfl) ?_
    repeat (go_big_quiet_step (exact cC _ _))
    refine wpQuiet_nil ?_
    intro _ hw'
    obtain ⟨⟨dq, osq⟩, hw''⟩ := hw'
    subst hw''
    have hbn := below_regrown w1 dq osq
    have HB := Lib.hid (hb1.trans (hbn.mono hb1.size))
    clear hbn cC k0 k1
    generalize Go.Sort.grow (redrawn w1 dq) osq = w3 at *
    go_wp2
    go_ret
    rw [HT.out]
    exact ⟨rfl, HB.out⟩
end Go.Proofs.YtogdeekjfgbneaaDoor
