/- The walk of FnVersionValid. No condition. -/
import Derived.Test.YtogdeekjfgbneaaRows
import Derived.Test.YtogdeekjfgbneaaBase
import Derived.Test.YtogdeekjfgbneaaBase2
import Derived.Test.YtogdeekjfgbneaaBase3
import Derived.Test.YtogdeekjfgbneaaIn
import Derived.Test.YtogdeekjfgbneaaIn2
import Derived.Test.YtogdeekjfgbneaaName
import Derived.Test.YtogdeekjfgbneaaVer
import Derived.Test.YtogdeekjfgbneaaVerF
import Derived.Test.YtogdeekjfgbneaaVerG
import Derived.Test.YtogdeekjfgbneaaAlive
import Derived.Test.YtogdeekjfgbneaaPick
import Derived.Test.YtogdeekjfgbneaaPick2
import Derived.Test.YtogdeekjfgbneaaOpenC
import Derived.Test.YtogdeekjfgbneaaDrawN
import Derived.Test.YtogdeekjfgbneaaDrawV
import Derived.WalkKit
import Derived.WalkSpells
import Derived.WalkLawsBesides
import Derived.Handy
import Derived.BigQuiet
import Derived.Deep.RegionHeld3
import Derived.Deep.DrawnRows
import Derived.Deep.QuietTactic
namespace Go.Proofs.Ytogdeekjfgbneaa
open Go Go.RowKit

def DrewVerT (w : World) (e : Ending) (w' : World) : Prop := ∃ v : Ver, e = .returned v.val ∧ (v.name.size ≤ 9 ∧ 0 ≤ v.number ∧ v.number ≤ 100) ∧ Below w.heap.size w w'
set_option maxRecDepth 100000 in
set_option maxHeartbeats 4000000 in
theorem DrawVersionValid_any {A : Option Addr} {c : Nat} (xs : List Int) (w : World) (h1 : Reads w w.heap.size 1 A xs.length (nums .u8 xs)) (hx : ∀ x ∈ xs, 0 ≤ x ∧ x ≤ 255) (hm : xs.length ≤ 1048576) (hc : xs.length ≤ c) (hc2 : c ≤ maxLen) :
    Calls Try.prog 13 #[.slice A xs.length c] w (DrewVerT w) := by
  have HO := Lib.hid (fun o => open_any (A := A) (c := c) xs (w.alloc o) ((h1.alloc (Nat.le_refl _) o).more (by simp)) hx hm hc hc2)
  clear h1 hx
  go_enter Try.func13, Try.ntmps13
  go_wp2_with fail
  refine (HO.out _).mono ?_
  rintro e w1 ⟨rfl, hr, hz, hb⟩
  have K0 := Lib.hid ((Blk.new w 26 #[.string ⟨#[]⟩, .int .i64 0]).below hb (by simp))
  simp only [World.size_alloc] at hr hz hb
  have HZ := Lib.hid hz
  have hb0 := Lib.hid (((Below.refl w.heap.size w).alloc (Nat.le_refl _) _).trans (hb.mono (by first | omega | simp)))
  have hw1 := K0.out.lt
  have zz1 : w.heap.size + 2 ≤ w1.heap.size := by omega
  clear hz hb
  go_wp2_with fail
  refine (l20Version_any _ 0 2 _ hr (by omega) (by omega) (by omega)).mono ?_
  rintro e w2 ⟨v, rfl, ⟨hv1, hv2, hv3, _⟩, hr2, hg2⟩
  replace K0 := Lib.hid (K0.out.grown hg2 (by simp))
  have HB := Lib.hid (below_gr hb0.out hg2 (by omega))
  have zz2 := hg2.size
  have c00 := K0.out.cell 0
  have c01 := K0.out.cell 1
  have f00 := K0.out.frozen 0
  have f01 := K0.out.frozen 1
  clear hr hr2 hg2 hb0
  obtain ⟨nm, num⟩ := v
  simp only [Ver.val]
  go_wp2
  refine bodyPost_ret (v := Ver.val ⟨nm, num⟩) (by simp [results, Try.results13, go_sem, Ver.val, c00, c01]) rfl ?_
  exact ⟨⟨nm, num⟩, rfl, ⟨hv1, hv2, hv3⟩, (HB.out.setCell (p := ⟨w.heap.size, 0, none⟩) (Nat.le_refl _) _).setCell (p := ⟨w.heap.size, 1, none⟩) (Nat.le_refl _) _⟩

set_option maxRecDepth 100000 in
set_option maxHeartbeats 8000000 in
theorem FnVersionValid_walk (W : World) (v0 : Value) (a0 : ArgCode W v0) : Calls Try.prog 4 #[v0] W (Gives W (.bool true)) := by
  obtain ⟨A, c, cs, rfl, hr, hc1, hc2, hcb⟩ := a0
  by_cases hl : cs.length ≤ 1048576
  · have HD := Lib.hid (DrawVersionValid_any cs W hr hcb hl hc1 hc2)
    clear hcb hr
    unfold maxLen at hc2
    go_enter Try.func4, Try.ntmps4
    go_wp2_with fail
    refine HD.out.mono ?_
    rintro e w1 ⟨⟨nm, num⟩, rfl, ⟨hv1, hv2, hv3⟩, b1⟩
    have hv1 : nm.size ≤ 9 := hv1
    have HV1 := Lib.hid (fun num' w => implVerValid_any ⟨nm, num'⟩ w (by show nm.size ≤ maxLen; unfold maxLen; omega))
    have HV2 := Lib.hid (fun w => specVerValid_any ⟨nm, num⟩ w (by show nm.size ≤ maxLen; unfold maxLen; omega))
    have HN0 : Hid (verOk ⟨nm, 0⟩ = false) := by unfold verOk; simp [Hid, inB]
    have HN1 : Hid (verOk ⟨nm, num⟩ = true → verOk ⟨nm, 1⟩ = true) := fun h => by
      unfold verOk at h ⊢
      rw [Bool.and_eq_true] at h
      rw [h.1]
      rfl
    have HB := Lib.hid (b1.alloc b1.size (.cells #[.string nm, .int .i64 num] 26))
    have K := Lib.hid (Blk.new w1 26 #[.string nm, .int .i64 num])
    have zz := b1.size
    simp only [Ver.val] at HV1 HV2 ⊢
    clear b1 HD
    go_wp2_with fail
    refine (HV1.out num _).mono ?_
    rintro e w2 ⟨rfl, s2⟩
    replace K := Lib.hid (K.out.below s2 K.out.lt)
    have HB2 := Lib.hid (HB.out.trans (s2.mono HB.out.size))
    have c0 := K.out.cell 0
    have c1 := K.out.cell 1
    clear s2 HB
    go_wp2_with fail
    clear c0 c1
    refine (HV2.out _).mono ?_
    rintro e w3 ⟨rfl, s3⟩
    replace K := Lib.hid (K.out.below s3 K.out.lt)
    have HB3 := Lib.hid (HB2.out.trans (s3.mono HB2.out.size))
    clear s3 HB2
    have c0 := K.out.cell 0
    have c1 := K.out.cell 1
    cases hj : verOk ⟨nm, num⟩
    · clear hj HN1
      go_wp2_with fail
      clear c0 c1
      refine (HV1.out 0 _).mono ?_
      rintro e w4 ⟨rfl, s4⟩
      rw [HN0.out]
      have HB4 := Lib.hid (HB3.out.trans (s4.mono HB3.out.size))
      clear s4
      go_wp2_with fail
      refine (alive_any _).mono ?_
      rintro e w' ⟨rfl, rfl⟩
      go_wp2
      go_ret
      exact ⟨rfl, HB4.out⟩
    · have HN := Lib.hid (HN1.out hj)
      clear hj HN1
      go_wp2_with fail
      clear c0 c1
      refine (HV1.out 0 _).mono ?_
      rintro e w4 ⟨rfl, s4⟩
      rw [HN0.out]
      replace K := Lib.hid (K.out.below s4 K.out.lt)
      have HB4 := Lib.hid (HB3.out.trans (s4.mono HB3.out.size))
      clear s4
      have c0 := K.out.cell 0
      have c1 := K.out.cell 1
      go_wp2_with fail
      clear c0 c1
      refine (HV1.out 1 _).mono ?_
      rintro e w5 ⟨rfl, s5⟩
      rw [HN.out]
      have HB5 := Lib.hid (HB4.out.trans (s5.mono HB4.out.size))
      clear s5
      go_wp2_with fail
      refine (alive_any _).mono ?_
      rintro e w' ⟨rfl, rfl⟩
      go_wp2
      go_ret
      exact ⟨rfl, HB5.out⟩
  · go_enter Try.func4, Try.ntmps4
    go_wp2
    go_ret
    exact ⟨rfl, Below.refl _ _⟩
end Go.Proofs.Ytogdeekjfgbneaa
