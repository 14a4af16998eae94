/- The walk of FnReadScript. Condition: the package's variables. -/
import Derived.Test.YthjjbgpeajeneaaDoorRows
import Derived.Test.YthjjbgpeajeneaaDoorBase
import Derived.Test.YthjjbgpeajeneaaDoorBase2
import Derived.Test.YthjjbgpeajeneaaDoorOpen
import Derived.Test.YthjjbgpeajeneaaDoorOpenC
import Derived.Test.YthjjbgpeajeneaaDoorPart
import Derived.Test.YthjjbgpeajeneaaDoorScrV
import Derived.Test.YthjjbgpeajeneaaDoorScrW
import Derived.Test.YthjjbgpeajeneaaDoorScr3
import Derived.Test.YthjjbgpeajeneaaDoorDec
import Derived.Test.YthjjbgpeajeneaaDoorStx
import Derived.Test.YthjjbgpeajeneaaDoorStf
import Derived.Test.YthjjbgpeajeneaaDoorStS
import Derived.Test.YthjjbgpeajeneaaDoorStI
import Derived.Test.YthjjbgpeajeneaaDoorLibR
import Derived.Test.YthjjbgpeajeneaaDoorLibV3
import Derived.Test.YthjjbgpeajeneaaDoorRsI
import Derived.Test.YthjjbgpeajeneaaDoorRsS
import Derived.Test.YthjjbgpeajeneaaDoorAlive
import Derived.Test.YthjjbgpeajeneaaDoorMarkP
import Derived.Test.YthjjbgpeajeneaaDoorDst
import Derived.WalkKit
import Derived.WalkSpells
import Derived.WalkLawsBesides
import Derived.Handy
import Derived.BigQuiet
import Derived.Deep.RegionHeld3
import Derived.Deep.DrawnRows
import Derived.Deep.QuietTactic
namespace Go.Proofs.YthjjbgpeajeneaaDoor
open Go Go.RowKit

theorem scr_space {s : ByteArray} {qs : List Prt} (h : scriptOk qs = true) (e : scrText qs = s ++ ⟨#[32]⟩) : False := by
  obtain ⟨p, q, r, rfl, hp, hq, hr⟩ := scr_three h
  have h1 := scrText_ok h
  rw [e] at h1
  have ha := prtOk_al hr
  have hd := (dec2_len (n := r.align.toNat) (by omega)).1
  have hg := @dec2_digit r.align.toNat (by omega)
  have hr2 : prtL r = kwL r.kind ++ 58 :: dec2 r.align.toNat := rfl
  rw [hr2] at h1
  generalize dec2 r.align.toNat = d at *
  rcases List.eq_nil_or_concat d with h0 | ⟨d', c, h0⟩
  · subst h0
    simp at hd
  · subst h0
    have h2 : (s ++ ⟨#[32]⟩ : ByteArray).data.toList = s.data.toList ++ [32] := by simp [ByteArray.data_append]
    rw [h2] at h1
    have h3 := congrArg List.getLast? h1
    simp [List.getLast?_append, List.getLast?_cons] at h3
    have h4 := hg (c := c) (by simp)
    rw [← h3] at h4
    have : (32 : UInt8).toNat = 32 := rfl
    omega
theorem IsScr.len3 {s : ByteArray} {ps : List Prt} {b : Bool} (h : IsScr s ps b) : ps.length ≤ 3 := by
  rcases h with ⟨_, h, _⟩ | ⟨_, h, _⟩
  · have := script_len h
    omega
  · subst h
    simp
set_option maxRecDepth 100000 in
set_option maxHeartbeats 4000000 in
theorem FnReadScript_walk (W : World) (v0 : Value) (a0 : ArgCode W v0) (hlib : LibW W) (hkw : KwOk W) : Calls Tryd.prog 6 #[v0] W (Gives W (.bool true)) := by
  obtain ⟨A, c, cs, rfl, hr, hc1, hc2, hcb⟩ := a0
  by_cases hl : cs.length ≤ 1048576
  · have HD := Lib.hid (DrawReadScript_any cs W hr hcb hl hc1 hc2)
    have HL := Lib.hid hlib
    have HK := Lib.hid hkw
    clear hcb hr hlib hkw
    unfold maxLen at hc2
    go_enter Tryd.func6, Tryd.ntmps6
    go_wp2_with fail
    refine HD.out.mono ?_
    rintro e w1 ⟨s, rfl, hs, b1⟩
    have HB := Lib.hid b1
    have HS := Lib.hid (fun w => specReadScr_any s w (by omega))
    have HI := Lib.hid (fun w hl hk => implReadScr_any s w (by omega) hl hk)
    have hsp : (s ++ ⟨#[32]⟩ : ByteArray).size ≤ 1001 := by rw [ByteArray.size_append]; show s.size + 1 ≤ 1001; omega
    have HI2 := Lib.hid (fun w hl hk => implReadScr_any (s ++ ⟨#[32]⟩) w (by omega) hl hk)
    clear b1 HD
    go_wp2_with fail
    refine (HI.out _ (HL.out.below HB.out) (HK.out.below HB.out)).mono ?_
    rintro e w2 ⟨A2, c2, ps, b, rfl, hx, o2, s2⟩
    have hl3 := hx.len3
    have HX := Lib.hid hx
    have HB2 := Lib.hid (HB.out.trans (s2.mono HB.out.size))
    have HO2 := Lib.hid o2
    clear hx HI s2 o2
    go_wp2_with fail
    refine (HS.out _).mono ?_
    rintro e w3 ⟨A3, c3, qs, b', rfl, hy, o3, s3⟩
    obtain ⟨hpq, hbb⟩ := HX.out.one hy
    subst hpq hbb
    have HB3 := Lib.hid (HB2.out.trans (s3.mono HB2.out.size))
    replace HO2 := Lib.hid (own_below HO2.out s3)
    have HO3 := Lib.hid o3
    clear hy s3 o3 HS HB2 HB
    go_wp2_with fail
    refine (sameParts_any _ _ _ _ _ _ ps _ (Reads.of_own HO2.out) (Reads.of_own HO3.out) (Nat.le_refl _) (Nat.le_refl _) (by omega)).mono ?_
    rintro e w4 ⟨rfl, s4⟩
    have HB4 := Lib.hid (HB3.out.trans (s4.mono HB3.out.size))
    replace HO2 := Lib.hid (own_below HO2.out s4)
    clear s4 HB3 HO3
    cases b
    · rcases HX.out with ⟨h, _⟩ | ⟨_, h, _⟩
      · cases h
      subst h
      clear HX
      go_wp2_with fail
      refine (alive_any _).mono ?_
      rintro e w' ⟨rfl, rfl⟩
      go_wp2
      go_ret
      exact ⟨rfl, HB4.out⟩
    · have HOK : Hid (scriptOk ps = true ∧ scrText ps = s) := by
        rcases HX.out with ⟨_, h1, h2⟩ | ⟨h, _⟩
        · exact ⟨h1, h2⟩
        · cases h
      clear HX
      go_wp2_with fail
      refine (HI2.out _ (HL.out.below HB4.out) (HK.out.below HB4.out)).mono ?_
      rintro e w5 ⟨A5, c5, qs, b', rfl, hy, _, s5⟩
      have hb : b' = false := by
        rcases hy with ⟨_, h1, h2⟩ | ⟨h, _⟩
        · exact (scr_space h1 h2).elim
        · exact h
      subst hb
      have HB5 := Lib.hid (HB4.out.trans (s5.mono HB4.out.size))
      replace HO2 := Lib.hid (own_below HO2.out s5)
      clear hy s5 HI2 HB4
      have HT := Lib.hid (implScrText_any (c1 := c2) ps w5 (Reads.of_own HO2.out) (Nat.le_refl _) (by unfold maxLen; omega) (HK.out.below HB5.out))
      rw [HOK.out.2] at HT
      clear HOK
      go_wp2_with fail
      refine HT.out.mono ?_
      rintro e w6 ⟨rfl, s6⟩
      have HB6 := Lib.hid (HB5.out.trans (s6.mono HB5.out.size))
      go_wp2
      go_ret
      exact ⟨rfl, HB6.out⟩
  · have h1 : (1048576 : Int) < (cs.length : Int) := by omega
    go_enter Tryd.func6, Tryd.ntmps6
    go_wp2
    go_ret
    exact ⟨rfl, by go_grown⟩
end Go.Proofs.YthjjbgpeajeneaaDoor
