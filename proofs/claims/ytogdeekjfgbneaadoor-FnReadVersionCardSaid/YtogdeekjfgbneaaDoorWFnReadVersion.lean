/- The walk of FnReadVersion. Condition: the library's variables. -/
import Derived.Test.YtogdeekjfgbneaaDoorRows
import Derived.Test.YtogdeekjfgbneaaDoorBase
import Derived.Test.YtogdeekjfgbneaaDoorBase2
import Derived.Test.YtogdeekjfgbneaaDoorOpen
import Derived.Test.YtogdeekjfgbneaaDoorOpenC
import Derived.Test.YtogdeekjfgbneaaDoorName
import Derived.Test.YtogdeekjfgbneaaDoorVer
import Derived.Test.YtogdeekjfgbneaaDoorVerP
import Derived.Test.YtogdeekjfgbneaaDoorDec
import Derived.Test.YtogdeekjfgbneaaDoorVtx
import Derived.Test.YtogdeekjfgbneaaDoorVtf
import Derived.Test.YtogdeekjfgbneaaDoorRdv
import Derived.Test.YtogdeekjfgbneaaDoorSrv
import Derived.Test.YtogdeekjfgbneaaDoorLibR
import Derived.Test.YtogdeekjfgbneaaDoorLibV2
import Derived.Test.YtogdeekjfgbneaaDoorAlive
import Derived.Test.YtogdeekjfgbneaaDoorDvt
import Derived.WalkKit
import Derived.WalkSpells
import Derived.WalkLawsBesides
import Derived.Handy
import Derived.BigQuiet
import Derived.Deep.RegionHeld3
import Derived.Deep.DrawnRows
import Derived.Deep.QuietTactic
namespace Go.Proofs.YtogdeekjfgbneaaDoor
open Go Go.RowKit

theorem text_space {s : ByteArray} {y : Ver} (h : verOk y = true) (e : verText y = s ++ ⟨#[32]⟩) : False := by
  obtain ⟨n1, n2, n3⟩ := verOk_iff.1 h
  have h1 := verText_ok h
  rw [e] at h1
  unfold verTextL at h1
  have hd := (dec2_len (n := y.number.toNat) (by omega)).1
  have hq := @dec2_digit y.number.toNat (by omega)
  generalize dec2 y.number.toNat = d at *
  rcases List.eq_nil_or_concat d with h0 | ⟨d', c, h0⟩
  · subst h0
    simp at hd
  · subst h0
    have h2 : (s ++ ⟨#[32]⟩ : ByteArray).data.toList = s.data.toList ++ [32] := by simp [ByteArray.data_append]
    rw [h2] at h1
    have h3 := congrArg List.getLast? h1
    simp [List.getLast?_append, List.getLast?_cons] at h3
    have h4 := hq (c := c) (by simp)
    rw [← h3] at h4
    have : (32 : UInt8).toNat = 32 := rfl
    omega
set_option maxRecDepth 100000 in
set_option maxHeartbeats 4000000 in
theorem FnReadVersion_walk (W : World) (v0 : Value) (a0 : ArgCode W v0) (hlib : LibW W) : Calls Tryd.prog 6 #[v0] W (Gives W (.bool true)) := by
  obtain ⟨A, c, cs, rfl, hr, hc1, hc2, hcb⟩ := a0
  by_cases hl : cs.length ≤ 1048576
  · have HD := Lib.hid (DrawReadVersion_any cs W hr hcb hl hc1 hc2)
    have HL := Lib.hid hlib
    clear hcb hr hlib
    unfold maxLen at hc2
    go_enter Tryd.func6, Tryd.ntmps6
    go_wp2_with fail
    refine HD.out.mono ?_
    rintro e w1 ⟨s, rfl, hs, b1⟩
    have HB := Lib.hid b1
    have HS := Lib.hid (fun w => specReadVer_any s w (by omega))
    have HI := Lib.hid (fun w hl => implReadVer_any s w (by omega) hl)
    have hsp : (s ++ ⟨#[32]⟩ : ByteArray).size ≤ 1001 := by rw [ByteArray.size_append]; show s.size + 1 ≤ 1001; omega
    have HI2 := Lib.hid (fun w hl => implReadVer_any (s ++ ⟨#[32]⟩) w (by omega) hl)
    clear b1 HD
    go_wp2_with fail
    refine (HI.out _ (HL.out.below HB.out)).mono ?_
    rintro e w2 ⟨x, b, rfl, hx, b2⟩
    have HX := Lib.hid hx
    clear hx HI
    obtain ⟨nm, num⟩ := x
    simp only [Ver.val]
    have HB2 := Lib.hid ((HB.out.trans (b2.mono HB.out.size)).alloc (by have := HB.out.size; have := b2.size; omega) (.cells #[.string nm, .int .i64 num] 26))
    have K := Lib.hid (Blk.new w2 26 #[.string nm, .int .i64 num])
    clear b2 HB
    go_wp2_with fail
    refine (HS.out _).mono ?_
    rintro e w3 ⟨y, c, rfl, hy, b3⟩
    obtain ⟨hxy, hb⟩ := HX.out.one hy
    subst hxy hb
    clear hy HS
    simp only [Ver.val]
    have HB3 := Lib.hid ((HB2.out.trans (b3.mono HB2.out.size)).alloc (by have := HB2.out.size; have := b3.size; omega) (.cells #[.string nm, .int .i64 num] 26))
    replace K := Lib.hid ((K.out.below b3 K.out.lt).alloc (.cells #[.string nm, .int .i64 num] 26))
    have K2 := Lib.hid (Blk.new w3 26 #[.string nm, .int .i64 num])
    clear b3 HB2
    have c0 := K.out.cell 0
    have c1 := K.out.cell 1
    have d0 := K2.out.cell 0
    have d1 := K2.out.cell 1
    cases b
    · rcases HX.out with ⟨h, _⟩ | ⟨_, h, _⟩
      · cases h
      unfold noV at h
      injection h with h1 h2
      subst h1 h2
      clear HX
      go_wp2_with fail
      refine (alive_any _).mono ?_
      rintro e w' ⟨rfl, rfl⟩
      go_wp2
      go_ret
      exact ⟨rfl, HB3.out⟩
    · have HOK : Hid (verOk ⟨nm, num⟩ = true ∧ verText ⟨nm, num⟩ = s) := by
        rcases HX.out with ⟨_, h1, h2⟩ | ⟨h, _⟩
        · exact ⟨h1, h2⟩
        · cases h
      clear HX
      go_wp2_with fail
      refine (HI2.out _ (HL.out.below HB3.out)).mono ?_
      rintro e w4 ⟨y, c, rfl, hy, b4⟩
      have hc : c = false := by
        rcases hy with ⟨_, h1, h2⟩ | ⟨h, _⟩
        · exact (text_space h1 h2).elim
        · exact h
      subst hc
      clear hy HI2 c0 c1 d0 d1
      obtain ⟨ym, yk⟩ := y
      simp only [Ver.val]
      have HB4 := Lib.hid ((HB3.out.trans (b4.mono HB3.out.size)).alloc (by have := HB3.out.size; have := b4.size; omega) (.cells #[.string ym, .int .i64 yk] 26))
      replace K := Lib.hid ((K.out.below b4 K.out.lt).alloc (.cells #[.string ym, .int .i64 yk] 26))
      clear b4 HB3 K2
      have c0 := K.out.cell 0
      have c1 := K.out.cell 1
      have hns := (nameOk_size (verOk_iff.1 HOK.out.1).1).2
      have HV := Lib.hid (fun w => implVerText_any ⟨nm, num⟩ w (by show nm.size ≤ maxLen; unfold maxLen; have : nm.size ≤ 8 := hns; omega))
      rw [HOK.out.2] at HV
      simp only [Ver.val] at HV
      clear HOK hns
      go_wp2_with fail
      refine (HV.out _).mono ?_
      rintro e w5 ⟨rfl, b5⟩
      have HB5 := Lib.hid (HB4.out.trans (b5.mono HB4.out.size))
      go_wp2
      go_ret
      exact ⟨rfl, HB5.out⟩
  · have h1 : (1048576 : Int) < (cs.length : Int) := by omega
    go_enter Tryd.func6, Tryd.ntmps6
    go_wp2
    go_ret
    exact ⟨rfl, by go_grown⟩
end Go.Proofs.YtogdeekjfgbneaaDoor
