/- The walk of FnVersionText. Condition: the library's variables. -/
import Derived.Test.YtogdeekjfgbneaaDoorRows
import Derived.Test.YtogdeekjfgbneaaDoorBase
import Derived.Test.YtogdeekjfgbneaaDoorBase2
import Derived.Test.YtogdeekjfgbneaaDoorOpen
import Derived.Test.YtogdeekjfgbneaaDoorOpenC
import Derived.Test.YtogdeekjfgbneaaDoorName
import Derived.Test.YtogdeekjfgbneaaDoorVer
import Derived.Test.YtogdeekjfgbneaaDoorVerP
import Derived.Test.YtogdeekjfgbneaaDoorDec
import Derived.Test.YtogdeekjfgbneaaDoorVtx
import Derived.Test.YtogdeekjfgbneaaDoorVtf
import Derived.Test.YtogdeekjfgbneaaDoorRdv
import Derived.Test.YtogdeekjfgbneaaDoorSrv
import Derived.Test.YtogdeekjfgbneaaDoorLibR
import Derived.Test.YtogdeekjfgbneaaDoorLibV2
import Derived.Test.YtogdeekjfgbneaaDoorAlive
import Derived.Test.YtogdeekjfgbneaaDoorDvt
import Derived.WalkKit
import Derived.WalkSpells
import Derived.WalkLawsBesides
import Derived.Handy
import Derived.BigQuiet
import Derived.Deep.RegionHeld3
import Derived.Deep.DrawnRows
import Derived.Deep.QuietTactic
namespace Go.Proofs.YtogdeekjfgbneaaDoor
open Go Go.RowKit

set_option maxRecDepth 100000 in
set_option maxHeartbeats 4000000 in
theorem FnVersionText_walk (W : World) (v0 : Value) (a0 : ArgCode W v0) (hlib : LibW W) : Calls Tryd.prog 4 #[v0] W (Gives W (.bool true)) := by
  obtain ⟨A, c, cs, rfl, hr, hc1, hc2, hcb⟩ := a0
  by_cases hl : cs.length ≤ 1048576
  · have HD := Lib.hid (DrawVersionText_any cs W hr hcb hl hc1 hc2)
    have HL := Lib.hid hlib
    clear hcb hr hlib
    unfold maxLen at hc2
    go_enter Tryd.func4, Tryd.ntmps4
    go_wp2_with fail
    refine HD.out.mono ?_
    rintro e w1 ⟨⟨nm, num⟩, rfl, ⟨hv1, hv2, hv3⟩, b1⟩
    have hv1 : nm.size ≤ 9 := hv1
    have hsm : VerSmall ⟨nm, num⟩ := by show nm.size ≤ maxLen; unfold maxLen; omega
    have HV1 := Lib.hid (fun w => implVerText_any ⟨nm, num⟩ w hsm)
    have HV2 := Lib.hid (fun w => specVerText_any ⟨nm, num⟩ w hsm)
    have HV3 := Lib.hid (fun w => specVerValid_any ⟨nm, num⟩ w hsm)
    have HE : Hid (verOk ⟨nm, num⟩ = false → verText ⟨nm, num⟩ = ⟨#[]⟩) := fun h => verText_no h
    have HY : Hid (verOk ⟨nm, num⟩ = true → IsVer (verText ⟨nm, num⟩) ⟨nm, num⟩ true ∧ (verText ⟨nm, num⟩).size ≤ 11) := fun h => ⟨.inl ⟨rfl, h, rfl⟩, verText_size h⟩
    have HB := Lib.hid (b1.alloc b1.size (.cells #[.string nm, .int .i64 num] 26))
    have K := Lib.hid (Blk.new w1 26 #[.string nm, .int .i64 num])
    simp only [Ver.val] at HV1 HV2 HV3 ⊢
    generalize verText ⟨nm, num⟩ = t at *
    clear b1 HD hsm
    go_wp2_with fail
    refine (HV1.out _).mono ?_
    rintro e w2 ⟨rfl, s2⟩
    replace K := Lib.hid (K.out.below s2 K.out.lt)
    have HB2 := Lib.hid (HB.out.trans (s2.mono HB.out.size))
    clear s2 HB HV1
    have c0 := K.out.cell 0
    have c1 := K.out.cell 1
    go_wp2_with fail
    clear c0 c1
    refine (HV2.out _).mono ?_
    rintro e w3 ⟨rfl, s3⟩
    replace K := Lib.hid (K.out.below s3 K.out.lt)
    have HB3 := Lib.hid (HB2.out.trans (s3.mono HB2.out.size))
    clear s3 HB2 HV2
    have c0 := K.out.cell 0
    have c1 := K.out.cell 1
    go_wp2_with fail
    clear c0 c1
    refine (HV3.out _).mono ?_
    rintro e w4 ⟨rfl, s4⟩
    replace K := Lib.hid (K.out.below s4 K.out.lt)
    have HB4 := Lib.hid (HB3.out.trans (s4.mono HB3.out.size))
    clear s4 HB3 HV3
    cases hj : verOk ⟨nm, num⟩
    · have ht := HE.out hj
      subst ht
      clear hj HE HY
      go_wp2_with fail
      refine (alive_any _).mono ?_
      rintro e w' ⟨rfl, rfl⟩
      go_wp2
      go_ret
      exact ⟨rfl, HB4.out⟩
    · obtain ⟨hi, ht⟩ := HY.out hj
      have HI := Lib.hid hi
      have HR := Lib.hid (implReadVer_any t w4 (by omega) (HL.out.below HB4.out))
      clear hj HE HY hi HL
      go_wp2_with fail
      refine HR.out.mono ?_
      rintro e w5 ⟨x, b, rfl, hx, s5⟩
      obtain ⟨hxy, hb⟩ := HI.out.one hx
      subst hxy hb
      clear hx HI HR
      have c0 := ((K.out.below s5 K.out.lt).alloc (.cells #[.string nm, .int .i64 num] 26)).cell 0
      have c1 := ((K.out.below s5 K.out.lt).alloc (.cells #[.string nm, .int .i64 num] 26)).cell 1
      have d0 := (Blk.new w5 26 #[.string nm, .int .i64 num]).cell 0
      have d1 := (Blk.new w5 26 #[.string nm, .int .i64 num]).cell 1
      have HB5 := Lib.hid (HB4.out.trans (s5.mono HB4.out.size))
      have HB6 := Lib.hid (HB5.out.alloc HB5.out.size (.cells #[.string nm, .int .i64 num] 26))
      clear s5 HB4
      simp only [Ver.val]
      go_wp2
      go_ret
      exact ⟨rfl, HB6.out⟩
  · have h1 : (1048576 : Int) < (cs.length : Int) := by omega
    go_enter Tryd.func4, Tryd.ntmps4
    go_wp2
    go_ret
    exact ⟨rfl, by go_grown⟩
end Go.Proofs.YtogdeekjfgbneaaDoor
