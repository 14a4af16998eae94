/- The walk of FnScriptText. Condition: the package's variables. -/
import Derived.Test.YthjjbgpeajeneaaDoorRows
import Derived.Test.YthjjbgpeajeneaaDoorBase
import Derived.Test.YthjjbgpeajeneaaDoorBase2
import Derived.Test.YthjjbgpeajeneaaDoorOpen
import Derived.Test.YthjjbgpeajeneaaDoorOpenC
import Derived.Test.YthjjbgpeajeneaaDoorPart
import Derived.Test.YthjjbgpeajeneaaDoorScrV
import Derived.Test.YthjjbgpeajeneaaDoorScrW
import Derived.Test.YthjjbgpeajeneaaDoorScr3
import Derived.Test.YthjjbgpeajeneaaDoorDec
import Derived.Test.YthjjbgpeajeneaaDoorStx
import Derived.Test.YthjjbgpeajeneaaDoorStf
import Derived.Test.YthjjbgpeajeneaaDoorStS
import Derived.Test.YthjjbgpeajeneaaDoorStI
import Derived.Test.YthjjbgpeajeneaaDoorLibR
import Derived.Test.YthjjbgpeajeneaaDoorLibV3
import Derived.Test.YthjjbgpeajeneaaDoorRsI
import Derived.Test.YthjjbgpeajeneaaDoorRsS
import Derived.Test.YthjjbgpeajeneaaDoorAlive
import Derived.Test.YthjjbgpeajeneaaDoorMarkP
import Derived.Test.YthjjbgpeajeneaaDoorDst
import Derived.WalkKit
import Derived.WalkSpells
import Derived.WalkLawsBesides
import Derived.Handy
import Derived.BigQuiet
import Derived.Deep.RegionHeld3
import Derived.Deep.DrawnRows
import Derived.Deep.QuietTactic
namespace Go.Proofs.YthjjbgpeajeneaaDoor
open Go Go.RowKit

set_option maxRecDepth 100000 in
set_option maxHeartbeats 4000000 in
theorem FnScriptText_walk (W : World) (v0 : Value) (a0 : ArgCode W v0) (hlib : LibW W) (hkw : KwOk W) : Calls Tryd.prog 4 #[v0] W (Gives W (.bool true)) := by
  obtain ⟨A, c, cs, rfl, hr, hc1, hc2, hcb⟩ := a0
  by_cases hl : cs.length ≤ 1048576
  · have HD := Lib.hid (DrawScriptText_any cs W hr hcb hl hc1 hc2)
    have HL := Lib.hid hlib
    have HK := Lib.hid hkw
    clear hcb hr hlib hkw
    unfold maxLen at hc2
    go_enter Tryd.func4, Tryd.ntmps4
    go_wp2_with fail
    refine HD.out.mono ?_
    rintro e w1 ⟨A1, c1, ps, rfl, hrd, hp3, b1⟩
    have HB1 := Lib.hid b1
    have HRD := Lib.hid hrd
    have hml : ps.length ≤ maxLen := by unfold maxLen; omega
    have HI := Lib.hid (implScrText_any (c1 := c1) ps w1 hrd (Nat.le_refl _) hml (HK.out.below b1))
    have HS := Lib.hid (fun wq (hb : Below w1.heap.size w1 wq) => specScrText_any (c1 := c1) ps wq (hrd.below hb) hb.size hml)
    have HV := Lib.hid (fun wq (hb : Below w1.heap.size w1 wq) => specScriptValid_any (c1 := c1) ps wq (hrd.below hb) hb.size hml)
    have HE : Hid (scriptOk ps = false → scrText ps = ⟨#[]⟩) := fun h => scrText_no h
    have HY : Hid (scriptOk ps = true → IsScr (scrText ps) ps true) := fun h => .inl ⟨rfl, h, rfl⟩
    have hsz := scrText_size (xs := ps)
    generalize scrText ps = t at *
    clear b1 hrd HD hml
    go_wp2_with fail
    refine HI.out.mono ?_
    rintro e w2 ⟨rfl, s2⟩
    have S2 := Lib.hid s2
    clear s2 HI
    go_wp2_with fail
    refine (HS.out _ S2.out).mono ?_
    rintro e w3 ⟨rfl, s3⟩
    have S3 := Lib.hid (S2.out.trans (s3.mono S2.out.size))
    clear s3 HS S2
    go_wp2_with fail
    refine (HV.out _ S3.out).mono ?_
    rintro e w4 ⟨rfl, s4⟩
    have S4 := Lib.hid (S3.out.trans (s4.mono S3.out.size))
    have HB4 := Lib.hid (HB1.out.trans (S4.out.mono HB1.out.size))
    clear s4 HV S3
    rcases Bool.eq_false_or_eq_true (scriptOk ps) with hj | hj
    · rw [hj]
      have HI := Lib.hid (HY.out hj)
      clear hj HE HY
      go_wp2_with fail
      refine (implReadScr_any t w4 (by omega) (HL.out.below HB4.out) (HK.out.below HB4.out)).mono ?_
      rintro e w5 ⟨A5, c5, qs, b, rfl, hq, o5, s5⟩
      obtain ⟨hpq, hb⟩ := HI.out.one hq
      subst hpq hb
      have HB5 := Lib.hid (HB4.out.trans (s5.mono HB4.out.size))
      have S5 := Lib.hid (S4.out.trans (s5.mono S4.out.size))
      have HO5 := Lib.hid o5
      clear hq s5 o5 HI S4
      go_wp2_with fail
      refine (sameParts_any _ _ _ _ _ _ ps _ (Reads.of_own HO5.out) (HRD.out.below S5.out) (Nat.le_refl _) S5.out.size (by omega)).mono ?_
      rintro e w6 ⟨rfl, s6⟩
      have HB6 := Lib.hid (HB5.out.trans (s6.mono HB5.out.size))
      go_wp2
      go_ret
      exact ⟨rfl, HB6.out⟩
    · rw [hj]
      have ht := HE.out hj
      subst ht
      clear hj HE HY
      go_wp2_with fail
      refine (alive_any _).mono ?_
      rintro e w' ⟨rfl, rfl⟩
      go_wp2
      go_ret
      exact ⟨rfl, HB4.out⟩
  · have h1 : (1048576 : Int) < (cs.length : Int) := by omega
    go_enter Tryd.func4, Tryd.ntmps4
    go_wp2
    go_ret
    exact ⟨rfl, by go_grown⟩
end Go.Proofs.YthjjbgpeajeneaaDoor
