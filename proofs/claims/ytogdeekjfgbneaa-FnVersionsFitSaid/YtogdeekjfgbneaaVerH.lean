/- Contracts of the two VersionsFit. No condition but the sizes. -/
import Derived.Test.YtogdeekjfgbneaaRows
import Derived.Test.YtogdeekjfgbneaaBase
import Derived.Test.YtogdeekjfgbneaaBase2
import Derived.Test.YtogdeekjfgbneaaIn
import Derived.Test.YtogdeekjfgbneaaName
import Derived.Test.YtogdeekjfgbneaaVer
import Derived.Test.YtogdeekjfgbneaaFindVer
import Derived.Test.YtogdeekjfgbneaaVerF
import Derived.Test.YtogdeekjfgbneaaVerG
import Derived.WalkKit
import Derived.WalkSpells
import Derived.WalkLawsBesides
import Derived.Handy
import Derived.BigQuiet
import Derived.Deep.RegionHeld3
import Derived.Deep.DrawnRows
import Derived.Deep.QuietTactic
namespace Go.Proofs.Ytogdeekjfgbneaa
open Go Go.RowKit

def fitOk (ws gs : List Ver) : Bool := versOk ws && versOk gs && ws.all fun v => !decide (newestOf gs v.name < v.number)

set_option maxHeartbeats 2000000 in
theorem fitC_any {A : Option Addr} {c B : Nat} (gs : List Ver) (v : Ver) (a : Addr) (w : World) (hc : w.cell? a = some (.slice A gs.length c)) (h1 : Reads w B 2 A gs.length (gs.flatMap Ver.cells)) (hB : B ≤ w.heap.size) (hm : gs.length ≤ maxLen) :
    Calls Try.prog 38 #[v.val, .pointer (some a)] w (Gives w (.bool (decide (newestOf gs v.name < v.number)))) := by
  have HC := Lib.hid (fun w' (hb : Below w.heap.size w w') => newest_any (A := A) (c := c) gs v.name w' ((h1.more hB).below hb) hb.size hm)
  obtain ⟨nm, num⟩ := v
  simp only [Ver.val] at *
  generalize newestOf gs nm = z at *
  have hlt := World.block_lt_of_cell? w a hc
  have hc2 : (w.alloc (.cells #[Value.string nm, Value.int .i64 num] 26)).cell? a = some (.slice A gs.length c) := (World.cell?_alloc_lt w _ a hlt).trans hc
  have hb0 : Below w.heap.size w (w.alloc (.cells #[Value.string nm, Value.int .i64 num] 26)) := (Below.refl _ _).alloc (Nat.le_refl _) _
  have k0 := (Blk.new w 26 #[Value.string nm, Value.int .i64 num]).cell 0
  have k1 := (Blk.new w 26 #[Value.string nm, Value.int .i64 num]).cell 1
  go_enter Try.func38, Try.ntmps38
  go_wp2
  generalize hw1 : w.alloc (.cells #[Value.string nm, Value.int .i64 num] 26) = w1 at *
  clear hw1
  have K0 : ∀ d os, (Go.Sort.grow (redrawn w1 d) os).cell? ⟨w.heap.size, 0, none⟩ = some (.string nm) := cell_regrown k0
  have K1 : ∀ d os, (Go.Sort.grow (redrawn w1 d) os).cell? ⟨w.heap.size, 1, none⟩ = some (.int .i64 num) := cell_regrown k1
  have K2 := cell_regrown hc2
  have cC : ∀ d os, Calls Try.prog 32 #[.slice A gs.length c, .string nm] (Go.Sort.grow (redrawn w1 d) os) fun e w'' => e = .returned (.int .i64 z) ∧ ∃ p : Regrown, w'' = Go.Sort.grow (redrawn w1 p.d) p.os := fun d os => Calls.regrown_of (HC.out _ (hb0.trans ((below_regrown w1 d os).mono hb0.size)))
  have HB := Lib.hid hb0
  clear k0 k1 hc2 hb0
  refine wp_region_quiet_below (by kernel_rfl) (by kernel_rfl) ?_
  repeat (quiet_step (exact cC _ _))
  refine wpQuiet_nil ?_
  intro _ hw'
  obtain ⟨⟨dq, osq⟩, hw''⟩ := hw'
  subst hw''
  have hbn := below_regrown w1 dq osq
  go_wp2
  go_ret
  exact ⟨rfl, HB.out.trans (hbn.mono HB.out.size)⟩

set_option maxHeartbeats 2000000 in
theorem implFit_any {A1 A2 : Option Addr} {c1 c2 B1 B2 : Nat} (ws gs : List Ver) (w : World) (h1 : Reads w B1 2 A1 ws.length (ws.flatMap Ver.cells)) (hB1 : B1 ≤ w.heap.size) (h2 : Reads w B2 2 A2 gs.length (gs.flatMap Ver.cells)) (hB2 : B2 ≤ w.heap.size)
    (hm1 : ws.length ≤ maxLen) (hm2 : gs.length ≤ maxLen) (hs1 : ∀ v ∈ ws, VerSmall v) (hs2 : ∀ v ∈ gs, VerSmall v) :
    Calls Try.prog 22 #[.slice A1 ws.length c1, .slice A2 gs.length c2] w (Gives w (.bool (fitOk ws gs))) := by
  have hb0 : Below w.heap.size w (w.alloc (.cells #[Value.slice A2 gs.length c2] 36)) := (Below.refl _ _).alloc (Nat.le_refl _) _
  have K0 : Blk (w.alloc (.cells #[Value.slice A2 gs.length c2] 36)) w.heap.size 36 #[Value.slice A2 gs.length c2] := Blk.new _ _ _
  have HW := Lib.hid (fun w' (hb : Below w.heap.size w w') => areVersions_any (A := A1) (c := c1) ws w' ((h1.more hB1).below hb) hb.size hm1 hs1)
  have HG := Lib.hid (fun w' (hb : Below w.heap.size w w') => areVersions_any (A := A2) (c := c2) gs w' ((h2.more hB2).below hb) hb.size hm2 hs2)
  have HR1 := Lib.hid (fun w' (hb : Below w.heap.size w w') => (h1.more hB1).below hb)
  have HR2 := Lib.hid (fun w' (hb : Below w.heap.size w w') => (h2.more hB2).below hb)
  have HA := Lib.hid (any_not (fun v : Ver => !decide (newestOf gs v.name < v.number)) ws)
  have HF : Hid (fitOk ws gs = (versOk ws && versOk gs && ws.all fun v => !decide (newestOf gs v.name < v.number))) := rfl
  clear hs1 hs2
  cases hv1 : versOk ws
  · have HV1 := Lib.hid hv1
    clear hv1
    go_enter Try.func22, Try.ntmps22
    go_wp2_with fail
    refine (HW.out _ hb0).mono ?_
    rintro e w1 ⟨rfl, hb1⟩
    rw [HV1.out]
    go_wp2
    go_ret
    rw [HF.out, HV1.out]
    exact ⟨rfl, hb0.trans (hb1.mono hb0.size)⟩
  · cases hv2 : versOk gs
    · have HV1 := Lib.hid hv1
      have HV2 := Lib.hid hv2
      clear hv1 hv2
      go_enter Try.func22, Try.ntmps22
      go_wp2_with fail
      refine (HW.out _ hb0).mono ?_
      rintro e w1 ⟨rfl, hb1⟩
      rw [HV1.out]
      have c10 := (K0.below hb1 K0.lt).cell 0
      have hb01 := hb0.trans (hb1.mono hb0.size)
      go_wp2_with fail
      refine (HG.out _ hb01).mono ?_
      rintro e w2 ⟨rfl, hb2⟩
      rw [HV2.out]
      go_wp2
      go_ret
      rw [HF.out, HV1.out, HV2.out]
      exact ⟨rfl, hb01.trans (hb2.mono hb01.size)⟩
    · have HV1 := Lib.hid hv1
      have HV2 := Lib.hid hv2
      clear hv1 hv2
      go_enter Try.func22, Try.ntmps22
      go_wp2_with fail
      refine (HW.out _ hb0).mono ?_
      rintro e w1 ⟨rfl, hb1⟩
      rw [HV1.out]
      have c10 := (K0.below hb1 K0.lt).cell 0
      have hb01 := hb0.trans (hb1.mono hb0.size)
      have K1 := K0.below hb1 K0.lt
      go_wp2_with fail
      refine (HG.out _ hb01).mono ?_
      rintro e w2 ⟨rfl, hb2⟩
      rw [HV2.out]
      have K2 := K1.below hb2 K1.lt
      have hb02 := hb01.trans (hb2.mono hb01.size)
      go_wp2_with fail
      refine (containsFuncVer_any _ _ _ 38 _ (fun v => decide (newestOf gs v.name < v.number)) ws _ (HR1.out _ hb02) hb02.size hm1 (fun args w => by kernel_rfl) (fun x _ w' hb' => ?_)).mono ?_
      · have K3 := K2.below hb' K2.lt
        have hb3 := hb02.trans (hb'.mono hb02.size)
        simpa using fitC_any (A := A2) (c := c2) gs x _ w' (K3.cell 0) (HR2.out _ hb3) hb3.size hm2
      rintro e w3 ⟨rfl, hb3⟩
      go_wp2
      go_ret
      rw [HF.out, HV1.out, HV2.out, ← HA.out]
      exact ⟨by simp, hb02.trans (hb3.mono hb02.size)⟩
end Go.Proofs.Ytogdeekjfgbneaa
