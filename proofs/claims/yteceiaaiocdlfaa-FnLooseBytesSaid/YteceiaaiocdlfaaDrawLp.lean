/- Contracts of DrawSqueezeBytes and DrawLooseBytes. No condition but the sizes. -/
import Derived.Test.YteceiaaiocdlfaaRows
import Derived.Test.YteceiaaiocdlfaaBase
import Derived.Test.YteceiaaiocdlfaaBase2
import Derived.Test.YteceiaaiocdlfaaBase3
import Derived.Test.YteceiaaiocdlfaaIn
import Derived.Test.YteceiaaiocdlfaaSqz
import Derived.Test.YteceiaaiocdlfaaRepB
import Derived.Test.YteceiaaiocdlfaaFill
import Derived.Test.YteceiaaiocdlfaaLooP
import Derived.Test.YteceiaaiocdlfaaLoo
import Derived.Test.YteceiaaiocdlfaaLooQ
import Derived.Test.YteceiaaiocdlfaaAlive
import Derived.Test.YteceiaaiocdlfaaSameB
import Derived.Test.YteceiaaiocdlfaaPick
import Derived.Test.YteceiaaiocdlfaaPick2
import Derived.Test.YteceiaaiocdlfaaOpenC
import Derived.Test.YteceiaaiocdlfaaDrawLo
import Derived.Test.YteceiaaiocdlfaaBent
import Derived.WalkKit
import Derived.WalkSpells
import Derived.WalkLawsBesides
import Derived.Handy
import Derived.BigQuiet
import Derived.Deep.RegionHeld3
import Derived.Deep.DrawnRows
import Derived.Deep.QuietTactic
namespace Go.Proofs.Yteceiaaiocdlfaa
open Go Go.RowKit

def DrewBytes (w : World) (e : Ending) (w' : World) : Prop :=
  ∃ (A : Option Addr) (c : Nat) (bs : List Int), e = .returned (.slice A bs.length c) ∧ w'.ownsRow w.heap.size 5 1 (.slice A bs.length c) bs.length (nums .u8 bs) ∧ bs.length ≤ 1201 ∧ isB bs ∧ Below w.heap.size w w'
set_option maxRecDepth 100000 in
set_option maxHeartbeats 4000000 in
theorem DrawSqueezeBytes_any {A : Option Addr} {c : Nat} (cs : List Int) (w : World) (h1 : Reads w w.heap.size 1 A cs.length (nums .u8 cs)) (hx : ∀ x ∈ cs, 0 ≤ x ∧ x ≤ 255) (hm : cs.length ≤ 1048576) (hc : cs.length ≤ c) (hc2 : c ≤ maxLen) :
    Calls Try.prog 40 #[.slice A cs.length c] w (DrewBytes w) := by
  have HO := Lib.hid (open_any cs w h1 hx hm hc hc2)
  clear h1 hx
  go_enter Try.func40, Try.ntmps40
  go_wp2_with fail
  refine HO.out.mono ?_
  rintro e w1 ⟨rfl, hr, hz, hb⟩
  obtain ⟨r, hrr⟩ : ∃ r, r = w.heap.size := ⟨_, rfl⟩
  rw [← hrr] at hr ⊢
  have hrw : w.heap.size ≤ r := by omega
  have hrl := hr.lt
  have HB := Lib.hid hb
  have zb := hb.size
  clear hrr hz HO hb
  go_wp2_with fail
  refine (l20Loose_any r 0 _ hr (by omega)).mono ?_
  rintro e w2 ⟨A1, c1, bs, rfl, oa, hl, hq, hr2, hg2⟩
  have HB2 := Lib.hid (below_gr HB.out hg2 hrw)
  have HQ := Lib.hid hq
  have zb2 := HB2.out.size
  clear hq
  have HA := Lib.hid (own_base oa zb)
  clear oa hg2 hr2 hr HB
  go_wp2
  go_ret
  exact ⟨A1, c1, bs, rfl, HA.out, by omega, HQ.out, HB2.out⟩
set_option maxRecDepth 100000 in
set_option maxHeartbeats 4000000 in
theorem DrawLooseBytes_any {A : Option Addr} {c : Nat} (cs : List Int) (w : World) (h1 : Reads w w.heap.size 1 A cs.length (nums .u8 cs)) (hx : ∀ x ∈ cs, 0 ≤ x ∧ x ≤ 255) (hm : cs.length ≤ 1048576) (hc : cs.length ≤ c) (hc2 : c ≤ maxLen) :
    Calls Try.prog 43 #[.slice A cs.length c] w (DrewBytes w) := by
  have HO := Lib.hid (open_any cs w h1 hx hm hc hc2)
  clear h1 hx
  go_enter Try.func43, Try.ntmps43
  go_wp2_with fail
  refine HO.out.mono ?_
  rintro e w1 ⟨rfl, hr, hz, hb⟩
  obtain ⟨r, hrr⟩ : ∃ r, r = w.heap.size := ⟨_, rfl⟩
  rw [← hrr] at hr ⊢
  have hrw : w.heap.size ≤ r := by omega
  have hrl := hr.lt
  have HB := Lib.hid hb
  have zb := hb.size
  clear hrr hz HO hb
  go_wp2_with fail
  refine (l20Loose_any r 0 _ hr (by omega)).mono ?_
  rintro e w2 ⟨A1, c1, bs, rfl, oa, hl, hq, hr2, hg2⟩
  have HB2 := Lib.hid (below_gr HB.out hg2 hrw)
  have HQ := Lib.hid hq
  have zb2 := HB2.out.size
  clear hq
  have HA := Lib.hid (own_base oa zb)
  have HR2 := Lib.hid hr2
  have zz2 := hg2.size
  clear oa hg2 hr2 hr HB
  go_wp2_with fail
  refine (specSqueeze_any bs _ (Reads.of_own HA.out) (Nat.le_refl _) (by unfold maxLen; omega)).mono ?_
  rintro e w3 ⟨A3, c3, rfl, o3, s3⟩
  have HB3 := Lib.hid (HB2.out.trans (s3.mono HB2.out.size))
  have HR3 := Lib.hid (HR2.out.below s3)
  have HS := Lib.hid (squeeze_isB HQ.out)
  have hsl := squeeze_len bs
  have zz3 := HB3.out.size
  clear s3 HR2
  go_wp2_with fail
  refine (l20Bent_any r _ (squeeze bs) _ HR3.out (by omega) (Reads.of_own o3) (Nat.le_refl _) (by omega) HS.out).mono ?_
  rintro e w4 ⟨A4, c4, ys, rfl, o4, hl4, hq4, hr4, hg4⟩
  have HQ4 := Lib.hid hq4
  have HA4 := Lib.hid (own_base o4 zz3)
  have HB4 := Lib.hid (below_gr HB3.out hg4 hrw)
  clear hq4 o4 hg4 hr4 HB3 HB2 HR3
  go_wp2
  go_ret
  exact ⟨A4, c4, ys, rfl, HA4.out, by omega, HQ4.out, HB4.out⟩
end Go.Proofs.Yteceiaaiocdlfaa
