/- Contract of the reference's LibrariesValid. No condition but the sizes. -/
import Derived.Test.YtbhndkdijbappaaRows
import Derived.Test.YtbhndkdijbappaaBase
import Derived.Test.YtbhndkdijbappaaBase2
import Derived.Test.YtbhndkdijbappaaOnly
import Derived.Test.YtbhndkdijbappaaIn
import Derived.Test.YtbhndkdijbappaaName
import Derived.Test.YtbhndkdijbappaaFindS
import Derived.Test.YtbhndkdijbappaaLb
import Derived.Test.YtbhndkdijbappaaFindLb
import Derived.Test.YtbhndkdijbappaaLibs
import Derived.Test.YtbhndkdijbappaaLibV
import Derived.WalkKit
import Derived.WalkSpells
import Derived.WalkLawsBesides
import Derived.Handy
import Derived.BigQuiet
import Derived.Deep.RegionHeld3
import Derived.Deep.DrawnRows
import Derived.Deep.QuietTactic
namespace Go.Proofs.Ytbhndkdijbappaa
open Go Go.RowKit

set_option maxRecDepth 100000 in
set_option maxHeartbeats 4000000 in
theorem specLibs_any {A : Option Addr} {c B : Nat} (ls : List Lb) (w : World) (h1 : LbAt w B A ls) (hB : B ≤ w.heap.size) (hm : ls.length ≤ 1048576) (hc : ls.length ≤ c) (hs : ∀ l ∈ ls, l.small) :
    Calls Try.prog 13 #[.slice A ls.length c] w (Gives w (.bool (libsOk (ls.map Lb.v)))) := by
  have H1 := Lib.hid (h1.more hB)
  have HS := Lib.hid hs
  clear h1 hs
  go_enter Try.func13, Try.ntmps13
  go_wp2
  go_loopw [3] (fun i wr => ∃ k : Nat, k ≤ ls.length ∧ i = .int .i64 k ∧ Hid (∀ j, (h : j < ls.length) → j < k → lOk1 (ls.map Lb.v) j ls[j].v = true) ∧ Below w.heap.size w wr) (fun i _ => ls.length - (intOf i).toNat)
  case atStart => exact ⟨0, Nat.zero_le _, rfl, fun j _ hj => by omega, Below.refl _ _⟩
  case round =>
    obtain ⟨k, hk, rfl, HA, hb⟩ := hrel
    by_cases hlt : k < ls.length
    · obtain ⟨b, off, rfl, hbl, e0, e1, e2⟩ := Lb.at_ ((H1.out.below hb).1) hlt
      have HB := Lib.hid hb
      have HOK := Lib.hid (lOk1_eq hlt)
      obtain ⟨z0, z1, y1, z2, y2⟩ := HS.out _ (List.getElem_mem hlt)
      obtain ⟨i1, i2⟩ := (H1.out.2 _ (List.getElem_mem hlt)).below hb
      have HN := Lib.hid (fun n => same_sym (specName_any ls[k].name (wr.drewN n) (size_le z0)))
      have HF1 := Lib.hid (fun n => same_sym (specNames_any (c := ls[k].needsc) ls[k].needs (wr.drewN n) (i1.drewN n) (by unfold maxLen; omega) (fun s hs => size_le (y1 s hs))))
      have HF2 := Lib.hid (fun n => same_sym (specNames_any (c := ls[k].givesc) ls[k].gives (wr.drewN n) (i2.drewN n) (by unfold maxLen; omega) (fun s hs => size_le (y2 s hs))))
      have HP := Lib.hid (fun n => same_sym (specPlace_any (c := c) (ls.take k) ls[k].name (wr.drewN n) ((reads_take (H1.out.below hb).1 hk).drewN n) (by rw [List.length_take]; unfold maxLen; omega)))
      have hlk : (ls.take k).length = k := by rw [List.length_take]; omega
      rw [hlk] at HP
      clear y1 y2 i1 i2 hlk z0 z1 z2
      have HK0 := Lib.hid (libs_noL hlt)
      have HRE := Lib.hid (HOK.out)
      clear HOK
      have HE0 := Lib.hid e0
      have HE1 := Lib.hid e1
      have HE2 := Lib.hid e2
      clear e0 e1 e2
      generalize lPlace ((ls.take k).map Lb.v) ls[k].name = z at *
      generalize hq1 : nameOk ls[k].name = b1 at *
      generalize hq2 : fewOk ls[k].needs = f1 at *
      generalize hq3 : fewOk ls[k].gives = f2 at *
      clear hq1 hq2 hq3
      have e0 := HE0.out
      have e1 := HE1.out
      have e2 := HE2.out
      clear HE0 HE1 HE2 hb
      have k0 : (0 : Int) ≤ (k : Int) := Int.natCast_nonneg _
      have k1 : (k : Int) ≤ (c : Int) := by omega
      have k2 : (k : Int) < (ls.length : Int) := by omega
      cases b1
      · skip
        have HR : Hid (libsOk (ls.map Lb.v) = false) := HK0.out (by rw [HRE.out]; simp)
        go_wp2
        go_quiet (first | (with_reducible exact Calls.quiet_of_same (HN.out _)) | (with_reducible exact Calls.quiet_of_same (HF1.out _)) | (with_reducible exact Calls.quiet_of_same (HF2.out _)) | (with_reducible exact Calls.quiet_of_same (HP.out _)))
        go_wp2
        go_ret
        rw [HR.out]
        exact ⟨rfl, below_drewN HB.out _⟩
      · skip
        cases f1
        · skip
          have HR : Hid (libsOk (ls.map Lb.v) = false) := HK0.out (by rw [HRE.out]; simp)
          go_wp2
          go_quiet (first | (with_reducible exact Calls.quiet_of_same (HN.out _)) | (with_reducible exact Calls.quiet_of_same (HF1.out _)) | (with_reducible exact Calls.quiet_of_same (HF2.out _)) | (with_reducible exact Calls.quiet_of_same (HP.out _)))
          go_wp2
          go_ret
          rw [HR.out]
          exact ⟨rfl, below_drewN HB.out _⟩
        · skip
          cases f2
          · skip
            have HR : Hid (libsOk (ls.map Lb.v) = false) := HK0.out (by rw [HRE.out]; simp)
            go_wp2
            go_quiet (first | (with_reducible exact Calls.quiet_of_same (HN.out _)) | (with_reducible exact Calls.quiet_of_same (HF1.out _)) | (with_reducible exact Calls.quiet_of_same (HF2.out _)) | (with_reducible exact Calls.quiet_of_same (HP.out _)))
            go_wp2
            go_ret
            rw [HR.out]
            exact ⟨rfl, below_drewN HB.out _⟩
          · skip
            by_cases hz : z < 0
            · have hzq : decide (0 ≤ z) = false := decide_eq_false (by omega)
              have HK : Hid (lOk1 (ls.map Lb.v) k ls[k].v = true) := by rw [Hid, HRE.out]; simp [hz]
              go_wp2
              go_quiet (first | (with_reducible exact Calls.quiet_of_same (HN.out _)) | (with_reducible exact Calls.quiet_of_same (HF1.out _)) | (with_reducible exact Calls.quiet_of_same (HF2.out _)) | (with_reducible exact Calls.quiet_of_same (HP.out _)))
              go_wp2
              go_roundw
              case rel => exact ⟨k + 1, by omega, by go_num, Lib.hid (fun j h hj => by
                by_cases hjk : j < k
                · exact HA.out j h hjk
                · obtain rfl : j = k := by omega
                  exact HK.out), below_drewN HB.out _⟩
              case measure => simp [intOf]; omega
            · have hzq : decide (0 ≤ z) = true := decide_eq_true (by omega)
              have hzd : decide (z < 0) = false := decide_eq_false hz
              have HR : Hid (libsOk (ls.map Lb.v) = false) := HK0.out (by rw [HRE.out]; rw [hzd]; simp)
              go_wp2
              go_quiet (first | (with_reducible exact Calls.quiet_of_same (HN.out _)) | (with_reducible exact Calls.quiet_of_same (HF1.out _)) | (with_reducible exact Calls.quiet_of_same (HF2.out _)) | (with_reducible exact Calls.quiet_of_same (HP.out _)))
              go_wp2
              go_ret
              rw [HR.out]
              exact ⟨rfl, below_drewN HB.out _⟩
    · have HR : Hid (libsOk (ls.map Lb.v) = decide (ls.length ≤ 6)) := libs_allL (fun j h => HA.out j h (by omega))
      go_wp2
      go_ret
      rw [HR.out]
      exact ⟨by simp; omega, hb⟩
end Go.Proofs.Ytbhndkdijbappaa
