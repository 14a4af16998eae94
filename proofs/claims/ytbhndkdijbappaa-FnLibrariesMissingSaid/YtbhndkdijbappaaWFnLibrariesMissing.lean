/- The walk of FnLibrariesMissing. No condition. -/
import Derived.Test.YtbhndkdijbappaaRows
import Derived.Test.YtbhndkdijbappaaBase
import Derived.Test.YtbhndkdijbappaaBase2
import Derived.Test.YtbhndkdijbappaaBase3
import Derived.Test.YtbhndkdijbappaaBase4
import Derived.Test.YtbhndkdijbappaaBase5
import Derived.Test.YtbhndkdijbappaaOnly
import Derived.Test.YtbhndkdijbappaaOpen
import Derived.Test.YtbhndkdijbappaaIn
import Derived.Test.YtbhndkdijbappaaName
import Derived.Test.YtbhndkdijbappaaStrS
import Derived.Test.YtbhndkdijbappaaFindS
import Derived.Test.YtbhndkdijbappaaIdxI
import Derived.Test.YtbhndkdijbappaaIdxS
import Derived.Test.YtbhndkdijbappaaLb
import Derived.Test.YtbhndkdijbappaaFindLb
import Derived.Test.YtbhndkdijbappaaLibs
import Derived.Test.YtbhndkdijbappaaLibV
import Derived.Test.YtbhndkdijbappaaLibW
import Derived.Test.YtbhndkdijbappaaLoadP
import Derived.Test.YtbhndkdijbappaaLoadI
import Derived.Test.YtbhndkdijbappaaLoadS
import Derived.Test.YtbhndkdijbappaaLibG
import Derived.Test.YtbhndkdijbappaaLibN
import Derived.Test.YtbhndkdijbappaaLibM
import Derived.Test.YtbhndkdijbappaaLoadQ
import Derived.Test.YtbhndkdijbappaaAlive
import Derived.Test.YtbhndkdijbappaaPick
import Derived.Test.YtbhndkdijbappaaPick2
import Derived.Test.YtbhndkdijbappaaOpenC
import Derived.Test.YtbhndkdijbappaaReg
import Derived.Test.YtbhndkdijbappaaRegS
import Derived.Test.YtbhndkdijbappaaDrawLiP
import Derived.Test.YtbhndkdijbappaaDrawLi
import Derived.Test.YtbhndkdijbappaaDrawLo2
import Derived.Test.YtbhndkdijbappaaSameT
import Derived.WalkKit
import Derived.WalkSpells
import Derived.WalkLawsBesides
import Derived.Handy
import Derived.BigQuiet
import Derived.Deep.RegionHeld3
import Derived.Deep.DrawnRows
import Derived.Deep.QuietTactic
namespace Go.Proofs.Ytbhndkdijbappaa
open Go Go.RowKit

set_option maxRecDepth 100000 in
set_option maxHeartbeats 8000000 in
theorem FnLibrariesMissing_walk (W : World) (v0 : Value) (a0 : ArgCode W v0) : Calls Try.prog 9 #[v0] W (Gives W (.bool true)) := by
  obtain ⟨A, c, cs, rfl, hr, hc1, hc2, hcb⟩ := a0
  by_cases hl : cs.length ≤ 1048576
  · have HD := Lib.hid (DrawLibrariesMissing_any cs W hr hcb hl hc1 hc2)
    clear hcb hr
    unfold maxLen at hc2
    go_enter Try.func9, Try.ntmps9
    go_wp2_with fail
    refine HD.out.mono ?_
    rintro e w1 ⟨A1, c1, ls, nm, rfl, hrow, hl6, hsm, hn8, b1⟩
    clear HD
    have hcap := hrow.cap
    have HSM := Lib.hid hsm
    have hml := missL_len ls nm
    clear hsm
    go_wp2_with fail
    refine (implMiss_any ls nm _ hrow.at_ (Nat.le_refl _) (by omega) hcap HSM.out).mono ?_
    rintro e w2 ⟨A', c', rfl, ho, s2⟩
    replace hrow := hrow.below s2
    have b2 := b1.trans (s2.mono b1.size)
    clear s2
    go_wp2_with fail
    refine (specMiss_any ls nm _ hrow.at_ (Nat.le_refl _) (by omega) hcap HSM.out).mono ?_
    rintro e w3 ⟨A2, c2, rfl, ho2, s3⟩
    replace hrow := hrow.below s3
    replace ho := own_below ho s3
    have b3 := b2.trans (s3.mono b2.size)
    clear s3
    go_wp2_with fail
    refine (sameTexts_any _ _ _ _ _ _ _ _ _ (Reads.of_own ho) (Reads.of_own ho2) (by omega) (by omega)).mono ?_
    rintro e w4 ⟨rfl, s4⟩
    rw [decide_eq_true rfl]
    have HROW := Lib.hid (hrow.below s4)
    have HB := Lib.hid (b3.trans (s4.mono b3.size))
    have HOR := Lib.hid (Reads.of_own (own_below ho s4))
    have HFR := Lib.hid (fun z (h : z ∈ missL (ls.map Lb.v) nm) k (hk : k < ls.length) => miss_free h hk)
    have HNA := Lib.hid (fun z (h : z ∈ missL (ls.map Lb.v) nm) => needL_all h)
    have HND := Lib.hid (miss_all (vs := ls.map Lb.v) nm).nodup
    clear s4 ho ho2 b1 b2 b3 hrow
    generalize missL (ls.map Lb.v) nm = ms at *
    go_wp2
    go_loopw [6, 7, 8, 9, 10] (fun kv _ _ _ _ wr => ∃ k : Nat, k ≤ ms.length ∧ kv = .int .i64 k ∧ ∃ d, wr = w4.drewN d) (fun kv _ _ _ _ _ => ms.length - (intOf kv).toNat)
    case atStart => exact ⟨0, Nat.zero_le _, rfl, 0, rfl⟩
    case round =>
      obtain ⟨k, hk, rfl, d, rfl⟩ := hrel
      by_cases hlt : k < ms.length
      · obtain ⟨ad, u1, rfl, hbl, hx1, hc1⟩ := HOR.out.at_ hlt
        rw [texts_get _ _ hlt] at hx1
        injection hx1 with hx1
        subst hx1
        have HFZ := Lib.hid (HFR.out _ (List.getElem_mem hlt))
        have HNZ := Lib.hid (HNA.out _ (List.getElem_mem hlt))
        have HDZ : Hid (∀ j, (h : j < ms.length) → j < k → ms[j] ≠ ms[k]) := fun j h hjk => List.pairwise_iff_getElem.1 HND.out j k h hlt hjk
        have hk0 : (0 : Int) ≤ (k : Int) := Int.natCast_nonneg _
        have hk1 : (k : Int) < (ms.length : Int) := by omega
        generalize hz : ms[k] = z at *
        clear hz
        go_wp2
        go_loopw [7, 8, 9] (fun bv jv _ wr => ∃ (j : Nat) (b : Bool), j ≤ ls.length ∧ jv = .int .i64 j ∧ bv = .bool b ∧ Hid (b = needL ls j z) ∧ ∃ d, wr = w4.drewN d) (fun _ jv _ _ => ls.length - (intOf jv).toNat)
        case atStart => exact ⟨0, false, Nat.zero_le _, rfl, rfl, Lib.hid needL_zero.symm, d, rfl⟩
        case round =>
          obtain ⟨j, b, hj, rfl, rfl, HBB, d2, rfl⟩ := hrel
          by_cases hjl : j < ls.length
          · have ht : (ls[j].name.toList == z.toList) = false := by simpa using fun h => HFZ.out j hjl (toList_inj h)
            have HST := Lib.hid (needL_step (z := z) hjl)
            obtain ⟨b0, off, rfl, e0, e1, e2⟩ := need_at HROW.out.at_ hjl
            have HIN := Lib.hid ((HROW.out.at_.2 _ (List.getElem_mem hjl)).1)
            have hgl : ls[j].needs.length ≤ 1048576 := (HSM.out _ (List.getElem_mem hjl)).2.1
            have hj0 : (0 : Int) ≤ (j : Int) := Int.natCast_nonneg _
            have hj1 : (j : Int) < (ls.length : Int) := by omega
            clear e2
            generalize ls[j].needsA = NA at *
            generalize ls[j].needsc = nc at *
            generalize ls[j].needs = ns at *
            generalize ls[j].name = ln at *
            go_wp2
            go_quiet (fail)
            go_wp2
            clear ht
            go_loopw [7, 9] (fun bv iv wr => ∃ (i : Nat) (b2 : Bool), i ≤ ns.length ∧ iv = .int .i64 i ∧ bv = .bool b2 ∧ Hid (b2 = (b || hasS (ns.take i) z)) ∧ ∃ d, wr = w4.drewN d) (fun _ iv _ => ns.length - (intOf iv).toNat)
            case atStart => exact ⟨0, b, Nat.zero_le _, rfl, rfl, Lib.hid (by simp [hasS]), d2 + nq, by simp [World.drewN, Nat.add_assoc]⟩
            case round =>
              obtain ⟨i, b2, hi, rfl, rfl, HB2, d3, rfl⟩ := hrel
              by_cases hil : i < ns.length
              · have HTK := Lib.hid (hasS_take (z := z) hil)
                obtain ⟨ad2, u2, rfl, hbl2, hx2, hc2⟩ := HIN.out.at_ hil
                rw [texts_get _ _ hil] at hx2
                injection hx2 with hx2
                subst hx2
                have i0' : (0 : Int) ≤ (i : Int) := Int.natCast_nonneg _
                have i1 : (i : Int) < (ns.length : Int) := by omega
                cases b2
                · by_cases he : ns[i] = z
                  · have ht : (ns[i].toList == z.toList) = true := by simp [he]
                    have HN : Hid (true = (b || hasS (ns.take (i + 1)) z)) := by rw [Hid, HTK.out, decide_eq_true he, Bool.or_true, Bool.or_true]
                    clear he
                    go_wp2
                    go_quiet (fail)
                    go_wp2
                    go_roundw
                    case rel => exact ⟨i + 1, true, by omega, by go_num, rfl, HN, _, rfl⟩
                    case measure => simp [intOf]; omega
                  · have ht : (ns[i].toList == z.toList) = false := by simpa using fun h => he (toList_inj h)
                    have HN : Hid (false = (b || hasS (ns.take (i + 1)) z)) := by rw [Hid, HTK.out, decide_eq_false he, Bool.or_false]; exact HB2.out
                    clear he
                    go_wp2
                    go_quiet (fail)
                    go_wp2
                    go_roundw
                    case rel => exact ⟨i + 1, false, by omega, by go_num, rfl, HN, _, rfl⟩
                    case measure => simp [intOf]; omega
                · have HN : Hid (true = (b || hasS (ns.take (i + 1)) z)) := by rw [Hid, HTK.out, ← Bool.or_assoc, ← HB2.out, Bool.true_or]
                  go_wp2
                  go_quiet (fail)
                  go_wp2
                  go_roundw
                  case rel => exact ⟨i + 1, true, by omega, by go_num, rfl, HN, _, rfl⟩
                  case measure => simp [intOf]; omega
              · have HBE : Hid (b2 = needL ls (j + 1) z) := by have h := HB2.out; rw [List.take_of_length_le (by omega)] at h; rw [Hid, HST.out, ← HBB.out]; exact h
                go_wp2
                go_roundw
                case rel => exact ⟨j + 1, b2, by omega, by go_num, rfl, HBE, _, rfl⟩
                case measure => simp [intOf]; omega
          · have hbt : b = true := by rw [HBB.out, show j = ls.length from by omega]; exact HNZ.out
            subst hbt
            go_wp2
            go_loopw [10] (fun jv wr => ∃ (j : Nat), j ≤ k ∧ jv = .int .i64 j ∧ ∃ d, wr = w4.drewN d) (fun jv _ => k - (intOf jv).toNat)
            case atStart => exact ⟨0, Nat.zero_le _, rfl, _, rfl⟩
            case round =>
              obtain ⟨j, hj, rfl, d3, rfl⟩ := hrel
              by_cases hjk : j < k
              · have hjm : j < ms.length := by omega
                have ht : (ms[j].toList == z.toList) = false := by simpa using fun h => HDZ.out j hjm hjk (toList_inj h)
                obtain ⟨ad2, u2, hA2, hbl2, hx2, hc2⟩ := HOR.out.at_ hjm
                injection hA2 with hA2
                subst hA2
                rw [texts_get _ _ hjm] at hx2
                injection hx2 with hx2
                subst hx2
                have j0' : (0 : Int) ≤ (j : Int) := Int.natCast_nonneg _
                have j1 : (j : Int) < (ms.length : Int) := by omega
                go_wp2
                go_quiet (fail)
                go_wp2
                go_roundw
                case rel => exact ⟨j + 1, by omega, by go_num, _, rfl⟩
                case measure => simp [intOf]; omega
              · go_wp2
                go_roundw
                case rel => exact ⟨k + 1, by omega, by go_num, _, rfl⟩
                case measure => simp [intOf]; omega
      · go_wp2_with fail
        refine (alive_any _).mono ?_
        rintro e w' ⟨rfl, rfl⟩
        go_wp2
        go_ret
        exact ⟨rfl, below_drewN HB.out _⟩
  · go_enter Try.func9, Try.ntmps9
    go_wp2
    go_ret
    exact ⟨rfl, Below.refl _ _⟩
end Go.Proofs.Ytbhndkdijbappaa
