/- The walk of FnGiverOf. No condition. -/
import Derived.Test.YtbhndkdijbappaaRows
import Derived.Test.YtbhndkdijbappaaBase
import Derived.Test.YtbhndkdijbappaaBase2
import Derived.Test.YtbhndkdijbappaaBase3
import Derived.Test.YtbhndkdijbappaaBase4
import Derived.Test.YtbhndkdijbappaaBase5
import Derived.Test.YtbhndkdijbappaaOnly
import Derived.Test.YtbhndkdijbappaaOpen
import Derived.Test.YtbhndkdijbappaaIn
import Derived.Test.YtbhndkdijbappaaName
import Derived.Test.YtbhndkdijbappaaStrS
import Derived.Test.YtbhndkdijbappaaFindS
import Derived.Test.YtbhndkdijbappaaIdxI
import Derived.Test.YtbhndkdijbappaaIdxS
import Derived.Test.YtbhndkdijbappaaLb
import Derived.Test.YtbhndkdijbappaaFindLb
import Derived.Test.YtbhndkdijbappaaLibs
import Derived.Test.YtbhndkdijbappaaLibV
import Derived.Test.YtbhndkdijbappaaLibW
import Derived.Test.YtbhndkdijbappaaLoadP
import Derived.Test.YtbhndkdijbappaaLoadI
import Derived.Test.YtbhndkdijbappaaLoadS
import Derived.Test.YtbhndkdijbappaaLibG
import Derived.Test.YtbhndkdijbappaaLibN
import Derived.Test.YtbhndkdijbappaaLibM
import Derived.Test.YtbhndkdijbappaaLoadQ
import Derived.Test.YtbhndkdijbappaaAlive
import Derived.Test.YtbhndkdijbappaaPick
import Derived.Test.YtbhndkdijbappaaPick2
import Derived.Test.YtbhndkdijbappaaOpenC
import Derived.Test.YtbhndkdijbappaaReg
import Derived.Test.YtbhndkdijbappaaRegS
import Derived.Test.YtbhndkdijbappaaDrawLiP
import Derived.Test.YtbhndkdijbappaaDrawLi
import Derived.Test.YtbhndkdijbappaaDrawLo2
import Derived.WalkKit
import Derived.WalkSpells
import Derived.WalkLawsBesides
import Derived.Handy
import Derived.BigQuiet
import Derived.Deep.RegionHeld3
import Derived.Deep.DrawnRows
import Derived.Deep.QuietTactic
namespace Go.Proofs.Ytbhndkdijbappaa
open Go Go.RowKit

set_option maxRecDepth 100000 in
set_option maxHeartbeats 8000000 in
theorem FnGiverOf_walk (W : World) (v0 : Value) (a0 : ArgCode W v0) : Calls Try.prog 7 #[v0] W (Gives W (.bool true)) := by
  obtain ⟨A, c, cs, rfl, hr, hc1, hc2, hcb⟩ := a0
  by_cases hl : cs.length ≤ 1048576
  · have HD := Lib.hid (DrawGiverOf_any cs W hr hcb hl hc1 hc2)
    clear hcb hr
    unfold maxLen at hc2
    go_enter Try.func7, Try.ntmps7
    go_wp2_with fail
    refine HD.out.mono ?_
    rintro e w1 ⟨A1, c1, ls, nm, wt, rfl, hrow, hl6, hsm, hn8, hw8, b1⟩
    clear HD
    have hcap := hrow.cap
    have HSM := Lib.hid hsm
    clear hsm
    go_wp2_with fail
    refine (implGiver_any ls nm wt _ hrow.at_ (Nat.le_refl _) (by omega) hcap HSM.out).mono ?_
    rintro e w2 ⟨rfl, s2⟩
    replace hrow := hrow.below s2
    have b2 := b1.trans (s2.mono b1.size)
    clear s2
    go_wp2_with fail
    refine (specGiver_any ls nm wt _ hrow.at_ (Nat.le_refl _) (by omega) hcap HSM.out).mono ?_
    rintro e w3 ⟨rfl, s3⟩
    replace hrow := hrow.below s3
    have b3 := b2.trans (s3.mono b2.size)
    clear s3
    go_wp2_with fail
    refine (implLoad_any ls nm _ hrow.at_ (Nat.le_refl _) (by omega) hcap HSM.out).mono ?_
    rintro e w4 ⟨A', c', rfl, ho4, s4⟩
    have HROW := Lib.hid (hrow.below s4)
    have HB := Lib.hid (b3.trans (s4.mono b3.size))
    have HOR := Lib.hid (Reads.of_own ho4)
    have HGD := Lib.hid (loadL_good (ls.map Lb.v) nm)
    have HLG := Lib.hid (fun q (h : q < ls.length) => lGives_at (ls := ls) h)
    have HLL : Hid ((ls.map Lb.v).length = ls.length) := List.length_map _
    have HG1 : Hid (∀ k, (h : k < (loadL (ls.map Lb.v) nm).length) → wt ∈ lGives (ls.map Lb.v) (loadL (ls.map Lb.v) nm)[k] → (∀ j, (h : j < (loadL (ls.map Lb.v) nm).length) → j < k → wt ∉ lGives (ls.map Lb.v) (loadL (ls.map Lb.v) nm)[j]) → giverL (ls.map Lb.v) nm wt = (loadL (ls.map Lb.v) nm)[k]) := fun k h h1 h2 => giver_at h h1 h2
    have HG2 : Hid ((∀ j, (h : j < (loadL (ls.map Lb.v) nm).length) → wt ∉ lGives (ls.map Lb.v) (loadL (ls.map Lb.v) nm)[j]) → giverL (ls.map Lb.v) nm wt = -1) := fun h => giver_no h
    have hol := loadL_len (ls.map Lb.v) nm
    clear s4 ho4 b1 b2 b3 hrow
    generalize loadL (ls.map Lb.v) nm = ord at *
    generalize giverL (ls.map Lb.v) nm wt = gv at *
    generalize ls.map Lb.v = vs at *
    go_wp2
    go_loopw [8, 9, 10] (fun kv _ _ wr => ∃ k : Nat, k ≤ ord.length ∧ kv = .int .i64 k ∧ Hid (∀ j, (h : j < ord.length) → j < k → wt ∉ lGives vs ord[j]) ∧ ∃ d, wr = w4.drewN d) (fun kv _ _ _ => ord.length - (intOf kv).toNat)
    case atStart => exact ⟨0, Nat.zero_le _, rfl, Lib.hid (fun j _ hj => by omega), 0, rfl⟩
    case round =>
      obtain ⟨k, hk, rfl, HA, d, rfl⟩ := hrel
      by_cases hlt : k < ord.length
      · have hgb := HGD.out.bd _ (List.getElem_mem hlt)
        obtain ⟨q, hq⟩ : ∃ q : Nat, ord[k] = (q : Int) := ⟨ord[k].toNat, by omega⟩
        have hql : q < ls.length := by have := HLL.out; omega
        have hql' : (q : Int) < (ls.length : Int) := by omega
        obtain ⟨ad, u1, rfl, hbl, hx1, hc1⟩ := HOR.out.at_ hlt
        rw [nums_get _ _ hlt] at hx1
        injection hx1 with hx1
        subst hx1
        have HLK := Lib.hid (HLG.out q hql)
        have HGK : Hid (wt ∈ lGives vs (q : Int) → gv = (q : Int)) := fun h => by
          have h2 := HG1.out k hlt
          rw [hq] at h2
          exact h2 h HA.out
        have HNK : Hid (wt ∉ lGives vs (q : Int) → ∀ j, (h : j < ord.length) → j < k + 1 → wt ∉ lGives vs ord[j]) := fun h j hj hjk => by
          by_cases hjq : j < k
          · exact HA.out j hj hjq
          · obtain rfl : j = k := by omega
            rw [hq]
            exact h
        rw [hq] at hc1
        rw [HLK.out] at HGK HNK
        obtain ⟨b, off, rfl, e0, e1, e2⟩ := need_at HROW.out.at_ hql
        have HIN := Lib.hid ((HROW.out.at_.2 _ (List.getElem_mem hql)).2)
        have hgl : ls[q].gives.length ≤ 1048576 := (HSM.out _ (List.getElem_mem hql)).2.2.2.1
        clear e0 e1 hgb hq HLK
        generalize ls[q].givesA = NA at *
        generalize ls[q].givesc = nc at *
        generalize ls[q].gives = gs at *
        have hk0 : (0 : Int) ≤ (k : Int) := Int.natCast_nonneg _
        have hk1 : (k : Int) < (ord.length : Int) := by omega
        go_wp2
        go_loopw [9, 10] (fun bv iv wr => ∃ (i : Nat) (b : Bool), i ≤ gs.length ∧ iv = .int .i64 i ∧ bv = .bool b ∧ Hid (b = hasS (gs.take i) wt) ∧ ∃ d, wr = w4.drewN d) (fun _ iv _ => gs.length - (intOf iv).toNat)
        case atStart => exact ⟨0, false, Nat.zero_le _, rfl, rfl, Lib.hid (by simp [hasS]), d, rfl⟩
        case round =>
          obtain ⟨i, b, hi, rfl, rfl, HBB, d2, rfl⟩ := hrel
          by_cases hil : i < gs.length
          · have HTK := Lib.hid (hasS_take (z := wt) hil)
            obtain ⟨ad2, u2, rfl, hbl2, hx2, hc2⟩ := HIN.out.at_ hil
            rw [texts_get _ _ hil] at hx2
            injection hx2 with hx2
            subst hx2
            have i0' : (0 : Int) ≤ (i : Int) := Int.natCast_nonneg _
            have i1 : (i : Int) < (gs.length : Int) := by omega
            cases b
            · by_cases he : gs[i] = wt
              · have ht : (gs[i].toList == wt.toList) = true := by simp [he]
                have HN : Hid (true = hasS (gs.take (i + 1)) wt) := by rw [Hid, HTK.out, decide_eq_true he, Bool.or_true]
                clear he
                go_wp2
                go_roundw
                case rel => exact ⟨i + 1, true, by omega, by go_num, rfl, HN, _, rfl⟩
                case measure => simp [intOf]; omega
              · have ht : (gs[i].toList == wt.toList) = false := by simpa using fun h => he (toList_inj h)
                have HN : Hid (false = hasS (gs.take (i + 1)) wt) := by rw [Hid, HTK.out, decide_eq_false he, Bool.or_false]; exact HBB.out
                clear he
                go_wp2
                go_roundw
                case rel => exact ⟨i + 1, false, by omega, by go_num, rfl, HN, _, rfl⟩
                case measure => simp [intOf]; omega
            · have HN : Hid (true = hasS (gs.take (i + 1)) wt) := by rw [Hid, HTK.out, ← HBB.out, Bool.true_or]
              go_wp2
              go_roundw
              case rel => exact ⟨i + 1, true, by omega, by go_num, rfl, HN, _, rfl⟩
              case measure => simp [intOf]; omega
          · have HBE : Hid (b = hasS gs wt) := by have h := HBB.out; rw [List.take_of_length_le (by omega)] at h; exact h
            cases b
            · have HNN := Lib.hid (HNK.out (hasS_no.1 HBE.out.symm))
              go_wp2
              go_roundw
              case rel => exact ⟨k + 1, by omega, by go_num, HNN, _, rfl⟩
              case measure => simp [intOf]; omega
            · have hge : gv = (q : Int) := HGK.out (hasS_iff.1 HBE.out.symm)
              have hgv : (gv == (q : Int)) = true := by rw [hge]; simp
              clear hge
              go_wp2
              go_ret
              exact ⟨rfl, below_drewN HB.out _⟩
      · have hge : gv = -1 := HG2.out (fun j h => HA.out j h (by omega))
        have hgv : (gv == -1) = true := by rw [hge]; rfl
        clear hge
        go_wp2_with fail
        refine (alive_any _).mono ?_
        rintro e w' ⟨rfl, rfl⟩
        go_wp2
        go_ret
        exact ⟨rfl, below_drewN HB.out _⟩
  · go_enter Try.func7, Try.ntmps7
    go_wp2
    go_ret
    exact ⟨rfl, Below.refl _ _⟩
end Go.Proofs.Ytbhndkdijbappaa
