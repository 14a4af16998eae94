/- The walk of FnLoadOrder. No condition. -/
import Derived.Test.YtbhndkdijbappaaRows
import Derived.Test.YtbhndkdijbappaaBase
import Derived.Test.YtbhndkdijbappaaBase2
import Derived.Test.YtbhndkdijbappaaBase3
import Derived.Test.YtbhndkdijbappaaBase4
import Derived.Test.YtbhndkdijbappaaBase5
import Derived.Test.YtbhndkdijbappaaOnly
import Derived.Test.YtbhndkdijbappaaOpen
import Derived.Test.YtbhndkdijbappaaIn
import Derived.Test.YtbhndkdijbappaaName
import Derived.Test.YtbhndkdijbappaaStrS
import Derived.Test.YtbhndkdijbappaaFindS
import Derived.Test.YtbhndkdijbappaaIdxI
import Derived.Test.YtbhndkdijbappaaIdxS
import Derived.Test.YtbhndkdijbappaaLb
import Derived.Test.YtbhndkdijbappaaFindLb
import Derived.Test.YtbhndkdijbappaaLibs
import Derived.Test.YtbhndkdijbappaaLibV
import Derived.Test.YtbhndkdijbappaaLibW
import Derived.Test.YtbhndkdijbappaaLoadP
import Derived.Test.YtbhndkdijbappaaLoadI
import Derived.Test.YtbhndkdijbappaaLoadS
import Derived.Test.YtbhndkdijbappaaLibG
import Derived.Test.YtbhndkdijbappaaLibN
import Derived.Test.YtbhndkdijbappaaLibM
import Derived.Test.YtbhndkdijbappaaLoadQ
import Derived.Test.YtbhndkdijbappaaAlive
import Derived.Test.YtbhndkdijbappaaPick
import Derived.Test.YtbhndkdijbappaaPick2
import Derived.Test.YtbhndkdijbappaaOpenC
import Derived.Test.YtbhndkdijbappaaReg
import Derived.Test.YtbhndkdijbappaaRegS
import Derived.Test.YtbhndkdijbappaaDrawLiP
import Derived.Test.YtbhndkdijbappaaDrawLi
import Derived.Test.YtbhndkdijbappaaDrawLo2
import Derived.Test.YtbhndkdijbappaaSameI
import Derived.WalkKit
import Derived.WalkSpells
import Derived.WalkLawsBesides
import Derived.Handy
import Derived.BigQuiet
import Derived.Deep.RegionHeld3
import Derived.Deep.DrawnRows
import Derived.Deep.QuietTactic
namespace Go.Proofs.Ytbhndkdijbappaa
open Go Go.RowKit

theorem bool_infoL : (Try.prog.info? 4).map (fun i => (i.zero, i.size, i.bytes)) = some (some (.bool false), 1, 1) := by kernel_rfl
theorem take_mem_nodup {l : List Int} (hd : l.Nodup) {k : Nat} (hk : k < l.length) : l[k] ∉ l.take k := fun h => by
  obtain ⟨j, hj, e⟩ := List.mem_take_iff_getElem.1 h
  have hjk : j < k := by omega
  exact List.pairwise_iff_getElem.1 hd j k (by omega) hk hjk e
set_option maxRecDepth 100000 in
set_option maxHeartbeats 8000000 in
theorem FnLoadOrder_walk (W : World) (v0 : Value) (a0 : ArgCode W v0) : Calls Try.prog 5 #[v0] W (Gives W (.bool true)) := by
  obtain ⟨A, c, cs, rfl, hr, hc1, hc2, hcb⟩ := a0
  by_cases hl : cs.length ≤ 1048576
  · have HD := Lib.hid (DrawLoadOrder_any cs W hr hcb hl hc1 hc2)
    clear hcb hr
    unfold maxLen at hc2
    go_enter Try.func5, Try.ntmps5
    go_wp2_with fail
    refine HD.out.mono ?_
    rintro e w1 ⟨A1, c1, ls, nm, rfl, hrow, hl6, hsm, hn8, b1⟩
    clear HD
    obtain ⟨j0, gi0, gz0, gz1, gz2⟩ := info_parts bool_infoL
    have hcap := hrow.cap
    have HSM := Lib.hid hsm
    have hol := loadL_len (ls.map Lb.v) nm
    clear hsm
    go_wp2_with fail
    refine (implLoad_any ls nm _ hrow.at_ (Nat.le_refl _) (by omega) hcap HSM.out).mono ?_
    rintro e w2 ⟨A', c', rfl, ho, s2⟩
    replace hrow := hrow.below s2
    have b2 := b1.trans (s2.mono b1.size)
    clear s2
    go_wp2_with fail
    refine (specLoad_any ls nm _ hrow.at_ (Nat.le_refl _) (by omega) hcap HSM.out).mono ?_
    rintro e w3 ⟨A2, c2, rfl, ho2, s3⟩
    replace hrow := hrow.below s3
    replace ho := own_below ho s3
    have b3 := b2.trans (s3.mono b2.size)
    clear s3
    go_wp2_with fail
    refine (sameInts_any _ _ _ _ _ _ _ _ _ (Reads.of_own ho) (Reads.of_own ho2) (by omega) (by omega)).mono ?_
    rintro e w4 ⟨rfl, s4⟩
    rw [decide_eq_true rfl]
    have HROW := Lib.hid (hrow.below s4)
    have HB := Lib.hid (b3.trans (s4.mono b3.size))
    have HOR := Lib.hid (own_base (base' := W.heap.size) (own_below ho s4) b1.size)
    have HRUN : Hid (0 < (loadL (ls.map Lb.v) nm).length → RunI (ls.map Lb.v) nm (loadL (ls.map Lb.v) nm).length (loadL (ls.map Lb.v) nm)) := fun h => (load_run h).2
    have HCL : Hid (0 < (loadL (ls.map Lb.v) nm).length → ∀ k, (hk : k < ls.length) → ∀ j, (hj : j < (loadL (ls.map Lb.v) nm).length) → ls[k].name ∈ lNeeds (ls.map Lb.v) (loadL (ls.map Lb.v) nm)[j] → (k : Int) ∈ loadL (ls.map Lb.v) nm) := fun h k hk j hj hm => run_closed h hk hj hm
    have HLN := Lib.hid (fun q (h : q < ls.length) => lName_at (ls := ls) h)
    have HND := Lib.hid (fun q (h : q < ls.length) => lNeeds_at (ls := ls) h)
    have HLL : Hid ((ls.map Lb.v).length = ls.length) := List.length_map _
    clear s4 ho ho2 b1 b2 b3 hrow
    generalize loadL (ls.map Lb.v) nm = ord at *
    generalize ls.map Lb.v = vs at *
    by_cases hz : ord.length = 0
    · have hz2 : ((ord.length : Int) == 0) = true := by simp [hz]
      go_wp2_with fail
      refine (alive_any _).mono ?_
      rintro e w' ⟨rfl, rfl⟩
      go_wp2
      go_ret
      exact ⟨rfl, HB.out⟩
    · have hz2 : ((ord.length : Int) == 0) = false := by rw [beq_eq_false_iff_ne]; omega
      have HI := Lib.hid (HRUN.out (by omega))
      have HC := Lib.hid (HCL.out (by omega))
      have hz0 : 0 < ord.length := by omega
      clear HRUN HCL hz
      obtain ⟨w5, hmk, ho5, hg5⟩ := run_make_full (P := Try.prog) w4 w4.heap.size 41 4 j0 _ 1 Try.underlying41 gi0 gz0 gz1 .i64 .i64 ls.length (by rw [gz2]; omega) (by unfold maxLen; omega) (Nat.le_refl _)
      have e3 : (madeCells (Value.bool false).cells (ls.length * 1)).toList = lB ls.length [] := by
        have := toList_madeCells_one (.bool false) (ls.length * 1)
        rw [lB_nil]
        simpa [Value.cells] using this
      rw [e3] at ho5
      have s5 : Below w4.heap.size w4 w5 := (Below.refl _ _).grown hg5 (Nat.le_refl _) (by simp)
      have HROW5 := Lib.hid (HROW.out.below s5)
      have HB5 := Lib.hid (HB.out.trans (s5.mono HB.out.size))
      have HOR5 := Lib.hid (own_below HOR.out s5)
      have HL5 := Lib.hid ho5
      have hmk' := hmk
      have hgz : W.heap.size ≤ w4.heap.size := HB.out.size
      clear ho5 hg5 s5 e3 HROW HB HOR hmk
      obtain ⟨g, hg⟩ : ∃ g, g = w4.heap.size := ⟨_, rfl⟩
      have HGE := Lib.hid hg
      have hgW : W.heap.size ≤ g := by omega
      go_wp2
      clear hmk'
      rw [← hg]
      rw [← hg] at HL5
      clear hg hgz
      go_loopw [7, 8, 9, 10] (fun kv _ _ _ wr => ∃ k : Nat, k ≤ ord.length ∧ kv = .int .i64 k ∧ Hid (LbRow wr W.heap.size A1 c1 ls) ∧ Hid (Below W.heap.size W wr) ∧ Hid (wr.ownsRow W.heap.size 3 1 (.slice A' ord.length c') ord.length (nums .i64 ord)) ∧ Hid (wr.ownsRow g 4 1 (.slice (some ⟨g, 0, none⟩) ls.length ls.length) ls.length (lB ls.length (ord.take k)))) (fun kv _ _ _ _ => ord.length - (intOf kv).toNat)
      case atStart => exact ⟨0, Nat.zero_le _, rfl, HROW5, HB5, HOR5, HL5⟩
      case round =>
        clear HROW5 HB5 HOR5 HL5
        obtain ⟨k, hk, rfl, HROW, HB, HOR, HL⟩ := hrel
        obtain ⟨wo, hwo⟩ : ∃ wo : World, wo = wr := ⟨_, rfl⟩
        subst hwo
        by_cases hlt : k < ord.length
        · have hgb := HI.out.good.bd _ (List.getElem_mem hlt)
          obtain ⟨q, hq⟩ : ∃ q : Nat, ord[k] = (q : Int) := ⟨ord[k].toNat, by omega⟩
          have hql : q < ls.length := by have := HLL.out; omega
          have hql' : (q : Int) < (ls.length : Int) := by omega
          have hq0 : (0 : Int) ≤ (q : Int) := Int.natCast_nonneg _
          obtain ⟨ad, u1, hA, hbl, hx1, hc1⟩ := (Reads.of_own HOR.out).at_ hlt
          subst hA
          rw [nums_get _ _ hlt] at hx1
          injection hx1 with hx1
          subst hx1
          rw [hq] at hc1
          have HMN : Hid ((q : Int) ∉ ord.take k) := by rw [← hq]; exact take_mem_nodup HI.out.good.nodup hlt
          have HTK : Hid (ord.take (k + 1) = ord.take k ++ [(q : Int)]) := by rw [← hq]; exact List.take_succ_eq_append_getElem hlt
          have HNB : Hid (needB vs ord k k ls[q].name = true) := by
            have h := needB_all HI.out hlt
            rw [hq, HLN.out q hql] at h
            exact h
          have ek := (HL.out.cellAt q (by omega)).trans (lB_get (ord.take k) hql)
          rw [decide_eq_false HMN.out] at ek
          have fk : wo.frozen? ⟨g, q, none⟩ = false := HL.out.frozenAt q
          have HL2 : Hid ((wo.setCell ⟨g, q, none⟩ (.bool true)).ownsRow g 4 1 (.slice (some ⟨g, 0, none⟩) ls.length ls.length) ls.length (lB ls.length (ord.take (k + 1)))) := by
            have h := (HL.out.stored q (.bool true)).1
            rw [lB_set, ← HTK.out] at h
            exact h
          have HOR2 := Lib.hid (own_other (A2 := some ⟨g, 0, none⟩) HOR.out (HL.out.stored q (.bool true)).2 (own_types_ne HOR.out HL.out (by decide)))
          have HB2 : Hid (Below W.heap.size W (wo.setCell ⟨g, q, none⟩ (.bool true))) := HB.out.setCell hgW _
          have HROW2 : Hid (LbRow (wo.setCell ⟨g, q, none⟩ (.bool true)) W.heap.size A1 c1 ls) := ⟨own_other (A2 := some ⟨g, 0, none⟩) HROW.out.1 (HL.out.stored q (.bool true)).2 (own_types_ne HROW.out.1 HL.out (by decide)), fun l hl => ⟨own_other (A2 := some ⟨g, 0, none⟩) (HROW.out.2 l hl).1 (HL.out.stored q (.bool true)).2 (own_types_ne (HROW.out.2 l hl).1 HL.out (by decide)), own_other (A2 := some ⟨g, 0, none⟩) (HROW.out.2 l hl).2 (HL.out.stored q (.bool true)).2 (own_types_ne (HROW.out.2 l hl).2 HL.out (by decide))⟩⟩
          clear hgb HMN HTK HROW HB HOR HL
          obtain ⟨b0, off, hA1, _, e0q, _, _⟩ := Lb.at_ HROW2.out.at_.1 hql
          subst hA1
          generalize hln : ls[q].name = ln at *
          have hk0 : (0 : Int) ≤ (k : Int) := Int.natCast_nonneg _
          have hk1 : (k : Int) < (ord.length : Int) := by omega
          go_wp2
          have HC1 : Hid ((wo.setCell ⟨g, q, none⟩ (.bool true)).cell? (ad.add k) = some (.int .i64 (q : Int))) := by
            obtain ⟨ad', u', hA', _, hx', hc'⟩ := (Reads.of_own HOR2.out).at_ hlt
            injection hA' with hA'
            subst hA'
            rw [nums_get _ _ hlt, hq] at hx'
            injection hx' with hx'
            subst hx'
            exact hc'
          clear hc1 ek fk
          obtain ⟨w6, hw6⟩ : ∃ w6, w6 = wo.setCell ⟨g, q, none⟩ (.bool true) := ⟨_, rfl⟩
          rw [← hw6] at HL2 HOR2 HB2 HROW2 e0q HC1 ⊢
          clear hw6
          have hd0 : ((k : Int) == 0) = decide (k = 0) := by
            by_cases h : k = 0
            · simp [h]
            · rw [decide_eq_false h]; simp; omega
          rw [hd0]
          clear hd0
          have HE0 := Lib.hid e0q
          have HQ := Lib.hid hq
          clear e0q hq
          go_loopw [8, 9, 10] (fun bv jv _ wr => ∃ (j : Nat) (b : Bool), j ≤ k ∧ jv = .int .i64 j ∧ bv = .bool b ∧ Hid (b = needB vs ord k j ln) ∧ ∃ d, wr = w6.drewN d) (fun _ jv _ _ => k - (intOf jv).toNat)
          case atStart => exact ⟨0, decide (k = 0), Nat.zero_le _, rfl, rfl, Lib.hid needB_zero.symm, 0, rfl⟩
          case round =>
            obtain ⟨j, b, hj, rfl, rfl, HBB, d, rfl⟩ := hrel
            by_cases hjk : j < k
            · have hjo : j < ord.length := by omega
              have hgb := HI.out.good.bd _ (List.getElem_mem hjo)
              obtain ⟨p, hp⟩ : ∃ p : Nat, ord[j] = (p : Int) := ⟨ord[j].toNat, by omega⟩
              have hpl : p < ls.length := by have := HLL.out; omega
              have hpl' : (p : Int) < (ls.length : Int) := by omega
              have hp0 : (0 : Int) ≤ (p : Int) := Int.natCast_nonneg _
              have HST := Lib.hid (needB_step (vs := vs) (k := k) (z := ln) hjo)
              rw [hp, HND.out p hpl] at HST
              obtain ⟨ad2, u2, hA2, _, hx2, hc2⟩ := (Reads.of_own HOR2.out).at_ hjo
              injection hA2 with hA2
              subst hA2
              rw [nums_get _ _ hjo, hp] at hx2
              injection hx2 with hx2
              subst hx2
              obtain ⟨b1', off1, hA3, _, x0, x1, _⟩ := Lb.at_ HROW2.out.at_.1 hpl
              simp only [Option.some.injEq, Addr.mk.injEq] at hA3
              obtain ⟨rfl, rfl, _⟩ := hA3
              have HIN := Lib.hid ((HROW2.out.at_.2 _ (List.getElem_mem hpl)).1)
              have hgl : ls[p].needs.length ≤ 1048576 := (HSM.out _ (List.getElem_mem hpl)).2.1
              have hj0 : (0 : Int) ≤ (j : Int) := Int.natCast_nonneg _
              have hj1 : (j : Int) < (ord.length : Int) := by omega
              have HC2 := Lib.hid hc2
              have HX1 := Lib.hid x1
              clear hgb hp x0 hc2 x1
              generalize ls[p].needsA = NA at *
              generalize ls[p].needsc = nc at *
              generalize ls[p].needs = ns at *
              go_wp2
              go_loopw [8, 10] (fun bv iv wr => ∃ (i : Nat) (b2 : Bool), i ≤ ns.length ∧ iv = .int .i64 i ∧ bv = .bool b2 ∧ Hid (b2 = (b || hasS (ns.take i) ln)) ∧ ∃ d, wr = w6.drewN d) (fun _ iv _ => ns.length - (intOf iv).toNat)
              case atStart => exact ⟨0, b, Nat.zero_le _, rfl, rfl, Lib.hid (by simp [hasS]), d, rfl⟩
              case round =>
                obtain ⟨i, b2, hi, rfl, rfl, HB2', d3, rfl⟩ := hrel
                have hc2 := HC2.out
                have x1 := HX1.out
                by_cases hil : i < ns.length
                · have HTK := Lib.hid (hasS_take (z := ln) hil)
                  obtain ⟨ad3, u3, rfl, _, hx3, hc3⟩ := HIN.out.at_ hil
                  rw [texts_get _ _ hil] at hx3
                  injection hx3 with hx3
                  subst hx3
                  have i0' : (0 : Int) ≤ (i : Int) := Int.natCast_nonneg _
                  have i1 : (i : Int) < (ns.length : Int) := by omega
                  have hck := HC1.out
                  have e0q := HE0.out
                  cases b2
                  · by_cases he : ns[i] = ln
                    · have ht : (ns[i].toList == ln.toList) = true := by simp [he]
                      have HN : Hid (true = (b || hasS (ns.take (i + 1)) ln)) := by rw [Hid, HTK.out, decide_eq_true he, Bool.or_true, Bool.or_true]
                      clear he
                      go_wp2
                      go_quiet (fail)
                      go_wp2
                      go_roundw
                      case rel => exact ⟨i + 1, true, by omega, by go_num, rfl, HN, _, rfl⟩
                      case measure => simp [intOf]; omega
                    · have ht : (ns[i].toList == ln.toList) = false := by simpa using fun h => he (toList_inj h)
                      have HN : Hid (false = (b || hasS (ns.take (i + 1)) ln)) := by rw [Hid, HTK.out, decide_eq_false he, Bool.or_false]; exact HB2'.out
                      clear he
                      go_wp2
                      go_quiet (fail)
                      go_wp2
                      go_roundw
                      case rel => exact ⟨i + 1, false, by omega, by go_num, rfl, HN, _, rfl⟩
                      case measure => simp [intOf]; omega
                  · have HN : Hid (true = (b || hasS (ns.take (i + 1)) ln)) := by rw [Hid, HTK.out, ← Bool.or_assoc, ← HB2'.out, Bool.true_or]
                    go_wp2
                    go_quiet (fail)
                    go_wp2
                    go_roundw
                    case rel => exact ⟨i + 1, true, by omega, by go_num, rfl, HN, _, rfl⟩
                    case measure => simp [intOf]; omega
                · have HBE : Hid (b2 = needB vs ord k (j + 1) ln) := by have h := HB2'.out; rw [List.take_of_length_le (by omega)] at h; rw [Hid, HST.out, ← HBB.out]; exact h
                  go_wp2
                  go_roundw
                  case rel => exact ⟨j + 1, b2, by omega, by go_num, rfl, HBE, _, rfl⟩
                  case measure => simp [intOf]; omega
            · have hbt : b = true := by rw [HBB.out, show j = k from by omega]; exact HNB.out
              subst hbt
              go_wp2
              go_roundw
              case rel => exact ⟨k + 1, by omega, by go_num, HROW2, Lib.hid (below_drewN HB2.out _), HOR2, HL2⟩
              case measure => simp [intOf]; omega
        · have HLE : Hid (wo.ownsRow g 4 1 (.slice (some ⟨g, 0, none⟩) ls.length ls.length) ls.length (lB ls.length ord)) := by have h := HL.out; rw [List.take_of_length_le (by omega)] at h; exact h
          clear HL
          go_wp2
          go_loopw [11, 12, 13] (fun kv _ _ wr => ∃ k : Nat, k ≤ ls.length ∧ kv = .int .i64 k ∧ ∃ d, wr = wo.drewN d) (fun kv _ _ _ => ls.length - (intOf kv).toNat)
          case atStart => exact ⟨0, Nat.zero_le _, rfl, 0, rfl⟩
          case round =>
            obtain ⟨m, hm, rfl, d, rfl⟩ := hrel
            by_cases hml : m < ls.length
            · have hm0 : (0 : Int) ≤ (m : Int) := Int.natCast_nonneg _
              have hm1 : (m : Int) < (ls.length : Int) := by omega
              obtain ⟨b0, off, hA1, _, y0, _, _⟩ := Lb.at_ HROW.out.at_.1 hml
              subst hA1
              have HY0 := Lib.hid y0
              have HEL := Lib.hid ((HLE.out.cellAt m (by omega)).trans (lB_get ord hml))
              have HCM := Lib.hid (HC.out m hml)
              clear y0
              generalize ls[m].name = ln at *
              go_wp2
              go_loopw [12, 13] (fun jv _ wr => ∃ (j : Nat), j ≤ ord.length ∧ jv = .int .i64 j ∧ ∃ d, wr = wo.drewN d) (fun jv _ _ => ord.length - (intOf jv).toNat)
              case atStart => exact ⟨0, Nat.zero_le _, rfl, d, rfl⟩
              case round =>
                obtain ⟨j, hj, rfl, d2, rfl⟩ := hrel
                by_cases hjo : j < ord.length
                · have hgb := HI.out.good.bd _ (List.getElem_mem hjo)
                  obtain ⟨p, hp⟩ : ∃ p : Nat, ord[j] = (p : Int) := ⟨ord[j].toNat, by omega⟩
                  have hpl : p < ls.length := by have := HLL.out; omega
                  have hpl' : (p : Int) < (ls.length : Int) := by omega
                  have hp0 : (0 : Int) ≤ (p : Int) := Int.natCast_nonneg _
                  have HCJ := Lib.hid (HCM.out j hjo)
                  rw [hp, HND.out p hpl] at HCJ
                  obtain ⟨ad2, u2, rfl, _, hx2, hc2⟩ := (Reads.of_own HOR.out).at_ hjo
                  rw [nums_get _ _ hjo, hp] at hx2
                  injection hx2 with hx2
                  subst hx2
                  obtain ⟨b1', off1, hA3, _, x0, x1, _⟩ := Lb.at_ HROW.out.at_.1 hpl
                  simp only [Option.some.injEq, Addr.mk.injEq] at hA3
                  obtain ⟨rfl, rfl, _⟩ := hA3
                  have HIN := Lib.hid ((HROW.out.at_.2 _ (List.getElem_mem hpl)).1)
                  have hgl : ls[p].needs.length ≤ 1048576 := (HSM.out _ (List.getElem_mem hpl)).2.1
                  have hj0 : (0 : Int) ≤ (j : Int) := Int.natCast_nonneg _
                  have hj1 : (j : Int) < (ord.length : Int) := by omega
                  have HC2 := Lib.hid hc2
                  have HX1 := Lib.hid x1
                  clear hgb hp x0 hc2 x1
                  generalize ls[p].needsA = NA at *
                  generalize ls[p].needsc = nc at *
                  generalize ls[p].needs = ns at *
                  go_wp2
                  go_loopw [13] (fun iv wr => ∃ (i : Nat), i ≤ ns.length ∧ iv = .int .i64 i ∧ ∃ d, wr = wo.drewN d) (fun iv _ => ns.length - (intOf iv).toNat)
                  case atStart => exact ⟨0, Nat.zero_le _, rfl, d2, rfl⟩
                  case round =>
                    obtain ⟨i, hi, rfl, d3, rfl⟩ := hrel
                    have hc2 := HC2.out
                    have x1 := HX1.out
                    by_cases hil : i < ns.length
                    · obtain ⟨ad3, u3, rfl, _, hx3, hc3⟩ := HIN.out.at_ hil
                      rw [texts_get _ _ hil] at hx3
                      injection hx3 with hx3
                      subst hx3
                      have i0' : (0 : Int) ≤ (i : Int) := Int.natCast_nonneg _
                      have i1 : (i : Int) < (ns.length : Int) := by omega
                      have y0 := HY0.out
                      have el := HEL.out
                      by_cases he : ns[i] = ln
                      · have ht : (ns[i].toList == ln.toList) = true := by simp [he]
                        have hmem : (m : Int) ∈ ord := HCJ.out (by rw [← he]; exact List.getElem_mem hil)
                        rw [decide_eq_true hmem] at el
                        clear he hmem
                        go_wp2
                        go_quiet (fail)
                        go_wp2
                        go_roundw
                        case rel => exact ⟨i + 1, by omega, by go_num, _, rfl⟩
                        case measure => simp [intOf]; omega
                      · have ht : (ns[i].toList == ln.toList) = false := by simpa using fun h => he (toList_inj h)
                        clear he
                        go_wp2
                        go_quiet (fail)
                        go_wp2
                        go_roundw
                        case rel => exact ⟨i + 1, by omega, by go_num, _, rfl⟩
                        case measure => simp [intOf]; omega
                    · go_wp2
                      go_roundw
                      case rel => exact ⟨j + 1, by omega, by go_num, _, rfl⟩
                      case measure => simp [intOf]; omega
                · go_wp2
                  go_roundw
                  case rel => exact ⟨m + 1, by omega, by go_num, _, rfl⟩
                  case measure => simp [intOf]; omega
            · have hgb := HI.out.good.bd _ (List.getElem_mem hz0)
              obtain ⟨p, hp⟩ : ∃ p : Nat, ord[0] = (p : Int) := ⟨ord[0].toNat, by omega⟩
              have hpl : p < ls.length := by have := HLL.out; omega
              have hpl' : (p : Int) < (ls.length : Int) := by omega
              have hp0 : (0 : Int) ≤ (p : Int) := Int.natCast_nonneg _
              have hnm : ls[p].name = nm := by have h := HI.out.head hz0; rw [hp, HLN.out p hpl] at h; exact h
              obtain ⟨ad2, u2, rfl, _, hx2, hc2⟩ := (Reads.of_own HOR.out).at_ hz0
              rw [nums_get _ _ hz0, hp] at hx2
              injection hx2 with hx2
              subst hx2
              obtain ⟨b1', off1, rfl, _, x0, x1, _⟩ := Lb.at_ HROW.out.at_.1 hpl
              have ht : (ls[p].name.toList == nm.toList) = true := by rw [hnm]; simp
              generalize ls[p].name = ln at *
              have ho1 : (0 : Int) < (ord.length : Int) := by omega
              have hc2' : wo.cell? ad2 = some (.int .i64 (p : Int)) := by simpa [Addr.add] using hc2
              clear hgb hp hnm x1 hc2
              go_wp2
              go_ret
              exact ⟨rfl, below_drewN HB.out _⟩
  · go_enter Try.func5, Try.ntmps5
    go_wp2
    go_ret
    exact ⟨rfl, Below.refl _ _⟩
end Go.Proofs.Ytbhndkdijbappaa
