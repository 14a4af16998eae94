/- Contracts of the two CallsFar. Condition: not too long an order. -/
import Derived.Test.YtgibmbjdnppiaaaRows
import Derived.Test.YtgibmbjdnppiaaaBase
import Derived.Test.YtgibmbjdnppiaaaBase2
import Derived.Test.YtgibmbjdnppiaaaIn
import Derived.Test.YtgibmbjdnppiaaaIn2
import Derived.Test.YtgibmbjdnppiaaaEdge
import Derived.Test.YtgibmbjdnppiaaaFindEdg
import Derived.Test.YtgibmbjdnppiaaaEdgeV
import Derived.Test.YtgibmbjdnppiaaaEdgeW
import Derived.Test.YtgibmbjdnppiaaaIdxI
import Derived.Test.YtgibmbjdnppiaaaCallP
import Derived.WalkKit
import Derived.WalkSpells
import Derived.WalkLawsBesides
import Derived.Handy
import Derived.BigQuiet
import Derived.Deep.RegionHeld3
import Derived.Deep.DrawnRows
import Derived.Deep.QuietTactic
namespace Go.Proofs.Ytgibmbjdnppiaaa
open Go Go.RowKit

set_option maxRecDepth 100000 in
set_option maxHeartbeats 4000000 in
theorem implCallsFar_any {A1 A2 : Option Addr} {c1 c2 B1 B2 : Nat} (many : Int) (es : List Edg) (l : List Int) (w : World) (h1 : Reads w B1 3 A1 es.length (es.flatMap Edg.cells)) (hB1 : B1 ≤ w.heap.size) (h2 : Reads w B2 1 A2 l.length (nums .i64 l)) (hB2 : B2 ≤ w.heap.size) (hm1 : es.length ≤ 1048576) (hm2 : l.length ≤ 1048576) :
    Calls Try.prog 18 #[.int .i64 many, .slice A1 es.length c1, .slice A2 l.length c2] w (Gives w (.int .i64 (callsFar many es l))) := by
  have HV := Lib.hid (implEdgesValid_any (c := c1) many es w h1 hB1 (by unfold maxLen; omega))
  cases hj : edgesOk many es
  · have HJ := Lib.hid hj
    have HR : Hid (callsFar many es l = -1) := by unfold callsFar; rw [if_neg (fun h => by rw [hj] at h; cases h.1)]; exact rfl
    clear hj
    go_enter Try.func18, Try.ntmps18
    go_wp2_with fail
    refine HV.out.mono ?_
    rintro e w1 ⟨rfl, hb1⟩
    rw [HJ.out]
    go_wp2
    go_ret
    rw [HR.out]
    exact ⟨rfl, hb1⟩
  · have HJ := Lib.hid hj
    obtain ⟨⟨hmn1, hmn2⟩, hel, hep⟩ := edgesOk_parts hj
    have HEP := Lib.hid hep
    clear hj hep
    by_cases hlm : (l.length : Int) = many
    · subst hlm
      have HRX : Hid (callsFar (l.length : Int) es l = if hasAll l l.length = true then farS l es else -1) := by
        unfold callsFar
        by_cases h : hasAll l l.length = true
        · rw [if_pos ⟨HJ.out, rfl, h⟩, if_pos h]; exact rfl
        · rw [if_neg (fun hh => h hh.2.2), if_neg h]; exact rfl
      go_enter Try.func18, Try.ntmps18
      go_wp2_with fail
      refine HV.out.mono ?_
      rintro e w1 ⟨rfl, hb1⟩
      rw [HJ.out]
      have HL2 := Lib.hid ((h2.more hB2).below hb1)
      have HL1 := Lib.hid ((h1.more hB1).below hb1)
      go_wp2
      go_loop [23] (fun i => ∃ k : Nat, k ≤ l.length ∧ i = .int .i64 k ∧ Hid (∀ j : Nat, j < k → (j : Int) ∈ l)) (fun i => l.length - (intOf i).toNat)
      case atStart => exact ⟨0, Nat.zero_le _, rfl, Lib.hid (fun j hj => by omega)⟩
      case round =>
        obtain ⟨k, hk, rfl, HA⟩ := hrel
        by_cases hlt : k < l.length
        · cases hc : l.any (fun x => decide (x = (k : Int)))
          · have HC := Lib.hid hc
            have HR : Hid (callsFar (l.length : Int) es l = -1) := by
              rw [HRX.out, hasAll_no hlt (fun hm => by
                rw [List.any_eq_false] at hc
                exact hc _ hm (by simp))]
              exact rfl
            clear hc
            go_wp2_with fail
            refine (containsInt_any (k : Int) l _ HL2.out (by unfold maxLen; omega)).mono ?_
            rintro e w' ⟨rfl, rfl⟩
            rw [HC.out]
            go_wp2
            go_ret
            rw [HR.out]
            exact ⟨rfl, hb1⟩
          · have HC := Lib.hid hc
            have HM : Hid ((k : Int) ∈ l) := by
              obtain ⟨x, hx, hxe⟩ := List.any_eq_true.1 hc
              have := of_decide_eq_true hxe
              rw [← this]
              exact hx
            clear hc
            go_wp2_with fail
            refine (containsInt_any (k : Int) l _ HL2.out (by unfold maxLen; omega)).mono ?_
            rintro e w' ⟨rfl, rfl⟩
            rw [HC.out]
            go_wp2
            go_round
            case rel => exact ⟨k + 1, by omega, by go_num, Lib.hid (fun j hj => by
              by_cases hjk : j < k
              · exact HA.out j hjk
              · obtain rfl : j = k := by omega
                exact HM.out)⟩
            case measure => simp [intOf]; omega
        · obtain rfl : k = l.length := by omega
          have HALL : Hid (hasAll l l.length = true) := hasAll_iff.2 HA.out
          have HR : Hid (callsFar (l.length : Int) es l = farS l es) := by rw [HRX.out, HALL.out]; exact rfl
          have HIN := Lib.hid (fun (x : Int) (h0 : 0 ≤ x) (h1 : x ≤ (l.length : Int) - 1) => plc_bd (l := l) (i := x) (by
            have := HA.out x.toNat (by omega)
            rwa [Int.toNat_of_nonneg h0] at this))
          have HB1 := Lib.hid hb1
          clear hb1
          go_wp2
          go_loopw [8, 33] (fun sv i wr => ∃ k : Nat, k ≤ es.length ∧ i = .int .i64 k ∧ sv = .int .i64 (farS l (es.take k)) ∧ Hid (0 ≤ farS l (es.take k) ∧ farS l (es.take k) ≤ 480000 * (k : Int)) ∧ Hid (Below w.heap.size w wr)) (fun _ i _ => es.length - (intOf i).toNat)
          case atStart => exact ⟨0, Nat.zero_le _, rfl, rfl, ⟨by simp [farS], by simp [farS]⟩, HB1⟩
          case round =>
            obtain ⟨k, hk, rfl, rfl, HS, HB⟩ := hrel
            by_cases hke : k < es.length
            · obtain ⟨b, off, rfl, hbl, e0, e1, e2⟩ := Edg.at_ ((h1.more hB1).below HB.out) hke
              obtain ⟨⟨f0, f1⟩, ⟨t0, t1⟩, _, ⟨q0, q1⟩⟩ := HEP.out k hke
              have hpf := HIN.out _ f0 f1
              have hpt := HIN.out _ t0 t1
              have HI1 : Hid (∀ (x : Int) (w' : World), Below w.heap.size w w' → Calls Try.prog 38 #[.slice A2 l.length c2, .int .i64 x] w' fun e w'' => e = .returned (.int .i64 (idxOf (fun y => decide (y = x)) l)) ∧ w'' = w') := fun x w' hb => (indexInt_any (c := c2) x l w' ((h2.more hB2).below hb) (by unfold maxLen; omega)).mono fun _ _ ⟨a, b⟩ => ⟨a, b.symm⟩
              have hs := HS.out
              have HT : Hid (farS l (es.take (k + 1)) = farS l (es.take k) + es[k].count * max (plc l es[k].from_ - plc l es[k].to_) (-(plc l es[k].from_ - plc l es[k].to_))) := by
                rw [List.take_succ_eq_append_getElem hke]
                exact farS_snoc l _ _
              have hP : Hid (∀ x, idxOf (fun y => decide (y = x)) l = plc l x) := fun x => rfl
              generalize farS l (es.take k) = sm at *
              generalize es[k].from_ = ef at *
              generalize es[k].to_ = et at *
              generalize es[k].count = ec at *
              have HP1 := hP.out ef
              have HP2 := hP.out et
              generalize plc l ef = pf at *
              generalize plc l et = pt at *
              obtain ⟨hs1, hs2⟩ := hs
              obtain ⟨pf0, pf1⟩ := hpf
              obtain ⟨pt0, pt1⟩ := hpt
              have HM := Lib.hid (mul_max_bd (c := ec) (d := pf - pt) (by omega) q1 (by omega) (by omega))
              have HBA := Lib.hid (HB.out.alloc HB.out.size (.cells #[.int .i64 ef, .int .i64 et, .int .i64 ec] 33))
              have hbz := HB.out.size
              have C1 : Hid (∀ n : Nat, Calls Try.prog 38 #[.slice A2 l.length c2, .int .i64 ef] ((wr.alloc (.cells #[.int .i64 ef, .int .i64 et, .int .i64 ec] 33)).drewN n) fun e w'' => e = .returned (.int .i64 pf) ∧ w'' = (wr.alloc (.cells #[.int .i64 ef, .int .i64 et, .int .i64 ec] 33)).drewN n) := fun n => by rw [← HP1]; exact HI1.out ef _ (below_drewN HBA.out n)
              have C2 : Hid (∀ n : Nat, Calls Try.prog 38 #[.slice A2 l.length c2, .int .i64 et] ((wr.alloc (.cells #[.int .i64 ef, .int .i64 et, .int .i64 ec] 33)).drewN n) fun e w'' => e = .returned (.int .i64 pt) ∧ w'' = (wr.alloc (.cells #[.int .i64 ef, .int .i64 et, .int .i64 ec] 33)).drewN n) := fun n => by rw [← HP2]; exact HI1.out et _ (below_drewN HBA.out n)
              have y1 : IntKind.i64.wrap (pf - pt) = pf - pt := IntWalk.i64_in _ (by omega)
              clear HI1 hP HP1 HP2
              go_wp2
              go_quiet (first | (with_reducible exact Calls.quiet_of_same (C1.out _)) | (with_reducible exact Calls.quiet_of_same (C2.out _)))
              clear y1
              obtain ⟨d, hd⟩ : ∃ d, d = pf - pt := ⟨_, rfl⟩
              have hd1 : -8 ≤ d ∧ d ≤ 8 := by omega
              rw [← hd] at HT HM ⊢
              clear hd
              obtain ⟨hd1, hd2⟩ := hd1
              obtain ⟨mx, hmx⟩ : ∃ mx, mx = max d (-d) := ⟨_, rfl⟩
              have hmx1 : 0 ≤ mx ∧ mx ≤ 8 := by omega
              have hmul := HM.out
              rw [← hmx] at HT hmul
              obtain ⟨pr, hpr⟩ : ∃ pr, pr = ec * mx := ⟨_, rfl⟩
              rw [← hpr] at HT hmul
              obtain ⟨hmul1, hmul2⟩ := hmul
              have HVAL : Hid (wrap64 (sm + wrap64 (ec * if d < -d then -d else d)) = sm + pr) := by
                have e1 : (if d < -d then -d else d) = mx := by rw [hmx]; split <;> omega
                rw [e1, ← hpr, IntWalk.wrap64_in pr (by omega), IntWalk.wrap64_in (sm + pr) (by omega)]
                exact rfl
              have HSB : Hid (0 ≤ sm + pr ∧ sm + pr ≤ 480000 * ((k : Int) + 1)) := by
                exact ⟨by omega, by omega⟩
              clear hmx hpr
              go_wp2
              go_roundw
              case rel => exact ⟨k + 1, by omega, by go_num, by rw [HVAL.out, HT.out], by rw [HT.out]; exact HSB.out, below_drewN HBA.out _⟩
              case measure => simp [intOf]; omega
            · obtain rfl : k = es.length := by omega
              go_wp2
              go_ret
              rw [HR.out, List.take_length]
              exact ⟨rfl, HB.out⟩
    · have hne : ((l.length : Int) != many) = true := by simp [hlm]
      have HR : Hid (callsFar many es l = -1) := by unfold callsFar; rw [if_neg (fun h => hlm h.2.1)]; exact rfl
      clear hlm
      go_enter Try.func18, Try.ntmps18
      go_wp2_with fail
      refine HV.out.mono ?_
      rintro e w1 ⟨rfl, hb1⟩
      rw [HJ.out]
      go_wp2
      go_ret
      rw [HR.out]
      exact ⟨rfl, hb1⟩
end Go.Proofs.Ytgibmbjdnppiaaa
