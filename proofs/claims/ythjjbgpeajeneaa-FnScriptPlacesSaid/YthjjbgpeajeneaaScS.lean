/- Contract of the reference ScriptPlaces. Condition: not too many numbers. -/
import Derived.Test.YthjjbgpeajeneaaRows
import Derived.Test.YthjjbgpeajeneaaBase
import Derived.Test.YthjjbgpeajeneaaBase2
import Derived.Test.YthjjbgpeajeneaaIn
import Derived.Test.YthjjbgpeajeneaaIn2
import Derived.Test.YthjjbgpeajeneaaFindI
import Derived.Test.YthjjbgpeajeneaaAreV
import Derived.Test.YthjjbgpeajeneaaPart
import Derived.Test.YthjjbgpeajeneaaIdxI
import Derived.Test.YthjjbgpeajeneaaScrV
import Derived.Test.YthjjbgpeajeneaaScrW
import Derived.Test.YthjjbgpeajeneaaScrP
import Derived.Test.YthjjbgpeajeneaaScP
import Derived.WalkKit
import Derived.WalkSpells
import Derived.WalkLawsBesides
import Derived.Handy
import Derived.BigQuiet
import Derived.Deep.RegionHeld3
import Derived.Deep.DrawnRows
import Derived.Deep.QuietTactic
namespace Go.Proofs.Ythjjbgpeajeneaa
open Go Go.RowKit

set_option maxRecDepth 100000 in
set_option maxHeartbeats 8000000 in
theorem specScriptPlaces_any {A1 A2 : Option Addr} {c1 c2 B1 B2 : Nat} (xs : List Prt) (ss : List Int) (base : Int) (w : World) (h1 : Reads w B1 2 A1 xs.length (xs.flatMap Prt.cells)) (hB1 : B1 ≤ w.heap.size) (h2 : Reads w B2 1 A2 ss.length (nums .i64 ss)) (hB2 : B2 ≤ w.heap.size) (hm1 : xs.length ≤ 1048576) (hm2 : ss.length ≤ 1048576) :
    Calls Try.prog 14 #[.slice A1 xs.length c1, .slice A2 ss.length c2, .int .i64 base] w (Fresh2 3 1 w (spL xs ss base).length (nums .i64 (spL xs ss base)) (.int .i64 (spE xs ss base))) := by
  have HV := Lib.hid (fun o => specScriptValid_any (c1 := c1) xs (w.alloc o) (h1.alloc hB1 o) (by simp; omega) (by unfold maxLen; omega))
  have HBA := Lib.hid ((Below.refl w.heap.size w).alloc (Nat.le_refl _) (.cells #[.int .i64 0, .int .i64 0, .int .i64 0] 3))
  have HO0 := Lib.hid (World.ownsRow_lit (base := w.heap.size) (e := 3) (size := 1) w #[.int .i64 0, .int .i64 0, .int .i64 0] 3 (Nat.le_refl _) (by unfold maxLen; omega) rfl)
  cases hj : scriptOk xs
  · have HJ := Lib.hid hj
    have HN := Lib.hid (sp_no (xs := xs) (ss := ss) (base := base) (by unfold spOk; rw [hj]; rfl))
    clear hj
    go_enter Try.func14, Try.ntmps14
    go_wp2_with fail
    refine (HV.out _).mono ?_
    rintro e w1 ⟨rfl, s1⟩
    rw [HJ.out]
    have hb1 := HBA.out.trans (s1.mono HBA.out.size)
    go_wp2
    refine bodyPost_ret (v := .tuple #[.slice (some ⟨w1.heap.size, 0, none⟩) 0 0, .int .i64 (-1)]) (by simp [results, Try.results14, go_sem]) rfl ?_
    rw [HN.out.1, HN.out.2]
    exact ⟨_, _, rfl, World.ownsRow_lit (base := w.heap.size) (e := 3) (size := 1) w1 #[] 0 hb1.size (by unfold maxLen; omega) rfl, hb1.alloc hb1.size _⟩
  · have HJ := Lib.hid hj
    by_cases hl : ss.length = 3
    · have hl' : ((ss.length : Int) != 3) = false := by simp [hl]
      have HL := Lib.hid hl
      have hl3 : ss.length ≤ 3 := by omega
      have hl4 : 3 ≤ ss.length := by omega
      cases hbs : inB base 0 60000
      · have HBS := Lib.hid hbs
        have HN := Lib.hid (sp_no (xs := xs) (ss := ss) (base := base) (by unfold spOk; rw [hbs, Bool.and_false, Bool.and_false]))
        clear hj hl hbs
        go_enter Try.func14, Try.ntmps14
        go_wp2_with fail
        refine (HV.out _).mono ?_
        rintro e w1 ⟨rfl, s1⟩
        rw [HJ.out]
        have hb1 := HBA.out.trans (s1.mono HBA.out.size)
        go_wp2_with fail
        refine (l1In_any _ _ _ _).mono ?_
        rintro e w' ⟨rfl, rfl⟩
        rw [HBS.out]
        go_wp2
        refine bodyPost_ret (v := .tuple #[.slice (some ⟨w1.heap.size, 0, none⟩) 0 0, .int .i64 (-1)]) (by simp [results, Try.results14, go_sem]) rfl ?_
        rw [HN.out.1, HN.out.2]
        exact ⟨_, _, rfl, World.ownsRow_lit (base := w.heap.size) (e := 3) (size := 1) w1 #[] 0 hb1.size (by unfold maxLen; omega) rfl, hb1.alloc hb1.size _⟩
      · have HBS := Lib.hid hbs
        have HNO : Hid (valsOk ss = false → spL xs ss base = [] ∧ spE xs ss base = -1) := fun h => sp_no (by unfold spOk; rw [h, Bool.false_and, Bool.and_false])
        have HYES : Hid (valsOk ss = true → spL xs ss base = (spRun ss xs base).1 ∧ spE xs ss base = (spRun ss xs base).2) := fun h => sp_yes (by unfold spOk; rw [hj, h, HBS.out, decide_eq_true HL.out]; rfl)
        have hxl := script_len hj
        have hx3 : xs.length ≤ 3 := by omega
        obtain ⟨bs0, bs1⟩ := inB_iff.1 hbs
        clear hj hl hbs hxl
        go_enter Try.func14, Try.ntmps14
        go_wp2_with fail
        refine (HV.out _).mono ?_
        rintro e w1 ⟨rfl, s1⟩
        rw [HJ.out]
        have HB1 := Lib.hid (HBA.out.trans (s1.mono HBA.out.size))
        have HO1 := Lib.hid (own_below HO0.out s1)
        have hwg : w.heap.size < w1.heap.size := by have := s1.size; simp at this; omega
        clear s1
        go_wp2_with fail
        refine (l1In_any _ _ _ _).mono ?_
        rintro e w' ⟨rfl, rfl⟩
        rw [HBS.out]
        go_wp2
        go_loopw [9, 10] (fun av i wr => ∃ k : Nat, k ≤ xs.length ∧ i = .int .i64 k ∧ av = .int .i64 (spRun ss (xs.take k) base).2 ∧ Hid (0 ≤ (spRun ss (xs.take k) base).2 ∧ (spRun ss (xs.take k) base).2 ≤ 60000 + 60063 * (k : Int)) ∧ Hid (Below w.heap.size w wr) ∧ Hid (wr.ownsRow w.heap.size 3 1 (.slice (some ⟨w.heap.size, 0, none⟩) 3 3) 3 (nums .i64 (spRun ss (xs.take k) base).1)) ∧ Hid (∀ i, (hi : i < xs.length) → i < k → ∀ j : Nat, (hj : j < ss.length) → xs[i].kind = (j : Int) + 1 → inB ss[j] 0 60000 = true)) (fun _ i _ => xs.length - (intOf i).toNat)
        case atStart => exact ⟨0, Nat.zero_le _, rfl, rfl, ⟨bs0, by show base ≤ 60000 + 60063 * 0; omega⟩, HB1, HO1, Lib.hid (fun i _ hi => by omega)⟩
        case round =>
          obtain ⟨k, hk, rfl, rfl, HS, HB, HO, HSEEN⟩ := hrel
          clear HB1 HO1
          by_cases hke : k < xs.length
          · obtain ⟨b, off, rfl, hbl, e0, e1⟩ := Prt.at_ ((h1.more hB1).below HB.out) hke
            obtain ⟨⟨kd0, kd1⟩, hal⟩ := script_at HJ.out hke
            obtain ⟨j, hjk⟩ : ∃ j : Nat, xs[k].kind = (j : Int) + 1 := ⟨(xs[k].kind - 1).toNat, by omega⟩
            have hj3 : j < 3 := by omega
            have hjs : j < ss.length := by omega
            obtain ⟨b2, off2, rfl, hbl2, hcs⟩ := ((h2.more hB2).below HB.out).row_ (by omega) (by omega)
            have hcj := hcs j _ (nums_get _ _ hjs)
            have HVN := Lib.hid (fun h => HNO.out (valsNo hjs h))
            have HEX : Hid (inB ss[j] 0 60000 = true → ∀ i, (hi : i < xs.length) → i < k + 1 → ∀ j' : Nat, (hj : j' < ss.length) → xs[i].kind = (j' : Int) + 1 → inB ss[j'] 0 60000 = true) := fun h i hi hik j' hj' he => by
              by_cases hik2 : i < k
              · exact HSEEN.out i hi hik2 j' hj' he
              · obtain rfl : i = k := by omega
                obtain rfl : j' = j := by omega
                exact h
            have HT : Hid (spRun ss (xs.take (k + 1)) base = ((spRun ss (xs.take k) base).1.set j (upP (spRun ss (xs.take k) base).2 xs[k].align), upP (spRun ss (xs.take k) base).2 xs[k].align + ss[j])) := by
              have e : ((j : Int) + 1 - 1).toNat = j := by omega
              rw [spRun_take hke]
              unfold spStep
              rw [hjk, e, getDP hjs]
              exact rfl
            have hup := upP_bd (n := (spRun ss (xs.take k) base).2) hal
            have hs := HS.out
            have halb := alOk_bd hal
            rw [hjk] at e0
            have HUP : Hid (upP (spRun ss (xs.take k) base).2 xs[k].align = ((spRun ss (xs.take k) base).2 + xs[k].align - 1) / xs[k].align * xs[k].align) := rfl
            generalize (spRun ss (xs.take k) base).1 = ol at *
            generalize (spRun ss (xs.take k) base).2 = at0 at *
            generalize ss[j] = sz at *
            generalize xs[k].align = al at *
            obtain ⟨hs0, hs1⟩ := hs
            obtain ⟨a1, ha1⟩ : ∃ a1, a1 = upP at0 al := ⟨_, rfl⟩
            rw [← ha1] at HT hup HUP
            obtain ⟨hup0, hup1⟩ := hup
            obtain ⟨hal0, hal1⟩ := halb
            have hbz := HB.out.size
            have j0 : (0 : Int) ≤ (j : Int) := Int.natCast_nonneg _
            have j1 : (j : Int) < 3 := by omega
            have j2 : (j : Int) < (ss.length : Int) := by omega
            have k1 : (k : Int) < (xs.length : Int) := by omega
            have k0 : (0 : Int) ≤ (k : Int) := Int.natCast_nonneg _
            clear hcs ha1 hjk hal
            cases hsz : inB sz 0 60000
            · have HSZ := Lib.hid hsz
              have HN := Lib.hid (HVN.out hsz)
              clear hsz
              go_wp2_with fail
              refine (l1In_any _ _ _ _).mono ?_
              rintro e w' ⟨rfl, rfl⟩
              rw [HSZ.out]
              go_wp2
              refine bodyPost_ret (v := .tuple #[.slice (some ⟨wr.heap.size, 0, none⟩) 0 0, .int .i64 (-1)]) (by simp [results, Try.results14, go_sem]) rfl ?_
              rw [HN.out.1, HN.out.2]
              exact ⟨_, _, rfl, World.ownsRow_lit (base := w.heap.size) (e := 3) (size := 1) wr #[] 0 hbz (by unfold maxLen; omega) rfl, HB.out.alloc hbz _⟩
            · have HSZ := Lib.hid hsz
              obtain ⟨sz0, sz1⟩ := inB_iff.1 hsz
              clear hsz
              have hst := HO.out.stored j (.int .i64 a1)
              have hf3 : wr.frozen? ⟨w.heap.size, j, none⟩ = false := HO.out.frozenAt j
              obtain ⟨u, hcu⟩ : ∃ u, wr.cell? ⟨w.heap.size, j, none⟩ = some u := ⟨_, (HO.out.cellAt j (by omega)).trans (List.getElem?_eq_getElem (by have := HO.out.1; omega))⟩
              have HST := Lib.hid hst
              have hn0 : ¬ al = 0 := by omega
              have y1 : IntKind.i64.wrap (at0 + al) = at0 + al := IntWalk.i64_in _ (by omega)
              have y2 : IntKind.i64.wrap (at0 + al - 1) = at0 + al - 1 := IntWalk.i64_in _ (by omega)
              have y3 : (at0 + al - 1).tdiv al = (at0 + al - 1) / al := Int.tdiv_eq_ediv_of_nonneg (by omega)
              have hq : 0 ≤ (at0 + al - 1) / al ∧ (at0 + al - 1) / al ≤ at0 + al - 1 := ⟨Int.ediv_nonneg (by omega) (by omega), Int.ediv_le_self _ (by omega)⟩
              obtain ⟨q, hqq⟩ : ∃ q, q = (at0 + al - 1) / al := ⟨_, rfl⟩
              have hup2 := HUP.out
              rw [← hqq] at y3 hq hup2
              obtain ⟨hq0, hq1⟩ := hq
              have y4 : IntKind.i64.wrap q = q := IntWalk.i64_in _ (by omega)
              have y5 : IntKind.i64.wrap (q * al) = a1 := by rw [← hup2]; exact IntWalk.i64_in _ (by omega)
              have HUP2 := Lib.hid hup2
              clear hst hqq hup2
              go_wp2_with fail
              refine (l1In_any _ _ _ _).mono ?_
              rintro e w' ⟨rfl, rfl⟩
              rw [HSZ.out]
              go_wp2
              go_quiet (fail)
              clear y1 y2 y3 y4 y5
              have n1 : ¬ b2 = w.heap.size := by omega
              have n2 : ¬ w.heap.size = b2 := by omega
              go_wp2
              go_roundw
              case rel =>
                have hb2 : Below w.heap.size w (wr.setCell ⟨w.heap.size, j, none⟩ (.int .i64 a1)) := HB.out.grown HST.out.2 hbz (by simp)
                refine ⟨k + 1, by omega, by go_num, by rw [HT.out], by rw [HT.out]; exact ⟨by show 0 ≤ a1 + sz; omega, by show a1 + sz ≤ 60000 + 60063 * ((k + 1 : Nat) : Int); omega⟩, Lib.hid (below_drewN hb2 _), Lib.hid ?_, Lib.hid (HEX.out HSZ.out)⟩
                rw [HT.out]
                have h := HST.out.1
                rw [nums_setP] at h
                exact h
              case measure => simp [intOf]; omega
          · obtain rfl : k = xs.length := by omega
            have hvok : valsOk ss = true := by
              unfold valsOk
              rw [List.all_eq_true]
              intro x hx
              obtain ⟨j, hj, rfl⟩ := List.getElem_of_mem hx
              obtain ⟨i, hi, he⟩ := script_all HJ.out (j := j) (by omega)
              exact HSEEN.out i hi hi j hj he
            have HY := Lib.hid (HYES.out hvok)
            clear hvok
            go_wp2
            refine bodyPost_ret (v := .tuple #[.slice (some ⟨w.heap.size, 0, none⟩) 3 3, .int .i64 (spRun ss (xs.take xs.length) base).2]) (by simp [results, Try.results14, go_sem]) rfl ?_
            rw [HY.out.1, HY.out.2]
            have h3 := HO.out
            rw [List.take_length] at h3 ⊢
            have hln : (spRun ss xs base).1.length = 3 := by unfold spRun; rw [spRun_len]; rfl
            rw [hln]
            exact ⟨_, _, rfl, h3, HB.out⟩
    · have hl' : ((ss.length : Int) != 3) = true := by simp [bne_iff_ne]; omega
      have HN := Lib.hid (sp_no (xs := xs) (ss := ss) (base := base) (by unfold spOk; rw [decide_eq_false hl, Bool.and_false]; rfl))
      clear hl hj
      go_enter Try.func14, Try.ntmps14
      go_wp2_with fail
      refine (HV.out _).mono ?_
      rintro e w1 ⟨rfl, s1⟩
      rw [HJ.out]
      have hb1 := HBA.out.trans (s1.mono HBA.out.size)
      go_wp2
      refine bodyPost_ret (v := .tuple #[.slice (some ⟨w1.heap.size, 0, none⟩) 0 0, .int .i64 (-1)]) (by simp [results, Try.results14, go_sem]) rfl ?_
      rw [HN.out.1, HN.out.2]
      exact ⟨_, _, rfl, World.ownsRow_lit (base := w.heap.size) (e := 3) (size := 1) w1 #[] 0 hb1.size (by unfold maxLen; omega) rfl, hb1.alloc hb1.size _⟩
end Go.Proofs.Ythjjbgpeajeneaa
