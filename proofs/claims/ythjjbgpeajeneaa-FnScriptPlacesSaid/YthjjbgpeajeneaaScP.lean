/- Contracts of the two ScriptPlaces. Condition: not too many numbers. -/
import Derived.Test.YthjjbgpeajeneaaRows
import Derived.Test.YthjjbgpeajeneaaBase
import Derived.Test.YthjjbgpeajeneaaBase2
import Derived.Test.YthjjbgpeajeneaaIn
import Derived.Test.YthjjbgpeajeneaaIn2
import Derived.Test.YthjjbgpeajeneaaFindI
import Derived.Test.YthjjbgpeajeneaaAreV
import Derived.Test.YthjjbgpeajeneaaPart
import Derived.Test.YthjjbgpeajeneaaIdxI
import Derived.Test.YthjjbgpeajeneaaScrV
import Derived.Test.YthjjbgpeajeneaaScrW
import Derived.Test.YthjjbgpeajeneaaScrP
import Derived.WalkKit
import Derived.WalkSpells
import Derived.WalkLawsBesides
import Derived.Handy
import Derived.BigQuiet
import Derived.Deep.RegionHeld3
import Derived.Deep.DrawnRows
import Derived.Deep.QuietTactic
namespace Go.Proofs.Ythjjbgpeajeneaa
open Go Go.RowKit

def Fresh2 (t : TypeId) (size : Nat) (w : World) (n : Nat) (xs : List Value) (r : Value) (e : Ending) (w' : World) : Prop :=
  ∃ A c, e = .returned (.tuple #[.slice A n c, r]) ∧ w'.ownsRow w.heap.size t size (.slice A n c) n xs ∧ Below w.heap.size w w'
theorem sint_info : (Try.prog.info? 3).map (fun i => (i.zero, i.size, i.bytes)) = some (some (.int .i64 0), 1, 8) := by kernel_rfl
theorem nums_setP (k : IntKind) (l : List Int) (i : Nat) (v : Int) : (nums k l).set i (.int k v) = nums k (l.set i v) := by simp [nums, List.map_set]
theorem valsGet {xs : List Int} (h : valsOk xs = true) {k : Nat} (hk : k < xs.length) : 0 ≤ xs[k] ∧ xs[k] ≤ 60000 := by
  unfold valsOk at h
  rw [List.all_eq_true] at h
  exact inB_iff.1 (h _ (List.getElem_mem hk))
theorem valsNo {xs : List Int} {k : Nat} (hk : k < xs.length) (h : inB xs[k] 0 60000 = false) : valsOk xs = false := by
  unfold valsOk
  rw [List.all_eq_false]
  exact ⟨_, List.getElem_mem hk, by simp [h]⟩
theorem getDP {xs : List Int} {k : Nat} (hk : k < xs.length) : xs.getD k 0 = xs[k] := by rw [List.getD_eq_getElem?_getD, List.getElem?_eq_getElem hk]; rfl
set_option maxHeartbeats 1000000 in
theorem aligned_any (n al : Int) (w : World) (h0 : 0 ≤ n) (h1 : n ≤ 10000000) (ha : alOk al = true) : Calls Try.prog 32 #[.int .i64 n, .int .i64 al] w fun e w' => e = .returned (.int .i64 (upP n al)) ∧ w = w' := by
  have hb := alOk_bd ha
  have hu := upP_bd (n := n) ha
  have HU : Hid (upP n al = (n + al - 1) / al * al) := rfl
  rw [HU.out] at hu
  have h2 : ¬ al = 0 := by omega
  have hq : 0 ≤ (n + al - 1) / al ∧ (n + al - 1) / al ≤ 10000063 := by
    have h3 := Int.ediv_nonneg (a := n + al - 1) (b := al) (by omega) (by omega)
    have h4 : (n + al - 1) / al ≤ n + al - 1 := Int.ediv_le_self _ (by omega)
    omega
  obtain ⟨b1, b2⟩ := hb
  obtain ⟨u1, u2⟩ := hu
  clear ha
  obtain ⟨q, hqq⟩ : ∃ q, q = (n + al - 1) / al := ⟨_, rfl⟩
  rw [HU.out]
  go_enter Try.func32, Try.ntmps32
  go_wp2
  go_ret
  refine ⟨?_, rfl⟩
  first | rfl | (congr 2; exact IntWalk.wrap64_in _ (by omega)) | (congr 2; exact IntWalk.i64_in _ (by omega))

set_option maxRecDepth 100000 in
set_option maxHeartbeats 8000000 in
theorem implScriptPlaces_any {A1 A2 : Option Addr} {c1 c2 B1 B2 : Nat} (xs : List Prt) (ss : List Int) (base : Int) (w : World) (h1 : Reads w B1 2 A1 xs.length (xs.flatMap Prt.cells)) (hB1 : B1 ≤ w.heap.size) (h2 : Reads w B2 1 A2 ss.length (nums .i64 ss)) (hB2 : B2 ≤ w.heap.size) (hm1 : xs.length ≤ 1048576) (hm2 : ss.length ≤ 1048576) :
    Calls Try.prog 16 #[.slice A1 xs.length c1, .slice A2 ss.length c2, .int .i64 base] w (Fresh2 3 1 w (spL xs ss base).length (nums .i64 (spL xs ss base)) (.int .i64 (spE xs ss base))) := by
  obtain ⟨i0, hi0, hz0, hz1, hz2⟩ := info_parts sint_info
  have HV := Lib.hid (implScriptValid_any (c1 := c1) xs w h1 hB1 (by unfold maxLen; omega))
  have HAV := Lib.hid (fun w1 (hb : Below w.heap.size w w1) => areValues_any (A1 := A2) (c1 := c2) ss w1 ((h2.more hB2).below hb) hb.size (by unfold maxLen; omega))
  cases hj : scriptOk xs
  · have HJ := Lib.hid hj
    have HN := Lib.hid (sp_no (xs := xs) (ss := ss) (base := base) (by unfold spOk; rw [hj]; rfl))
    clear hj
    go_enter Try.func16, Try.ntmps16
    go_wp2_with fail
    refine HV.out.mono ?_
    rintro e w1 ⟨rfl, hb1⟩
    rw [HJ.out]
    go_wp2
    refine bodyPost_ret (v := .tuple #[.slice none 0 0, .int .i64 (-1)]) (by simp [results, Try.results16, go_sem]) rfl ?_
    rw [HN.out.1, HN.out.2]
    exact ⟨none, 0, rfl, World.ownsRow_nil _ _ _ _, hb1⟩
  · have HJ := Lib.hid hj
    by_cases hl : ss.length = 3
    · have hl' : ((ss.length : Int) != 3) = false := by simp [hl]
      have HL := Lib.hid hl
      have hl3 : ss.length ≤ 3 := by omega
      have hl4 : 3 ≤ ss.length := by omega
      cases hv : valsOk ss
      · have HVV := Lib.hid hv
        have HN := Lib.hid (sp_no (xs := xs) (ss := ss) (base := base) (by unfold spOk; rw [hv, Bool.false_and, Bool.and_false]))
        clear hj hv hl
        go_enter Try.func16, Try.ntmps16
        go_wp2_with fail
        refine HV.out.mono ?_
        rintro e w1 ⟨rfl, hb1⟩
        rw [HJ.out]
        go_wp2_with fail
        refine (HAV.out _ hb1).mono ?_
        rintro e w2 ⟨rfl, hb2⟩
        rw [HVV.out]
        go_wp2
        refine bodyPost_ret (v := .tuple #[.slice none 0 0, .int .i64 (-1)]) (by simp [results, Try.results16, go_sem]) rfl ?_
        rw [HN.out.1, HN.out.2]
        exact ⟨none, 0, rfl, World.ownsRow_nil _ _ _ _, hb1.trans (hb2.mono hb1.size)⟩
      · have HVV := Lib.hid hv
        cases hbs : inB base 0 60000
        · have HBS := Lib.hid hbs
          have HN := Lib.hid (sp_no (xs := xs) (ss := ss) (base := base) (by unfold spOk; rw [hbs, Bool.and_false, Bool.and_false]))
          clear hj hv hl hbs
          go_enter Try.func16, Try.ntmps16
          go_wp2_with fail
          refine HV.out.mono ?_
          rintro e w1 ⟨rfl, hb1⟩
          rw [HJ.out]
          go_wp2_with fail
          refine (HAV.out _ hb1).mono ?_
          rintro e w2 ⟨rfl, hb2⟩
          rw [HVV.out]
          go_wp2_with fail
          refine (within_any _ _ _ _).mono ?_
          rintro e w' ⟨rfl, rfl⟩
          rw [HBS.out]
          go_wp2
          refine bodyPost_ret (v := .tuple #[.slice none 0 0, .int .i64 (-1)]) (by simp [results, Try.results16, go_sem]) rfl ?_
          rw [HN.out.1, HN.out.2]
          exact ⟨none, 0, rfl, World.ownsRow_nil _ _ _ _, hb1.trans (hb2.mono hb1.size)⟩
        · have HBS := Lib.hid hbs
          have HY := Lib.hid (sp_yes (xs := xs) (ss := ss) (base := base) (by unfold spOk; rw [hj, hv, hbs, decide_eq_true hl]; rfl))
          have hxl := script_len hj
          have hx3 : xs.length ≤ 3 := by omega
          obtain ⟨bs0, bs1⟩ := inB_iff.1 hbs
          clear hj hv hl hbs hxl
          go_enter Try.func16, Try.ntmps16
          go_wp2_with fail
          refine HV.out.mono ?_
          rintro e w1 ⟨rfl, hb1⟩
          rw [HJ.out]
          go_wp2_with fail
          refine (HAV.out _ hb1).mono ?_
          rintro e w2 ⟨rfl, hb2⟩
          rw [HVV.out]
          go_wp2_with fail
          refine (within_any _ _ _ _).mono ?_
          rintro e w' ⟨rfl, rfl⟩
          rw [HBS.out]
          have hb3 := hb1.trans (hb2.mono hb1.size)
          obtain ⟨w3, hmk, ho3, hg3⟩ := run_make_full (P := Try.prog) w2 w.heap.size 35 3 i0 _ 1 Try.underlying35 hi0 hz0 hz1 .i64 .i64 3 (by rw [hz2]; omega) (by unfold maxLen; omega) hb3.size
          have hmk' : (Instr.makeSlice 35 (.int .i64 3) (.int .i64 3)).run Try.prog w2 = .ok (.slice (some ⟨w2.heap.size, 0, none⟩) 3 3) w3 := hmk
          have e3 : (madeCells (Value.int .i64 0).cells (3 * 1)).toList = nums .i64 [0, 0, 0] := by
            have := toList_madeCells_one (.int .i64 0) 3
            simpa [nums, Value.cells, List.replicate] using this
          rw [e3] at ho3
          have HB3 := Lib.hid (hb3.grown hg3 hb3.size (by simp))
          have HO3 := Lib.hid ho3
          have hwz := hb3.size
          clear hmk ho3 hg3 e3 hb1 hb2 hb3
          go_wp2
          clear hmk'
          go_loopw [9, 34] (fun av i wr => ∃ k : Nat, k ≤ xs.length ∧ i = .int .i64 k ∧ av = .int .i64 (spRun ss (xs.take k) base).2 ∧ Hid (0 ≤ (spRun ss (xs.take k) base).2 ∧ (spRun ss (xs.take k) base).2 ≤ 60000 + 60063 * (k : Int)) ∧ Hid (Below w.heap.size w wr) ∧ Hid (wr.ownsRow w.heap.size 3 1 (.slice (some ⟨w2.heap.size, 0, none⟩) 3 3) 3 (nums .i64 (spRun ss (xs.take k) base).1))) (fun _ i _ => xs.length - (intOf i).toNat)
          case atStart => exact ⟨0, Nat.zero_le _, rfl, rfl, ⟨bs0, by show base ≤ 60000 + 60063 * 0; omega⟩, HB3, HO3⟩
          case round =>
            obtain ⟨k, hk, rfl, rfl, HS, HB, HO⟩ := hrel
            clear HB3 HO3
            by_cases hke : k < xs.length
            · obtain ⟨b, off, rfl, hbl, e0, e1⟩ := Prt.at_ ((h1.more hB1).below HB.out) hke
              obtain ⟨⟨kd0, kd1⟩, hal⟩ := script_at HJ.out hke
              obtain ⟨j, hjk⟩ : ∃ j : Nat, xs[k].kind = (j : Int) + 1 := ⟨(xs[k].kind - 1).toNat, by omega⟩
              have hj3 : j < 3 := by omega
              have hjs : j < ss.length := by omega
              obtain ⟨b2, off2, rfl, hbl2, hcs⟩ := ((h2.more hB2).below HB.out).row_ (by omega) (by omega)
              have hcj := hcs j _ (nums_get _ _ hjs)
              have hsj := valsGet HVV.out hjs
              have HT : Hid (spRun ss (xs.take (k + 1)) base = ((spRun ss (xs.take k) base).1.set j (upP (spRun ss (xs.take k) base).2 xs[k].align), upP (spRun ss (xs.take k) base).2 xs[k].align + ss[j])) := by
                have e : ((j : Int) + 1 - 1).toNat = j := by omega
                rw [spRun_take hke]
                unfold spStep
                rw [hjk, e, getDP hjs]
                exact rfl
              have hup := upP_bd (n := (spRun ss (xs.take k) base).2) hal
              have hs := HS.out
              have HAL := Lib.hid hal
              rw [hjk] at e0
              have hst := fun u => HO.out.stored j (.int .i64 u)
              generalize (spRun ss (xs.take k) base).1 = ol at *
              generalize (spRun ss (xs.take k) base).2 = at0 at *
              generalize ss[j] = sz at *
              generalize xs[k].align = al at *
              obtain ⟨hs0, hs1⟩ := hs
              have HAG := Lib.hid (aligned_any at0 al (wr.alloc (.cells #[.int .i64 ((j : Int) + 1), .int .i64 al] 33)) hs0 (by omega) HAL.out)
              obtain ⟨a1, ha1⟩ : ∃ a1, a1 = upP at0 al := ⟨_, rfl⟩
              rw [← ha1] at HAG HT hup
              obtain ⟨hup0, hup1⟩ := hup
              obtain ⟨hsj0, hsj1⟩ := hsj
              have HO2 := Lib.hid (HO.out.alloc (.cells #[.int .i64 ((j : Int) + 1), .int .i64 al] 33))
              have HB2' := Lib.hid (HB.out.alloc HB.out.size (.cells #[.int .i64 ((j : Int) + 1), .int .i64 al] 33))
              have hst := HO.out.stored j (.int .i64 a1)
              have hf3 : (wr.alloc (.cells #[.int .i64 ((j : Int) + 1), .int .i64 al] 33)).frozen? ⟨w2.heap.size, j, none⟩ = false := HO2.out.frozenAt j
              obtain ⟨u, hcu⟩ : ∃ u, wr.cell? ⟨w2.heap.size, j, none⟩ = some u := ⟨_, (HO.out.cellAt j (by omega)).trans (List.getElem?_eq_getElem (by have := HO.out.1; omega))⟩
              have hf3' : wr.frozen? ⟨w2.heap.size, j, none⟩ = false := HO.out.frozenAt j
              have HST := Lib.hid hst
              have hgw := (own_up HO.out _ rfl).2
              have hgw' : w2.heap.size < wr.heap.size := hgw
              have hbz := HB.out.size
              have n1 : ¬ b2 = w2.heap.size := by omega
              have n2 : ¬ w2.heap.size = b2 := by omega
              have n3 : ¬ w2.heap.size = wr.heap.size := by omega
              have n4 : ¬ wr.heap.size = w2.heap.size := by omega
              have n5 : ¬ b2 = wr.heap.size := by omega
              have n6 : ¬ wr.heap.size = b2 := by omega
              have hcj2 : ((wr.setCell ⟨w2.heap.size, j, none⟩ (.int .i64 a1)).alloc (.cells #[.int .i64 ((j : Int) + 1), .int .i64 al] 33)).cell? ⟨b2, off2 + j, none⟩ = some (.int .i64 sz) := by
                rw [World.cell?_alloc_lt _ _ _ (by simp [World.setCell]; omega), World.cell?_setCell_other _ _ _ _ (by intro e; exact n2 (congrArg Addr.block e))]
                exact hcj
              have j0 : (0 : Int) ≤ (j : Int) := Int.natCast_nonneg _
              have j1 : (j : Int) < 3 := by omega
              have j2 : (j : Int) < (ss.length : Int) := by omega
              clear hst hcs hgw ha1 hjk
              go_wp2_with fail
              refine HAG.out.mono ?_
              rintro e w' ⟨rfl, rfl⟩
              go_wp2
              go_roundw
              case rel =>
                refine ⟨k + 1, by omega, by go_num, by rw [HT.out], by rw [HT.out]; exact ⟨by show 0 ≤ a1 + sz; omega, by show a1 + sz ≤ 60000 + 60063 * ((k + 1 : Nat) : Int); omega⟩, Lib.hid ((HB.out.grown HST.out.2 hbz (by simp; omega)).alloc (Nat.le_trans hbz HST.out.2.size) _), ?_⟩
                rw [HT.out]
                have h := HST.out.1
                rw [nums_setP] at h
                exact h.alloc _
              case measure => simp [intOf]; omega
            · obtain rfl : k = xs.length := by omega
              have hol := HO.out.1
              go_wp2
              refine bodyPost_ret (v := .tuple #[.slice (some ⟨w2.heap.size, 0, none⟩) 3 3, .int .i64 (spRun ss (xs.take xs.length) base).2]) (by simp [results, Try.results16, go_sem]) rfl ?_
              rw [HY.out.1, HY.out.2]
              have h3 := HO.out
              rw [List.take_length] at h3 ⊢
              have hln : (spRun ss xs base).1.length = 3 := by unfold spRun; rw [spRun_len]; rfl
              rw [hln]
              exact ⟨_, _, rfl, h3, HB.out⟩
    · have hl' : ((ss.length : Int) != 3) = true := by simp [bne_iff_ne]; omega
      have HN := Lib.hid (sp_no (xs := xs) (ss := ss) (base := base) (by unfold spOk; rw [decide_eq_false hl, Bool.and_false]; rfl))
      clear hl hj
      go_enter Try.func16, Try.ntmps16
      go_wp2_with fail
      refine HV.out.mono ?_
      rintro e w1 ⟨rfl, hb1⟩
      rw [HJ.out]
      go_wp2
      refine bodyPost_ret (v := .tuple #[.slice none 0 0, .int .i64 (-1)]) (by simp [results, Try.results16, go_sem]) rfl ?_
      rw [HN.out.1, HN.out.2]
      exact ⟨none, 0, rfl, World.ownsRow_nil _ _ _ _, hb1⟩
end Go.Proofs.Ythjjbgpeajeneaa
