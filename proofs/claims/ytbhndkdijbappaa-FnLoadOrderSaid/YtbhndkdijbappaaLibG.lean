/- Contracts of the two GiverOf. No condition but the sizes. -/
import Derived.Test.YtbhndkdijbappaaRows
import Derived.Test.YtbhndkdijbappaaBase
import Derived.Test.YtbhndkdijbappaaBase2
import Derived.Test.YtbhndkdijbappaaOnly
import Derived.Test.YtbhndkdijbappaaIn
import Derived.Test.YtbhndkdijbappaaName
import Derived.Test.YtbhndkdijbappaaFindS
import Derived.Test.YtbhndkdijbappaaIdxI
import Derived.Test.YtbhndkdijbappaaIdxS
import Derived.Test.YtbhndkdijbappaaLb
import Derived.Test.YtbhndkdijbappaaFindLb
import Derived.Test.YtbhndkdijbappaaLibs
import Derived.Test.YtbhndkdijbappaaLibV
import Derived.Test.YtbhndkdijbappaaLibW
import Derived.Test.YtbhndkdijbappaaLoadP
import Derived.Test.YtbhndkdijbappaaLoadI
import Derived.Test.YtbhndkdijbappaaLoadS
import Derived.WalkKit
import Derived.WalkSpells
import Derived.WalkLawsBesides
import Derived.Handy
import Derived.BigQuiet
import Derived.Deep.RegionHeld3
import Derived.Deep.DrawnRows
import Derived.Deep.QuietTactic
namespace Go.Proofs.Ytbhndkdijbappaa
open Go Go.RowKit

def hasS (xs : List ByteArray) (z : ByteArray) : Bool := xs.any fun x => decide (x = z)
theorem hasS_iff {xs : List ByteArray} {z : ByteArray} : hasS xs z = true ↔ z ∈ xs := by simp [hasS]
theorem hasS_no {xs : List ByteArray} {z : ByteArray} : hasS xs z = false ↔ z ∉ xs := by rw [← hasS_iff]; simp
def lGives (vs : List LbV) (x : Int) : List ByteArray := (vs[x.toNat]?.map (fun v => v.2.2)).getD []
theorem lGives_at {ls : List Lb} {q : Nat} (h : q < ls.length) : lGives (ls.map Lb.v) (q : Int) = ls[q].gives := by
  unfold lGives
  rw [Int.toNat_natCast, List.getElem?_map, List.getElem?_eq_getElem h]
  rfl
/-- The first library that is loaded and gives a name. -/
def giverL (vs : List LbV) (nm wt : ByteArray) : Int := ((loadL vs nm).find? fun x => hasS (lGives vs x) wt).getD (-1)
theorem giver_at {vs : List LbV} {nm wt : ByteArray} {k : Nat} (h : k < (loadL vs nm).length) (hp : wt ∈ lGives vs (loadL vs nm)[k]) (hb : ∀ j, (h : j < (loadL vs nm).length) → j < k → wt ∉ lGives vs (loadL vs nm)[j]) : giverL vs nm wt = (loadL vs nm)[k] := by
  have e : (loadL vs nm).find? (fun x => hasS (lGives vs x) wt) = some (loadL vs nm)[k] := by
    rw [List.find?_eq_some_iff_getElem]
    exact ⟨hasS_iff.2 hp, k, h, rfl, fun j hj => by simpa using hasS_no.2 (hb j (by omega) hj)⟩
  unfold giverL
  rw [e]
  rfl
theorem giver_no {vs : List LbV} {nm wt : ByteArray} (hb : ∀ j, (h : j < (loadL vs nm).length) → wt ∉ lGives vs (loadL vs nm)[j]) : giverL vs nm wt = -1 := by
  have e : (loadL vs nm).find? (fun x => hasS (lGives vs x) wt) = none := by
    rw [List.find?_eq_none]
    intro x hx
    obtain ⟨j, hj, rfl⟩ := List.getElem_of_mem hx
    simpa using hasS_no.2 (hb j hj)
  unfold giverL
  rw [e]
  rfl
set_option maxRecDepth 100000 in
set_option maxHeartbeats 4000000 in
theorem implGiver_any {A : Option Addr} {c B : Nat} (ls : List Lb) (nm wt : ByteArray) (w : World) (h1 : LbAt w B A ls) (hB : B ≤ w.heap.size) (hm : ls.length ≤ 1048576) (hc : ls.length ≤ c) (hs : ∀ l ∈ ls, l.small) :
    Calls Try.prog 27 #[.slice A ls.length c, .string nm, .string wt] w (Gives w (.int .i64 (giverL (ls.map Lb.v) nm wt))) := by
  have H1 := Lib.hid (h1.more hB)
  have HS := Lib.hid hs
  have HLD := Lib.hid (implLoad_any (c := c) ls nm w h1 hB hm hc hs)
  have HGV := Lib.hid (fun q (h : q < ls.length) => lGives_at (ls := ls) h)
  have HLL : Hid ((ls.map Lb.v).length = ls.length) := List.length_map _
  have HGD := Lib.hid (loadL_good (ls.map Lb.v) nm)
  have hln := loadL_len (ls.map Lb.v) nm
  have HGA := Lib.hid (fun k h hp hb => giver_at (vs := ls.map Lb.v) (nm := nm) (wt := wt) (k := k) h hp hb)
  have HGN := Lib.hid (fun hb => giver_no (vs := ls.map Lb.v) (nm := nm) (wt := wt) hb)
  clear h1 hs
  generalize loadL (ls.map Lb.v) nm = out at *
  generalize giverL (ls.map Lb.v) nm wt = res at *
  generalize ls.map Lb.v = vs at *
  go_enter Try.func27, Try.ntmps27
  go_wp2_with fail
  refine HLD.out.mono ?_
  rintro e w1 ⟨A1, c1, rfl, o1, s1⟩
  have HO1 := Lib.hid o1
  have HB1 := Lib.hid s1
  clear o1 s1
  go_wp2
  go_loopw [13] (fun iv wr => ∃ k : Nat, k ≤ out.length ∧ iv = .int .i64 k ∧ Hid (∀ j, (h : j < out.length) → j < k → wt ∉ lGives vs out[j]) ∧ Hid (Below w.heap.size w wr) ∧ Hid (wr.ownsRow w.heap.size 3 1 (.slice A1 out.length c1) out.length (nums .i64 out))) (fun iv _ => out.length - (intOf iv).toNat)
  case atStart => exact ⟨0, Nat.zero_le _, rfl, fun j _ hj => by omega, HB1, HO1⟩
  case round =>
    clear HB1 HO1
    obtain ⟨k, hk, rfl, HA, HB, HO⟩ := hrel
    by_cases hlt : k < out.length
    · skip
      have hgb := HGD.out.bd _ (List.getElem_mem hlt)
      obtain ⟨q, hq⟩ : ∃ q : Nat, out[k] = (q : Int) := ⟨out[k].toNat, by omega⟩
      have hql : q < ls.length := by have := HLL.out; omega
      have HGQ := Lib.hid (HGV.out q hql)
      obtain ⟨ad, u1, rfl, hbl, hx1, hc1⟩ := (Reads.of_own HO.out).at_ hlt
      rw [nums_get _ _ hlt] at hx1
      injection hx1 with hx1
      subst hx1
      obtain ⟨b, off, rfl, e0, e1, e2⟩ := need_at (H1.out.below HB.out) hql
      have HIN := Lib.hid (((H1.out.2 _ (List.getElem_mem hql)).below HB.out).2)
      obtain ⟨_, _, _, hsl, _⟩ := HS.out _ (List.getElem_mem hql)
      have HX1 := Lib.hid (HGA.out k hlt)
      rw [hq] at hc1 HX1
      have HQ := Lib.hid hq
      have hql' : (q : Int) < (ls.length : Int) := by omega
      clear e0 e1 hgb hq
      have HC := Lib.hid (containsStr_any (c := ls[q].givesc) wt ls[q].gives wr HIN.out (by unfold maxLen; omega))
      rw [show (ls[q].gives.any fun x => decide (x = wt)) = hasS ls[q].gives wt from rfl] at HC
      rw [HGQ.out] at HX1
      by_cases hmem : wt ∈ ls[q].gives
      · rw [hasS_iff.2 hmem] at HC
        have HR := Lib.hid (HX1.out hmem HA.out)
        clear hmem
        go_wp2_with fail
        refine HC.out.mono ?_
        rintro e w' ⟨rfl, rfl⟩
        go_wp2
        go_ret
        rw [HR.out]
        exact ⟨rfl, HB.out⟩
      · rw [hasS_no.2 hmem] at HC
        have HM : Hid (wt ∉ lGives vs out[k]) := by rw [HQ.out, HGQ.out]; exact hmem
        clear hmem
        go_wp2_with fail
        refine HC.out.mono ?_
        rintro e w' ⟨rfl, rfl⟩
        go_wp2
        go_roundw
        case rel => exact ⟨k + 1, by omega, by go_num, Lib.hid (fun j h hj => by
          by_cases hjk : j < k
          · exact HA.out j h hjk
          · obtain rfl : j = k := by omega
            exact HM.out), HB, HO⟩
        case measure => simp [intOf]; omega
    · have HR := Lib.hid (HGN.out (fun j h => HA.out j h (by omega)))
      go_wp2
      go_ret
      rw [HR.out]
      exact ⟨rfl, HB.out⟩
set_option maxRecDepth 100000 in
set_option maxHeartbeats 4000000 in
theorem specGiver_any {A : Option Addr} {c B : Nat} (ls : List Lb) (nm wt : ByteArray) (w : World) (h1 : LbAt w B A ls) (hB : B ≤ w.heap.size) (hm : ls.length ≤ 1048576) (hc : ls.length ≤ c) (hs : ∀ l ∈ ls, l.small) :
    Calls Try.prog 28 #[.slice A ls.length c, .string nm, .string wt] w (Gives w (.int .i64 (giverL (ls.map Lb.v) nm wt))) := by
  have H1 := Lib.hid (h1.more hB)
  have HS := Lib.hid hs
  have HLD := Lib.hid (specLoad_any (c := c) ls nm w h1 hB hm hc hs)
  have HGV := Lib.hid (fun q (h : q < ls.length) => lGives_at (ls := ls) h)
  have HLL : Hid ((ls.map Lb.v).length = ls.length) := List.length_map _
  have HGD := Lib.hid (loadL_good (ls.map Lb.v) nm)
  have hln := loadL_len (ls.map Lb.v) nm
  have HGA := Lib.hid (fun k h hp hb => giver_at (vs := ls.map Lb.v) (nm := nm) (wt := wt) (k := k) h hp hb)
  have HGN := Lib.hid (fun hb => giver_no (vs := ls.map Lb.v) (nm := nm) (wt := wt) hb)
  clear h1 hs
  generalize loadL (ls.map Lb.v) nm = out at *
  generalize giverL (ls.map Lb.v) nm wt = res at *
  generalize ls.map Lb.v = vs at *
  go_enter Try.func28, Try.ntmps28
  go_wp2_with fail
  refine HLD.out.mono ?_
  rintro e w1 ⟨A1, c1, rfl, o1, s1⟩
  have HO1 := Lib.hid o1
  have HB1 := Lib.hid s1
  clear o1 s1
  go_wp2
  go_loopw [8] (fun iv wr => ∃ k : Nat, k ≤ out.length ∧ iv = .int .i64 k ∧ Hid (∀ j, (h : j < out.length) → j < k → wt ∉ lGives vs out[j]) ∧ Hid (Below w.heap.size w wr) ∧ Hid (wr.ownsRow w.heap.size 3 1 (.slice A1 out.length c1) out.length (nums .i64 out))) (fun iv _ => out.length - (intOf iv).toNat)
  case atStart => exact ⟨0, Nat.zero_le _, rfl, fun j _ hj => by omega, HB1, HO1⟩
  case round =>
    clear HB1 HO1
    obtain ⟨k, hk, rfl, HA, HB, HO⟩ := hrel
    by_cases hlt : k < out.length
    · skip
      have hgb := HGD.out.bd _ (List.getElem_mem hlt)
      obtain ⟨q, hq⟩ : ∃ q : Nat, out[k] = (q : Int) := ⟨out[k].toNat, by omega⟩
      have hql : q < ls.length := by have := HLL.out; omega
      have HGQ := Lib.hid (HGV.out q hql)
      obtain ⟨ad, u1, rfl, hbl, hx1, hc1⟩ := (Reads.of_own HO.out).at_ hlt
      rw [nums_get _ _ hlt] at hx1
      injection hx1 with hx1
      subst hx1
      obtain ⟨b, off, rfl, e0, e1, e2⟩ := need_at (H1.out.below HB.out) hql
      have HIN := Lib.hid (((H1.out.2 _ (List.getElem_mem hql)).below HB.out).2)
      obtain ⟨_, _, _, hsl, _⟩ := HS.out _ (List.getElem_mem hql)
      have HX1 := Lib.hid (HGA.out k hlt)
      rw [hq] at hc1 HX1
      have HQ := Lib.hid hq
      have hql' : (q : Int) < (ls.length : Int) := by omega
      clear e0 e1 hgb hq
      rw [HGQ.out] at HX1
      generalize ls[q].givesA = GA at *
      generalize ls[q].givesc = gc at *
      generalize ls[q].gives = gs at *
      go_wp2
      obtain ⟨wo, hwo⟩ : ∃ wo : World, wo = wr := ⟨_, rfl⟩
      subst hwo
      go_loopw [10] (fun jv wr => ∃ j : Nat, j ≤ gs.length ∧ jv = .int .i64 j ∧ Hid (∀ i, (h : i < gs.length) → i < j → gs[i] ≠ wt) ∧ wr = wo) (fun jv _ => gs.length - (intOf jv).toNat)
      case atStart => exact ⟨0, Nat.zero_le _, rfl, fun j _ hj => by omega, rfl⟩
      case round =>
        obtain ⟨j, hj, rfl, HN, rfl⟩ := hrel
        by_cases hjl : j < gs.length
        · obtain ⟨ad2, u2, rfl, hbl2, hx2, hc2⟩ := HIN.out.at_ hjl
          rw [texts_get _ _ hjl] at hx2
          injection hx2 with hx2
          subst hx2
          by_cases he : gs[j] = wt
          · have HR := Lib.hid (HX1.out (by rw [← he]; exact List.getElem_mem hjl) HA.out)
            have ht : (gs[j].toList == wt.toList) = true := by simp [he]
            clear he
            go_wp2
            go_ret
            rw [HR.out]
            exact ⟨rfl, HB.out⟩
          · have HE := Lib.hid he
            have ht : (gs[j].toList == wt.toList) = false := by simpa using fun h => he (toList_inj h)
            clear he
            go_wp2
            go_roundw
            case rel => exact ⟨j + 1, by omega, by go_num, Lib.hid (fun i h hi => by
              by_cases hij : i < j
              · exact HN.out i h hij
              · obtain rfl : i = j := by omega
                exact HE.out), by first | rfl | trivial⟩
            case measure => simp [intOf]; omega
        · have HM : Hid (wt ∉ lGives vs out[k]) := by
            rw [HQ.out, HGQ.out]
            intro hm
            obtain ⟨i, hi, e⟩ := List.getElem_of_mem hm
            exact HN.out i hi (by omega) e
          go_wp2
          go_roundw
          case rel => exact ⟨k + 1, by omega, by go_num, Lib.hid (fun j h hj => by
            by_cases hjk : j < k
            · exact HA.out j h hjk
            · obtain rfl : j = k := by omega
              exact HM.out), HB, HO⟩
          case measure => simp [intOf]; omega
    · have HR := Lib.hid (HGN.out (fun j h => HA.out j h (by omega)))
      go_wp2
      go_ret
      rw [HR.out]
      exact ⟨rfl, HB.out⟩
end Go.Proofs.Ytbhndkdijbappaa
