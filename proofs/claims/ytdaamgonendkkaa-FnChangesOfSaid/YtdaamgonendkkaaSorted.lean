/- Contract of the program's sorting of texts, each once. Condition: the size. -/
import Derived.Test.YtdaamgonendkkaaRows
import Derived.Test.YtdaamgonendkkaaBase
import Derived.Test.YtdaamgonendkkaaBase2
import Derived.Test.YtdaamgonendkkaaName
import Derived.Test.YtdaamgonendkkaaSlt
import Derived.Test.YtdaamgonendkkaaShelf
import Derived.WalkKit
import Derived.WalkSpells
import Derived.WalkLawsBesides
import Derived.Handy
import Derived.BigQuiet
import Derived.Deep.RegionHeld3
import Derived.Deep.DrawnRows
import Derived.Deep.QuietTactic
import Derived.Sort.OwnSorted
import Derived.Lib.OwnBridge
import Derived.Lib.RowBridge
import Derived.Lib.SlicesCompact
namespace Go.Proofs.Ytdaamgonendkkaa
open Go Go.RowKit

def mk8 (l : List UInt8) : ByteArray := ⟨l.toArray⟩
theorem texts_mk (ls : List (List UInt8)) : texts (ls.map mk8) = ls.map encStr := by
  unfold texts
  rw [List.map_map]
  rfl
theorem texts_enc (ns : List ByteArray) : texts ns = (ns.map (·.data.toList)).map encStr := (Lib.map_encStr ns).symm
/-- Behind Sort and Compact of a row of the call's own. -/
theorem own_sortc {w w1 : World} {g cap n nn q : Nat} {os : Array Obj} {ss : List (List UInt8)} (hown : w1.ownsRow w.heap.size 9 1 (.slice (some ⟨g, 0, none⟩) n cap) n (ss.map encStr)) (hbel : Below w.heap.size w w1) (hbg : w.heap.size ≤ g) (hlen : ss.length = n) :
    (Sort.putRow encStr (Sort.ahead (Sort.grow (Sort.putRow encStr (Sort.ahead w1 nn) g 0 (ss.mergeSort fun x y => decide (x ≤ y)).toArray) os) q) g 0 (Lib.compact (ss.mergeSort fun x y => decide (x ≤ y)) ++ List.replicate (n - (Lib.compact (ss.mergeSort fun x y => decide (x ≤ y))).length) []).toArray).ownsRow w.heap.size 9 1 (.slice (some ⟨g, 0, none⟩) (Lib.compact (ss.mergeSort fun x y => decide (x ≤ y))).length cap) (Lib.compact (ss.mergeSort fun x y => decide (x ≤ y))).length ((Lib.compact (ss.mergeSort fun x y => decide (x ≤ y))).map encStr) ∧
    Below w.heap.size w (Sort.putRow encStr (Sort.ahead (Sort.grow (Sort.putRow encStr (Sort.ahead w1 nn) g 0 (ss.mergeSort fun x y => decide (x ≤ y)).toArray) os) q) g 0 (Lib.compact (ss.mergeSort fun x y => decide (x ≤ y)) ++ List.replicate (n - (Lib.compact (ss.mergeSort fun x y => decide (x ≤ y))).length) []).toArray) ∧
    (Sort.grow (Sort.putRow encStr (Sort.ahead w1 nn) g 0 (ss.mergeSort fun x y => decide (x ≤ y)).toArray) os).ownsRow w.heap.size 9 1 (.slice (some ⟨g, 0, none⟩) n cap) n ((ss.mergeSort fun x y => decide (x ≤ y)).map encStr) := by
  have hl2 : (ss.mergeSort fun x y => decide (x ≤ y)).length = ss.length := List.length_mergeSort ss
  have hle := Lib.compact_length_le (ss.mergeSort fun x y => decide (x ≤ y))
  subst hlen
  rcases hown.2 with ⟨h0, _⟩ | ⟨g', cap', cur, hv, hbase, hb, h1, h2, h3, h4⟩
  · cases h0
  cases hv
  have hs := ownsRow_sorted (n := nn) (os := os) (ts := ss.mergeSort fun x y => decide (x ≤ y)) hl2 hbase hb h1 h2 h3
  have hc := Lib.ownsRow_putRow (q := q) (k := (Lib.compact (ss.mergeSort fun x y => decide (x ≤ y))).length) (ys := Lib.compact (ss.mergeSort fun x y => decide (x ≤ y)) ++ List.replicate (ss.length - (Lib.compact (ss.mergeSort fun x y => decide (x ≤ y))).length) []) hs (by simp; omega) (by omega)
  rw [List.take_left] at hc
  exact ⟨hc, Lib.below_putRow (hbel.grown (grownBy_sorted _) hbel.size (fun j hj => by cases hj; exact hbase)) hbg, hs⟩
theorem own_sliceT {w : World} {base n : Nat} {v : Value} {xs : List Value} (h : w.ownsRow base 9 1 v n xs) : ∃ A c, v = .slice A n c := by
  rcases h.2 with ⟨hv, hn⟩ | ⟨g, cap, cur, hv, _⟩
  · exact ⟨none, 0, by rw [hv, hn]⟩
  · exact ⟨_, _, hv⟩
theorem sortL_nil {ns : List ByteArray} (h : ns.length = 0) : sortL ns = [] := by
  have := sortL_len ns
  exact List.eq_nil_of_length_eq_zero (by omega)
set_option maxRecDepth 100000 in
set_option maxHeartbeats 2000000 in
theorem sorted_any {A : Option Addr} {c B : Nat} (ns : List ByteArray) (w : World) (h1 : Reads w B 1 A ns.length (texts ns)) (hm : ns.length ≤ 40) :
    Calls Try.prog 84 #[.slice A ns.length c] w (Fresh 9 1 w (sortL ns).length (texts ((sortL ns).map mk8))) := by
  rcases Nat.eq_zero_or_pos ns.length with h0 | h0
  · rw [sortL_nil h0, h0]
    clear h0 h1 hm
    cases A with
    | none =>
      go_enter Try.func84, Try.ntmps84
      go_wp2_with fail
      refine (Try.slices_Clone_string_nil 0 c w).mono ?_
      rintro e w1 ⟨rfl, hw⟩
      subst hw
      go_wp2_with fail
      refine (Try.slices_Sort_string_none none 0 w1).mono ?_
      rintro e w2 ⟨rfl, hw⟩
      subst hw
      go_wp2_with fail
      refine (Try.slices_Compact_string_empty none 0 w2).mono ?_
      rintro e w3 ⟨rfl, hw⟩
      subst hw
      go_wp2_with fail
      refine (Try.slices_Clone_string_nil 0 0 w3).mono ?_
      rintro e w4 ⟨rfl, hw⟩
      subst hw
      go_wp2
      go_ret
      exact ⟨none, 0, rfl, ⟨rfl, .inl ⟨rfl, rfl⟩⟩, Below.refl _ _⟩
    | some a =>
      go_enter Try.func84, Try.ntmps84
      go_wp2_with fail
      refine (Try.slices_Clone_string_zero a c w).mono ?_
      rintro e w1 ⟨v, rfl, ho, hne, hb⟩
      obtain ⟨g, cap, rfl, _⟩ := Lib.holds_of_ownsRow (enc := encStr) (zs := []) ho hne
      clear ho hne
      go_wp2_with fail
      refine (Try.slices_Sort_string_none (some ⟨g, 0, none⟩) cap w1).mono ?_
      rintro e w2 ⟨rfl, hw⟩
      subst hw
      go_wp2_with fail
      refine (Try.slices_Compact_string_empty (some ⟨g, 0, none⟩) cap w2).mono ?_
      rintro e w3 ⟨rfl, hw⟩
      subst hw
      go_wp2_with fail
      refine (Try.slices_Clone_string_zero ⟨g, 0, none⟩ cap w3).mono ?_
      rintro e w4 ⟨v2, rfl, ho2, _, hb2⟩
      obtain ⟨A2, c2, rfl⟩ := own_sliceT ho2
      have hb3 := hb.trans (hb2.mono hb.size)
      have HO := Lib.hid (own_base ho2 hb.size)
      clear ho2 hb hb2
      go_wp2
      go_ret
      exact ⟨A2, c2, rfl, HO.out, hb3⟩
  · obtain ⟨b, off, rfl, _, hcs⟩ := h1.row_ h0 (by omega)
    have HC := Lib.hid (Try.slices_Clone_string b off ns.length c ns w (Nat.le_refl _) (by omega) (fun j hj => by
      rw [hcs j _ (texts_get ns j hj), List.getD_eq_getElem?_getD, List.getElem?_eq_getElem hj]
      rfl))
    clear hcs h1
    go_enter Try.func84, Try.ntmps84
    go_wp2_with fail
    refine HC.out.mono ?_
    rintro e w1 ⟨v, rfl, ho, hne, hb⟩
    rw [List.take_of_length_le (Nat.le_refl _), ← Lib.map_encStr ns] at ho
    obtain ⟨g, cap, rfl, hbg, hgl, hnc, hcm, hzl, hH⟩ := Lib.holds_of_ownsRow ho hne
    have HSO := Lib.hid (Try.slices_Sort_string g 0 cap (ns.map (·.data.toList)) w1 hH hgl (by rw [hzl]; omega))
    rw [hzl] at HSO
    have HO1 := Lib.hid ho
    have HB1 := Lib.hid hb
    clear ho hne hb hH HC
    go_wp2_with fail
    refine HSO.out.mono ?_
    rintro e w2 ⟨rfl, nn, os, hw⟩
    have hkey := fun q => own_sortc (nn := nn) (os := os) (q := q) HO1.out HB1.out hbg hzl
    rw [← hw] at hkey
    have HKEY := Lib.hid hkey
    have ho2 := (hkey 0).2.2
    obtain ⟨g', cap', e2, _, _, _, _, hzl2, hH2⟩ := Lib.holds_of_ownsRow ho2 (by simp)
    injection e2 with e2 _ e3
    injection e2 with e2
    injection e2 with e2
    subst e2 e3
    have HCO := Lib.hid (Try.slices_Compact_string g 0 cap ((ns.map (·.data.toList)).mergeSort fun x y => decide (x ≤ y)) w2 hH2 (by rw [hzl2]; omega) (by rw [hzl2]; exact hnc))
    rw [hzl2] at HCO
    clear hkey ho2 hH2 hw HSO HO1 HB1
    go_wp2_with fail
    refine HCO.out.mono ?_
    rintro e w3 ⟨rfl, q, hw3⟩
    have hk := HKEY.out q
    rw [← hw3] at hk
    have HO3 := Lib.hid hk.1
    have HB3 := Lib.hid hk.2.1
    clear hk hw3 HKEY HCO hzl2
    have hsl : (Lib.compact ((ns.map (·.data.toList)).mergeSort fun x y => decide (x ≤ y))).length ≤ ns.length := sortL_len ns
    have HE : Hid (sortL ns = Lib.compact ((ns.map (·.data.toList)).mergeSort fun x y => decide (x ≤ y))) := rfl
    generalize Lib.compact ((ns.map (·.data.toList)).mergeSort fun x y => decide (x ≤ y)) = zs at *
    have hml : (zs.map mk8).length = zs.length := by simp
    have HC2 := Lib.hid (Try.slices_Clone_string g 0 zs.length cap (zs.map mk8) w3 (by omega) (by omega) (fun j hj => by
      have hj' : j < zs.length := by omega
      rw [Nat.zero_add, HO3.out.cellAt j (by omega), List.getElem?_map, List.getElem?_eq_getElem hj', List.getD_eq_getElem?_getD, List.getElem?_map, List.getElem?_eq_getElem hj']
      rfl))
    clear HO3 hzl
    go_wp2_with fail
    refine HC2.out.mono ?_
    rintro e w4 ⟨v2, rfl, ho4, _, hb4⟩
    rw [List.take_of_length_le (by omega)] at ho4
    obtain ⟨A2, c2, rfl⟩ := own_sliceT ho4
    have hb5 := HB3.out.trans (hb4.mono HB3.out.size)
    have HO4 := Lib.hid (own_base ho4 HB3.out.size)
    clear ho4 hb4 HC2 hml
    go_wp2
    go_ret
    rw [HE.out]
    exact ⟨A2, c2, rfl, HO4.out, hb5⟩
end Go.Proofs.Ytdaamgonendkkaa
