/- Contracts of the drawing of versions and of their texts. Condition: the size. -/
import Derived.Test.YtogdeekjfgbneaaDoorRows
import Derived.Test.YtogdeekjfgbneaaDoorBase
import Derived.Test.YtogdeekjfgbneaaDoorBase2
import Derived.Test.YtogdeekjfgbneaaDoorIn
import Derived.Test.YtogdeekjfgbneaaDoorName
import Derived.Test.YtogdeekjfgbneaaDoorVer
import Derived.Test.YtogdeekjfgbneaaDoorVerP
import Derived.Test.YtogdeekjfgbneaaDoorDec
import Derived.Test.YtogdeekjfgbneaaDoorVtx
import Derived.Test.YtogdeekjfgbneaaDoorVtf
import Derived.Test.YtogdeekjfgbneaaDoorPick
import Derived.Test.YtogdeekjfgbneaaDoorPick2
import Derived.Test.YtogdeekjfgbneaaDoorDrawN
import Derived.Test.YtogdeekjfgbneaaDoorDrawVD
import Derived.WalkKit
import Derived.WalkSpells
import Derived.WalkLawsBesides
import Derived.Handy
import Derived.BigQuiet
import Derived.Deep.RegionHeld3
import Derived.Deep.DrawnRows
import Derived.Deep.QuietTactic
namespace Go.Proofs.YtogdeekjfgbneaaDoor
open Go Go.RowKit

def DrewVerT (w : World) (e : Ending) (w' : World) : Prop := ∃ v : Ver, e = .returned v.val ∧ (v.name.size ≤ 9 ∧ 0 ≤ v.number ∧ v.number ≤ 100) ∧ Below w.heap.size w w'
set_option maxRecDepth 100000 in
set_option maxHeartbeats 4000000 in
theorem DrawVersionText_any {A : Option Addr} {c : Nat} (xs : List Int) (w : World) (h1 : Reads w w.heap.size 1 A xs.length (nums .u8 xs)) (hx : ∀ x ∈ xs, 0 ≤ x ∧ x ≤ 255) (hm : xs.length ≤ 1048576) (hc : xs.length ≤ c) (hc2 : c ≤ maxLen) :
    Calls Tryd.prog 11 #[.slice A xs.length c] w (DrewVerT w) := by
  have HO := Lib.hid (fun o => open_any (A := A) (c := c) xs (w.alloc o) ((h1.alloc (Nat.le_refl _) o).more (by simp)) hx hm hc hc2)
  clear h1 hx
  go_enter Tryd.func11, Tryd.ntmps11
  go_wp2_with fail
  refine (HO.out _).mono ?_
  rintro e w1 ⟨rfl, hr, hz, hb⟩
  have K0 := Lib.hid ((Blk.new w 26 #[.string ⟨#[]⟩, .int .i64 0]).below hb (by simp))
  simp only [World.size_alloc] at hr hz hb
  have HZ := Lib.hid hz
  have hb0 := Lib.hid (((Below.refl w.heap.size w).alloc (Nat.le_refl _) _).trans (hb.mono (by first | omega | simp)))
  have hw1 := K0.out.lt
  have zz1 : w.heap.size + 2 ≤ w1.heap.size := by omega
  clear hz hb
  go_wp2_with fail
  refine (l20Version_any _ 0 6 _ hr (by omega) (by omega) (by omega)).mono ?_
  rintro e w2 ⟨v, rfl, ⟨hv1, hv2, hv3, _⟩, hr2, hg2⟩
  replace K0 := Lib.hid (K0.out.grown hg2 (by simp))
  have HB := Lib.hid (below_gr hb0.out hg2 (by omega))
  have zz2 := hg2.size
  have c00 := K0.out.cell 0
  have c01 := K0.out.cell 1
  have f00 := K0.out.frozen 0
  have f01 := K0.out.frozen 1
  clear hr hr2 hg2 hb0
  obtain ⟨nm, num⟩ := v
  simp only [Ver.val]
  go_wp2
  refine bodyPost_ret (v := Ver.val ⟨nm, num⟩) (by simp [results, Tryd.results11, go_sem, Ver.val, c00, c01]) rfl ?_
  exact ⟨⟨nm, num⟩, rfl, ⟨hv1, hv2, hv3⟩, (HB.out.setCell (p := ⟨w.heap.size, 0, none⟩) (Nat.le_refl _) _).setCell (p := ⟨w.heap.size, 1, none⟩) (Nat.le_refl _) _⟩

/-- A text was drawn. -/
def DrewTxt (w : World) (e : Ending) (w' : World) : Prop := ∃ s : ByteArray, e = .returned (.string s) ∧ s.size ≤ 1000 ∧ Below w.heap.size w w'
theorem verText_size {v : Ver} (h : verOk v = true) : (verText v).size ≤ 11 := by
  obtain ⟨n1, n2, n3⟩ := verOk_iff.1 h
  have h1 := (nameOk_size n1).2
  have h2 := (dec2_len (n := v.number.toNat) (by omega)).2
  have e := verText_ok h
  have e2 : (verText v).size = (verText v).data.toList.length := by simp
  rw [e2, e]
  unfold verTextL
  rw [List.length_append, List.length_cons]
  have e3 : v.name.data.toList.length = v.name.size := by simp
  omega
set_option maxRecDepth 100000 in
set_option maxHeartbeats 4000000 in
theorem DrawReadVersion_any {A : Option Addr} {c : Nat} (xs : List Int) (w : World) (h1 : Reads w w.heap.size 1 A xs.length (nums .u8 xs)) (hx : ∀ x ∈ xs, 0 ≤ x ∧ x ≤ 255) (hm : xs.length ≤ 1048576) (hc : xs.length ≤ c) (hc2 : c ≤ maxLen) :
    Calls Tryd.prog 17 #[.slice A xs.length c] w (DrewTxt w) := by
  have HO := Lib.hid (open_any (A := A) (c := c) xs w h1 hx hm hc hc2)
  clear h1 hx
  go_enter Tryd.func17, Tryd.ntmps17
  go_wp2_with fail
  refine HO.out.mono ?_
  rintro e w1 ⟨rfl, hr, hz, hb⟩
  have HB1 := Lib.hid hb
  clear hb HO
  go_wp2_with fail
  refine (l20Version_any _ 0 0 _ hr (by omega) (by omega) (by omega)).mono ?_
  rintro e w2 ⟨v, rfl, ⟨hv1, hv2, hv3, hv⟩, hr2, hg2⟩
  have HB2 := Lib.hid (below_gr HB1.out hg2 (Nat.le_refl _))
  have HR2 := Lib.hid hr2
  have hok := hv rfl
  have hts := verText_size hok
  have hz2 := hg2.size
  clear hr hr2 hg2 HB1 hv
  have HT := Lib.hid (fun w => specVerText_any v w (show v.name.size ≤ maxLen by unfold maxLen; omega))
  generalize verText v = t at *
  clear hok
  obtain ⟨nm, num⟩ := v
  simp only [Ver.val] at HT ⊢
  go_wp2_with fail
  refine (HT.out _).mono ?_
  rintro e w3 ⟨rfl, hb3⟩
  have HB3 := Lib.hid (HB2.out.trans (hb3.mono HB2.out.size))
  have HR3 := Lib.hid (HR2.out.below hb3)
  have hz3 := hb3.size
  clear hb3 HB2 HR2 HT
  go_wp2_with fail
  refine (odd_any _ _ 3 _ HR3.out (by omega) (by omega) (by omega)).mono ?_
  rintro e w4 ⟨b, rfl, hr4, hg4⟩
  have HB4 := Lib.hid (below_gr HB3.out hg4 (Nat.le_refl _))
  have HR4 := Lib.hid hr4
  have hz4 := hg4.size
  clear HB3 HR3 hr4 hg4
  cases b
  · go_wp2
    go_ret
    exact ⟨t, rfl, by omega, HB4.out⟩
  · have L1 : (t ++ ⟨#[32]⟩ : ByteArray).size ≤ 20 := by rw [ByteArray.size_append]; show t.size + 1 ≤ 20; omega
    have L2 : (⟨#[64]⟩ ++ t : ByteArray).size ≤ 20 := by rw [ByteArray.size_append]; show 1 + t.size ≤ 20; omega
    have L3 : (t ++ ⟨#[64, 49]⟩ : ByteArray).size ≤ 20 := by rw [ByteArray.size_append]; show t.size + 2 ≤ 20; omega
    obtain ⟨l, hl⟩ : ∃ l : List ByteArray, l = [⟨#[]⟩, ⟨#[112, 117, 116]⟩, ⟨#[112, 117, 116, 64]⟩, ⟨#[112, 117, 116, 64, 48]⟩, ⟨#[112, 117, 116, 64, 48, 49]⟩, ⟨#[112, 117, 116, 64, 49, 48, 48]⟩, ⟨#[64, 49]⟩, t ++ ⟨#[32]⟩, ⟨#[64]⟩ ++ t, t ++ ⟨#[64, 49]⟩] := ⟨_, rfl⟩
    have hll : l.length = 10 := by rw [hl]; rfl
    have HSZ : Hid (∀ x ∈ l, x.size ≤ 20) := fun x hx => by
      rw [hl] at hx
      simp only [List.mem_cons, List.not_mem_nil, or_false] at hx
      rcases hx with rfl | rfl | rfl | rfl | rfl | rfl | rfl | rfl | rfl | rfl
      all_goals first | assumption | decide
    have HK : Hid (Blk (w4.alloc (.cells #[.string (⟨#[]⟩), .string (⟨#[112, 117, 116]⟩), .string (⟨#[112, 117, 116, 64]⟩), .string (⟨#[112, 117, 116, 64, 48]⟩), .string (⟨#[112, 117, 116, 64, 48, 49]⟩), .string (⟨#[112, 117, 116, 64, 49, 48, 48]⟩), .string (⟨#[64, 49]⟩), .string (t ++ ⟨#[32]⟩), .string (⟨#[64]⟩ ++ t), .string (t ++ ⟨#[64, 49]⟩)] 9)) w4.heap.size 9 (texts l).toArray) := by
      rw [hl]
      exact Blk.new _ _ _
    clear hl L1 L2 L3
    go_wp2_with fail
    refine (pick_any _ _ 10 _ (HR4.out.alloc _) (by omega) (by omega) (by omega)).mono ?_
    rintro e w5 ⟨u, rfl, ⟨ua, ub⟩, hr5, hg5⟩
    have K5 := HK.out.grown hg5 (by simp; omega)
    obtain ⟨x, hx, hcx⟩ := lits_at K5 ua (by omega)
    have HX := Lib.hid (HSZ.out x hx)
    have HB5 := Lib.hid (below_gr (HB4.out.alloc HB4.out.size _) hg5 (Nat.le_refl _))
    have hu2 : u < 10 := by omega
    clear hr5 hg5 HK K5 HSZ hx HB4 HR4
    go_wp2
    go_ret
    exact ⟨x, rfl, by have := HX.out; omega, HB5.out⟩
end Go.Proofs.YtogdeekjfgbneaaDoor
