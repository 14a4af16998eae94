/- Contracts of the laws' marking and looking functions on slices of byte. No condition but the sizes. Contract of the laws' markFixupS. No condition but the sizes. Sections: they are marked. No condition but the sizes. Symbols and objects: they are marked. No condition but the sizes. -/
import Derived.Test.YtdaamgonendkkaaRows
import Derived.Test.YtdaamgonendkkaaBase
import Derived.Test.YtdaamgonendkkaaBase2
import Derived.Test.YtdaamgonendkkaaFix
import Derived.Test.YtdaamgonendkkaaOpen
import Derived.Test.YtdaamgonendkkaaOpen2
import Derived.Test.YtdaamgonendkkaaOnly
import Derived.Test.YtdaamgonendkkaaByteS
import Derived.Test.YtdaamgonendkkaaBulk
import Derived.Test.YtdaamgonendkkaaSzF
import Derived.Test.YtdaamgonendkkaaMarkT
import Derived.Test.YtdaamgonendkkaaSec
import Derived.Test.YtdaamgonendkkaaSecM
import Derived.Test.YtdaamgonendkkaaSecO
import Derived.Test.YtdaamgonendkkaaIn
import Derived.Test.YtdaamgonendkkaaName
import Derived.Test.YtdaamgonendkkaaSym
import Derived.Test.YtdaamgonendkkaaObj
import Derived.WalkKit
import Derived.WalkSpells
import Derived.WalkLawsBesides
import Derived.Handy
import Derived.BigQuiet
import Derived.Deep.RegionHeld3
import Derived.Deep.DrawnRows
import Derived.Deep.QuietTactic
namespace Go.Proofs.Ytdaamgonendkkaa
open Go Go.RowKit


set_option maxHeartbeats 400000 in
theorem markByteS_any (A : Option Addr) (n c base : Nat) (k0 : Int) (xs : List Value) (w : World) (h : w.ownsRow base 5 1 (.slice A n c) n xs) (hn : n ≤ 4194304) (hk0 : 0 ≤ k0) (hk1 : k0 ≤ 16777216) :
    Calls Try.prog 85 #[.slice A n c, .int .i64 k0] w (Marks w base 5 A n c (.int .i64 (k0 + (n : Int))) (nums .u8 (mkB k0 n))) := by
  have h2 : w.ownsRow base 5 1 (.slice A n c) n ((nums .u8 (mkB k0 n)).take 0 ++ xs.drop 0) := by simpa using h
  have hsz := h.lt
  clear h
  go_enter Try.func85, Try.ntmps85
  go_wp2
  go_loopw [1, 5] (fun kv i wr => ∃ j : Nat, j ≤ n ∧ i = .int .i64 j ∧ kv = .int .i64 (k0 + (j : Int)) ∧ w.grownBy wr (A.map (·.block)) ∧ wr.ownsRow base 5 1 (.slice A n c) n ((nums .u8 (mkB k0 n)).take j ++ xs.drop j)) (fun _ i _ => n - (intOf i).toNat)
  case atStart => exact ⟨0, Nat.zero_le _, rfl, by simp, grown_refl _ _, h2⟩
  case round =>
    obtain ⟨j, hj, rfl, rfl, hg, ho⟩ := hrel
    clear h2 hsz
    by_cases hlt : j < n
    · obtain ⟨g, rfl, hbg, hgs⟩ := own_addr ho (by omega)
      have hst := ho.stored j (.int .u8 ((k0 + (j : Int)) % 256))
      have hz : wr.frozen? ⟨g, j, none⟩ = false := ho.frozenAt j
      obtain ⟨u, hcu⟩ : ∃ u, wr.cell? ⟨g, j, none⟩ = some u := ⟨_, (ho.cellAt j (by omega)).trans (List.getElem?_eq_getElem (by have := ho.1; omega))⟩
      have HO := Lib.hid ho
      have HST := Lib.hid hst
      clear ho hst
      go_wp2
      go_roundw
      case rel => exact ⟨j + 1, by omega, by go_num, by go_num, hg.trans HST.out.2, own_take_step HST.out.1 hlt (mkB_get _ hlt)⟩
      case measure => simp [intOf]; omega
    · obtain rfl : j = n := by omega
      go_wp2
      go_ret
      refine ⟨rfl, ?_, hg⟩
      have hd : xs.drop j = [] := List.drop_eq_nil_of_le (by have := ho.1; simp [nums_len, mkB_len] at this; omega)
      have ht : (nums .u8 (mkB k0 j)).take j = nums .u8 (mkB k0 j) := List.take_of_length_le (by simp [nums_len, mkB_len])
      rw [hd, ht, List.append_nil] at ho
      exact ho


end Go.Proofs.Ytdaamgonendkkaa
namespace Go.Proofs.Ytdaamgonendkkaa
open Go Go.RowKit

def MarksN (size : Nat) (w : World) (base : Nat) (t : TypeId) (A : Option Addr) (n c : Nat) (v : Value) (xs : List Value) (e : Ending) (w' : World) : Prop :=
  e = .returned v ∧ w'.ownsRow base t size (.slice A n c) n xs ∧ w.grownBy w' (A.map (·.block))
theorem own_addrN {w : World} {base size : Nat} {t : TypeId} {A : Option Addr} {n c : Nat} {xs : List Value} (h : w.ownsRow base t size (.slice A n c) n xs) (hn : 0 < n) : ∃ g, A = some ⟨g, 0, none⟩ ∧ base ≤ g ∧ g < w.heap.size := by
  obtain ⟨g, cap, hv, hb, hlt⟩ := h.form hn
  injection hv with hA
  exact ⟨g, hA, hb, hlt⟩

set_option maxHeartbeats 1000000 in
theorem markFixupS_any (A : Option Addr) (n c base : Nat) (k0 : Int) (xs : List Value) (w : World) (h : w.ownsRow base 107 4 (.slice A n c) n xs) (hn : n ≤ 4194304) (hk0 : 0 ≤ k0) (hk1 : k0 ≤ 67108864) :
    Calls Try.prog 86 #[.slice A n c, .int .i64 k0] w (MarksN 4 w base 107 A n c (.int .i64 (k0 + (n : Int) * 4)) (nums .i64 (mkI k0 (n * 4)))) := by
  have h2 : w.ownsRow base 107 4 (.slice A n c) n ((nums .i64 (mkI k0 (n * 4))).take (0 * 4) ++ xs.drop (0 * 4)) := by simpa using h
  have hsz := h.lt
  clear h
  go_enter Try.func86, Try.ntmps86
  go_wp2
  go_loopw [1, 5] (fun kv i wr => ∃ j : Nat, j ≤ n ∧ i = .int .i64 j ∧ kv = .int .i64 (k0 + (j : Int) * 4) ∧ w.grownBy wr (A.map (·.block)) ∧ wr.ownsRow base 107 4 (.slice A n c) n ((nums .i64 (mkI k0 (n * 4))).take (j * 4) ++ xs.drop (j * 4))) (fun _ i _ => n - (intOf i).toNat)
  case atStart => exact ⟨0, Nat.zero_le _, rfl, by simp, grown_refl _ _, h2⟩
  case round =>
    obtain ⟨j, hj, rfl, rfl, hg, ho⟩ := hrel
    clear h2 hsz
    by_cases hlt : j < n
    · obtain ⟨g, rfl, hbg, hgs⟩ := own_addrN ho (by omega)
      obtain ⟨o0, g0, z0, v0, q0⟩ := own_next (xs := (nums .i64 (mkI k0 (n * 4)))) (k := j * 4) (u := .int .i64 (k0 + (j : Int) * 4)) ho (by omega) ((mkI_get k0 (by omega)).trans (congrArg (fun z => some (Value.int .i64 z)) (by omega)))
      obtain ⟨o1, g1, z1, v1, q1⟩ := own_next (xs := (nums .i64 (mkI k0 (n * 4)))) (k := j * 4 + 1) (u := .int .i64 (k0 + (j : Int) * 4 + 1)) o0 (by omega) ((mkI_get k0 (by omega)).trans (congrArg (fun z => some (Value.int .i64 z)) (by omega)))
      obtain ⟨o2, g2, z2, v2, q2⟩ := own_next (xs := (nums .i64 (mkI k0 (n * 4)))) (k := j * 4 + 2) (u := .int .i64 (k0 + (j : Int) * 4 + 1 + 1)) o1 (by omega) ((mkI_get k0 (by omega)).trans (congrArg (fun z => some (Value.int .i64 z)) (by omega)))
      obtain ⟨o3, g3, z3, v3, q3⟩ := own_next (xs := (nums .i64 (mkI k0 (n * 4)))) (k := j * 4 + 3) (u := .int .i64 (k0 + (j : Int) * 4 + 1 + 1 + 1)) o2 (by omega) ((mkI_get k0 (by omega)).trans (congrArg (fun z => some (Value.int .i64 z)) (by omega)))
      have O := Lib.hid o3
      have HG := Lib.hid (((g0.trans g1).trans g2).trans g3)
      clear ho o0 g0 o1 g1 o2 g2 o3 g3
      go_wp2
      go_roundw
      case rel => exact ⟨j + 1, by omega, by go_num, by go_num, hg.trans HG.out, by have h := O.out; rw [Nat.add_mul]; exact h⟩
      case measure => simp [intOf]; omega
    · obtain rfl : j = n := by omega
      go_wp2
      go_ret
      refine ⟨rfl, ?_, hg⟩
      have hd : xs.drop (j * 4) = [] := List.drop_eq_nil_of_le (by have := ho.1; simp [nums_len, mkI_len] at this; omega)
      have ht : (nums .i64 (mkI k0 (j * 4))).take (j * 4) = (nums .i64 (mkI k0 (j * 4))) := List.take_of_length_le (by simp [nums_len, mkI_len])
      rw [hd, ht, List.append_nil] at ho
      exact ho

end Go.Proofs.Ytdaamgonendkkaa
namespace Go.Proofs.Ytdaamgonendkkaa
open Go Go.RowKit

/-- A row that may be written, whatever it holds. -/
def RowOk (w : World) (lo : Nat) (t : TypeId) (s : Nat) (A : Option Addr) (n c : Nat) : Prop := ∃ xs, w.ownsRow lo t s (.slice A n c) n xs
theorem RowOk.below {w w' : World} {lo : Nat} {t : TypeId} {s : Nat} {A : Option Addr} {n c : Nat} (h : RowOk w lo t s A n c) (hb : Below w.heap.size w w') : RowOk w' lo t s A n c := by
  obtain ⟨xs, h⟩ := h
  exact ⟨xs, own_below h hb⟩
theorem RowOk.other {w w' : World} {lo g : Nat} {t : TypeId} {s : Nat} {A : Option Addr} {n c : Nat} (h : RowOk w lo t s A n c) (hg : w.grownBy w' (some g)) (hl : g < lo) : RowOk w' lo t s A n c := by
  obtain ⟨xs, h⟩ := h
  exact ⟨xs, own_pick_ h hg hl⟩
theorem RowOk.after {w w' : World} {lo : Nat} {t t' : TypeId} {s s' : Nat} {A A' : Option Addr} {n c n' c' : Nat} {xs' ys' : List Value} (h : RowOk w lo t s A n c) (hb : w.ownsRow lo t' s' (.slice A' n' c') n' xs') (ha : w'.ownsRow lo t' s' (.slice A' n' c') n' ys') (hg : w.grownBy w' (A'.map (·.block)))
    (hts : t = t' → s = s') (hs : 0 < s) : RowOk w' lo t s A n c := by
  obtain ⟨xs, h⟩ := h
  rcases h.2 with ⟨hv, h0⟩ | ⟨g, cap, cur, hv, hbg, hh, hnc, hcm, hcs, htk⟩
  · injection hv with h1 h2 h3
    subst h1 h0 h3
    exact ⟨[], by simp, .inl ⟨rfl, rfl⟩⟩
  · by_cases hq : A'.map (·.block) = some g
    · rcases hb.2 with ⟨hv', h0'⟩ | ⟨g', cap', cur', hv', hbg', hh', hnc', hcm', hcs', htk'⟩
      · injection hv' with h1 h2 h3
        subst h1
        cases hq
      · injection hv' with h1 h2 h3
        subst h1 h3
        obtain rfl : g' = g := by simpa using hq
        rw [hh] at hh'
        injection hh' with hh'
        injection hh' with hc1 ht1
        subst hc1 ht1
        obtain rfl := hts rfl
        injection hv with h1 h2 h3
        subst h1 h3
        have hcc : c = c' := by
          have : c * s = c' * s := by rw [← hcs, ← hcs']
          exact Nat.eq_of_mul_eq_mul_right hs this
        subst hcc
        rcases ha.2 with ⟨hv2, _⟩ | ⟨g2, cap2, cur2, hv2, hbg2, hh2, hnc2, hcm2, hcs2, htk2⟩
        · exact absurd hv2 (by simp)
        · injection hv2 with h1 h2 h3
          injection h1 with h1
          injection h1 with h1
          subst h1 h3
          refine ⟨cur2.toList.take (n * s), ?_, .inr ⟨g', c, cur2, rfl, hbg, hh2, hnc, hcm2, hcs2, rfl⟩⟩
          rw [List.length_take, Array.length_toList, hcs2]
          exact Nat.min_eq_left (Nat.mul_le_mul_right _ hnc)
    · injection hv with h1 h2 h3
      subst h1 h3
      refine ⟨xs, own_other (A2 := A') h hg (fun a a2 e1 e2 => ?_)⟩
      injection e1 with e1
      subst e1 e2
      intro e
      exact hq (congrArg some e.symm)
def Sec.Ok (w : World) (lo : Nat) (x : Sec) : Prop := RowOk w lo 5 1 x.bytesA x.bytes.length x.bytesc ∧ RowOk w lo 107 4 x.fixupsA x.fixups.length x.fixupsc
theorem Sec.Own.ok {w : World} {lo : Nat} {x : Sec} (h : x.Own w lo) : x.Ok w lo := by
  obtain ⟨h0, h1⟩ := h
  exact ⟨⟨_, h0⟩, ⟨_, h1⟩⟩
theorem Sec.Ok.below {w w' : World} {lo : Nat} {x : Sec} (h : x.Ok w lo) (hb : Below w.heap.size w w') : x.Ok w' lo := by
  obtain ⟨h0, h1⟩ := h
  exact ⟨h0.below hb, h1.below hb⟩
theorem Sec.Ok.other {w w' : World} {lo g : Nat} {x : Sec} (h : x.Ok w lo) (hg : w.grownBy w' (some g)) (hl : g < lo) : x.Ok w' lo := by
  obtain ⟨h0, h1⟩ := h
  exact ⟨h0.other hg hl, h1.other hg hl⟩
theorem Sec.Ok.after3 {w w' : World} {lo : Nat} {A' : Option Addr} {n' c' : Nat} {xs' ys' : List Value} {x : Sec} (h : x.Ok w lo) (hb : w.ownsRow lo 5 1 (.slice A' n' c') n' xs') (ha : w'.ownsRow lo 5 1 (.slice A' n' c') n' ys') (hg : w.grownBy w' (A'.map (·.block))) : x.Ok w' lo := by
  obtain ⟨h0, h1⟩ := h
  exact ⟨h0.after hb ha hg (by decide) (by omega), h1.after hb ha hg (by decide) (by omega)⟩
theorem Sec.Ok.after5 {w w' : World} {lo : Nat} {A' : Option Addr} {n' c' : Nat} {xs' ys' : List Value} {x : Sec} (h : x.Ok w lo) (hb : w.ownsRow lo 107 4 (.slice A' n' c') n' xs') (ha : w'.ownsRow lo 107 4 (.slice A' n' c') n' ys') (hg : w.grownBy w' (A'.map (·.block))) : x.Ok w' lo := by
  obtain ⟨h0, h1⟩ := h
  exact ⟨h0.after hb ha hg (by decide) (by omega), h1.after hb ha hg (by decide) (by omega)⟩
/-- How many marks it takes. -/
def Sec.cnt (x : Sec) : Int := 4 + (x.bytes.length : Int) + (x.fixups.length : Int) * 4
def Sec.cnts (xs : List Sec) : Int := (xs.map Sec.cnt).sum
theorem Sec.cnt_bd (x : Sec) : 0 ≤ x.cnt ∧ x.cnt ≤ 4 * (1 + x.tot) := by
  have h := x.tot_nonneg
  unfold Sec.cnt
  unfold Sec.tot at h ⊢
  omega
theorem Sec.cnts_take (xs : List Sec) {k : Nat} (hk : k < xs.length) : Sec.cnts (xs.take (k + 1)) = Sec.cnts (xs.take k) + xs[k].cnt := by
  unfold Sec.cnts
  rw [List.take_succ_eq_append_getElem hk, List.map_append, List.sum_append]
  simp only [List.map_cons, List.map_nil, List.sum_cons, List.sum_nil, Int.add_zero]
theorem Sec.cnts_bd (xs : List Sec) : 0 ≤ Sec.cnts xs ∧ Sec.cnts xs ≤ 4 * (xs.length + Sec.tots xs) := by
  induction xs with
  | nil => simp [Sec.cnts, Sec.tots]
  | cons x xs ih =>
    have h := x.cnt_bd
    unfold Sec.cnts Sec.tots at ih ⊢
    simp only [List.map_cons, List.sum_cons, List.length_cons]
    omega
theorem Sec.cnts_le (xs : List Sec) (k : Nat) : Sec.cnts (xs.take k) ≤ Sec.cnts xs := by
  have e : Sec.cnts xs = Sec.cnts (xs.take k) + Sec.cnts (xs.drop k) := by
    unfold Sec.cnts
    rw [← List.sum_append, ← List.map_append, List.take_append_drop]
  have := (Sec.cnts_bd (xs.drop k)).1
  omega
/-- The cells that are no scalars. -/
def Sec.hdr (q : Nat) : Bool := decide (q % 6 = 3) || decide (q % 6 = 5)
theorem Sec.hdr_set {ds : List Sec} {xs : List Value} (h : ∀ q u, Sec.hdr q = true → (ds.flatMap Sec.cells)[q]? = some u → xs[q]? = some u) {p : Nat} (hp : Sec.hdr p = false) (v : Value) : ∀ q u, Sec.hdr q = true → (ds.flatMap Sec.cells)[q]? = some u → (xs.set p v)[q]? = some u := fun q u hq hu => by
  have hne : p ≠ q := fun e => by subst e; rw [hp] at hq; cases hq
  rw [List.getElem?_set_ne hne]
  exact h q u hq hu
theorem Sec.hdr_at {ds : List Sec} {w : World} {lo g n c : Nat} {xs : List Value} (h : ∀ q u, Sec.hdr q = true → (ds.flatMap Sec.cells)[q]? = some u → xs[q]? = some u) (ho : w.ownsRow lo 80 6 (.slice (some ⟨g, 0, none⟩) n c) n xs) {j i : Nat} (hj : j < ds.length) (hi : i < 6) (hq : Sec.hdr (j * 6 + i) = true) (hl : ds.length = n) {u : Value} (hu : (ds[j].cells)[i]? = some u) : w.cell? ⟨g, j * 6 + i, none⟩ = some u := by
  have h1 := h (j * 6 + i) u hq ((flat_get Sec.cells 6 Sec.cells_len ds j i hj hi).trans hu)
  exact (ho.cellAt _ (by omega)).trans h1
set_option maxRecDepth 100000 in
set_option maxHeartbeats 4000000 in
theorem markSectionS_any {lo hi g c : Nat} (ds : List Sec) (k0 : Int) (w : World) (h : SecsOwn w lo hi g c ds) (hk0 : 0 ≤ k0) (hk1 : k0 ≤ 10485760) (hcb : Sec.cnts ds ≤ 4194304) (hm : ds.length ≤ 1048576) (hs : ∀ d ∈ ds, d.small) :
    Calls Try.prog 61 #[.slice (some ⟨g, 0, none⟩) ds.length c, .int .i64 k0] w fun e w' => e = .returned (.int .i64 (k0 + Sec.cnts ds)) ∧ Only lo hi w w' := by
  obtain ⟨hlo, hown, hhi, hhw, hin⟩ := h
  have HS := Lib.hid hs
  have HI := Lib.hid hin
  have HOwn := Lib.hid hown
  have HTK := Lib.hid (fun k (h : k < ds.length) => Sec.cnts_take ds h)
  have HLE := Lib.hid (fun k => Sec.cnts_le ds k)
  have HNN := Lib.hid (fun k => (Sec.cnts_bd (ds.take k)).1)
  have hcn := (Sec.cnts_bd ds).1
  clear hs hin hown
  go_enter Try.func61, Try.ntmps61
  go_wp2
  go_loopw [1, 5] (fun kv i wr => ∃ (j : Nat) (z : Int) (xs : List Value), j ≤ ds.length ∧ i = .int .i64 j ∧ kv = .int .i64 z ∧ Hid (z = k0 + Sec.cnts (ds.take j)) ∧ 0 ≤ z ∧ z ≤ 14680064 ∧ Hid (Only lo hi w wr) ∧ Hid (wr.ownsRow lo 80 6 (.slice (some ⟨g, 0, none⟩) ds.length c) ds.length xs) ∧ Hid (∀ q u, Sec.hdr q = true → (ds.flatMap Sec.cells)[q]? = some u → xs[q]? = some u) ∧ Hid (∀ l ∈ ds, l.Ok wr (g + 1))) (fun _ i _ => ds.length - (intOf i).toNat)
  case atStart => exact ⟨0, k0, _, Nat.zero_le _, rfl, rfl, by simp [Sec.cnts, Hid], hk0, by omega, Only.refl _ _ _, HOwn, Lib.hid (fun q u _ hu => hu), Lib.hid (fun l hl => (HI.out l hl).1.ok)⟩
  case round =>
    obtain ⟨j, z, xs, hj, rfl, rfl, HZ, hz0, hz1, HON, HO, HX, HK⟩ := hrel
    by_cases hlt : j < ds.length
    · obtain ⟨z0, z3, z5⟩ := HS.out _ (List.getElem_mem hlt)
      obtain ⟨_, hu3, hu5⟩ := HI.out _ (List.getElem_mem hlt)
      have HU3 := Lib.hid hu3
      have HU5 := Lib.hid hu5
      clear hu3 hu5
      have HCT := Lib.hid (HTK.out j hlt)
      have HCE : Hid (ds[j].cnt = 4 + (ds[j].bytes.length : Int) + (ds[j].fixups.length : Int) * 4) := rfl
      have HL1 := Lib.hid (HLE.out (j + 1))
      go_wp2_with fail
      refine (markText_any (z) _ (by omega)).mono ?_
      rintro e w1 ⟨rfl, s1⟩
      have O1b := Lib.hid (own_below HO.out s1)
      have K1b : Hid (∀ l ∈ ds, l.Ok w1 (g + 1)) := fun l hl => (HK.out l hl).below s1
      have N1b := Lib.hid (HON.out.trans (Only.of_below s1))
      clear s1
      have f1 : w1.frozen? ⟨g, j * 6, none⟩ = false := O1b.out.frozenAt _
      obtain ⟨v1, c1⟩ : ∃ v, w1.cell? ⟨g, j * 6, none⟩ = some v := ⟨_, (O1b.out.cellAt (j * 6) (by omega)).trans (List.getElem?_eq_getElem (by have := O1b.out.1; omega))⟩
      have O1 := Lib.hid (O1b.out.stored (j * 6) (.string (mkText (z)))).1
      have K1 : Hid (∀ l ∈ ds, l.Ok (w1.setCell ⟨g, j * 6, none⟩ (.string (mkText (z)))) (g + 1)) := fun l hl => (K1b.out l hl).other (O1b.out.stored (j * 6) (.string (mkText (z)))).2 (Nat.lt_succ_self _)
      have N1 := Lib.hid (N1b.out.set_ (p := ⟨g, j * 6, none⟩) (.string (mkText (z))) hlo hhi)
      have X1 := Lib.hid (Sec.hdr_set HX.out (p := j * 6) (by simp [Sec.hdr] <;> omega) (.string (mkText (z))))
      have f2 : (w1.setCell ⟨g, j * 6, none⟩ (.string (mkText (z)))).frozen? ⟨g, j * 6 + 1, none⟩ = false := O1.out.frozenAt _
      obtain ⟨v2, c2⟩ : ∃ v, (w1.setCell ⟨g, j * 6, none⟩ (.string (mkText (z)))).cell? ⟨g, j * 6 + 1, none⟩ = some v := ⟨_, (O1.out.cellAt (j * 6 + 1) (by omega)).trans (List.getElem?_eq_getElem (by have := O1.out.1; omega))⟩
      have O2 := Lib.hid (O1.out.stored (j * 6 + 1) (.int .i64 (z + 1))).1
      have K2 : Hid (∀ l ∈ ds, l.Ok ((w1.setCell ⟨g, j * 6, none⟩ (.string (mkText (z)))).setCell ⟨g, j * 6 + 1, none⟩ (.int .i64 (z + 1))) (g + 1)) := fun l hl => (K1.out l hl).other (O1.out.stored (j * 6 + 1) (.int .i64 (z + 1))).2 (Nat.lt_succ_self _)
      have N2 := Lib.hid (N1.out.set_ (p := ⟨g, j * 6 + 1, none⟩) (.int .i64 (z + 1)) hlo hhi)
      have X2 := Lib.hid (Sec.hdr_set X1.out (p := j * 6 + 1) (by simp [Sec.hdr] <;> omega) (.int .i64 (z + 1)))
      have f3 : ((w1.setCell ⟨g, j * 6, none⟩ (.string (mkText (z)))).setCell ⟨g, j * 6 + 1, none⟩ (.int .i64 (z + 1))).frozen? ⟨g, j * 6 + 2, none⟩ = false := O2.out.frozenAt _
      obtain ⟨v3, c3⟩ : ∃ v, ((w1.setCell ⟨g, j * 6, none⟩ (.string (mkText (z)))).setCell ⟨g, j * 6 + 1, none⟩ (.int .i64 (z + 1))).cell? ⟨g, j * 6 + 2, none⟩ = some v := ⟨_, (O2.out.cellAt (j * 6 + 2) (by omega)).trans (List.getElem?_eq_getElem (by have := O2.out.1; omega))⟩
      have O3 := Lib.hid (O2.out.stored (j * 6 + 2) (.int .i64 (z + 1 + 1))).1
      have K3 : Hid (∀ l ∈ ds, l.Ok (((w1.setCell ⟨g, j * 6, none⟩ (.string (mkText (z)))).setCell ⟨g, j * 6 + 1, none⟩ (.int .i64 (z + 1))).setCell ⟨g, j * 6 + 2, none⟩ (.int .i64 (z + 1 + 1))) (g + 1)) := fun l hl => (K2.out l hl).other (O2.out.stored (j * 6 + 2) (.int .i64 (z + 1 + 1))).2 (Nat.lt_succ_self _)
      have N3 := Lib.hid (N2.out.set_ (p := ⟨g, j * 6 + 2, none⟩) (.int .i64 (z + 1 + 1)) hlo hhi)
      have X3 := Lib.hid (Sec.hdr_set X2.out (p := j * 6 + 2) (by simp [Sec.hdr] <;> omega) (.int .i64 (z + 1 + 1)))
      have h4 := Sec.hdr_at X3.out O3.out hlt (i := 3) (by omega) (by simp [Sec.hdr] <;> omega) rfl rfl
      go_wp2_with fail
      obtain ⟨y4, r4⟩ := (K3.out _ (List.getElem_mem hlt)).1
      refine (markByteS_any _ _ _ _ (z + 1 + 1 + 1) _ _ r4 (by omega) (by omega) (by omega)).mono ?_
      rintro e w2 ⟨rfl, n4, g4⟩
      have O4 := Lib.hid (own_other O3.out g4 (fun a a2 e1 e2 => by injection e1 with e1; subst e1; have := (own_up r4 a2 e2).1; simp only [ne_eq]; omega))
      have K4 : Hid (∀ l ∈ ds, l.Ok w2 (g + 1)) := fun l hl => (K3.out l hl).after3 r4 n4 g4
      have N4 := Lib.hid (N3.out.trans (Only.of_marks (own_base r4 (by omega)) HU3.out g4))
      clear r4 n4 g4 h4
      have f5 : w2.frozen? ⟨g, j * 6 + 4, none⟩ = false := O4.out.frozenAt _
      obtain ⟨v5, c5⟩ : ∃ v, w2.cell? ⟨g, j * 6 + 4, none⟩ = some v := ⟨_, (O4.out.cellAt (j * 6 + 4) (by omega)).trans (List.getElem?_eq_getElem (by have := O4.out.1; omega))⟩
      have O5 := Lib.hid (O4.out.stored (j * 6 + 4) (.int .i64 (z + 1 + 1 + 1 + (ds[j].bytes.length : Int)))).1
      have K5 : Hid (∀ l ∈ ds, l.Ok (w2.setCell ⟨g, j * 6 + 4, none⟩ (.int .i64 (z + 1 + 1 + 1 + (ds[j].bytes.length : Int)))) (g + 1)) := fun l hl => (K4.out l hl).other (O4.out.stored (j * 6 + 4) (.int .i64 (z + 1 + 1 + 1 + (ds[j].bytes.length : Int)))).2 (Nat.lt_succ_self _)
      have N5 := Lib.hid (N4.out.set_ (p := ⟨g, j * 6 + 4, none⟩) (.int .i64 (z + 1 + 1 + 1 + (ds[j].bytes.length : Int))) hlo hhi)
      have X5 := Lib.hid (Sec.hdr_set X3.out (p := j * 6 + 4) (by simp [Sec.hdr] <;> omega) (.int .i64 (z + 1 + 1 + 1 + (ds[j].bytes.length : Int))))
      have h6 := Sec.hdr_at X5.out O5.out hlt (i := 5) (by omega) (by simp [Sec.hdr] <;> omega) rfl rfl
      go_wp2_with fail
      obtain ⟨y6, r6⟩ := (K5.out _ (List.getElem_mem hlt)).2
      refine (markFixupS_any _ _ _ _ (z + 1 + 1 + 1 + (ds[j].bytes.length : Int) + 1) _ _ r6 (by omega) (by omega) (by omega)).mono ?_
      rintro e w3 ⟨rfl, n6, g6⟩
      have O6 := Lib.hid (own_other O5.out g6 (fun a a2 e1 e2 => by injection e1 with e1; subst e1; have := (own_up r6 a2 e2).1; simp only [ne_eq]; omega))
      have K6 : Hid (∀ l ∈ ds, l.Ok w3 (g + 1)) := fun l hl => (K5.out l hl).after5 r6 n6 g6
      have N6 := Lib.hid (N5.out.trans (Only.of_marks (own_base r6 (by omega)) HU5.out g6))
      clear r6 n6 g6 h6
      go_wp2
      go_roundw
      case rel =>
        have q1 := HCT.out
        have q2 := HCE.out
        have q3 := HZ.out
        have q4 := HL1.out
        exact ⟨j + 1, _, _, by omega, by go_num, rfl, Lib.hid (by omega), by omega, by omega, N6, O6, X5, K6⟩
      case measure => simp [intOf]; omega
    · have HF : Hid (z = k0 + Sec.cnts ds) := by have h := HZ.out; rw [List.take_of_length_le (by omega)] at h; exact h
      go_wp2
      go_ret
      rw [← HF.out]
      exact ⟨rfl, HON.out⟩
theorem Sec.cnts_v {xs ds : List Sec} (h : ds.map Sec.v = xs.map Sec.v) : Sec.cnts ds = Sec.cnts xs := by
  have e : ∀ l : List Sec, Sec.cnts l = ((l.map Sec.v).map fun v => (4 + ((v.2.2.2.1.length : Nat) : Int) + ((v.2.2.2.2.2.length : Nat) : Int) * 4 : Int)).sum := fun l => by
    unfold Sec.cnts
    rw [List.map_map]
    rfl
  rw [e, e, h]
end Go.Proofs.Ytdaamgonendkkaa
namespace Go.Proofs.Ytdaamgonendkkaa
open Go Go.RowKit

set_option maxRecDepth 100000 in
set_option maxHeartbeats 4000000 in
theorem markSymbolS_any {lo hi c n : Nat} {A : Option Addr} {xs : List Value} (k0 : Int) (w : World) (h : w.ownsRow lo 55 4 (.slice A n c) n xs) (hh : ∀ a, A = some a → a.block < hi) (hk0 : 0 ≤ k0) (hk1 : k0 ≤ 67108864) (hn : n ≤ 4194304) :
    Calls Try.prog 62 #[.slice A n c, .int .i64 k0] w fun e w' => e = .returned (.int .i64 (k0 + 4 * n)) ∧ Only lo hi w w' := by
  have HOwn := Lib.hid h
  have HH := Lib.hid hh
  clear h hh
  go_enter Try.func62, Try.ntmps62
  go_wp2
  go_loopw [1, 5] (fun kv i wr => ∃ (j : Nat) (z : Int) (xs : List Value), j ≤ n ∧ i = .int .i64 j ∧ kv = .int .i64 z ∧ Hid (z = k0 + 4 * j) ∧ 0 ≤ z ∧ z ≤ 134217728 ∧ Hid (Only lo hi w wr) ∧ Hid (wr.ownsRow lo 55 4 (.slice A n c) n xs)) (fun _ i _ => n - (intOf i).toNat)
  case atStart => exact ⟨0, k0, _, Nat.zero_le _, rfl, rfl, by simp [Hid], hk0, by omega, Only.refl _ _ _, HOwn⟩
  case round =>
    obtain ⟨j, z, xs, hj, rfl, rfl, HZ, hz0, hz1, HN, HO⟩ := hrel
    clear HOwn
    by_cases hlt : j < n
    · obtain ⟨g, rfl, hlo, hgs⟩ := own_addrN HO.out (by omega)
      have hhi := HH.out _ rfl
      go_wp2_with fail
      refine (markText_any z _ (by omega)).mono ?_
      rintro e w1 ⟨rfl, s1⟩
      have Ob := Lib.hid (own_below HO.out s1)
      have Nb := Lib.hid (HN.out.trans (Only.of_below s1))
      clear s1
      have f0 : w1.frozen? ⟨g, j * 4, none⟩ = false := Ob.out.frozenAt _
      obtain ⟨v0, c0⟩ : ∃ v, w1.cell? ⟨g, j * 4, none⟩ = some v := ⟨_, (Ob.out.cellAt (j * 4) (by omega)).trans (List.getElem?_eq_getElem (by have := Ob.out.1; omega))⟩
      have O0 := Lib.hid (Ob.out.stored (j * 4) (.string (mkText z))).1
      have N0 := Lib.hid (Nb.out.set_ (p := ⟨g, j * 4, none⟩) (.string (mkText z)) hlo hhi)
      have f1 : (w1.setCell ⟨g, j * 4, none⟩ (.string (mkText z))).frozen? ⟨g, j * 4 + 1, none⟩ = false := O0.out.frozenAt _
      obtain ⟨v1, c1⟩ : ∃ v, (w1.setCell ⟨g, j * 4, none⟩ (.string (mkText z))).cell? ⟨g, j * 4 + 1, none⟩ = some v := ⟨_, (O0.out.cellAt (j * 4 + 1) (by omega)).trans (List.getElem?_eq_getElem (by have := O0.out.1; omega))⟩
      have O1 := Lib.hid (O0.out.stored (j * 4 + 1) (.int .i64 (z + 1))).1
      have N1 := Lib.hid (N0.out.set_ (p := ⟨g, j * 4 + 1, none⟩) (.int .i64 (z + 1)) hlo hhi)
      have f2 : ((w1.setCell ⟨g, j * 4, none⟩ (.string (mkText z))).setCell ⟨g, j * 4 + 1, none⟩ (.int .i64 (z + 1))).frozen? ⟨g, j * 4 + 2, none⟩ = false := O1.out.frozenAt _
      obtain ⟨v2, c2⟩ : ∃ v, ((w1.setCell ⟨g, j * 4, none⟩ (.string (mkText z))).setCell ⟨g, j * 4 + 1, none⟩ (.int .i64 (z + 1))).cell? ⟨g, j * 4 + 2, none⟩ = some v := ⟨_, (O1.out.cellAt (j * 4 + 2) (by omega)).trans (List.getElem?_eq_getElem (by have := O1.out.1; omega))⟩
      have O2 := Lib.hid (O1.out.stored (j * 4 + 2) (.int .i64 (z + 1 + 1))).1
      have N2 := Lib.hid (N1.out.set_ (p := ⟨g, j * 4 + 2, none⟩) (.int .i64 (z + 1 + 1)) hlo hhi)
      have f3 : (((w1.setCell ⟨g, j * 4, none⟩ (.string (mkText z))).setCell ⟨g, j * 4 + 1, none⟩ (.int .i64 (z + 1))).setCell ⟨g, j * 4 + 2, none⟩ (.int .i64 (z + 1 + 1))).frozen? ⟨g, j * 4 + 3, none⟩ = false := O2.out.frozenAt _
      obtain ⟨v3, c3⟩ : ∃ v, (((w1.setCell ⟨g, j * 4, none⟩ (.string (mkText z))).setCell ⟨g, j * 4 + 1, none⟩ (.int .i64 (z + 1))).setCell ⟨g, j * 4 + 2, none⟩ (.int .i64 (z + 1 + 1))).cell? ⟨g, j * 4 + 3, none⟩ = some v := ⟨_, (O2.out.cellAt (j * 4 + 3) (by omega)).trans (List.getElem?_eq_getElem (by have := O2.out.1; omega))⟩
      have O3 := Lib.hid (O2.out.stored (j * 4 + 3) (.int .i64 (z + 1 + 1 + 1))).1
      have N3 := Lib.hid (N2.out.set_ (p := ⟨g, j * 4 + 3, none⟩) (.int .i64 (z + 1 + 1 + 1)) hlo hhi)
      go_wp2
      go_roundw
      case rel =>
        have q1 := HZ.out
        exact ⟨j + 1, _, _, by omega, by go_num, rfl, Lib.hid (by omega), by omega, by omega, N3, O3⟩
      case measure => simp [intOf]; omega
    · obtain rfl : j = n := by omega
      go_wp2
      go_ret
      rw [← HZ.out]
      exact ⟨rfl, HN.out⟩
set_option maxRecDepth 100000 in
set_option maxHeartbeats 4000000 in
theorem markObj_any {lo hi : Nat} (x : Obj) (k0 : Int) (w : World) (h : x.Own w lo hi) (hk0 : 0 ≤ k0) (hk1 : k0 ≤ 10485760) (hcb : Sec.cnts x.secs ≤ 4194304) (hs : x.small) :
    Calls Try.prog 30 #[.agg #[.slice x.sA x.secs.length x.sc, .slice x.yA x.syms.length x.yc], .int .i64 k0] w fun e w' => ∃ k : Int, e = .returned (.int .i64 k) ∧ (0 ≤ k ∧ k ≤ k0 + 8388608) ∧ Only lo hi w w' ∧ w.heap.size ≤ w'.heap.size := by
  obtain ⟨secs, sA, sc, syms, yA, yc⟩ := x
  obtain ⟨g, m, rfl, hS, hY, hya, hmh, hhw⟩ := h
  obtain ⟨b0, b1, b2, b3⟩ := hs
  have HB1 := Lib.hid b1
  have HYA := Lib.hid hya
  clear b1 b3 hya
  simp only at *
  have hcn := (Sec.cnts_bd secs).1
  have hlom : lo ≤ m := Nat.le_of_lt (Nat.lt_of_le_of_lt hS.1 hS.2.2.1)
  have BX : Hid (Below w.heap.size w (w.alloc (.cells #[Value.slice (some ⟨g, 0, none⟩) secs.length sc, Value.slice yA syms.length yc] 47))) := (Below.refl _ _).alloc (Nat.le_refl _) _
  have KX := Lib.hid (Blk.new w 47 #[Value.slice (some ⟨g, 0, none⟩) secs.length sc, Value.slice yA syms.length yc])
  have HSX := Lib.hid (hS.below BX.out)
  have HYX := Lib.hid (own_below hY BX.out)
  clear hS hY
  have x0 := KX.out.cell 0
  have x1 := KX.out.cell 1
  go_enter Try.func30, Try.ntmps30
  go_wp2_with fail
  refine (markSectionS_any secs k0 _ HSX.out hk0 hk1 hcb b0 HB1.out).mono ?_
  rintro e w1 ⟨rfl, on1⟩
  have HY1 := Lib.hid (own_only HYX.out on1 (fun a ha => Or.inr (own_up HYX.out a ha).1))
  have K1 := Lib.hid (blk_only KX.out on1 (Or.inr (by omega)))
  have N1 := Lib.hid ((Only.of_below BX.out : Only lo hi w _).trans (on1.wider (Nat.le_refl _) hmh))
  have zz1 : w.heap.size ≤ w1.heap.size := N1.out.size
  clear BX KX HSX HYX x0 x1 on1
  have x0 := K1.out.cell 0
  have x1 := K1.out.cell 1
  go_wp2_with fail
  refine (markSymbolS_any (k0 + Sec.cnts secs) _ HY1.out HYA.out (by omega) (by omega) (by omega)).mono ?_
  rintro e w2 ⟨rfl, on2⟩
  have zz2 : w.heap.size ≤ w2.heap.size := Nat.le_trans zz1 on2.size
  go_wp2
  go_ret
  exact ⟨_, rfl, ⟨by omega, by omega⟩, N1.out.trans (on2.wider hlom (Nat.le_refl _)), zz2⟩
end Go.Proofs.Ytdaamgonendkkaa
