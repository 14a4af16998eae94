/- Libraries: they are marked. No condition but the sizes. -/
import Derived.Test.YtbhndkdijbappaaRows
import Derived.Test.YtbhndkdijbappaaBase
import Derived.Test.YtbhndkdijbappaaBase2
import Derived.Test.YtbhndkdijbappaaOpen
import Derived.Test.YtbhndkdijbappaaOpen2
import Derived.Test.YtbhndkdijbappaaOnly
import Derived.Test.YtbhndkdijbappaaStrS
import Derived.Test.YtbhndkdijbappaaBulk
import Derived.Test.YtbhndkdijbappaaSzStr
import Derived.Test.YtbhndkdijbappaaMarkT
import Derived.Test.YtbhndkdijbappaaMarkS
import Derived.Test.YtbhndkdijbappaaLb
import Derived.Test.YtbhndkdijbappaaLbM
import Derived.Test.YtbhndkdijbappaaLbO
import Derived.WalkKit
import Derived.WalkSpells
import Derived.WalkLawsBesides
import Derived.Handy
import Derived.BigQuiet
import Derived.Deep.RegionHeld3
import Derived.Deep.DrawnRows
import Derived.Deep.QuietTactic
namespace Go.Proofs.Ytbhndkdijbappaa
open Go Go.RowKit

/-- A row that may be written, whatever it holds. -/
def RowOk (w : World) (lo : Nat) (t : TypeId) (s : Nat) (A : Option Addr) (n c : Nat) : Prop := ∃ xs, w.ownsRow lo t s (.slice A n c) n xs
theorem RowOk.below {w w' : World} {lo : Nat} {t : TypeId} {s : Nat} {A : Option Addr} {n c : Nat} (h : RowOk w lo t s A n c) (hb : Below w.heap.size w w') : RowOk w' lo t s A n c := by
  obtain ⟨xs, h⟩ := h
  exact ⟨xs, own_below h hb⟩
theorem RowOk.other {w w' : World} {lo g : Nat} {t : TypeId} {s : Nat} {A : Option Addr} {n c : Nat} (h : RowOk w lo t s A n c) (hg : w.grownBy w' (some g)) (hl : g < lo) : RowOk w' lo t s A n c := by
  obtain ⟨xs, h⟩ := h
  exact ⟨xs, own_pick_ h hg hl⟩
theorem RowOk.after {w w' : World} {lo : Nat} {t t' : TypeId} {s s' : Nat} {A A' : Option Addr} {n c n' c' : Nat} {xs' ys' : List Value} (h : RowOk w lo t s A n c) (hb : w.ownsRow lo t' s' (.slice A' n' c') n' xs') (ha : w'.ownsRow lo t' s' (.slice A' n' c') n' ys') (hg : w.grownBy w' (A'.map (·.block)))
    (hts : t = t' → s = s') (hs : 0 < s) : RowOk w' lo t s A n c := by
  obtain ⟨xs, h⟩ := h
  rcases h.2 with ⟨hv, h0⟩ | ⟨g, cap, cur, hv, hbg, hh, hnc, hcm, hcs, htk⟩
  · injection hv with h1 h2 h3
    subst h1 h0 h3
    exact ⟨[], by simp, .inl ⟨rfl, rfl⟩⟩
  · by_cases hq : A'.map (·.block) = some g
    · rcases hb.2 with ⟨hv', h0'⟩ | ⟨g', cap', cur', hv', hbg', hh', hnc', hcm', hcs', htk'⟩
      · injection hv' with h1 h2 h3
        subst h1
        cases hq
      · injection hv' with h1 h2 h3
        subst h1 h3
        obtain rfl : g' = g := by simpa using hq
        rw [hh] at hh'
        injection hh' with hh'
        injection hh' with hc1 ht1
        subst hc1 ht1
        obtain rfl := hts rfl
        injection hv with h1 h2 h3
        subst h1 h3
        have hcc : c = c' := by
          have : c * s = c' * s := by rw [← hcs, ← hcs']
          exact Nat.eq_of_mul_eq_mul_right hs this
        subst hcc
        rcases ha.2 with ⟨hv2, _⟩ | ⟨g2, cap2, cur2, hv2, hbg2, hh2, hnc2, hcm2, hcs2, htk2⟩
        · exact absurd hv2 (by simp)
        · injection hv2 with h1 h2 h3
          injection h1 with h1
          injection h1 with h1
          subst h1 h3
          refine ⟨cur2.toList.take (n * s), ?_, .inr ⟨g', c, cur2, rfl, hbg, hh2, hnc, hcm2, hcs2, rfl⟩⟩
          rw [List.length_take, Array.length_toList, hcs2]
          exact Nat.min_eq_left (Nat.mul_le_mul_right _ hnc)
    · injection hv with h1 h2 h3
      subst h1 h3
      refine ⟨xs, own_other (A2 := A') h hg (fun a a2 e1 e2 => ?_)⟩
      injection e1 with e1
      subst e1 e2
      intro e
      exact hq (congrArg some e.symm)
def Lb.Ok (w : World) (lo : Nat) (x : Lb) : Prop := RowOk w lo 9 1 x.needsA x.needs.length x.needsc ∧ RowOk w lo 9 1 x.givesA x.gives.length x.givesc
theorem Lb.Own.ok {w : World} {lo : Nat} {x : Lb} (h : x.Own w lo) : x.Ok w lo := by
  obtain ⟨h0, h1⟩ := h
  exact ⟨⟨_, h0⟩, ⟨_, h1⟩⟩
theorem Lb.Ok.below {w w' : World} {lo : Nat} {x : Lb} (h : x.Ok w lo) (hb : Below w.heap.size w w') : x.Ok w' lo := by
  obtain ⟨h0, h1⟩ := h
  exact ⟨h0.below hb, h1.below hb⟩
theorem Lb.Ok.other {w w' : World} {lo g : Nat} {x : Lb} (h : x.Ok w lo) (hg : w.grownBy w' (some g)) (hl : g < lo) : x.Ok w' lo := by
  obtain ⟨h0, h1⟩ := h
  exact ⟨h0.other hg hl, h1.other hg hl⟩
theorem Lb.Ok.after1 {w w' : World} {lo : Nat} {A' : Option Addr} {n' c' : Nat} {xs' ys' : List Value} {x : Lb} (h : x.Ok w lo) (hb : w.ownsRow lo 9 1 (.slice A' n' c') n' xs') (ha : w'.ownsRow lo 9 1 (.slice A' n' c') n' ys') (hg : w.grownBy w' (A'.map (·.block))) : x.Ok w' lo := by
  obtain ⟨h0, h1⟩ := h
  exact ⟨h0.after hb ha hg (by decide) (by omega), h1.after hb ha hg (by decide) (by omega)⟩
theorem Lb.Ok.after2 {w w' : World} {lo : Nat} {A' : Option Addr} {n' c' : Nat} {xs' ys' : List Value} {x : Lb} (h : x.Ok w lo) (hb : w.ownsRow lo 9 1 (.slice A' n' c') n' xs') (ha : w'.ownsRow lo 9 1 (.slice A' n' c') n' ys') (hg : w.grownBy w' (A'.map (·.block))) : x.Ok w' lo := by
  obtain ⟨h0, h1⟩ := h
  exact ⟨h0.after hb ha hg (by decide) (by omega), h1.after hb ha hg (by decide) (by omega)⟩
/-- How many marks it takes. -/
def Lb.cnt (x : Lb) : Int := 1 + (x.needs.length : Int) + (x.gives.length : Int)
def Lb.cnts (xs : List Lb) : Int := (xs.map Lb.cnt).sum
theorem Lb.cnt_bd (x : Lb) : 0 ≤ x.cnt ∧ x.cnt ≤ 4 * (1 + x.tot) := by
  have h := x.tot_nonneg
  have v1 := bulk_nonneg x.needs; have v2 := bulk_nonneg x.gives; unfold Lb.cnt
  unfold Lb.tot at h ⊢
  omega
theorem Lb.cnts_take (xs : List Lb) {k : Nat} (hk : k < xs.length) : Lb.cnts (xs.take (k + 1)) = Lb.cnts (xs.take k) + xs[k].cnt := by
  unfold Lb.cnts
  rw [List.take_succ_eq_append_getElem hk, List.map_append, List.sum_append]
  simp only [List.map_cons, List.map_nil, List.sum_cons, List.sum_nil, Int.add_zero]
theorem Lb.cnts_bd (xs : List Lb) : 0 ≤ Lb.cnts xs ∧ Lb.cnts xs ≤ 4 * (xs.length + Lb.tots xs) := by
  induction xs with
  | nil => simp [Lb.cnts, Lb.tots]
  | cons x xs ih =>
    have h := x.cnt_bd
    unfold Lb.cnts Lb.tots at ih ⊢
    simp only [List.map_cons, List.sum_cons, List.length_cons]
    omega
theorem Lb.cnts_le (xs : List Lb) (k : Nat) : Lb.cnts (xs.take k) ≤ Lb.cnts xs := by
  have e : Lb.cnts xs = Lb.cnts (xs.take k) + Lb.cnts (xs.drop k) := by
    unfold Lb.cnts
    rw [← List.sum_append, ← List.map_append, List.take_append_drop]
  have := (Lb.cnts_bd (xs.drop k)).1
  omega
/-- The cells that are no scalars. -/
def Lb.hdr (q : Nat) : Bool := decide (q % 3 = 1) || decide (q % 3 = 2)
theorem Lb.hdr_set {ds : List Lb} {xs : List Value} (h : ∀ q u, Lb.hdr q = true → (ds.flatMap Lb.cells)[q]? = some u → xs[q]? = some u) {p : Nat} (hp : Lb.hdr p = false) (v : Value) : ∀ q u, Lb.hdr q = true → (ds.flatMap Lb.cells)[q]? = some u → (xs.set p v)[q]? = some u := fun q u hq hu => by
  have hne : p ≠ q := fun e => by subst e; rw [hp] at hq; cases hq
  rw [List.getElem?_set_ne hne]
  exact h q u hq hu
theorem Lb.hdr_at {ds : List Lb} {w : World} {lo g n c : Nat} {xs : List Value} (h : ∀ q u, Lb.hdr q = true → (ds.flatMap Lb.cells)[q]? = some u → xs[q]? = some u) (ho : w.ownsRow lo 29 3 (.slice (some ⟨g, 0, none⟩) n c) n xs) {j i : Nat} (hj : j < ds.length) (hi : i < 3) (hq : Lb.hdr (j * 3 + i) = true) (hl : ds.length = n) {u : Value} (hu : (ds[j].cells)[i]? = some u) : w.cell? ⟨g, j * 3 + i, none⟩ = some u := by
  have h1 := h (j * 3 + i) u hq ((flat_get Lb.cells 3 Lb.cells_len ds j i hj hi).trans hu)
  exact (ho.cellAt _ (by omega)).trans h1
set_option maxRecDepth 100000 in
set_option maxHeartbeats 4000000 in
theorem markLibraryS_any {lo hi g c : Nat} (ds : List Lb) (k0 : Int) (w : World) (h : LbsOwn w lo hi g c ds) (hk0 : 0 ≤ k0) (hk1 : k0 ≤ 4194304) (hcb : Lb.cnts ds ≤ 4194304) (hm : ds.length ≤ 1048576) (hs : ∀ d ∈ ds, d.small) :
    Calls Try.prog 23 #[.slice (some ⟨g, 0, none⟩) ds.length c, .int .i64 k0] w fun e w' => e = .returned (.int .i64 (k0 + Lb.cnts ds)) ∧ Only lo hi w w' := by
  obtain ⟨hlo, hown, hhi, hhw, hin⟩ := h
  have HS := Lib.hid hs
  have HI := Lib.hid hin
  have HOwn := Lib.hid hown
  have HTK := Lib.hid (fun k (h : k < ds.length) => Lb.cnts_take ds h)
  have HLE := Lib.hid (fun k => Lb.cnts_le ds k)
  have HNN := Lib.hid (fun k => (Lb.cnts_bd (ds.take k)).1)
  have hcn := (Lb.cnts_bd ds).1
  clear hs hin hown
  go_enter Try.func23, Try.ntmps23
  go_wp2
  go_loopw [1, 5] (fun kv i wr => ∃ (j : Nat) (z : Int) (xs : List Value), j ≤ ds.length ∧ i = .int .i64 j ∧ kv = .int .i64 z ∧ Hid (z = k0 + Lb.cnts (ds.take j)) ∧ 0 ≤ z ∧ z ≤ 8388608 ∧ Hid (Only lo hi w wr) ∧ Hid (wr.ownsRow lo 29 3 (.slice (some ⟨g, 0, none⟩) ds.length c) ds.length xs) ∧ Hid (∀ q u, Lb.hdr q = true → (ds.flatMap Lb.cells)[q]? = some u → xs[q]? = some u) ∧ Hid (∀ l ∈ ds, l.Ok wr (g + 1))) (fun _ i _ => ds.length - (intOf i).toNat)
  case atStart => exact ⟨0, k0, _, Nat.zero_le _, rfl, rfl, by simp [Lb.cnts, Hid], hk0, by omega, Only.refl _ _ _, HOwn, Lib.hid (fun q u _ hu => hu), Lib.hid (fun l hl => (HI.out l hl).1.ok)⟩
  case round =>
    obtain ⟨j, z, xs, hj, rfl, rfl, HZ, hz0, hz1, HON, HO, HX, HK⟩ := hrel
    by_cases hlt : j < ds.length
    · obtain ⟨z0, z1, y1, z2, y2⟩ := HS.out _ (List.getElem_mem hlt)
      clear y1 y2
      obtain ⟨_, hu1, hu2⟩ := HI.out _ (List.getElem_mem hlt)
      have HU1 := Lib.hid hu1
      have HU2 := Lib.hid hu2
      clear hu1 hu2
      have HCT := Lib.hid (HTK.out j hlt)
      have HCE : Hid (ds[j].cnt = 1 + (ds[j].needs.length : Int) + (ds[j].gives.length : Int)) := rfl
      have HL1 := Lib.hid (HLE.out (j + 1))
      go_wp2_with fail
      refine (markText_any (z) _ (by omega)).mono ?_
      rintro e w1 ⟨rfl, s1⟩
      have O1b := Lib.hid (own_below HO.out s1)
      have K1b : Hid (∀ l ∈ ds, l.Ok w1 (g + 1)) := fun l hl => (HK.out l hl).below s1
      have N1b := Lib.hid (HON.out.trans (Only.of_below s1))
      clear s1
      have f1 : w1.frozen? ⟨g, j * 3, none⟩ = false := O1b.out.frozenAt _
      obtain ⟨v1, c1⟩ : ∃ v, w1.cell? ⟨g, j * 3, none⟩ = some v := ⟨_, (O1b.out.cellAt (j * 3) (by omega)).trans (List.getElem?_eq_getElem (by have := O1b.out.1; omega))⟩
      have O1 := Lib.hid (O1b.out.stored (j * 3) (.string (mkText (z)))).1
      have K1 : Hid (∀ l ∈ ds, l.Ok (w1.setCell ⟨g, j * 3, none⟩ (.string (mkText (z)))) (g + 1)) := fun l hl => (K1b.out l hl).other (O1b.out.stored (j * 3) (.string (mkText (z)))).2 (Nat.lt_succ_self _)
      have N1 := Lib.hid (N1b.out.set_ (p := ⟨g, j * 3, none⟩) (.string (mkText (z))) hlo hhi)
      have X1 := Lib.hid (Lb.hdr_set HX.out (p := j * 3) (by simp [Lb.hdr] <;> omega) (.string (mkText (z))))
      have h2 := Lb.hdr_at X1.out O1.out hlt (i := 1) (by omega) (by simp [Lb.hdr] <;> omega) rfl rfl
      go_wp2_with fail
      obtain ⟨y2, r2⟩ := (K1.out _ (List.getElem_mem hlt)).1
      refine (markStringS_any _ _ _ _ (z + 1) _ _ r2 (by omega) (by omega) (by omega)).mono ?_
      rintro e w2 ⟨rfl, n2, g2⟩
      have O2 := Lib.hid (own_other O1.out g2 (fun a a2 e1 e2 => by injection e1 with e1; subst e1; have := (own_up r2 a2 e2).1; simp only [ne_eq]; omega))
      have K2 : Hid (∀ l ∈ ds, l.Ok w2 (g + 1)) := fun l hl => (K1.out l hl).after1 r2 n2 g2
      have N2 := Lib.hid (N1.out.trans (Only.of_marks (own_base r2 (by omega)) HU1.out g2))
      clear r2 n2 g2 h2
      have h3 := Lb.hdr_at X1.out O2.out hlt (i := 2) (by omega) (by simp [Lb.hdr] <;> omega) rfl rfl
      go_wp2_with fail
      obtain ⟨y3, r3⟩ := (K2.out _ (List.getElem_mem hlt)).2
      refine (markStringS_any _ _ _ _ (z + 1 + (ds[j].needs.length : Int)) _ _ r3 (by omega) (by omega) (by omega)).mono ?_
      rintro e w3 ⟨rfl, n3, g3⟩
      have O3 := Lib.hid (own_other O2.out g3 (fun a a2 e1 e2 => by injection e1 with e1; subst e1; have := (own_up r3 a2 e2).1; simp only [ne_eq]; omega))
      have K3 : Hid (∀ l ∈ ds, l.Ok w3 (g + 1)) := fun l hl => (K2.out l hl).after2 r3 n3 g3
      have N3 := Lib.hid (N2.out.trans (Only.of_marks (own_base r3 (by omega)) HU2.out g3))
      clear r3 n3 g3 h3
      go_wp2
      go_roundw
      case rel =>
        have q1 := HCT.out
        have q2 := HCE.out
        have q3 := HZ.out
        have q4 := HL1.out
        exact ⟨j + 1, _, _, by omega, by go_num, rfl, Lib.hid (by omega), by omega, by omega, N3, O3, X1, K3⟩
      case measure => simp [intOf]; omega
    · have HF : Hid (z = k0 + Lb.cnts ds) := by have h := HZ.out; rw [List.take_of_length_le (by omega)] at h; exact h
      go_wp2
      go_ret
      rw [← HF.out]
      exact ⟨rfl, HON.out⟩
theorem Lb.cnts_v {xs ds : List Lb} (h : ds.map Lb.v = xs.map Lb.v) : Lb.cnts ds = Lb.cnts xs := by
  have e : ∀ l : List Lb, Lb.cnts l = ((l.map Lb.v).map fun v => (1 + ((v.2.1.length : Nat) : Int) + ((v.2.2.length : Nat) : Int) : Int)).sum := fun l => by
    unfold Lb.cnts
    rw [List.map_map]
    rfl
  rw [e, e, h]
end Go.Proofs.Ytbhndkdijbappaa
