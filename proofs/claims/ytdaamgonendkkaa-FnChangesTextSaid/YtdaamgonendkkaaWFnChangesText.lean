/- The walk of FnChangesText. No condition. -/
import Derived.Test.YtdaamgonendkkaaRows
import Derived.Test.YtdaamgonendkkaaBase
import Derived.Test.YtdaamgonendkkaaBase2
import Derived.Test.YtdaamgonendkkaaBase3
import Derived.Test.YtdaamgonendkkaaIn
import Derived.Test.YtdaamgonendkkaaName
import Derived.Test.YtdaamgonendkkaaStrS
import Derived.Test.YtdaamgonendkkaaSameT
import Derived.Test.YtdaamgonendkkaaChg
import Derived.Test.YtdaamgonendkkaaAlive
import Derived.Test.YtdaamgonendkkaaPick
import Derived.Test.YtdaamgonendkkaaPick2
import Derived.Test.YtdaamgonendkkaaOpenC
import Derived.Test.YtdaamgonendkkaaDrawN
import Derived.Test.YtdaamgonendkkaaDrawNs
import Derived.WalkKit
import Derived.WalkSpells
import Derived.WalkLawsBesides
import Derived.Handy
import Derived.BigQuiet
import Derived.Deep.RegionHeld3
import Derived.Deep.DrawnRows
import Derived.Deep.QuietTactic
namespace Go.Proofs.Ytdaamgonendkkaa
open Go Go.RowKit

theorem own_pickG {w w' : World} {base r : Nat} {t : TypeId} {size : Nat} {A : Option Addr} {n c : Nat} {xs : List Value} (h : w.ownsRow base t size (.slice A n c) n xs) (hu : ∀ a, A = some a → r < a.block) (hg : w.grownBy w' (some r)) : w'.ownsRow base t size (.slice A n c) n xs :=
  own_other (A2 := some ⟨r, 0, none⟩) h hg (fun a a2 h1 h2 => by
    injection h2 with h2
    subst h2
    have := hu a h1
    simp only [ne_eq]
    omega)
theorem gr_setCellR {a b : World} {g : Nat} (h : a.grownBy b (some g)) (i : Nat) (u : Value) : a.grownBy (b.setCell ⟨g, i, none⟩ u) (some g) :=
  gr_trans h ⟨rfl, rfl, rfl, by simp [World.setCell], fun k _ hne => Below.heap_setCell b _ u k (fun e => hne (by rw [e]))⟩
/-- Changes were drawn. -/
def DrewChg (w : World) (e : Ending) (w' : World) : Prop :=
  ∃ (A1 : Option Addr) (c1 : Nat) (xs : List ByteArray) (A2 : Option Addr) (c2 : Nat) (ys : List ByteArray) (A3 : Option Addr) (c3 : Nat) (zs : List ByteArray), e = .returned (.agg #[.slice A1 xs.length c1, .slice A2 ys.length c2, .slice A3 zs.length c3]) ∧
    w'.ownsRow w.heap.size 9 1 (.slice A1 xs.length c1) xs.length (texts xs) ∧ w'.ownsRow w.heap.size 9 1 (.slice A2 ys.length c2) ys.length (texts ys) ∧ w'.ownsRow w.heap.size 9 1 (.slice A3 zs.length c3) zs.length (texts zs) ∧ (xs.length ≤ 7 ∧ ∀ s ∈ xs, s.size ≤ 9) ∧ (ys.length ≤ 7 ∧ ∀ s ∈ ys, s.size ≤ 9) ∧ (zs.length ≤ 7 ∧ ∀ s ∈ zs, s.size ≤ 9) ∧ Below w.heap.size w w'
set_option maxRecDepth 100000 in
set_option maxHeartbeats 8000000 in
theorem DrawChangesText_any {A : Option Addr} {c : Nat} (cs : List Int) (w : World) (h1 : Reads w w.heap.size 1 A cs.length (nums .u8 cs)) (hx : ∀ x ∈ cs, 0 ≤ x ∧ x ≤ 255) (hm : cs.length ≤ 1048576) (hc : cs.length ≤ c) (hc2 : c ≤ maxLen) :
    Calls Try.prog 9 #[.slice A cs.length c] w (DrewChg w) := by
  have HO := Lib.hid (fun o => open_any (A := A) (c := c) cs (w.alloc o) ((h1.alloc (Nat.le_refl _) o).more (by simp)) hx hm hc hc2)
  clear h1 hx
  go_enter Try.func9, Try.ntmps9
  go_wp2_with fail
  refine (HO.out _).mono ?_
  rintro e w0 ⟨rfl, hr, hz, hb⟩
  have K0 := Lib.hid ((Blk.new w 25 #[.slice none 0 0, .slice none 0 0, .slice none 0 0]).below hb (by simp))
  simp only [World.size_alloc] at hr hz hb ⊢
  have hb0 := Lib.hid (((Below.refl w.heap.size w).alloc (Nat.le_refl _) _).trans (hb.mono (by first | omega | simp)))
  have zz0 : w.heap.size + 2 ≤ w0.heap.size := by omega
  obtain ⟨r, hrr⟩ : ∃ r, r = w.heap.size + 1 := ⟨_, rfl⟩
  rw [← hrr] at hr ⊢
  have hrl : r < w0.heap.size := by omega
  have hrw : w.heap.size ≤ r := by omega
  have hrw1 : w.heap.size < r := by omega
  have HR0 := Lib.hid hr
  have HG0 := Lib.hid (grown_refl w0 (some r))
  have HRR := Lib.hid hrr
  have HZ := Lib.hid hz
  clear hz hb hr HO hrr
  go_wp2_with fail
  refine (l20Names_any r _ 0 _ HR0.out (by omega) (by omega) (by omega)).mono ?_
  rintro e w1 ⟨A1, c1, xs, rfl, o1, hl1, hq1, hr1, hg1⟩
  have zz1 := hg1.size
  replace K0 := Lib.hid (K0.out.grown hg1 (by simp; omega))
  have H1 := Lib.hid (own_base (base' := w.heap.size) o1 (by omega))
  have HQ1 : Hid (∀ s ∈ xs, s.size ≤ 9) := fun s h => (hq1 s h).1
  have U1 : Hid (∀ a, A1 = some a → r < a.block) := fun a h => by have := (own_up o1 a h).1; omega
  have HG1 := Lib.hid (gr_trans HG0.out hg1)
  have HR1 := Lib.hid hr1
  clear o1 hq1 hr1 hg1 HG0 HR0
  go_wp2_with fail
  refine (l20Names_any r _ 0 _ HR1.out (by omega) (by omega) (by omega)).mono ?_
  rintro e w2 ⟨A2, c2, ys, rfl, o2, hl2, hq2, hr2, hg2⟩
  have zz2 := hg2.size
  replace K0 := Lib.hid (K0.out.grown hg2 (by simp; omega))
  have H2 := Lib.hid (own_base (base' := w.heap.size) o2 (by omega))
  have HQ2 : Hid (∀ s ∈ ys, s.size ≤ 9) := fun s h => (hq2 s h).1
  replace H1 := Lib.hid (own_pickG H1.out U1.out hg2)
  have U2 : Hid (∀ a, A2 = some a → r < a.block) := fun a h => by have := (own_up o2 a h).1; omega
  have HG2 := Lib.hid (gr_trans HG1.out hg2)
  have HR2 := Lib.hid hr2
  clear o2 hq2 hr2 hg2 HG1 HR1
  go_wp2_with fail
  refine (l20Names_any r _ 0 _ HR2.out (by omega) (by omega) (by omega)).mono ?_
  rintro e w3 ⟨A3, c3, zs, rfl, o3, hl3, hq3, hr3, hg3⟩
  have zz3 := hg3.size
  replace K0 := Lib.hid (K0.out.grown hg3 (by simp; omega))
  have H3 := Lib.hid (own_base (base' := w.heap.size) o3 (by omega))
  have HQ3 : Hid (∀ s ∈ zs, s.size ≤ 9) := fun s h => (hq3 s h).1
  replace H1 := Lib.hid (own_pickG H1.out U1.out hg3)
  replace H2 := Lib.hid (own_pickG H2.out U2.out hg3)
  have U3 : Hid (∀ a, A3 = some a → r < a.block) := fun a h => by have := (own_up o3 a h).1; omega
  have HG3 := Lib.hid (gr_trans HG2.out hg3)
  have HR3 := Lib.hid hr3
  clear o3 hq3 hr3 hg3 HG2 HR2
  have c00 := K0.out.cell 0
  have c01 := K0.out.cell 1
  have c02 := K0.out.cell 2
  have f00 := K0.out.frozen 0
  have f01 := K0.out.frozen 1
  have f02 := K0.out.frozen 2
  go_wp2
  refine bodyPost_ret (v := .agg #[.slice A1 xs.length c1, .slice A2 ys.length c2, .slice A3 zs.length c3]) (by simp [results, Try.results9, go_sem, c00, c01, c02]) rfl ?_
  have HB := below_gr hb0.out HG3.out hrw
  have k1 : ∀ (u1 u2 u3 : Value) (A : Option Addr) (n c : Nat) (l : List Value), (∀ a, A = some a → r < a.block) → w3.ownsRow w.heap.size 9 1 (.slice A n c) n l → (((w3.setCell ⟨w.heap.size, 0, none⟩ u1).setCell ⟨w.heap.size, 1, none⟩ u2).setCell ⟨w.heap.size, 2, none⟩ u3).ownsRow w.heap.size 9 1 (.slice A n c) n l := fun u1 u2 u3 A n c l hA h =>
    own_other (A2 := some ⟨w.heap.size, 0, none⟩) h (gr_setCellR (g := w.heap.size) (gr_setCellR (g := w.heap.size) (gr_setCellR (g := w.heap.size) (grown_refl w3 (some w.heap.size)) 0 u1) 1 u2) 2 u3) (fun a a2 e1 e2 => by
      injection e2 with e2
      subst e2
      have := hA a e1
      simp only [ne_eq]
      omega)
  exact ⟨A1, c1, xs, A2, c2, ys, A3, c3, zs, rfl, k1 _ _ _ _ _ _ _ U1.out H1.out, k1 _ _ _ _ _ _ _ U2.out H2.out, k1 _ _ _ _ _ _ _ U3.out H3.out, ⟨hl1, HQ1.out⟩, ⟨hl2, HQ2.out⟩, ⟨hl3, HQ3.out⟩,
    ((HB.setCell (p := ⟨w.heap.size, 0, none⟩) (Nat.le_refl _) _).setCell (p := ⟨w.heap.size, 1, none⟩) (Nat.le_refl _) _).setCell (p := ⟨w.heap.size, 2, none⟩) (Nat.le_refl _) _⟩

theorem chText_at (xs ys zs : List ByteArray) {k : Nat} (hk : k < xs.length) : (texts (chTexts xs ys zs))[k]? = some (.string ((⟨#[43, 32]⟩ : ByteArray) ++ xs[k])) := by
  unfold chTexts texts tagS
  simp [List.getElem?_append, hk]
set_option maxRecDepth 100000 in
set_option maxHeartbeats 8000000 in
theorem FnChangesText_walk (W : World) (v0 : Value) (a0 : ArgCode W v0) : Calls Try.prog 3 #[v0] W (Gives W (.bool true)) := by
  obtain ⟨A, c, cs, rfl, hr, hc1, hc2, hcb⟩ := a0
  by_cases hl : cs.length ≤ 1048576
  · have HD := Lib.hid (DrawChangesText_any cs W hr hcb hl hc1 hc2)
    clear hcb hr
    unfold maxLen at hc2
    go_enter Try.func3, Try.ntmps3
    go_wp2_with fail
    refine HD.out.mono ?_
    rintro e w1 ⟨A1, c1, xs, A2, c2, ys, A3, c3, zs, rfl, o1, o2, o3, ⟨hl1, hq1⟩, ⟨hl2, hq2⟩, ⟨hl3, hq3⟩, b1⟩
    have HS1 : Hid (∀ s ∈ xs, s.size ≤ 1048576) := fun s h => by have := hq1 s h; omega
    have HS2 : Hid (∀ s ∈ ys, s.size ≤ 1048576) := fun s h => by have := hq2 s h; omega
    have HS3 : Hid (∀ s ∈ zs, s.size ≤ 1048576) := fun s h => by have := hq3 s h; omega
    have HQ1 := Lib.hid hq1
    have HLN := Lib.hid (chTexts_len xs ys zs)
    have hlen : (chTexts xs ys zs).length ≤ 21 := by rw [chTexts_len]; omega
    have hlen2 : xs.length ≤ (chTexts xs ys zs).length := by rw [chTexts_len]; omega
    clear hq1 hq2 hq3 HD
    have K := Lib.hid (Blk.new w1 25 #[.slice A1 xs.length c1, .slice A2 ys.length c2, .slice A3 zs.length c3])
    have HG1 := Lib.hid (b1.alloc b1.size (.cells #[.slice A1 xs.length c1, .slice A2 ys.length c2, .slice A3 zs.length c3] 25))
    have H1 := Lib.hid (o1.alloc (.cells #[.slice A1 xs.length c1, .slice A2 ys.length c2, .slice A3 zs.length c3] 25))
    have H2 := Lib.hid (o2.alloc (.cells #[.slice A1 xs.length c1, .slice A2 ys.length c2, .slice A3 zs.length c3] 25))
    have H3 := Lib.hid (o3.alloc (.cells #[.slice A1 xs.length c1, .slice A2 ys.length c2, .slice A3 zs.length c3] 25))
    have zz1 := b1.size
    obtain ⟨g, hg⟩ : ∃ g, g = w1.heap.size := ⟨_, rfl⟩
    rw [← hg] at K
    have HGG := Lib.hid hg
    clear o1 o2 o3 b1 hg
    go_wp2_with fail
    refine (implChangesText_any xs ys zs _ (Reads.of_own H1.out) (Nat.le_refl _) (Reads.of_own H2.out) (Nat.le_refl _) (Reads.of_own H3.out) (Nat.le_refl _) (by omega) (by omega) (by omega) HS1.out HS2.out HS3.out).mono ?_
    rintro e w2 ⟨Ax, cx, rfl, ox, s2⟩
    replace K := Lib.hid (K.out.below s2 K.out.lt)
    replace H1 := Lib.hid (own_below H1.out s2)
    replace H2 := Lib.hid (own_below H2.out s2)
    replace H3 := Lib.hid (own_below H3.out s2)
    have Hx := Lib.hid ox
    have HG2 := Lib.hid (HG1.out.trans (s2.mono HG1.out.size))
    clear s2 ox HG1
    rw [← HGG.out]
    have c0 := K.out.cell 0
    have c1' := K.out.cell 1
    have c2' := K.out.cell 2
    go_wp2_with fail
    clear c0 c1' c2'
    refine (specChangesText_any xs ys zs _ (Reads.of_own H1.out) (Nat.le_refl _) (Reads.of_own H2.out) (Nat.le_refl _) (Reads.of_own H3.out) (Nat.le_refl _) (by omega) (by omega) (by omega) HS1.out HS2.out HS3.out).mono ?_
    rintro e w3 ⟨Ay, cy, rfl, oy, s3⟩
    replace K := Lib.hid (K.out.below s3 K.out.lt)
    replace H1 := Lib.hid (own_below H1.out s3)
    replace Hx := Lib.hid (own_below Hx.out s3)
    have Hy := Lib.hid oy
    have HG3 := Lib.hid (HG2.out.trans (s3.mono HG2.out.size))
    clear s3 oy HG2 H2 H3
    go_wp2_with fail
    refine (sameTexts_any _ _ _ _ _ _ (chTexts xs ys zs) (chTexts xs ys zs) _ (Reads.of_own Hx.out) (Reads.of_own Hy.out) (by omega) (by omega)).mono ?_
    rintro e w4 ⟨rfl, s4⟩
    rw [decide_eq_true rfl]
    replace K := Lib.hid (K.out.below s4 K.out.lt)
    replace H1 := Lib.hid (own_below H1.out s4)
    replace Hx := Lib.hid (own_below Hx.out s4)
    have HG4 := Lib.hid (HG3.out.trans (s4.mono HG3.out.size))
    clear s4 HG3 Hy
    have c0 := K.out.cell 0
    have c1' := K.out.cell 1
    have c2' := K.out.cell 2
    go_wp2
    go_loopw [5] (fun i wr => ∃ k : Nat, k ≤ xs.length ∧ i = .int .i64 k ∧ ∃ d, wr = w4.drewN d) (fun i _ => xs.length - (intOf i).toNat)
    case atStart => exact ⟨0, Nat.zero_le _, rfl, 0, rfl⟩
    case round =>
      obtain ⟨k, hk, rfl, d, rfl⟩ := hrel
      by_cases hlt : k < xs.length
      · have hltx : k < (chTexts xs ys zs).length := by omega
        obtain ⟨a1, u1, rfl, hbl1, hx1, hcx⟩ := (Reads.of_own H1.out).at_ hlt
        obtain ⟨a2, u2, rfl, hbl2, hx2, hcy⟩ := (Reads.of_own Hx.out).at_ hltx
        rw [texts_get _ _ hlt] at hx1
        rw [chText_at xs ys zs hlt] at hx2
        injection hx1 with hx1
        injection hx2 with hx2
        subst hx1 hx2
        have hs9 := HQ1.out _ (List.getElem_mem hlt)
        generalize xs[k] = s at *
        have k0 : (0 : Int) ≤ (k : Int) := Int.natCast_nonneg _
        have k1 : (k : Int) < (xs.length : Int) := by omega
        have k2 : (k : Int) < ((chTexts xs ys zs).length : Int) := by omega
        go_wp2
        go_quiet (fail)
        go_wp2
        go_roundw
        case rel => exact ⟨k + 1, by omega, by go_num, _, rfl⟩
        case measure => simp [intOf]; omega
      · obtain rfl : k = xs.length := by omega
        have hfin : (((chTexts xs ys zs).length : Int) == (xs.length : Int) + (ys.length : Int) + (zs.length : Int)) = true := by rw [HLN.out]; simp
        go_wp2_with fail
        refine (alive_any _).mono ?_
        rintro e w' ⟨rfl, rfl⟩
        go_wp2
        go_ret
        exact ⟨rfl, below_drewN HG4.out _⟩
  · go_enter Try.func3, Try.ntmps3
    go_wp2
    go_ret
    exact ⟨rfl, Below.refl _ _⟩
end Go.Proofs.Ytdaamgonendkkaa
