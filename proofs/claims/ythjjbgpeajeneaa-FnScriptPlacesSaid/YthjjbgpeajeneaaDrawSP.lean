/- Contract of the drawing of the law of ScriptPlaces. Condition: the sizes. -/
import Derived.Test.YthjjbgpeajeneaaRows
import Derived.Test.YthjjbgpeajeneaaBase
import Derived.Test.YthjjbgpeajeneaaBase2
import Derived.Test.YthjjbgpeajeneaaBase3
import Derived.Test.YthjjbgpeajeneaaBase4
import Derived.Test.YthjjbgpeajeneaaIn
import Derived.Test.YthjjbgpeajeneaaPart
import Derived.Test.YthjjbgpeajeneaaIntS
import Derived.Test.YthjjbgpeajeneaaScrV
import Derived.Test.YthjjbgpeajeneaaScrW
import Derived.Test.YthjjbgpeajeneaaAreV
import Derived.Test.YthjjbgpeajeneaaScrP
import Derived.Test.YthjjbgpeajeneaaPick
import Derived.Test.YthjjbgpeajeneaaPick2
import Derived.Test.YthjjbgpeajeneaaOpenC
import Derived.Test.YthjjbgpeajeneaaDrawSc
import Derived.Test.YthjjbgpeajeneaaReg
import Derived.Test.YthjjbgpeajeneaaRegS
import Derived.WalkKit
import Derived.WalkSpells
import Derived.WalkLawsBesides
import Derived.Handy
import Derived.BigQuiet
import Derived.Deep.RegionHeld3
import Derived.Deep.DrawnRows
import Derived.Deep.QuietTactic
namespace Go.Proofs.Ythjjbgpeajeneaa
open Go Go.RowKit

theorem reads_keeps {ok : Nat → Prop} {w w' : World} {size n : Nat} {A : Option Addr} {xs : List Value} (h : Reads w w.heap.size size A n xs) (k : Keeps ok w w') (ho : ∀ a, A = some a → ok a.block) : Reads w' w'.heap.size size A n xs :=
  ⟨h.1, fun hn => by
    obtain ⟨ad, hA, hb, hc⟩ := h.2 hn
    exact ⟨ad, hA, Nat.lt_of_lt_of_le hb k.size, fun j u hu => k.cell (hc j u hu) (by rw [block_of_add]; exact ho ad hA)⟩⟩
def DrewSP (w : World) (e : Ending) (w' : World) : Prop :=
  ∃ (A : Option Addr) (c : Nat) (xs : List Prt) (A2 : Option Addr) (c2 : Nat) (ss : List Int) (base : Int), e = .returned (.tuple #[.slice A xs.length c, .slice A2 ss.length c2, .int .i64 base]) ∧ Reads w' w'.heap.size 2 A xs.length (xs.flatMap Prt.cells) ∧
    Reads w' w'.heap.size 1 A2 ss.length (nums .i64 ss) ∧ xs.length ≤ 3 ∧ ss.length ≤ 3 ∧ Below w.heap.size w w'
theorem reads_of_blk {w : World} {g : Nat} {t : TypeId} {l : List Int} (h : Blk w g t (nums .i64 l).toArray) (o n : Nat) (hn : n = l.length - o) : Reads w w.heap.size 1 (some ⟨g, o, none⟩) n (nums .i64 (l.drop o)) := by
  refine ⟨by rw [hn]; simp [nums], fun _ => ⟨_, rfl, h.lt, fun j u hu => ?_⟩⟩
  have e : (⟨g, o, none⟩ : Addr).add j = ⟨g, o + j, none⟩ := by
    unfold Addr.add
    split <;> simp_all
  rw [e, h.cell]
  rw [← hu]
  simp [nums, List.getElem?_drop, List.map_drop]
set_option maxRecDepth 100000 in
set_option maxHeartbeats 16000000 in
theorem DrawScriptPlaces_any {A : Option Addr} {c : Nat} (cs : List Int) (w : World) (h1 : Reads w w.heap.size 1 A cs.length (nums .u8 cs)) (hx : ∀ x ∈ cs, 0 ≤ x ∧ x ≤ 255) (hm : cs.length ≤ 1048576) (hc : cs.length ≤ c) (hc2 : c ≤ maxLen) :
    Calls Try.prog 21 #[.slice A cs.length c] w (DrewSP w) := by
  have HO := Lib.hid (open_any cs w h1 hx hm hc hc2)
  clear h1 hx
  go_enter Try.func21, Try.ntmps21
  go_wp2_with fail
  refine HO.out.mono ?_
  rintro e w1 ⟨rfl, hr, hz, hb⟩
  have HB1 := Lib.hid hb
  have hrl : w.heap.size < w1.heap.size := hr.lt
  clear hz hb HO
  go_wp2_with fail
  refine (l20Script_any _ 0 9 _ hr (by omega) (by omega) (by omega)).mono ?_
  rintro e w2 ⟨A2, c2, xs, rfl, hxs, hA2, hl3, hlc, hcm, hr2, hg2⟩
  obtain ⟨r, hrE⟩ : ∃ r, r = w.heap.size := ⟨_, rfl⟩
  rw [← hrE] at hr2 hg2 hrl ⊢
  have HRE := Lib.hid hrE
  have HX2 := Lib.hid hxs
  have HXR : Hid (∀ a, A2 = some a → a.block ≠ r) := fun a ha => by have := hA2 a ha; omega
  have HR2 := Lib.hid hr2
  have HG2 := Lib.hid hg2
  have hz2 := hg2.size
  clear hxs hA2 hr2 hg2 hr hrE hlc hcm
  go_wp2_with fail
  refine (pick_any r _ 99 _ HR2.out (by omega) (by omega) (by omega)).mono ?_
  rintro e w3 ⟨v1, rfl, ⟨v1a, v1b⟩, hr3, hg3⟩
  have HR3 := Lib.hid hr3
  have HG3 := Lib.hid (gr_trans HG2.out hg3)
  have HX3 := Lib.hid (reads_keeps (ok := (· ≠ r)) HX2.out (Keeps.grown hg3 (by simp)) HXR.out)
  clear hr3 hg3 HR2 HG2 HX2
  go_wp2_with fail
  refine (pick_any r _ 256 _ HR3.out (by omega) (by omega) (by omega)).mono ?_
  rintro e w4 ⟨v2, rfl, ⟨v2a, v2b⟩, hr4, hg4⟩
  have HR4 := Lib.hid hr4
  have HG4 := Lib.hid (gr_trans HG3.out hg4)
  have HX4 := Lib.hid (reads_keeps (ok := (· ≠ r)) HX3.out (Keeps.grown hg4 (by simp)) HXR.out)
  clear hr4 hg4 HR3 HG3 HX3
  go_wp2_with fail
  refine (pick_any r _ 9 _ HR4.out (by omega) (by omega) (by omega)).mono ?_
  rintro e w5 ⟨v3, rfl, ⟨v3a, v3b⟩, hr5, hg5⟩
  have HG5 := Lib.hid (gr_trans HG4.out hg5)
  have hwr : r < w5.heap.size := hr5.lt
  have hwg00 : w1.heap.size ≤ w5.heap.size := HG5.out.size
  have HX5 := Lib.hid ((reads_keeps (ok := (· ≠ r)) HX4.out (Keeps.grown hg5 (by simp)) HXR.out))
  have HR5 := Lib.hid hr5
  clear hr5 hg5 HR4 HG4 HX4
  go_wp2_with fail
  have K5 := Lib.hid (Blk.new w5 3 #[.int .i64 v1, .int .i64 v2, .int .i64 v3])
  have HX6 : Hid (Reads (w5.alloc (.cells #[.int .i64 v1, .int .i64 v2, .int .i64 v3] 3)) (w5.alloc (.cells #[.int .i64 v1, .int .i64 v2, .int .i64 v3] 3)).heap.size 2 A2 xs.length (xs.flatMap Prt.cells)) := (HX5.out.alloc (Nat.le_refl _) _).more (by simp)
  refine (odd_any r _ 12 _ (HR5.out.alloc _) (by omega) (by omega) (by omega)).mono ?_
  rintro e w6 ⟨b1, rfl, hr6, hg6⟩
  have HG6 := Lib.hid (gr_trans (gr_alloc HG5.out _) hg6)
  have HK6 : Hid (Blk w6 w5.heap.size 3 (nums .i64 [v1, v2, v3]).toArray) := K5.out.grown hg6 (by simp; omega)
  have HX7 := Lib.hid (reads_keeps (ok := (· ≠ r)) HX6.out (Keeps.grown hg6 (by simp)) HXR.out)
  have HR6 := Lib.hid hr6
  have HXG : Hid (∀ a, A2 = some a → xs.length = 0 ∨ a.block ≠ w5.heap.size) := fun a ha => by
    rcases Nat.eq_zero_or_pos xs.length with h0 | h0
    · exact .inl h0
    · obtain ⟨ad, hA, hb, _⟩ := HX5.out.2 h0
      rw [ha] at hA
      injection hA with hA
      subst hA
      exact .inr (by omega)
  clear hr6 hg6 HR5 HG5 HX5 HX6 K5
  have hwg0 : w1.heap.size ≤ w5.heap.size := by have := HG6.out.size; first | exact hwg00 | omega
  generalize w5.heap.size = g at *
  cases b1
  · go_wp2_with fail
    refine (odd_any r _ 14 _ HR6.out (by omega) (by omega) (by omega)).mono ?_
    rintro e wz ⟨b2, rfl, hrz, hgz⟩
    have HRz := Lib.hid hrz
    have HGz := Lib.hid (gr_trans HG6.out hgz)
    have HKz : Hid (Blk wz g 3 (nums .i64 [v1, v2, v3]).toArray) := HK6.out.grown hgz (by simp; omega)
    have HXz := Lib.hid (reads_keeps (ok := (· ≠ r)) HX7.out (Keeps.grown hgz (by simp)) HXR.out)
    clear hrz hgz HK6 HG6 HX7 HR6
    cases b2
    · obtain ⟨q, hq⟩ : ∃ q, q = 0 + 8 + 1 + 1 + 1 + 1 + 1 := ⟨_, rfl⟩
      have hq9 : q ≤ 1000 := by omega
      have HRZ : Hid (Rdr wz.drew r (q + 0 + 0)) := by rw [hq]; exact HRz.out
      have HSS : Hid (Reads wz wz.heap.size 1 (some ⟨g, 0, none⟩) 3 (nums .i64 ([v1, v2, v3].drop 0))) := reads_of_blk HKz.out 0 _ (by simp)
      have HXS := HXz
      have HGZ := HGz
      have hrz : r < wz.heap.size := HRz.out.lt
      have hgz : g < wz.heap.size := HKz.out.lt
      clear hq HRz HKz HXz HGz
      obtain ⟨Z, hZ⟩ : ∃ Z, Z = wz.heap.size := ⟨_, rfl⟩
      have hZz : Z ≤ wz.drew.heap.size := by rw [hZ]; exact Nat.le_refl _
      have hrZ : r < Z := by omega
      clear hZ
      go_wp2
      refine wp_region_facts (fun i v wq => match i with
        | 0 => v = .slice A2 xs.length c2
        | 1 => v = .slice (some ⟨g, 0, none⟩) 3 3
        | 2 => v = .pointer (some ⟨r, 0, none⟩)
        | 3 => ∃ x : Int, v = .int .i64 x ∧ 0 ≤ x ∧ x ≤ 255
        | 4 => ∃ (g : Nat) (l : List Int), v = .slice (some ⟨g, 0, none⟩) 4 4 ∧ Z ≤ g ∧ l.length = 4 ∧ Blk wq g 3 (nums .i64 l).toArray
        | 5 => ∃ (g : Nat), v = .slice (some ⟨g, 0, none⟩) 7 7 ∧ Z ≤ g ∧ Blk wq g 3 (nums .i64 [0, 0, 0, 0, 1, 2, 3]).toArray
        | 6 => v = .pointer (some ⟨r, 0, none⟩)
        | 7 => ∃ x : Int, v = .int .i64 x ∧ 0 ≤ x ∧ x ≤ 6
        | 8 => ∃ (b o : Nat) (x : Int), v = .pointer (some ⟨b, o, none⟩) ∧ Z ≤ b ∧ wq.cell? ⟨b, o, none⟩ = some (.int .i64 x) ∧ 0 ≤ x ∧ x ≤ 3
        | 9 => ∃ x : Int, v = .int .i64 x ∧ 0 ≤ x ∧ x ≤ 3
        | 10 => ∃ (b o : Nat) (x : Int), v = .pointer (some ⟨b, o, none⟩) ∧ Z ≤ b ∧ wq.cell? ⟨b, o, none⟩ = some (.int .i64 x)
        | 11 => ∃ x : Int, v = .int .i64 x
        | 12 => v = .slice A2 xs.length c2
        | 13 => v = .slice (some ⟨g, 0, none⟩) 3 3
        | _ => ∃ x : Int, v = .int .i64 x)
        (fun fl _ wq => Rdr wq r (q + (if fl 3 = true then 1 else 0) + (if fl 7 = true then 1 else 0)) ∧ wz.grownBy wq (some r) ∧ Z ≤ wq.heap.size) (Keeps (Z ≤ ·)) (by kernel_rfl) (by kernel_rfl) ?_ ?_ ?_ ?_
      · intro i v u u' hk h
        match i, h with
        | 0, h => exact h
        | 1, h => exact h
        | 2, h => exact h
        | 3, h => exact h
        | 4, ⟨g, l, h1, h2, h3, h4⟩ => exact ⟨g, l, h1, h2, h3, h4.keeps hk h2⟩
        | 5, ⟨g, h1, h2, h4⟩ => exact ⟨g, h1, h2, h4.keeps hk h2⟩
        | 6, h => exact h
        | 7, h => exact h
        | 8, ⟨b, o, x, h1, h2, h3, h4⟩ => exact ⟨b, o, x, h1, h2, hk.cell h3 h2, h4⟩
        | 9, h => exact h
        | 10, ⟨b, o, x, h1, h2, h3⟩ => exact ⟨b, o, x, h1, h2, hk.cell h3 h2⟩
        | 11, h => exact h
        | 12, h => exact h
        | 13, h => exact h
        | _ + 14, h => exact h
      · intro fl vs hfl
        rw [if_neg (c := fl 3 = true) (by rw [hfl 3 (by simp)]; simp), if_neg (c := fl 7 = true) (by rw [hfl 7 (by simp)]; simp)]
        exact ⟨HRZ.out, ⟨rfl, rfl, rfl, Nat.le_refl _, fun _ _ _ => rfl⟩, hZz⟩
      · refine ⟨?_, ?_, ?_, ?_, ?_, ?_, ?_, ?_, ?_, ?_, ?_, ?_, ?_, ?_, ?_, trivial⟩
        all_goals intro fl vs w5 a1 hc hG hfi hcl hp K hK
        · refine op_move rfl ?_
          rw [hc.ev0 _ rfl]
          exact hK _ _ (Keeps.refl _ _) rfl (by simpa [upd] using hG)
        · refine op_move rfl ?_
          rw [hc.ev0 _ rfl]
          exact hK _ _ (Keeps.refl _ _) rfl (by simpa [upd] using hG)
        · refine op_move rfl ?_
          rw [hc.ev0 _ rfl]
          exact hK _ _ (Keeps.refl _ _) rfl (by simpa [upd] using hG)
        · have h2 : vs 2 = _ := (hp 2 (by kernel_rfl)).2
          have e2 := hc.ev 34 2 rfl
          rw [h2] at e2
          have n3 : ¬ fl 3 = true := by rw [show fl 3 = false from hfi]; simp
          have n7 : ¬ fl 7 = true := fun h => n3 (hcl 7 3 (by kernel_rfl) h)
          rw [if_neg n3, if_neg n7] at hG
          refine op_call rfl (by simp only [List.map_toArray, List.map_cons, List.map_nil, e2]; rfl) (by kernel_rfl) (pick_any _ _ 256 _ hG.1 (by omega) (by omega) (by omega)) ?_
          rintro e w6 ⟨v, rfl, ⟨va, vb⟩, hr', hg'⟩
          refine ⟨_, rfl, hK _ _ (Keeps.grown hg' (fun k e hh => by injection e with e; omega)) ⟨_, rfl, va, by omega⟩ ⟨?_, gr_trans hG.2.1 hg', Nat.le_trans hG.2.2 hg'.size⟩⟩
          simpa [upd, n7] using hr'
        · obtain ⟨x, h3, _⟩ := (hp 3 (by kernel_rfl)).2
          have e3 := hc.ev 35 3 rfl
          rw [h3] at e3
          unfold Oper.wp execOp
          simp only [e3, List.map_toArray, List.map_cons, List.map_nil]
          go_simp
          exact hK _ _ (Keeps.alloc _ _ _) ⟨_, [x, 60000, -1, 60001], rfl, hG.2.2, rfl, Blk.new _ _ _⟩ ⟨by simpa [upd] using hG.1.alloc _, gr_alloc hG.2.1 _, by have := hG.2.2; simp; omega⟩
        · go_simp
          exact hK _ _ (Keeps.alloc _ _ _) ⟨_, rfl, hG.2.2, Blk.new _ _ _⟩ ⟨by simpa [upd] using hG.1.alloc _, gr_alloc hG.2.1 _, by have := hG.2.2; simp; omega⟩
        · refine op_move rfl ?_
          rw [hc.ev0 _ rfl]
          exact hK _ _ (Keeps.refl _ _) rfl (by simpa [upd] using hG)
        · have h2 : vs 6 = _ := (hp 6 (by kernel_rfl)).2
          have e2 := hc.ev 38 6 rfl
          rw [h2] at e2
          have n7 : ¬ fl 7 = true := by rw [show fl 7 = false from hfi]; simp
          have f3 : fl 3 = true := (hp 3 (by kernel_rfl)).1
          rw [if_pos f3, if_neg n7] at hG
          refine op_call rfl (by simp only [List.map_toArray, List.map_cons, List.map_nil, e2]; rfl) (by kernel_rfl) (pick_any _ _ 7 _ hG.1 (by omega) (by omega) (by omega)) ?_
          rintro e w6 ⟨v, rfl, ⟨va, vb⟩, hr', hg'⟩
          refine ⟨_, rfl, hK _ _ (Keeps.grown hg' (fun k e hh => by injection e with e; omega)) ⟨_, rfl, va, by omega⟩ ⟨?_, gr_trans hG.2.1 hg', Nat.le_trans hG.2.2 hg'.size⟩⟩
          simpa [upd, f3] using hr'
        · obtain ⟨g, h5, z5, hb⟩ := (hp 5 (by kernel_rfl)).2
          obtain ⟨x, h7, hx0, hx1⟩ := (hp 7 (by kernel_rfl)).2
          obtain ⟨y, hy, hcy⟩ := lit_at hb hx0 (by simp; omega)
          have hyb : 0 ≤ y ∧ y ≤ 3 := by simp at hy; omega
          have e5 := hc.ev 37 5 rfl
          have e7 := hc.ev 39 7 rfl
          rw [h5] at e5
          rw [h7] at e7
          have hx2 : x < 7 := by omega
          unfold Oper.wp execOp
          simp only [e5, e7]
          go_simp
          exact hK _ _ (Keeps.refl _ _) ⟨g, x.toNat, y, rfl, z5, hcy, hyb⟩ (by simpa [upd] using hG)
        · obtain ⟨b, o, x, h8, z8, hcx, hx⟩ := (hp 8 (by kernel_rfl)).2
          have e8 := hc.ev 40 8 rfl
          rw [h8] at e8
          unfold Oper.wp execOp
          simp only [e8]
          go_simp
          exact hK _ _ (Keeps.refl _ _) ⟨x, rfl, hx⟩ (by simpa [upd] using hG)
        · obtain ⟨g, l, h4, z4, hl4, hb⟩ := (hp 4 (by kernel_rfl)).2
          obtain ⟨x, h9, hx0, hx1⟩ := (hp 9 (by kernel_rfl)).2
          obtain ⟨y, hy, hcy⟩ := lit_at hb hx0 (by omega)
          have e4 := hc.ev 36 4 rfl
          have e9 := hc.ev 41 9 rfl
          rw [h4] at e4
          rw [h9] at e9
          have hx2 : x < 4 := by omega
          unfold Oper.wp execOp
          simp only [e4, e9]
          go_simp
          exact hK _ _ (Keeps.refl _ _) ⟨g, x.toNat, y, rfl, z4, hcy⟩ (by simpa [upd] using hG)
        · obtain ⟨b, o, x, h8, z8, hcx⟩ := (hp 10 (by kernel_rfl)).2
          have e8 := hc.ev 42 10 rfl
          rw [h8] at e8
          unfold Oper.wp execOp
          simp only [e8]
          go_simp
          exact hK _ _ (Keeps.refl _ _) ⟨x, rfl⟩ (by simpa [upd] using hG)
        · have h := (hp 0 (by kernel_rfl)).2
          refine op_assign rfl ?_
          rw [hc.ev 32 0 rfl]
          exact hK _ _ (Keeps.refl _ _) h (by simpa [upd] using hG)
        · have h := (hp 1 (by kernel_rfl)).2
          refine op_assign rfl ?_
          rw [hc.ev 33 1 rfl]
          exact hK _ _ (Keeps.refl _ _) h (by simpa [upd] using hG)
        · have h := (hp 11 (by kernel_rfl)).2
          refine op_assign rfl ?_
          rw [hc.ev 43 11 rfl]
          exact hK _ _ (Keeps.refl _ _) h (by simpa [upd] using hG)
      · intro fl vs w5 hfl hG hF
        have h12 : vs 12 = _ := hF 12 (by simp)
        have h13 : vs 13 = _ := hF 13 (by simp)
        obtain ⟨x, h14⟩ := hF 14 (by simp)
        have HGW := Lib.hid hG.2.1
        have HKW : Hid (Keeps (· ≠ r) wz w5) := Keeps.grown hG.2.1 (by simp)
        clear hG hF hfl
        simp only [fill]
        go_simp
        clear h12 h13 h14
        go_wp2
        refine bodyPost_ret (v := .tuple #[.slice A2 xs.length c2, .slice (some ⟨g, 0, none⟩) 3 3, .int .i64 x]) (by simp [results, Try.results21, go_sem]) rfl ?_
        exact ⟨A2, c2, xs, some ⟨g, 0, none⟩, 3, [v1, v2, v3], x, rfl, reads_keeps HXS.out HKW.out HXR.out, reads_keeps HSS.out HKW.out (fun a ha => by injection ha with ha; subst ha; simp only; omega), hl3, by simp, below_gr HB1.out (gr_trans HGZ.out HGW.out) (by rw [HRE.out]; exact Nat.le_refl _)⟩
    · obtain ⟨q, hq⟩ : ∃ q, q = 0 + 8 + 1 + 1 + 1 + 1 + 1 := ⟨_, rfl⟩
      have hq9 : q ≤ 1000 := by omega
      have HRZ : Hid (Rdr wz.drew r (q + 0 + 0)) := by rw [hq]; exact HRz.out
      have HSS : Hid (Reads wz wz.heap.size 1 (some ⟨g, 1, none⟩) 2 (nums .i64 ([v1, v2, v3].drop 1))) := reads_of_blk HKz.out 1 _ (by simp)
      have HXS := HXz
      have HGZ := HGz
      have hrz : r < wz.heap.size := HRz.out.lt
      have hgz : g < wz.heap.size := HKz.out.lt
      clear hq HRz HKz HXz HGz
      obtain ⟨Z, hZ⟩ : ∃ Z, Z = wz.heap.size := ⟨_, rfl⟩
      have hZz : Z ≤ wz.drew.heap.size := by rw [hZ]; exact Nat.le_refl _
      have hrZ : r < Z := by omega
      clear hZ
      go_wp2
      refine wp_region_facts (fun i v wq => match i with
        | 0 => v = .slice A2 xs.length c2
        | 1 => v = .slice (some ⟨g, 1, none⟩) 2 2
        | 2 => v = .pointer (some ⟨r, 0, none⟩)
        | 3 => ∃ x : Int, v = .int .i64 x ∧ 0 ≤ x ∧ x ≤ 255
        | 4 => ∃ (g : Nat) (l : List Int), v = .slice (some ⟨g, 0, none⟩) 4 4 ∧ Z ≤ g ∧ l.length = 4 ∧ Blk wq g 3 (nums .i64 l).toArray
        | 5 => ∃ (g : Nat), v = .slice (some ⟨g, 0, none⟩) 7 7 ∧ Z ≤ g ∧ Blk wq g 3 (nums .i64 [0, 0, 0, 0, 1, 2, 3]).toArray
        | 6 => v = .pointer (some ⟨r, 0, none⟩)
        | 7 => ∃ x : Int, v = .int .i64 x ∧ 0 ≤ x ∧ x ≤ 6
        | 8 => ∃ (b o : Nat) (x : Int), v = .pointer (some ⟨b, o, none⟩) ∧ Z ≤ b ∧ wq.cell? ⟨b, o, none⟩ = some (.int .i64 x) ∧ 0 ≤ x ∧ x ≤ 3
        | 9 => ∃ x : Int, v = .int .i64 x ∧ 0 ≤ x ∧ x ≤ 3
        | 10 => ∃ (b o : Nat) (x : Int), v = .pointer (some ⟨b, o, none⟩) ∧ Z ≤ b ∧ wq.cell? ⟨b, o, none⟩ = some (.int .i64 x)
        | 11 => ∃ x : Int, v = .int .i64 x
        | 12 => v = .slice A2 xs.length c2
        | 13 => v = .slice (some ⟨g, 1, none⟩) 2 2
        | _ => ∃ x : Int, v = .int .i64 x)
        (fun fl _ wq => Rdr wq r (q + (if fl 3 = true then 1 else 0) + (if fl 7 = true then 1 else 0)) ∧ wz.grownBy wq (some r) ∧ Z ≤ wq.heap.size) (Keeps (Z ≤ ·)) (by kernel_rfl) (by kernel_rfl) ?_ ?_ ?_ ?_
      · intro i v u u' hk h
        match i, h with
        | 0, h => exact h
        | 1, h => exact h
        | 2, h => exact h
        | 3, h => exact h
        | 4, ⟨g, l, h1, h2, h3, h4⟩ => exact ⟨g, l, h1, h2, h3, h4.keeps hk h2⟩
        | 5, ⟨g, h1, h2, h4⟩ => exact ⟨g, h1, h2, h4.keeps hk h2⟩
        | 6, h => exact h
        | 7, h => exact h
        | 8, ⟨b, o, x, h1, h2, h3, h4⟩ => exact ⟨b, o, x, h1, h2, hk.cell h3 h2, h4⟩
        | 9, h => exact h
        | 10, ⟨b, o, x, h1, h2, h3⟩ => exact ⟨b, o, x, h1, h2, hk.cell h3 h2⟩
        | 11, h => exact h
        | 12, h => exact h
        | 13, h => exact h
        | _ + 14, h => exact h
      · intro fl vs hfl
        rw [if_neg (c := fl 3 = true) (by rw [hfl 3 (by simp)]; simp), if_neg (c := fl 7 = true) (by rw [hfl 7 (by simp)]; simp)]
        exact ⟨HRZ.out, ⟨rfl, rfl, rfl, Nat.le_refl _, fun _ _ _ => rfl⟩, hZz⟩
      · refine ⟨?_, ?_, ?_, ?_, ?_, ?_, ?_, ?_, ?_, ?_, ?_, ?_, ?_, ?_, ?_, trivial⟩
        all_goals intro fl vs w5 a1 hc hG hfi hcl hp K hK
        · refine op_move rfl ?_
          rw [hc.ev0 _ rfl]
          exact hK _ _ (Keeps.refl _ _) rfl (by simpa [upd] using hG)
        · refine op_move rfl ?_
          rw [hc.ev0 _ rfl]
          exact hK _ _ (Keeps.refl _ _) rfl (by simpa [upd] using hG)
        · refine op_move rfl ?_
          rw [hc.ev0 _ rfl]
          exact hK _ _ (Keeps.refl _ _) rfl (by simpa [upd] using hG)
        · have h2 : vs 2 = _ := (hp 2 (by kernel_rfl)).2
          have e2 := hc.ev 34 2 rfl
          rw [h2] at e2
          have n3 : ¬ fl 3 = true := by rw [show fl 3 = false from hfi]; simp
          have n7 : ¬ fl 7 = true := fun h => n3 (hcl 7 3 (by kernel_rfl) h)
          rw [if_neg n3, if_neg n7] at hG
          refine op_call rfl (by simp only [List.map_toArray, List.map_cons, List.map_nil, e2]; rfl) (by kernel_rfl) (pick_any _ _ 256 _ hG.1 (by omega) (by omega) (by omega)) ?_
          rintro e w6 ⟨v, rfl, ⟨va, vb⟩, hr', hg'⟩
          refine ⟨_, rfl, hK _ _ (Keeps.grown hg' (fun k e hh => by injection e with e; omega)) ⟨_, rfl, va, by omega⟩ ⟨?_, gr_trans hG.2.1 hg', Nat.le_trans hG.2.2 hg'.size⟩⟩
          simpa [upd, n7] using hr'
        · obtain ⟨x, h3, _⟩ := (hp 3 (by kernel_rfl)).2
          have e3 := hc.ev 35 3 rfl
          rw [h3] at e3
          unfold Oper.wp execOp
          simp only [e3, List.map_toArray, List.map_cons, List.map_nil]
          go_simp
          exact hK _ _ (Keeps.alloc _ _ _) ⟨_, [x, 60000, -1, 60001], rfl, hG.2.2, rfl, Blk.new _ _ _⟩ ⟨by simpa [upd] using hG.1.alloc _, gr_alloc hG.2.1 _, by have := hG.2.2; simp; omega⟩
        · go_simp
          exact hK _ _ (Keeps.alloc _ _ _) ⟨_, rfl, hG.2.2, Blk.new _ _ _⟩ ⟨by simpa [upd] using hG.1.alloc _, gr_alloc hG.2.1 _, by have := hG.2.2; simp; omega⟩
        · refine op_move rfl ?_
          rw [hc.ev0 _ rfl]
          exact hK _ _ (Keeps.refl _ _) rfl (by simpa [upd] using hG)
        · have h2 : vs 6 = _ := (hp 6 (by kernel_rfl)).2
          have e2 := hc.ev 38 6 rfl
          rw [h2] at e2
          have n7 : ¬ fl 7 = true := by rw [show fl 7 = false from hfi]; simp
          have f3 : fl 3 = true := (hp 3 (by kernel_rfl)).1
          rw [if_pos f3, if_neg n7] at hG
          refine op_call rfl (by simp only [List.map_toArray, List.map_cons, List.map_nil, e2]; rfl) (by kernel_rfl) (pick_any _ _ 7 _ hG.1 (by omega) (by omega) (by omega)) ?_
          rintro e w6 ⟨v, rfl, ⟨va, vb⟩, hr', hg'⟩
          refine ⟨_, rfl, hK _ _ (Keeps.grown hg' (fun k e hh => by injection e with e; omega)) ⟨_, rfl, va, by omega⟩ ⟨?_, gr_trans hG.2.1 hg', Nat.le_trans hG.2.2 hg'.size⟩⟩
          simpa [upd, f3] using hr'
        · obtain ⟨g, h5, z5, hb⟩ := (hp 5 (by kernel_rfl)).2
          obtain ⟨x, h7, hx0, hx1⟩ := (hp 7 (by kernel_rfl)).2
          obtain ⟨y, hy, hcy⟩ := lit_at hb hx0 (by simp; omega)
          have hyb : 0 ≤ y ∧ y ≤ 3 := by simp at hy; omega
          have e5 := hc.ev 37 5 rfl
          have e7 := hc.ev 39 7 rfl
          rw [h5] at e5
          rw [h7] at e7
          have hx2 : x < 7 := by omega
          unfold Oper.wp execOp
          simp only [e5, e7]
          go_simp
          exact hK _ _ (Keeps.refl _ _) ⟨g, x.toNat, y, rfl, z5, hcy, hyb⟩ (by simpa [upd] using hG)
        · obtain ⟨b, o, x, h8, z8, hcx, hx⟩ := (hp 8 (by kernel_rfl)).2
          have e8 := hc.ev 40 8 rfl
          rw [h8] at e8
          unfold Oper.wp execOp
          simp only [e8]
          go_simp
          exact hK _ _ (Keeps.refl _ _) ⟨x, rfl, hx⟩ (by simpa [upd] using hG)
        · obtain ⟨g, l, h4, z4, hl4, hb⟩ := (hp 4 (by kernel_rfl)).2
          obtain ⟨x, h9, hx0, hx1⟩ := (hp 9 (by kernel_rfl)).2
          obtain ⟨y, hy, hcy⟩ := lit_at hb hx0 (by omega)
          have e4 := hc.ev 36 4 rfl
          have e9 := hc.ev 41 9 rfl
          rw [h4] at e4
          rw [h9] at e9
          have hx2 : x < 4 := by omega
          unfold Oper.wp execOp
          simp only [e4, e9]
          go_simp
          exact hK _ _ (Keeps.refl _ _) ⟨g, x.toNat, y, rfl, z4, hcy⟩ (by simpa [upd] using hG)
        · obtain ⟨b, o, x, h8, z8, hcx⟩ := (hp 10 (by kernel_rfl)).2
          have e8 := hc.ev 42 10 rfl
          rw [h8] at e8
          unfold Oper.wp execOp
          simp only [e8]
          go_simp
          exact hK _ _ (Keeps.refl _ _) ⟨x, rfl⟩ (by simpa [upd] using hG)
        · have h := (hp 0 (by kernel_rfl)).2
          refine op_assign rfl ?_
          rw [hc.ev 32 0 rfl]
          exact hK _ _ (Keeps.refl _ _) h (by simpa [upd] using hG)
        · have h := (hp 1 (by kernel_rfl)).2
          refine op_assign rfl ?_
          rw [hc.ev 33 1 rfl]
          exact hK _ _ (Keeps.refl _ _) h (by simpa [upd] using hG)
        · have h := (hp 11 (by kernel_rfl)).2
          refine op_assign rfl ?_
          rw [hc.ev 43 11 rfl]
          exact hK _ _ (Keeps.refl _ _) h (by simpa [upd] using hG)
      · intro fl vs w5 hfl hG hF
        have h12 : vs 12 = _ := hF 12 (by simp)
        have h13 : vs 13 = _ := hF 13 (by simp)
        obtain ⟨x, h14⟩ := hF 14 (by simp)
        have HGW := Lib.hid hG.2.1
        have HKW : Hid (Keeps (· ≠ r) wz w5) := Keeps.grown hG.2.1 (by simp)
        clear hG hF hfl
        simp only [fill]
        go_simp
        clear h12 h13 h14
        go_wp2
        refine bodyPost_ret (v := .tuple #[.slice A2 xs.length c2, .slice (some ⟨g, 1, none⟩) 2 2, .int .i64 x]) (by simp [results, Try.results21, go_sem]) rfl ?_
        exact ⟨A2, c2, xs, some ⟨g, 1, none⟩, 2, [v2, v3], x, rfl, reads_keeps HXS.out HKW.out HXR.out, reads_keeps HSS.out HKW.out (fun a ha => by injection ha with ha; subst ha; simp only; omega), hl3, by simp, below_gr HB1.out (gr_trans HGZ.out HGW.out) (by rw [HRE.out]; exact Nat.le_refl _)⟩
  · go_wp2_with fail
    refine (pick_any r _ 2 _ (HR6.out.alloc _) (by omega) (by omega) (by omega)).mono ?_
    rintro e w7 ⟨u, rfl, ⟨ua, ub⟩, hr7, hg7⟩
    have hKL : Blk w7 w6.heap.size 3 (nums .i64 [-1, 60001]).toArray := (Blk.new w6 3 #[.int .i64 (-1), .int .i64 60001]).grown hg7 (by have := HR6.out.lt; simp; omega)
    obtain ⟨y, hy, hcy⟩ := lit_at hKL ua (by simp; omega)
    have HK7 : Hid (Blk w7 g 3 (nums .i64 [v1, v2, v3]).toArray) := (HK6.out.alloc _).grown hg7 (by simp; omega)
    have hc0 : w7.cell? ⟨g, 0, none⟩ = some (.int .i64 v1) := HK7.out.cell 0
    have hf0 : w7.frozen? ⟨g, 0, none⟩ = false := HK7.out.frozen 0
    have hgl : g < w6.heap.size := HK6.out.lt
    have hwg : w1.heap.size ≤ g := hwg0
    have HK8 : Hid (Blk (w7.setCell ⟨g, 0, none⟩ (.int .i64 y)) g 3 (nums .i64 [y, v2, v3]).toArray) := by have h := HK7.out.set_ 0 (.int .i64 y); simpa [Hid, nums] using h
    have HG8 : Hid (w1.grownBy (w7.setCell ⟨g, 0, none⟩ (.int .i64 y)) (some r)) := gr_setCell (gr_trans (gr_alloc HG6.out _) hg7) (by simp only; omega) _
    have HR8 : Hid (Rdr (w7.setCell ⟨g, 0, none⟩ (.int .i64 y)) r (0 + 8 + 1 + 1 + 1 + 1 + 1)) := hr7.setCell (by simp only; omega) _
    have HX8 : Hid (Reads (w7.setCell ⟨g, 0, none⟩ (.int .i64 y)) (w7.setCell ⟨g, 0, none⟩ (.int .i64 y)).heap.size 2 A2 xs.length (xs.flatMap Prt.cells)) := by
      have h1 := reads_keeps (ok := (· ≠ r)) ((HX7.out.alloc (Nat.le_refl _) (.cells #[.int .i64 (-1), .int .i64 60001] 3)).more (by simp)) (Keeps.grown hg7 (by simp)) HXR.out
      rcases Nat.eq_zero_or_pos xs.length with h0 | h0
      · exact ⟨h1.1, fun h => absurd h (by omega)⟩
      · exact reads_keeps (ok := (· ≠ g)) h1 (Keeps.set_ (by simp) _) (fun a ha => (HXG.out a ha).resolve_left (by omega))
    clear hr7 hg7 hKL hy HK7 HK6 HG6 HX7 HR6
    have hu2 : u < 2 := by omega
    go_wp2_with fail
    clear hc0 hf0 hcy
    refine (odd_any r _ 14 _ HR8.out (by omega) (by omega) (by omega)).mono ?_
    rintro e wz ⟨b2, rfl, hrz, hgz⟩
    have HRz := Lib.hid hrz
    have HGz := Lib.hid (gr_trans HG8.out hgz)
    have HKz : Hid (Blk wz g 3 (nums .i64 [y, v2, v3]).toArray) := HK8.out.grown hgz (by simp; omega)
    have HXz := Lib.hid (reads_keeps (ok := (· ≠ r)) HX8.out (Keeps.grown hgz (by simp)) HXR.out)
    clear hrz hgz HK8 HG8 HX8 HR8
    cases b2
    · obtain ⟨q, hq⟩ : ∃ q, q = 0 + 8 + 1 + 1 + 1 + 1 + 1 + 1 := ⟨_, rfl⟩
      have hq9 : q ≤ 1000 := by omega
      have HRZ : Hid (Rdr wz.drew r (q + 0 + 0)) := by rw [hq]; exact HRz.out
      have HSS : Hid (Reads wz wz.heap.size 1 (some ⟨g, 0, none⟩) 3 (nums .i64 ([y, v2, v3].drop 0))) := reads_of_blk HKz.out 0 _ (by simp)
      have HXS := HXz
      have HGZ := HGz
      have hrz : r < wz.heap.size := HRz.out.lt
      have hgz : g < wz.heap.size := HKz.out.lt
      clear hq HRz HKz HXz HGz
      obtain ⟨Z, hZ⟩ : ∃ Z, Z = wz.heap.size := ⟨_, rfl⟩
      have hZz : Z ≤ wz.drew.heap.size := by rw [hZ]; exact Nat.le_refl _
      have hrZ : r < Z := by omega
      clear hZ
      go_wp2
      refine wp_region_facts (fun i v wq => match i with
        | 0 => v = .slice A2 xs.length c2
        | 1 => v = .slice (some ⟨g, 0, none⟩) 3 3
        | 2 => v = .pointer (some ⟨r, 0, none⟩)
        | 3 => ∃ x : Int, v = .int .i64 x ∧ 0 ≤ x ∧ x ≤ 255
        | 4 => ∃ (g : Nat) (l : List Int), v = .slice (some ⟨g, 0, none⟩) 4 4 ∧ Z ≤ g ∧ l.length = 4 ∧ Blk wq g 3 (nums .i64 l).toArray
        | 5 => ∃ (g : Nat), v = .slice (some ⟨g, 0, none⟩) 7 7 ∧ Z ≤ g ∧ Blk wq g 3 (nums .i64 [0, 0, 0, 0, 1, 2, 3]).toArray
        | 6 => v = .pointer (some ⟨r, 0, none⟩)
        | 7 => ∃ x : Int, v = .int .i64 x ∧ 0 ≤ x ∧ x ≤ 6
        | 8 => ∃ (b o : Nat) (x : Int), v = .pointer (some ⟨b, o, none⟩) ∧ Z ≤ b ∧ wq.cell? ⟨b, o, none⟩ = some (.int .i64 x) ∧ 0 ≤ x ∧ x ≤ 3
        | 9 => ∃ x : Int, v = .int .i64 x ∧ 0 ≤ x ∧ x ≤ 3
        | 10 => ∃ (b o : Nat) (x : Int), v = .pointer (some ⟨b, o, none⟩) ∧ Z ≤ b ∧ wq.cell? ⟨b, o, none⟩ = some (.int .i64 x)
        | 11 => ∃ x : Int, v = .int .i64 x
        | 12 => v = .slice A2 xs.length c2
        | 13 => v = .slice (some ⟨g, 0, none⟩) 3 3
        | _ => ∃ x : Int, v = .int .i64 x)
        (fun fl _ wq => Rdr wq r (q + (if fl 3 = true then 1 else 0) + (if fl 7 = true then 1 else 0)) ∧ wz.grownBy wq (some r) ∧ Z ≤ wq.heap.size) (Keeps (Z ≤ ·)) (by kernel_rfl) (by kernel_rfl) ?_ ?_ ?_ ?_
      · intro i v u u' hk h
        match i, h with
        | 0, h => exact h
        | 1, h => exact h
        | 2, h => exact h
        | 3, h => exact h
        | 4, ⟨g, l, h1, h2, h3, h4⟩ => exact ⟨g, l, h1, h2, h3, h4.keeps hk h2⟩
        | 5, ⟨g, h1, h2, h4⟩ => exact ⟨g, h1, h2, h4.keeps hk h2⟩
        | 6, h => exact h
        | 7, h => exact h
        | 8, ⟨b, o, x, h1, h2, h3, h4⟩ => exact ⟨b, o, x, h1, h2, hk.cell h3 h2, h4⟩
        | 9, h => exact h
        | 10, ⟨b, o, x, h1, h2, h3⟩ => exact ⟨b, o, x, h1, h2, hk.cell h3 h2⟩
        | 11, h => exact h
        | 12, h => exact h
        | 13, h => exact h
        | _ + 14, h => exact h
      · intro fl vs hfl
        rw [if_neg (c := fl 3 = true) (by rw [hfl 3 (by simp)]; simp), if_neg (c := fl 7 = true) (by rw [hfl 7 (by simp)]; simp)]
        exact ⟨HRZ.out, ⟨rfl, rfl, rfl, Nat.le_refl _, fun _ _ _ => rfl⟩, hZz⟩
      · refine ⟨?_, ?_, ?_, ?_, ?_, ?_, ?_, ?_, ?_, ?_, ?_, ?_, ?_, ?_, ?_, trivial⟩
        all_goals intro fl vs w5 a1 hc hG hfi hcl hp K hK
        · refine op_move rfl ?_
          rw [hc.ev0 _ rfl]
          exact hK _ _ (Keeps.refl _ _) rfl (by simpa [upd] using hG)
        · refine op_move rfl ?_
          rw [hc.ev0 _ rfl]
          exact hK _ _ (Keeps.refl _ _) rfl (by simpa [upd] using hG)
        · refine op_move rfl ?_
          rw [hc.ev0 _ rfl]
          exact hK _ _ (Keeps.refl _ _) rfl (by simpa [upd] using hG)
        · have h2 : vs 2 = _ := (hp 2 (by kernel_rfl)).2
          have e2 := hc.ev 34 2 rfl
          rw [h2] at e2
          have n3 : ¬ fl 3 = true := by rw [show fl 3 = false from hfi]; simp
          have n7 : ¬ fl 7 = true := fun h => n3 (hcl 7 3 (by kernel_rfl) h)
          rw [if_neg n3, if_neg n7] at hG
          refine op_call rfl (by simp only [List.map_toArray, List.map_cons, List.map_nil, e2]; rfl) (by kernel_rfl) (pick_any _ _ 256 _ hG.1 (by omega) (by omega) (by omega)) ?_
          rintro e w6 ⟨v, rfl, ⟨va, vb⟩, hr', hg'⟩
          refine ⟨_, rfl, hK _ _ (Keeps.grown hg' (fun k e hh => by injection e with e; omega)) ⟨_, rfl, va, by omega⟩ ⟨?_, gr_trans hG.2.1 hg', Nat.le_trans hG.2.2 hg'.size⟩⟩
          simpa [upd, n7] using hr'
        · obtain ⟨x, h3, _⟩ := (hp 3 (by kernel_rfl)).2
          have e3 := hc.ev 35 3 rfl
          rw [h3] at e3
          unfold Oper.wp execOp
          simp only [e3, List.map_toArray, List.map_cons, List.map_nil]
          go_simp
          exact hK _ _ (Keeps.alloc _ _ _) ⟨_, [x, 60000, -1, 60001], rfl, hG.2.2, rfl, Blk.new _ _ _⟩ ⟨by simpa [upd] using hG.1.alloc _, gr_alloc hG.2.1 _, by have := hG.2.2; simp; omega⟩
        · go_simp
          exact hK _ _ (Keeps.alloc _ _ _) ⟨_, rfl, hG.2.2, Blk.new _ _ _⟩ ⟨by simpa [upd] using hG.1.alloc _, gr_alloc hG.2.1 _, by have := hG.2.2; simp; omega⟩
        · refine op_move rfl ?_
          rw [hc.ev0 _ rfl]
          exact hK _ _ (Keeps.refl _ _) rfl (by simpa [upd] using hG)
        · have h2 : vs 6 = _ := (hp 6 (by kernel_rfl)).2
          have e2 := hc.ev 38 6 rfl
          rw [h2] at e2
          have n7 : ¬ fl 7 = true := by rw [show fl 7 = false from hfi]; simp
          have f3 : fl 3 = true := (hp 3 (by kernel_rfl)).1
          rw [if_pos f3, if_neg n7] at hG
          refine op_call rfl (by simp only [List.map_toArray, List.map_cons, List.map_nil, e2]; rfl) (by kernel_rfl) (pick_any _ _ 7 _ hG.1 (by omega) (by omega) (by omega)) ?_
          rintro e w6 ⟨v, rfl, ⟨va, vb⟩, hr', hg'⟩
          refine ⟨_, rfl, hK _ _ (Keeps.grown hg' (fun k e hh => by injection e with e; omega)) ⟨_, rfl, va, by omega⟩ ⟨?_, gr_trans hG.2.1 hg', Nat.le_trans hG.2.2 hg'.size⟩⟩
          simpa [upd, f3] using hr'
        · obtain ⟨g, h5, z5, hb⟩ := (hp 5 (by kernel_rfl)).2
          obtain ⟨x, h7, hx0, hx1⟩ := (hp 7 (by kernel_rfl)).2
          obtain ⟨y, hy, hcy⟩ := lit_at hb hx0 (by simp; omega)
          have hyb : 0 ≤ y ∧ y ≤ 3 := by simp at hy; omega
          have e5 := hc.ev 37 5 rfl
          have e7 := hc.ev 39 7 rfl
          rw [h5] at e5
          rw [h7] at e7
          have hx2 : x < 7 := by omega
          unfold Oper.wp execOp
          simp only [e5, e7]
          go_simp
          exact hK _ _ (Keeps.refl _ _) ⟨g, x.toNat, y, rfl, z5, hcy, hyb⟩ (by simpa [upd] using hG)
        · obtain ⟨b, o, x, h8, z8, hcx, hx⟩ := (hp 8 (by kernel_rfl)).2
          have e8 := hc.ev 40 8 rfl
          rw [h8] at e8
          unfold Oper.wp execOp
          simp only [e8]
          go_simp
          exact hK _ _ (Keeps.refl _ _) ⟨x, rfl, hx⟩ (by simpa [upd] using hG)
        · obtain ⟨g, l, h4, z4, hl4, hb⟩ := (hp 4 (by kernel_rfl)).2
          obtain ⟨x, h9, hx0, hx1⟩ := (hp 9 (by kernel_rfl)).2
          obtain ⟨y, hy, hcy⟩ := lit_at hb hx0 (by omega)
          have e4 := hc.ev 36 4 rfl
          have e9 := hc.ev 41 9 rfl
          rw [h4] at e4
          rw [h9] at e9
          have hx2 : x < 4 := by omega
          unfold Oper.wp execOp
          simp only [e4, e9]
          go_simp
          exact hK _ _ (Keeps.refl _ _) ⟨g, x.toNat, y, rfl, z4, hcy⟩ (by simpa [upd] using hG)
        · obtain ⟨b, o, x, h8, z8, hcx⟩ := (hp 10 (by kernel_rfl)).2
          have e8 := hc.ev 42 10 rfl
          rw [h8] at e8
          unfold Oper.wp execOp
          simp only [e8]
          go_simp
          exact hK _ _ (Keeps.refl _ _) ⟨x, rfl⟩ (by simpa [upd] using hG)
        · have h := (hp 0 (by kernel_rfl)).2
          refine op_assign rfl ?_
          rw [hc.ev 32 0 rfl]
          exact hK _ _ (Keeps.refl _ _) h (by simpa [upd] using hG)
        · have h := (hp 1 (by kernel_rfl)).2
          refine op_assign rfl ?_
          rw [hc.ev 33 1 rfl]
          exact hK _ _ (Keeps.refl _ _) h (by simpa [upd] using hG)
        · have h := (hp 11 (by kernel_rfl)).2
          refine op_assign rfl ?_
          rw [hc.ev 43 11 rfl]
          exact hK _ _ (Keeps.refl _ _) h (by simpa [upd] using hG)
      · intro fl vs w5 hfl hG hF
        have h12 : vs 12 = _ := hF 12 (by simp)
        have h13 : vs 13 = _ := hF 13 (by simp)
        obtain ⟨x, h14⟩ := hF 14 (by simp)
        have HGW := Lib.hid hG.2.1
        have HKW : Hid (Keeps (· ≠ r) wz w5) := Keeps.grown hG.2.1 (by simp)
        clear hG hF hfl
        simp only [fill]
        go_simp
        clear h12 h13 h14
        go_wp2
        refine bodyPost_ret (v := .tuple #[.slice A2 xs.length c2, .slice (some ⟨g, 0, none⟩) 3 3, .int .i64 x]) (by simp [results, Try.results21, go_sem]) rfl ?_
        exact ⟨A2, c2, xs, some ⟨g, 0, none⟩, 3, [y, v2, v3], x, rfl, reads_keeps HXS.out HKW.out HXR.out, reads_keeps HSS.out HKW.out (fun a ha => by injection ha with ha; subst ha; simp only; omega), hl3, by simp, below_gr HB1.out (gr_trans HGZ.out HGW.out) (by rw [HRE.out]; exact Nat.le_refl _)⟩
    · obtain ⟨q, hq⟩ : ∃ q, q = 0 + 8 + 1 + 1 + 1 + 1 + 1 + 1 := ⟨_, rfl⟩
      have hq9 : q ≤ 1000 := by omega
      have HRZ : Hid (Rdr wz.drew r (q + 0 + 0)) := by rw [hq]; exact HRz.out
      have HSS : Hid (Reads wz wz.heap.size 1 (some ⟨g, 1, none⟩) 2 (nums .i64 ([y, v2, v3].drop 1))) := reads_of_blk HKz.out 1 _ (by simp)
      have HXS := HXz
      have HGZ := HGz
      have hrz : r < wz.heap.size := HRz.out.lt
      have hgz : g < wz.heap.size := HKz.out.lt
      clear hq HRz HKz HXz HGz
      obtain ⟨Z, hZ⟩ : ∃ Z, Z = wz.heap.size := ⟨_, rfl⟩
      have hZz : Z ≤ wz.drew.heap.size := by rw [hZ]; exact Nat.le_refl _
      have hrZ : r < Z := by omega
      clear hZ
      go_wp2
      refine wp_region_facts (fun i v wq => match i with
        | 0 => v = .slice A2 xs.length c2
        | 1 => v = .slice (some ⟨g, 1, none⟩) 2 2
        | 2 => v = .pointer (some ⟨r, 0, none⟩)
        | 3 => ∃ x : Int, v = .int .i64 x ∧ 0 ≤ x ∧ x ≤ 255
        | 4 => ∃ (g : Nat) (l : List Int), v = .slice (some ⟨g, 0, none⟩) 4 4 ∧ Z ≤ g ∧ l.length = 4 ∧ Blk wq g 3 (nums .i64 l).toArray
        | 5 => ∃ (g : Nat), v = .slice (some ⟨g, 0, none⟩) 7 7 ∧ Z ≤ g ∧ Blk wq g 3 (nums .i64 [0, 0, 0, 0, 1, 2, 3]).toArray
        | 6 => v = .pointer (some ⟨r, 0, none⟩)
        | 7 => ∃ x : Int, v = .int .i64 x ∧ 0 ≤ x ∧ x ≤ 6
        | 8 => ∃ (b o : Nat) (x : Int), v = .pointer (some ⟨b, o, none⟩) ∧ Z ≤ b ∧ wq.cell? ⟨b, o, none⟩ = some (.int .i64 x) ∧ 0 ≤ x ∧ x ≤ 3
        | 9 => ∃ x : Int, v = .int .i64 x ∧ 0 ≤ x ∧ x ≤ 3
        | 10 => ∃ (b o : Nat) (x : Int), v = .pointer (some ⟨b, o, none⟩) ∧ Z ≤ b ∧ wq.cell? ⟨b, o, none⟩ = some (.int .i64 x)
        | 11 => ∃ x : Int, v = .int .i64 x
        | 12 => v = .slice A2 xs.length c2
        | 13 => v = .slice (some ⟨g, 1, none⟩) 2 2
        | _ => ∃ x : Int, v = .int .i64 x)
        (fun fl _ wq => Rdr wq r (q + (if fl 3 = true then 1 else 0) + (if fl 7 = true then 1 else 0)) ∧ wz.grownBy wq (some r) ∧ Z ≤ wq.heap.size) (Keeps (Z ≤ ·)) (by kernel_rfl) (by kernel_rfl) ?_ ?_ ?_ ?_
      · intro i v u u' hk h
        match i, h with
        | 0, h => exact h
        | 1, h => exact h
        | 2, h => exact h
        | 3, h => exact h
        | 4, ⟨g, l, h1, h2, h3, h4⟩ => exact ⟨g, l, h1, h2, h3, h4.keeps hk h2⟩
        | 5, ⟨g, h1, h2, h4⟩ => exact ⟨g, h1, h2, h4.keeps hk h2⟩
        | 6, h => exact h
        | 7, h => exact h
        | 8, ⟨b, o, x, h1, h2, h3, h4⟩ => exact ⟨b, o, x, h1, h2, hk.cell h3 h2, h4⟩
        | 9, h => exact h
        | 10, ⟨b, o, x, h1, h2, h3⟩ => exact ⟨b, o, x, h1, h2, hk.cell h3 h2⟩
        | 11, h => exact h
        | 12, h => exact h
        | 13, h => exact h
        | _ + 14, h => exact h
      · intro fl vs hfl
        rw [if_neg (c := fl 3 = true) (by rw [hfl 3 (by simp)]; simp), if_neg (c := fl 7 = true) (by rw [hfl 7 (by simp)]; simp)]
        exact ⟨HRZ.out, ⟨rfl, rfl, rfl, Nat.le_refl _, fun _ _ _ => rfl⟩, hZz⟩
      · refine ⟨?_, ?_, ?_, ?_, ?_, ?_, ?_, ?_, ?_, ?_, ?_, ?_, ?_, ?_, ?_, trivial⟩
        all_goals intro fl vs w5 a1 hc hG hfi hcl hp K hK
        · refine op_move rfl ?_
          rw [hc.ev0 _ rfl]
          exact hK _ _ (Keeps.refl _ _) rfl (by simpa [upd] using hG)
        · refine op_move rfl ?_
          rw [hc.ev0 _ rfl]
          exact hK _ _ (Keeps.refl _ _) rfl (by simpa [upd] using hG)
        · refine op_move rfl ?_
          rw [hc.ev0 _ rfl]
          exact hK _ _ (Keeps.refl _ _) rfl (by simpa [upd] using hG)
        · have h2 : vs 2 = _ := (hp 2 (by kernel_rfl)).2
          have e2 := hc.ev 34 2 rfl
          rw [h2] at e2
          have n3 : ¬ fl 3 = true := by rw [show fl 3 = false from hfi]; simp
          have n7 : ¬ fl 7 = true := fun h => n3 (hcl 7 3 (by kernel_rfl) h)
          rw [if_neg n3, if_neg n7] at hG
          refine op_call rfl (by simp only [List.map_toArray, List.map_cons, List.map_nil, e2]; rfl) (by kernel_rfl) (pick_any _ _ 256 _ hG.1 (by omega) (by omega) (by omega)) ?_
          rintro e w6 ⟨v, rfl, ⟨va, vb⟩, hr', hg'⟩
          refine ⟨_, rfl, hK _ _ (Keeps.grown hg' (fun k e hh => by injection e with e; omega)) ⟨_, rfl, va, by omega⟩ ⟨?_, gr_trans hG.2.1 hg', Nat.le_trans hG.2.2 hg'.size⟩⟩
          simpa [upd, n7] using hr'
        · obtain ⟨x, h3, _⟩ := (hp 3 (by kernel_rfl)).2
          have e3 := hc.ev 35 3 rfl
          rw [h3] at e3
          unfold Oper.wp execOp
          simp only [e3, List.map_toArray, List.map_cons, List.map_nil]
          go_simp
          exact hK _ _ (Keeps.alloc _ _ _) ⟨_, [x, 60000, -1, 60001], rfl, hG.2.2, rfl, Blk.new _ _ _⟩ ⟨by simpa [upd] using hG.1.alloc _, gr_alloc hG.2.1 _, by have := hG.2.2; simp; omega⟩
        · go_simp
          exact hK _ _ (Keeps.alloc _ _ _) ⟨_, rfl, hG.2.2, Blk.new _ _ _⟩ ⟨by simpa [upd] using hG.1.alloc _, gr_alloc hG.2.1 _, by have := hG.2.2; simp; omega⟩
        · refine op_move rfl ?_
          rw [hc.ev0 _ rfl]
          exact hK _ _ (Keeps.refl _ _) rfl (by simpa [upd] using hG)
        · have h2 : vs 6 = _ := (hp 6 (by kernel_rfl)).2
          have e2 := hc.ev 38 6 rfl
          rw [h2] at e2
          have n7 : ¬ fl 7 = true := by rw [show fl 7 = false from hfi]; simp
          have f3 : fl 3 = true := (hp 3 (by kernel_rfl)).1
          rw [if_pos f3, if_neg n7] at hG
          refine op_call rfl (by simp only [List.map_toArray, List.map_cons, List.map_nil, e2]; rfl) (by kernel_rfl) (pick_any _ _ 7 _ hG.1 (by omega) (by omega) (by omega)) ?_
          rintro e w6 ⟨v, rfl, ⟨va, vb⟩, hr', hg'⟩
          refine ⟨_, rfl, hK _ _ (Keeps.grown hg' (fun k e hh => by injection e with e; omega)) ⟨_, rfl, va, by omega⟩ ⟨?_, gr_trans hG.2.1 hg', Nat.le_trans hG.2.2 hg'.size⟩⟩
          simpa [upd, f3] using hr'
        · obtain ⟨g, h5, z5, hb⟩ := (hp 5 (by kernel_rfl)).2
          obtain ⟨x, h7, hx0, hx1⟩ := (hp 7 (by kernel_rfl)).2
          obtain ⟨y, hy, hcy⟩ := lit_at hb hx0 (by simp; omega)
          have hyb : 0 ≤ y ∧ y ≤ 3 := by simp at hy; omega
          have e5 := hc.ev 37 5 rfl
          have e7 := hc.ev 39 7 rfl
          rw [h5] at e5
          rw [h7] at e7
          have hx2 : x < 7 := by omega
          unfold Oper.wp execOp
          simp only [e5, e7]
          go_simp
          exact hK _ _ (Keeps.refl _ _) ⟨g, x.toNat, y, rfl, z5, hcy, hyb⟩ (by simpa [upd] using hG)
        · obtain ⟨b, o, x, h8, z8, hcx, hx⟩ := (hp 8 (by kernel_rfl)).2
          have e8 := hc.ev 40 8 rfl
          rw [h8] at e8
          unfold Oper.wp execOp
          simp only [e8]
          go_simp
          exact hK _ _ (Keeps.refl _ _) ⟨x, rfl, hx⟩ (by simpa [upd] using hG)
        · obtain ⟨g, l, h4, z4, hl4, hb⟩ := (hp 4 (by kernel_rfl)).2
          obtain ⟨x, h9, hx0, hx1⟩ := (hp 9 (by kernel_rfl)).2
          obtain ⟨y, hy, hcy⟩ := lit_at hb hx0 (by omega)
          have e4 := hc.ev 36 4 rfl
          have e9 := hc.ev 41 9 rfl
          rw [h4] at e4
          rw [h9] at e9
          have hx2 : x < 4 := by omega
          unfold Oper.wp execOp
          simp only [e4, e9]
          go_simp
          exact hK _ _ (Keeps.refl _ _) ⟨g, x.toNat, y, rfl, z4, hcy⟩ (by simpa [upd] using hG)
        · obtain ⟨b, o, x, h8, z8, hcx⟩ := (hp 10 (by kernel_rfl)).2
          have e8 := hc.ev 42 10 rfl
          rw [h8] at e8
          unfold Oper.wp execOp
          simp only [e8]
          go_simp
          exact hK _ _ (Keeps.refl _ _) ⟨x, rfl⟩ (by simpa [upd] using hG)
        · have h := (hp 0 (by kernel_rfl)).2
          refine op_assign rfl ?_
          rw [hc.ev 32 0 rfl]
          exact hK _ _ (Keeps.refl _ _) h (by simpa [upd] using hG)
        · have h := (hp 1 (by kernel_rfl)).2
          refine op_assign rfl ?_
          rw [hc.ev 33 1 rfl]
          exact hK _ _ (Keeps.refl _ _) h (by simpa [upd] using hG)
        · have h := (hp 11 (by kernel_rfl)).2
          refine op_assign rfl ?_
          rw [hc.ev 43 11 rfl]
          exact hK _ _ (Keeps.refl _ _) h (by simpa [upd] using hG)
      · intro fl vs w5 hfl hG hF
        have h12 : vs 12 = _ := hF 12 (by simp)
        have h13 : vs 13 = _ := hF 13 (by simp)
        obtain ⟨x, h14⟩ := hF 14 (by simp)
        have HGW := Lib.hid hG.2.1
        have HKW : Hid (Keeps (· ≠ r) wz w5) := Keeps.grown hG.2.1 (by simp)
        clear hG hF hfl
        simp only [fill]
        go_simp
        clear h12 h13 h14
        go_wp2
        refine bodyPost_ret (v := .tuple #[.slice A2 xs.length c2, .slice (some ⟨g, 1, none⟩) 2 2, .int .i64 x]) (by simp [results, Try.results21, go_sem]) rfl ?_
        exact ⟨A2, c2, xs, some ⟨g, 1, none⟩, 2, [v2, v3], x, rfl, reads_keeps HXS.out HKW.out HXR.out, reads_keeps HSS.out HKW.out (fun a ha => by injection ha with ha; subst ha; simp only; omega), hl3, by simp, below_gr HB1.out (gr_trans HGZ.out HGW.out) (by rw [HRE.out]; exact Nat.le_refl _)⟩
end Go.Proofs.Ythjjbgpeajeneaa
