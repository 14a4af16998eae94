/- Contract of the drawing of the law of CallsFar. Condition: the sizes. -/
import Derived.Test.YtgibmbjdnppiaaaRows
import Derived.Test.YtgibmbjdnppiaaaBase
import Derived.Test.YtgibmbjdnppiaaaBase2
import Derived.Test.YtgibmbjdnppiaaaBase3
import Derived.Test.YtgibmbjdnppiaaaIn
import Derived.Test.YtgibmbjdnppiaaaEdge
import Derived.Test.YtgibmbjdnppiaaaFindEdg
import Derived.Test.YtgibmbjdnppiaaaEdgeV
import Derived.Test.YtgibmbjdnppiaaaPick
import Derived.Test.YtgibmbjdnppiaaaPick2
import Derived.Test.YtgibmbjdnppiaaaOpenC
import Derived.Test.YtgibmbjdnppiaaaReg
import Derived.Test.YtgibmbjdnppiaaaRegS
import Derived.Test.YtgibmbjdnppiaaaDrawE
import Derived.WalkKit
import Derived.WalkSpells
import Derived.WalkLawsBesides
import Derived.Handy
import Derived.BigQuiet
import Derived.Deep.RegionHeld3
import Derived.Deep.DrawnRows
import Derived.Deep.QuietTactic
namespace Go.Proofs.Ytgibmbjdnppiaaa
open Go Go.RowKit

theorem cfint_info : (Try.prog.info? 3).map (fun i => (i.zero, i.size, i.bytes)) = some (some (.int .i64 0), 1, 8) := by kernel_rfl
theorem own_blk {w : World} {base size n c : Nat} {t : TypeId} {A : Option Addr} {xs : List Value} (q : w.ownsRow base t size (.slice A n c) n xs) : ∀ g, (Value.slice A n c).ownBlock = some g → base ≤ g ∧ g < w.heap.size := fun g hg => by
  cases A with
  | none => cases hg
  | some a =>
    have h1 : a.block = g := by simpa [Value.ownBlock] using hg
    have := own_up q a rfl
    omega
theorem own_keeps {ok : Nat → Prop} {w w' : World} {base size n c : Nat} {t : TypeId} {A : Option Addr} {xs : List Value} (h : w.ownsRow base t size (.slice A n c) n xs) (k : Keeps ok w w') (ho : ∀ b, base ≤ b → b < w.heap.size → ok b) : w'.ownsRow base t size (.slice A n c) n xs :=
  k.own h (fun g hg => ho g (own_blk h g hg).1 (own_blk h g hg).2)
/-- A row under way behind the world Z. -/
def RowN (w : World) (Z : Nat) (A : Option Addr) (n c : Nat) : Prop := ∃ ys : List Int, w.ownsRow Z 3 1 (.slice A n c) n (nums .i64 ys)
def DrewCF (w : World) (e : Ending) (w' : World) : Prop :=
  ∃ (many : Int) (A : Option Addr) (c : Nat) (es : List Edg) (A2 : Option Addr) (c2 : Nat) (xs : List Int), e = .returned (.tuple #[.int .i64 many, .slice A es.length c, .slice A2 xs.length c2]) ∧ w'.ownsRow w.heap.size 33 3 (.slice A es.length c) es.length (es.flatMap Edg.cells) ∧
    w'.ownsRow w.heap.size 3 1 (.slice A2 xs.length c2) xs.length (nums .i64 xs) ∧ es.length ≤ 8 ∧ xs.length ≤ 9 ∧ Below w.heap.size w w'
theorem reads_takeN {w : World} {B n m : Nat} {A : Option Addr} {xs : List Int} (h : Reads w B 1 A n (nums .i64 xs)) (hm : m ≤ n) : Reads w B 1 A m (nums .i64 (xs.take m)) := by
  have hl : xs.length = n := by have := h.1; simpa [nums] using this
  refine ⟨by simp [nums]; omega, fun h0 => ?_⟩
  obtain ⟨ad, hA, hb, hc⟩ := h.2 (by omega)
  refine ⟨ad, hA, hb, fun j u hu => hc j u ?_⟩
  unfold nums at hu ⊢
  rw [List.map_take] at hu
  have hj : j < m := by
    have := (List.getElem?_eq_some_iff.1 hu).1
    rw [List.length_take] at this
    omega
  rw [List.getElem?_take, if_pos hj] at hu
  exact hu
theorem reads_dropN {w : World} {B n m c : Nat} {A : Option Addr} {xs : List Int} (h : Reads w B 1 A n (nums .i64 xs)) (hm : m ≤ n) (hc : n ≤ c) : Reads w B 1 (if c = m then A else A.map (·.add m)) (n - m) (nums .i64 (xs.drop m)) := by
  have h2 := h.cut hm hc
  rw [Nat.mul_one] at h2
  have e : (nums .i64 xs).drop m = nums .i64 (xs.drop m) := by simp [nums, List.map_drop]
  rwa [e] at h2
theorem reads_blk {w : World} {g : Nat} {x : Int} {t : TypeId} (h : Blk w g t #[.int .i64 x]) : Reads w w.heap.size 1 (some ⟨g, 0, none⟩) 1 (nums .i64 [x]) := by
  refine ⟨rfl, fun _ => ⟨_, rfl, h.lt, fun j u hu => ?_⟩⟩
  have hj : j = 0 := by
    have := (List.getElem?_eq_some_iff.1 hu).1
    simp [nums] at this
    omega
  subst hj
  have h2 := h.cell 0
  have hu' : u = .int .i64 x := by simpa [nums] using hu.symm
  rw [hu']
  simpa [Addr.add] using h2
/-- The state of the drawing while a number is put in. -/
structure PutSt (w1 : World) (r q Z W1 : Nat) (A1 AE : Option Addr) (c1 cE : Nat) (xs : List Int) (es : List Edg) (wq : World) : Prop where
  rd : Rdr wq r q
  gr : w1.grownBy wq (some r)
  zz : Z ≤ wq.heap.size
  ox : wq.ownsRow W1 3 1 (.slice A1 xs.length c1) xs.length (nums .i64 xs)
  oe : wq.ownsRow W1 33 3 (.slice AE es.length cE) es.length (es.flatMap Edg.cells)
section
variable {w1 wq w' : World} {r q Z W1 : Nat} {A1 AE : Option Addr} {c1 cE : Nat} {xs : List Int} {es : List Edg}
theorem PutSt.alloc (h : PutSt w1 r q Z W1 A1 AE c1 cE xs es wq) (o : Obj) : PutSt w1 r q Z W1 A1 AE c1 cE xs es (wq.alloc o) :=
  ⟨h.rd.alloc _, gr_alloc h.gr _, by have := h.zz; simp; omega, h.ox.alloc _, h.oe.alloc _⟩
theorem PutSt.row {A : Option Addr} {n c : Nat} {ys : List Value} (h : PutSt w1 r q Z W1 A1 AE c1 cE xs es wq) (hA : ∀ a, A1 = some a → a.block < Z) (hr : r < Z) (hw : w1.heap.size ≤ Z) (o : wq.ownsRow Z 3 1 (.slice A n c) n ys) (hg : wq.grownBy w' (A.map (·.block))) : PutSt w1 r q Z W1 A1 AE c1 cE xs es w' :=
  ⟨h.rd.row hg o hr, gr_row h.gr hg o hw, Nat.le_trans h.zz hg.size, own_other h.ox hg (fun a a2 h1 h2 => by have := hA a h1; have := (own_up o a2 h2).1; omega), own_other h.oe hg (fun a a2 h1 h2 => by
    intro e
    have hne : (Value.slice AE es.length cE).ownBlock ≠ some a2.block := by
      rcases o.2 with ⟨hv, _⟩ | ⟨g, cap, cur, hv, _, hh, _⟩
      · injection hv with hv; rw [h2] at hv; cases hv
      · injection hv with hv
        rw [h2] at hv
        injection hv with hv
        subst hv
        exact own_blk_ne h.oe (cs := cur) (t := 3) hh (by decide)
    rw [h1] at hne
    exact hne (by simpa [Value.ownBlock] using e))⟩
end
theorem nums_app (k : IntKind) (a b : List Int) : nums k (a ++ b) = nums k a ++ nums k b := by simp [nums]
set_option maxRecDepth 100000 in
set_option maxHeartbeats 8000000 in
theorem DrawCallsFar_any {A : Option Addr} {c : Nat} (cs : List Int) (w : World) (h1 : Reads w w.heap.size 1 A cs.length (nums .u8 cs)) (hx : ∀ x ∈ cs, 0 ≤ x ∧ x ≤ 255) (hm : cs.length ≤ 1048576) (hc : cs.length ≤ c) (hc2 : c ≤ maxLen) :
    Calls Try.prog 20 #[.slice A cs.length c] w (DrewCF w) := by
  obtain ⟨i0, hi0, hz0, hz1, hz2⟩ := info_parts cfint_info
  have HO := Lib.hid (open_any cs w h1 hx hm hc hc2)
  clear h1 hx
  go_enter Try.func20, Try.ntmps20
  go_wp2_with fail
  refine HO.out.mono ?_
  rintro e w1 ⟨rfl, hr, hz, hb⟩
  have HB1 := Lib.hid hb
  have hrl : w.heap.size < w1.heap.size := hr.lt
  clear hz hb HO
  go_wp2_with fail
  refine (l20Edges_any _ 0 12 _ hr (by omega) (by omega) (by omega)).mono ?_
  rintro e w2 ⟨many, AE, cE, es, rfl, oe, ⟨hmn1, hmn2⟩, hes, hr2, hg2⟩
  obtain ⟨r, hrE⟩ : ∃ r, r = w.heap.size := ⟨_, rfl⟩
  have hwz2 := hg2.size
  have o0 : (w2.alloc (.cells #[] 3)).ownsRow w1.heap.size 3 1 (.slice (some ⟨w2.heap.size, 0, none⟩) 0 0) 0 (nums .i64 []) := World.ownsRow_lit (base := w1.heap.size) (e := 3) (size := 1) w2 #[] 0 hwz2 (by unfold maxLen; omega) rfl
  rw [← hrE] at hr2 hg2 hrl ⊢
  have HO0 := Lib.hid o0
  have HE0 := Lib.hid (oe.alloc (.cells #[] 3))
  have HR0 := Lib.hid (hr2.alloc (.cells #[] 3))
  have HG0 := Lib.hid (gr_alloc hg2 (.cells #[] 3))
  have HRE := Lib.hid hrE
  clear o0 oe hr2 hg2 hr hrE
  obtain ⟨W1, hW1⟩ : ∃ W1, W1 = w1.heap.size := ⟨_, rfl⟩
  rw [← hW1] at HO0 HE0 hrl hwz2
  have HW1 := Lib.hid hW1
  clear hW1
  go_wp2
  go_loopw [8, 9, 10] (fun v kv _ wr => ∃ (k : Nat) (A1 : Option Addr) (c1 : Nat) (xs : List Int) (q gb : Nat), k ≤ 9 ∧ kv = .int .i64 k ∧ v = .slice A1 xs.length c1 ∧ A1 = some ⟨gb, 0, none⟩ ∧ xs.length = k ∧ q ≤ 60 + k ∧ Hid (wr.ownsRow W1 3 1 (.slice A1 xs.length c1) xs.length (nums .i64 xs)) ∧ Hid (wr.ownsRow W1 33 3 (.slice AE es.length cE) es.length (es.flatMap Edg.cells)) ∧ Hid (Rdr wr r q) ∧ Hid (w1.grownBy wr (some r))) (fun _ kv _ _ => 10 - (intOf kv).toNat)
  case atStart => exact ⟨0, _, _, [], 60, _, by omega, rfl, rfl, rfl, rfl, by omega, HO0, HE0, HR0, HG0⟩
  case round =>
    clear HO0 HE0 HR0 HG0
    obtain ⟨k, A1, c1, xs, q, gb, hk9, rfl, rfl, rfl, rfl, hq, HOX, HOE, HR, HG⟩ := hrel
    have hgz := HG.out.size
    by_cases hlt : (xs.length : Int) < many
    · have hxk : xs.length ≤ 8 := by omega
      go_wp2_with fail
      refine (pick_any r q ((xs.length : Int) + 1) _ HR.out (by omega) (by omega) (by omega)).mono ?_
      rintro e w3 ⟨v, rfl, ⟨va, vb⟩, hr3, hg3⟩
      obtain ⟨at_, hat⟩ : ∃ a : Nat, v = a := ⟨v.toNat, by omega⟩
      subst hat
      have hat_ : at_ ≤ xs.length := by omega
      obtain ⟨q', hq'⟩ : ∃ q', q' = q + 1 := ⟨_, rfl⟩
      rw [← hq'] at hr3
      have ox3 := own_pick HOX.out hg3 hrl
      have oe3 := own_pick HOE.out hg3 hrl
      have HST : Hid (PutSt w1 r q' w3.heap.size W1 (some ⟨gb, 0, none⟩) AE c1 cE xs es w3.drew) := ⟨hr3, ⟨(gr_trans HG.out hg3).os, (gr_trans HG.out hg3).tape, (gr_trans HG.out hg3).output, (gr_trans HG.out hg3).size, (gr_trans HG.out hg3).block⟩, Nat.le_refl _, ox3, oe3⟩
      have HAZ : Hid (∀ a, (some ⟨gb, 0, none⟩ : Option Addr) = some a → a.block < w3.heap.size) := fun a ha => (own_up ox3 a ha).2
      have hcx : xs.length ≤ c1 := by
        rcases HOX.out.2 with ⟨hv, h0⟩ | ⟨g', cap, cur, hv, _, _, hnc, hcm, _⟩
        · omega
        · injection hv with h1 h2 h3
          omega
      have hW1w : W1 ≤ wr.heap.size := by rw [HW1.out]; exact hgz
      have hrZ : r < w3.heap.size := by have := hg3.size; omega
      have hwZ : w1.heap.size ≤ w3.heap.size := by have := hg3.size; omega
      have hW1Z : W1 ≤ w3.heap.size := by rw [HW1.out]; exact hwZ
      have hq61 : q' ≤ 60 + (xs.length + 1) := by omega
      clear HOX HOE HR HG hr3 hg3 hq' ox3 oe3
      generalize w3.heap.size = Z at *
      obtain ⟨q, rfl⟩ : ∃ q, q = q' := ⟨_, rfl⟩
      have y1 : (at_ : Int) ≤ (c1 : Int) := by omega
      have y2 : (0 : Int) ≤ (at_ : Int) := Int.natCast_nonneg _
      have y3 : (at_ : Int) ≤ (xs.length : Int) := by omega
      have y4 : (xs.length : Int) ≤ (c1 : Int) := by omega
      have hgg : W1 ≤ gb ∧ gb < Z := ⟨(own_up HST.out.ox _ rfl).1, HAZ.out _ rfl⟩
      obtain ⟨AT, hAT⟩ : ∃ AT : Option Addr, AT = (if c1 = at_ then (some ⟨gb, 0, none⟩ : Option Addr) else (some ⟨gb, 0, none⟩ : Option Addr).map (·.add at_)) := ⟨_, rfl⟩
      have HAT := Lib.hid hAT
      clear hAT
      go_wp2
      refine wp_region_facts2 (fun i v _ => match i with
        | 1 => v = .slice (some ⟨gb, 0, none⟩) xs.length c1
        | 2 => v = .int .i64 (at_ : Int)
        | 3 => v = .slice (some ⟨gb, 0, none⟩) at_ c1
        | 5 => v = .int .i64 (xs.length : Int)
        | 8 => v = .slice (some ⟨gb, 0, none⟩) xs.length c1
        | 9 => v = .int .i64 (at_ : Int)
        | 10 => v = .slice AT (xs.length - at_) (c1 - at_)
        | _ => True)
        (fun fl vs wq => PutSt w1 r q Z W1 (some ⟨gb, 0, none⟩) AE c1 cE xs es wq ∧
          ∃ (A : Option Addr) (n c : Nat), RowN wq Z A n c ∧ (fl 0 = false → A = none ∧ n = 0 ∧ c = 0) ∧ (fl 0 = true → fl 4 = false → vs 0 = .slice A n c ∧ n = 0) ∧ (fl 4 = true → fl 7 = false → vs 4 = .slice A n c ∧ n = at_) ∧ (fl 7 = true → fl 11 = false → vs 7 = .slice A n c ∧ n = at_ + 1) ∧ (fl 11 = true → vs 11 = .slice A n c ∧ n = xs.length + 1) ∧
            (fl 6 = true → ∃ g, vs 6 = .slice (some ⟨g, 0, none⟩) 1 1 ∧ Blk wq g 3 #[.int .i64 (xs.length : Int)] ∧ ∀ a, A = some a → a.block ≠ g) ∧ (fl 12 = true → vs 12 = vs 11) ∧ (fl 12 = false → vs 12 = .slice (some ⟨gb, 0, none⟩) xs.length c1)) (fun _ _ => True) (by kernel_rfl) (by kernel_rfl) ?_ ?_ ?_ ?_
      · intro i v u u' _ h
        exact h
      · intro fl vs hfl hvs
        have v12 : vs 12 = .slice (some ⟨gb, 0, none⟩) xs.length c1 := hvs 12 8 rfl
        have z0 := hfl 0 (by simp)
        have z4 := hfl 4 (by simp)
        have z6 := hfl 6 (by simp)
        have z7 := hfl 7 (by simp)
        have z11 := hfl 11 (by simp)
        have z12 := hfl 12 (by simp)
        exact ⟨HST.out, none, 0, 0, ⟨[], ⟨rfl, .inl ⟨rfl, rfl⟩⟩⟩, fun _ => ⟨rfl, rfl, rfl⟩, fun h => by simp [z0] at h, fun h => by simp [z4] at h, fun h => by simp [z7] at h, fun h => by simp [z11] at h, fun h => by simp [z6] at h, fun h => by simp [z12] at h, fun _ => v12⟩
      · refine ⟨?_, ?_, ?_, ?_, ?_, ?_, ?_, ?_, ?_, ?_, ?_, ?_, ?_, trivial⟩
        all_goals intro fl vs w5 a1 hc hG hfi hcl hp K hK
        · have hfi0 : fl 0 = false := hfi
          obtain ⟨hS, A, n, c, hrow, g0, g1, g4, g7, g11, g6, g12, g13⟩ := hG
          obtain ⟨rfl, rfl, rfl⟩ := g0 hfi0
          have n4 : fl 4 = false := by cases h : fl 4 with
            | false => rfl
            | true => have := hcl 4 0 (by kernel_rfl) h; rw [hfi0] at this; cases this
          have n7 : fl 7 = false := by cases h : fl 7 with
            | false => rfl
            | true => have := hcl 7 4 (by kernel_rfl) h; rw [n4] at this; cases this
          have n11 : fl 11 = false := by cases h : fl 11 with
            | false => rfl
            | true => have := hcl 11 7 (by kernel_rfl) h; rw [n7] at this; cases this
          have n12 : fl 12 = false := by cases h : fl 12 with
            | false => rfl
            | true => have := hcl 12 11 (by kernel_rfl) h; rw [n11] at this; cases this
          go_simp
          refine hK _ _ trivial trivial ⟨hS.alloc _, some ⟨w5.heap.size, 0, none⟩, 0, 0, ⟨[], World.ownsRow_lit (base := Z) (e := 3) (size := 1) w5 #[] 0 hS.zz (by unfold maxLen; omega) rfl⟩, ?_, ?_, ?_, ?_, ?_, ?_, ?_, ?_⟩
          · intro h; simp [upd] at h
          · intro _ _; exact ⟨by rw [upd_at], rfl⟩
          · intro h; simp [upd, n4] at h
          · intro h; simp [upd, n7] at h
          · intro h; simp [upd, n11] at h
          · intro h
            obtain ⟨g, hg1, hg2, _⟩ := g6 (by simpa [upd] using h)
            exact ⟨g, by simpa [upd] using hg1, hg2.alloc _, fun a ha e => by injection ha with ha; subst ha; have := hg2.lt; simp at e; omega⟩
          · intro h; simp [upd, n12] at h
          · intro _; simpa [upd] using g13 n12
        · have n12 : fl 12 = false := by cases h : fl 12 with
            | false => rfl
            | true => have := hcl 12 1 (by kernel_rfl) h; rw [show fl 1 = false from hfi] at this; cases this
          have h12 : vs 12 = _ := hG.2.choose_spec.choose_spec.choose_spec.2.2.2.2.2.2.2.2 n12
          refine op_move rfl ?_
          rw [hc.ev 8 12 rfl, h12]
          exact hK _ _ trivial rfl (by simpa [upd] using hG)
        · refine op_move rfl ?_
          rw [hc.ev0 _ rfl]
          exact hK _ _ trivial rfl (by simpa [upd] using hG)
        · have h1 : vs 1 = _ := (hp 1 (by kernel_rfl)).2
          have h2 : vs 2 = _ := (hp 2 (by kernel_rfl)).2
          have e1 := hc.ev 30 1 rfl
          have e2 := hc.ev 31 2 rfl
          rw [h1] at e1
          rw [h2] at e2
          unfold Oper.wp execOp
          simp only [e1, e2, Option.map_some, Option.map_none]
          go_simp
          exact hK _ _ trivial rfl (by simpa [upd] using hG)
        · have f0 := (hp 0 (by kernel_rfl)).1
          obtain ⟨hS, A, n, c, ⟨ys, hown⟩, g0, g1, g4, g7, g11, g6, g12, g13⟩ := hG
          have hfi4 : fl 4 = false := hfi
          obtain ⟨hvp, hn⟩ := g1 f0 hfi4
          have n7 : fl 7 = false := by cases h : fl 7 with
            | false => rfl
            | true => have := hcl 7 4 (by kernel_rfl) h; rw [hfi4] at this; cases this
          have n11 : fl 11 = false := by cases h : fl 11 with
            | false => rfl
            | true => have := hcl 11 7 (by kernel_rfl) h; rw [n7] at this; cases this
          have n12 : fl 12 = false := by cases h : fl 12 with
            | false => rfl
            | true => have := hcl 12 11 (by kernel_rfl) h; rw [n11] at this; cases this
          have eS := hc.ev 29 0 rfl
          rw [hvp] at eS
          have h3 : vs 3 = _ := (hp 3 (by kernel_rfl)).2
          have eX := hc.ev 32 3 rfl
          rw [h3] at eX
          have hR := reads_takeN (Reads.of_own hS.ox) hat_
          have hnl : n + at_ ≤ 64 := by omega
          refine wp_append_any _ _ _ _ rfl Z 3 i0 _ 1 8 Try.underlying36 hi0 hz0 hz1 hz2 rfl (by omega) (.slice A n c) n (nums .i64 ys) eS hown _ _ at_ _ _ eX hR (nums_one _ _) (by unfold maxLen; omega) (by omega) hS.zz ?_
          intro v' w6 ho hg hat
          obtain ⟨A', c', rfl⟩ := own_slice ho
          have hob : Value.ownBlock (.slice A n c) = A.map (·.block) := by cases A <;> rfl
          rw [hob] at hg hat
          refine hK _ _ trivial trivial ⟨hS.row HAZ.out hrZ hwZ hown hg, A', n + at_, c', ⟨_, by rw [← nums_app] at ho; exact ho⟩, fun h => by simp [upd, f0] at h, fun _ h => by simp [upd] at h, fun _ _ => ⟨by rw [upd_at], by omega⟩, fun h => by simp [upd, n7] at h, fun h => by simp [upd, n11] at h, fun h6 => ?_, fun h12 => ?_, fun h13 => ?_⟩
          · have h6' : fl 6 = true := by simpa [upd] using h6
            obtain ⟨g, hg1, hg2, hg3⟩ := g6 h6'
            refine ⟨g, by simpa [upd] using hg1, hg2.grown hg (fun e => by cases hA : A with
              | none => rw [hA] at e; cases e
              | some a => rw [hA] at e; exact hg3 a hA (by simpa using e.symm)), fun a ha e => ?_⟩
            subst ha
            rcases hat with hat | hat
            · cases hA : A with
              | none => rw [hA] at hat; cases hat
              | some a0 => rw [hA] at hat; exact hg3 a0 hA (by rw [← e]; simpa [Value.ownBlock] using hat.symm)
            · have := hg2.lt
              have h9 : a.block = w5.heap.size := by simpa [Value.ownBlock] using hat
              omega
          · simp [upd, n12] at h12
          · simpa [upd] using g13 n12
        · refine op_move rfl ?_
          rw [hc.ev0 _ rfl]
          exact hK _ _ trivial rfl (by simpa [upd] using hG)
        · have h5 : vs 5 = _ := (hp 5 (by kernel_rfl)).2
          have e5 := hc.ev 34 5 rfl
          rw [h5] at e5
          obtain ⟨hS, A, n, c, ⟨ys, hown⟩, g0, g1, g4, g7, g11, g6, g12, g13⟩ := hG
          have hup := own_up hown
          unfold Oper.wp execOp
          simp only [e5, List.map_toArray, List.map_cons, List.map_nil]
          go_simp
          refine hK _ _ trivial trivial ⟨hS.alloc _, A, n, c, ⟨ys, hown.alloc _⟩, by simpa [upd] using g0, by simpa [upd] using g1, by simpa [upd] using g4, by simpa [upd] using g7, by simpa [upd] using g11, fun _ => ⟨_, by rw [upd_at], Blk.new _ _ _, fun a ha => by have := (hup a ha).2; omega⟩, by simpa [upd] using g12, by simpa [upd] using g13⟩
        · have f4 := (hp 4 (by kernel_rfl)).1
          obtain ⟨hS, A, n, c, ⟨ys, hown⟩, g0, g1, g4, g7, g11, g6, g12, g13⟩ := hG
          have f0 : fl 0 = true := hcl 4 0 (by kernel_rfl) f4
          have hfi7 : fl 7 = false := hfi
          obtain ⟨hvp, hn⟩ := g4 f4 hfi7
          have n11 : fl 11 = false := by cases h : fl 11 with
            | false => rfl
            | true => have := hcl 11 7 (by kernel_rfl) h; rw [hfi7] at this; cases this
          have n12 : fl 12 = false := by cases h : fl 12 with
            | false => rfl
            | true => have := hcl 12 11 (by kernel_rfl) h; rw [n11] at this; cases this
          obtain ⟨gx, hx1, hx2, hx3⟩ := g6 (hp 6 (by kernel_rfl)).1
          have eS := hc.ev 33 4 rfl
          rw [hvp] at eS
          have eX := hc.ev 35 6 rfl
          rw [hx1] at eX
          have hR := reads_blk hx2
          have hnl : n + 1 ≤ 64 := by omega
          refine wp_append_any _ _ _ _ rfl Z 3 i0 _ 1 8 Try.underlying36 hi0 hz0 hz1 hz2 rfl (by omega) (.slice A n c) n (nums .i64 ys) eS hown _ _ 1 _ _ eX hR (nums_one _ _) (by unfold maxLen; omega) (by omega) hS.zz ?_
          intro v' w6 ho hg hat
          obtain ⟨A', c', rfl⟩ := own_slice ho
          have hob : Value.ownBlock (.slice A n c) = A.map (·.block) := by cases A <;> rfl
          rw [hob] at hg hat
          refine hK _ _ trivial trivial ⟨hS.row HAZ.out hrZ hwZ hown hg, A', n + 1, c', ⟨_, by rw [← nums_app] at ho; exact ho⟩, fun h => by simp [upd, f0] at h, fun _ h => by simp [upd, f4] at h, fun _ h => by simp [upd] at h, fun _ _ => ⟨by rw [upd_at], by omega⟩, fun h => by simp [upd, n11] at h, fun h6 => ?_, fun h12 => ?_, fun h13 => ?_⟩
          · have h6' : fl 6 = true := by simpa [upd] using h6
            obtain ⟨g, hg1, hg2, hg3⟩ := g6 h6'
            refine ⟨g, by simpa [upd] using hg1, hg2.grown hg (fun e => by cases hA : A with
              | none => rw [hA] at e; cases e
              | some a => rw [hA] at e; exact hg3 a hA (by simpa using e.symm)), fun a ha e => ?_⟩
            subst ha
            rcases hat with hat | hat
            · cases hA : A with
              | none => rw [hA] at hat; cases hat
              | some a0 => rw [hA] at hat; exact hg3 a0 hA (by rw [← e]; simpa [Value.ownBlock] using hat.symm)
            · have := hg2.lt
              have h9 : a.block = w5.heap.size := by simpa [Value.ownBlock] using hat
              omega
          · simp [upd, n12] at h12
          · simpa [upd] using g13 n12
        · have n12 : fl 12 = false := by cases h : fl 12 with
            | false => rfl
            | true => have := hcl 12 8 (by kernel_rfl) h; rw [show fl 8 = false from hfi] at this; cases this
          have h12 : vs 12 = _ := hG.2.choose_spec.choose_spec.choose_spec.2.2.2.2.2.2.2.2 n12
          refine op_move rfl ?_
          rw [hc.ev 8 12 rfl, h12]
          exact hK _ _ trivial rfl (by simpa [upd] using hG)
        · refine op_move rfl ?_
          rw [hc.ev0 _ rfl]
          exact hK _ _ trivial rfl (by simpa [upd] using hG)
        · have h1 : vs 8 = _ := (hp 8 (by kernel_rfl)).2
          have h2 : vs 9 = _ := (hp 9 (by kernel_rfl)).2
          have e1 := hc.ev 37 8 rfl
          have e2 := hc.ev 38 9 rfl
          rw [h1] at e1
          rw [h2] at e2
          unfold Oper.wp execOp
          simp only [e1, e2, Option.map_some, Option.map_none]
          have HAT' := HAT.out
          by_cases hca : c1 = at_
          · rw [if_pos hca] at HAT'
            have HATx := Lib.hid HAT'
            clear HAT'
            subst hca
            go_simp
            exact hK _ _ trivial (by show Value.slice _ _ _ = Value.slice AT _ _; rw [HATx.out]; congr 1 <;> omega) (by simpa [upd] using hG)
          · rw [if_neg hca] at HAT'
            have HATx := Lib.hid HAT'
            clear HAT'
            go_simp
            exact hK _ _ trivial (by show Value.slice _ _ _ = Value.slice AT _ _; rw [HATx.out]; simp [Addr.add]) (by simpa [upd] using hG)
        · have f7 := (hp 7 (by kernel_rfl)).1
          obtain ⟨hS, A, n, c, ⟨ys, hown⟩, g0, g1, g4, g7, g11, g6, g12, g13⟩ := hG
          have f4 : fl 4 = true := hcl 7 4 (by kernel_rfl) f7
          have f0 : fl 0 = true := hcl 4 0 (by kernel_rfl) f4
          have hfi11 : fl 11 = false := hfi
          obtain ⟨hvp, hn⟩ := g7 f7 hfi11
          have n12 : fl 12 = false := by cases h : fl 12 with
            | false => rfl
            | true => have := hcl 12 11 (by kernel_rfl) h; rw [hfi11] at this; cases this
          have eS := hc.ev 36 7 rfl
          rw [hvp] at eS
          have h10 : vs 10 = _ := (hp 10 (by kernel_rfl)).2
          have eX := hc.ev 39 10 rfl
          rw [h10] at eX
          have hR : Reads w5 w5.heap.size 1 AT (xs.length - at_) (nums .i64 (xs.drop at_)) := by rw [HAT.out]; exact reads_dropN (Reads.of_own hS.ox) hat_ hcx
          have hnl : n + (xs.length - at_) ≤ 64 := by omega
          refine wp_append_any _ _ _ _ rfl Z 3 i0 _ 1 8 Try.underlying36 hi0 hz0 hz1 hz2 rfl (by omega) (.slice A n c) n (nums .i64 ys) eS hown _ _ (xs.length - at_) _ _ eX hR (nums_one _ _) (by unfold maxLen; omega) (by omega) hS.zz ?_
          intro v' w6 ho hg hat
          obtain ⟨A', c', rfl⟩ := own_slice ho
          have hob : Value.ownBlock (.slice A n c) = A.map (·.block) := by cases A <;> rfl
          rw [hob] at hg hat
          refine hK _ _ trivial trivial ⟨hS.row HAZ.out hrZ hwZ hown hg, A', n + (xs.length - at_), c', ⟨_, by rw [← nums_app] at ho; exact ho⟩, fun h => by simp [upd, f0] at h, fun _ h => by simp [upd, f4] at h, fun _ h => by simp [upd, f7] at h, fun _ h => by simp [upd] at h, fun _ => ⟨by rw [upd_at], by omega⟩, fun h6 => ?_, fun h12 => ?_, fun h13 => ?_⟩
          · have h6' : fl 6 = true := by simpa [upd] using h6
            obtain ⟨g, hg1, hg2, hg3⟩ := g6 h6'
            refine ⟨g, by simpa [upd] using hg1, hg2.grown hg (fun e => by cases hA : A with
              | none => rw [hA] at e; cases e
              | some a => rw [hA] at e; exact hg3 a hA (by simpa using e.symm)), fun a ha e => ?_⟩
            subst ha
            rcases hat with hat | hat
            · cases hA : A with
              | none => rw [hA] at hat; cases hat
              | some a0 => rw [hA] at hat; exact hg3 a0 hA (by rw [← e]; simpa [Value.ownBlock] using hat.symm)
            · have := hg2.lt
              have h9 : a.block = w5.heap.size := by simpa [Value.ownBlock] using hat
              omega
          · simp [upd, n12] at h12
          · simpa [upd] using g13 n12
        · refine op_assign rfl ?_
          rw [hc.ev 40 11 rfl]
          obtain ⟨hS, A, n, c, hrow, g0, g1, g4, g7, g11, g6, g12, g13⟩ := hG
          exact hK _ _ trivial trivial ⟨hS, A, n, c, hrow, by simpa [upd] using g0, by simpa [upd] using g1, by simpa [upd] using g4, by simpa [upd] using g7, by simpa [upd] using g11, by simpa [upd] using g6, fun _ => by simp [upd], fun h => by simp [upd] at h⟩
      · intro fl vs w5 hfl hG hF
        obtain ⟨hS, A, n, c, ⟨ys, hown⟩, g0, g1, g4, g7, g11, g6, g12, g13⟩ := hG
        obtain ⟨h11, rfl⟩ := g11 (hfl 11 (by simp))
        have h12 := g12 (hfl 12 (by simp))
        rw [h11] at h12
        have hyl : ys.length = xs.length + 1 := by have := hown.1; simpa [nums] using this
        have HE : Hid (PutSt w1 r q Z W1 (some ⟨gb, 0, none⟩) AE c1 cE xs es w5 ∧ w5.ownsRow Z 3 1 (.slice A ys.length c) ys.length (nums .i64 ys) ∧ ys.length = xs.length + 1) := ⟨hS, by rw [hyl]; exact hown, hyl⟩
        rw [← hyl] at h12
        clear hS hown g0 g1 g4 g7 g11 g6 g12 hF hfl h11 hyl
        simp only [fill]
        go_simp
        clear h12
        go_wp2
        go_roundw
        case rel =>
          obtain ⟨hS, hown, hyl⟩ := HE.out
          obtain ⟨g', _, hA', _⟩ := hown.form (by omega)
          injection hA' with hA'
          exact ⟨ys.length, A, c, ys, q, g', by omega, by rw [hyl]; go_num, rfl, hA', rfl, by omega, Lib.hid (own_base hown (by omega)), Lib.hid (own_base hS.oe (Nat.le_refl _)), Lib.hid hS.rd, Lib.hid hS.gr⟩
        case measure => simp [intOf]; omega
    · skip
      go_wp2_with fail
      refine (odd_any r q 9 _ HR.out (by omega) (by omega) (by omega)).mono ?_
      rintro e w3 ⟨b, rfl, hr3, hg3⟩
      have hwW : w.heap.size ≤ W1 := by have := HRE.out; omega
      have HOX3 := Lib.hid (own_pick HOX.out hg3 hrl)
      have HOE3 := Lib.hid (own_pick HOE.out hg3 hrl)
      have HG3 := Lib.hid (gr_trans HG.out hg3)
      have HR3' := Lib.hid hr3
      have hgg : W1 ≤ gb ∧ gb < w3.heap.size := own_up HOX3.out _ rfl
      have hW1g : w1.heap.size ≤ gb := by have := HW1.out; omega
      clear HOX HOE HR HG hr3 hg3
      cases b
      · go_wp2
        refine bodyPost_ret (v := .tuple #[.int .i64 many, .slice AE es.length cE, .slice (some ⟨gb, 0, none⟩) xs.length c1]) (by simp [results, Try.results20, go_sem]) rfl ?_
        exact ⟨many, AE, cE, es, _, c1, xs, rfl, own_base HOE3.out hwW, own_base HOX3.out hwW, hes, by omega, below_gr HB1.out HG3.out (by rw [HRE.out]; exact Nat.le_refl _)⟩
      · by_cases hxz : xs.length = 0
        · have hx0 : decide ((0 : Int) < (xs.length : Int)) = false := by simp [hxz]
          have HXZ := Lib.hid hxz
          have hx1 : ¬ 0 < xs.length := by omega
          clear hxz
          go_wp2
          refine bodyPost_ret (v := .tuple #[.int .i64 many, .slice AE es.length cE, .slice (some ⟨gb, 0, none⟩) xs.length c1]) (by simp [results, Try.results20, go_sem]) rfl ?_
          exact ⟨many, AE, cE, es, _, c1, xs, rfl, own_base HOE3.out hwW, own_base HOX3.out hwW, hes, by omega, below_gr HB1.out HG3.out (by rw [HRE.out]; exact Nat.le_refl _)⟩
        · have hx0 : decide ((0 : Int) < (xs.length : Int)) = true := decide_eq_true (by omega)
          have hxp : 0 < xs.length := by omega
          have hrZ : r < w3.heap.size := by omega
          obtain ⟨Z, hZ⟩ : ∃ Z, Z = w3.heap.size := ⟨_, rfl⟩
          have hZ3 : Z ≤ w3.heap.size := by omega
          rw [← hZ] at hgg hrZ
          obtain ⟨q', hq'⟩ : ∃ q', q' = q + 1 := ⟨_, rfl⟩
          rw [← hq'] at HR3'
          have hq2 : q' ≤ 1000000 := by omega
          clear hZ hq' hq hxz
          obtain ⟨q, rfl⟩ : ∃ q, q = q' := ⟨_, rfl⟩
          have HR3 := HR3'
          go_wp2
          refine wp_region_facts (fun i v wq => match i with
            | 0 => v = .slice (some ⟨gb, 0, none⟩) xs.length c1
            | 1 => v = .int .i64 many
            | 2 => v = .slice (some ⟨gb, 0, none⟩) xs.length c1
            | 3 => v = .slice (some ⟨gb, 0, none⟩) xs.length c1
            | 4 => v = .int .i64 (xs.length : Int)
            | 5 => v = .int .i64 ((xs.length : Int) - 1)
            | 6 => v = .pointer (some ⟨gb, xs.length - 1, none⟩)
            | 7 => ∃ x : Int, v = .int .i64 x
            | 8 => ∃ (g : Nat) (l : List Int), v = .slice (some ⟨g, 0, none⟩) 3 3 ∧ Z ≤ g ∧ l.length = 3 ∧ Blk wq g 3 (nums .i64 l).toArray
            | 9 => v = .pointer (some ⟨r, 0, none⟩)
            | 10 => ∃ x : Int, v = .int .i64 x ∧ 0 ≤ x ∧ x ≤ 2
            | 11 => ∃ (b o : Nat) (x : Int), v = .pointer (some ⟨b, o, none⟩) ∧ Z ≤ b ∧ wq.cell? ⟨b, o, none⟩ = some (.int .i64 x)
            | 12 => ∃ x : Int, v = .int .i64 x
            | 13 => v = .pointer (some ⟨gb, 0, none⟩)
            | _ => True)
            (fun fl _ wq => Rdr wq r (if fl 10 = true then q + 1 else q) ∧ w1.grownBy wq (some r) ∧ Z ≤ wq.heap.size ∧ wq.ownsRow W1 33 3 (.slice AE es.length cE) es.length (es.flatMap Edg.cells) ∧ ∃ ys : List Int, ys.length = xs.length ∧ wq.ownsRow W1 3 1 (.slice (some ⟨gb, 0, none⟩) xs.length c1) xs.length (nums .i64 ys)) (Keeps (Z ≤ ·)) (by kernel_rfl) (by kernel_rfl) ?_ ?_ ?_ ?_
          · intro i v u u' hk h
            match i, h with
            | 0, h => exact h
            | 1, h => exact h
            | 2, h => exact h
            | 3, h => exact h
            | 4, h => exact h
            | 5, h => exact h
            | 6, h => exact h
            | 7, h => exact h
            | 8, ⟨g, l, h1, h2, h3, h4⟩ => exact ⟨g, l, h1, h2, h3, h4.keeps hk h2⟩
            | 9, h => exact h
            | 10, h => exact h
            | 11, ⟨b, o, x, h1, h2, h3⟩ => exact ⟨b, o, x, h1, h2, hk.cell h3 h2⟩
            | 12, h => exact h
            | 13, h => exact h
            | _ + 14, h => exact h
          · intro fl vs hfl
            rw [if_neg (by rw [hfl 10 (by simp)]; simp)]
            exact ⟨HR3.out, ⟨HG3.out.os, HG3.out.tape, HG3.out.output, HG3.out.size, HG3.out.block⟩, hZ3, HOE3.out, xs, rfl, HOX3.out⟩
          · refine ⟨?_, ?_, ?_, ?_, ?_, ?_, ?_, ?_, ?_, ?_, ?_, ?_, ?_, ?_, ?_, trivial⟩
            all_goals intro fl vs w5 a1 hc hG hfi hcl hp K hK
            · refine op_move rfl ?_
              rw [hc.ev0 _ rfl]
              exact hK _ _ (Keeps.refl _ _) rfl (by simpa [upd] using hG)
            · refine op_move rfl ?_
              rw [hc.ev0 _ rfl]
              exact hK _ _ (Keeps.refl _ _) rfl (by simpa [upd] using hG)
            · refine op_move rfl ?_
              rw [hc.ev0 _ rfl]
              exact hK _ _ (Keeps.refl _ _) rfl (by simpa [upd] using hG)
            · refine op_move rfl ?_
              rw [hc.ev0 _ rfl]
              exact hK _ _ (Keeps.refl _ _) rfl (by simpa [upd] using hG)
            · have h3 : vs 3 = _ := (hp 3 (by kernel_rfl)).2
              have e3 := hc.ev 51 3 rfl
              rw [h3] at e3
              unfold Oper.wp execOp
              simp only [e3, resolve, invoke, builtin, List.map_toArray, List.map_cons, List.map_nil]
              go_simp
              exact hK _ _ (Keeps.refl _ _) rfl (by simpa [upd] using hG)
            · have h4 : vs 4 = _ := (hp 4 (by kernel_rfl)).2
              have e4 := hc.ev 52 4 rfl
              rw [h4] at e4
              have yw : IntKind.i64.wrap ((xs.length : Int) - 1) = (xs.length : Int) - 1 := IntWalk.i64_in _ (by omega)
              unfold Oper.wp execOp
              simp only [e4]
              go_simp
              exact hK (.int .i64 ((xs.length : Int) - 1)) _ (Keeps.refl _ _) rfl (by simpa [upd] using hG)
            · have h2 : vs 2 = _ := (hp 2 (by kernel_rfl)).2
              have h5 : vs 5 = _ := (hp 5 (by kernel_rfl)).2
              have e2 := hc.ev 50 2 rfl
              have e5 := hc.ev 53 5 rfl
              rw [h2] at e2
              rw [h5] at e5
              obtain ⟨i, hi⟩ : ∃ i, i = xs.length - 1 := ⟨_, rfl⟩
              rw [show (xs.length : Int) - 1 = (i : Int) from by omega] at e5
              have y1 : (0 : Int) ≤ (i : Int) := by omega
              have y2 : (i : Int) < (xs.length : Int) := by omega
              have HI := Lib.hid hi
              clear hi h5
              unfold Oper.wp execOp
              simp only [e2, e5]
              go_simp
              exact hK (.pointer (some ⟨gb, i, none⟩)) _ (Keeps.refl _ _) (by show Value.pointer _ = Value.pointer _; rw [HI.out]) (by simpa [upd] using hG)
            · have h6 : vs 6 = _ := (hp 6 (by kernel_rfl)).2
              have e6 := hc.ev 54 6 rfl
              rw [h6] at e6
              obtain ⟨hrd, hgr, hzz, hoe, ys, hyl, how⟩ := hG
              have hcell : w5.cell? ⟨gb, xs.length - 1, none⟩ = some (.int .i64 (ys[xs.length - 1]'(by omega))) := (how.cellAt (xs.length - 1) (by omega)).trans (nums_get _ _ (by omega))
              unfold Oper.wp execOp
              simp only [e6]
              go_simp
              exact hK _ _ (Keeps.refl _ _) ⟨_, rfl⟩ ⟨by simpa [upd] using hrd, hgr, hzz, hoe, ys, hyl, how⟩
            · have h1 : vs 1 = _ := (hp 1 (by kernel_rfl)).2
              obtain ⟨x, h7⟩ := (hp 7 (by kernel_rfl)).2
              have e1 := hc.ev 49 1 rfl
              have e7 := hc.ev 55 7 rfl
              rw [h1] at e1
              rw [h7] at e7
              obtain ⟨hrd, hgr, hzz, hoe, ys, hyl, how⟩ := hG
              unfold Oper.wp execOp
              simp only [e1, e7, List.map_toArray, List.map_cons, List.map_nil]
              go_simp
              exact hK _ _ (Keeps.alloc _ _ _) ⟨_, [-1, many, x], rfl, hzz, rfl, Blk.new _ _ _⟩ ⟨by simpa [upd] using hrd.alloc _, gr_alloc hgr _, by simp; omega, hoe.alloc _, ys, hyl, how.alloc _⟩
            · refine op_move rfl ?_
              rw [hc.ev0 _ rfl]
              exact hK _ _ (Keeps.refl _ _) rfl (by simpa [upd] using hG)
            · have h9 : vs 9 = _ := (hp 9 (by kernel_rfl)).2
              have e9 := hc.ev 57 9 rfl
              rw [h9] at e9
              rw [hfi, if_neg (by simp)] at hG
              obtain ⟨hrd, hgr, hzz, hoe, ys, hyl, how⟩ := hG
              refine op_call rfl (by simp only [List.map_toArray, List.map_cons, List.map_nil, e9]; rfl) (by kernel_rfl) (pick_any _ _ 3 _ hrd (by omega) (by omega) (by omega)) ?_
              rintro e w6 ⟨v, rfl, ⟨va, vb⟩, hr', hg'⟩
              refine ⟨_, rfl, hK _ _ (Keeps.grown hg' (fun k e hh => by injection e with e; omega)) ⟨_, rfl, va, by omega⟩ ⟨?_, gr_trans hgr hg', Nat.le_trans hzz hg'.size, own_pick hoe hg' hrl, ys, hyl, own_pick how hg' hrl⟩⟩
              rw [upd_at, if_pos rfl]
              exact hr'
            · obtain ⟨g, l, h8, z8, hl3, hb⟩ := (hp 8 (by kernel_rfl)).2
              obtain ⟨x, h10, hx0, hx1⟩ := (hp 10 (by kernel_rfl)).2
              obtain ⟨y, hy, hcy⟩ := lit_at hb hx0 (by omega)
              have e8 := hc.ev 56 8 rfl
              have e10 := hc.ev 58 10 rfl
              rw [h8] at e8
              rw [h10] at e10
              have hx2 : x < 3 := by omega
              unfold Oper.wp execOp
              simp only [e8, e10]
              go_simp
              exact hK _ _ (Keeps.refl _ _) ⟨g, x.toNat, y, rfl, z8, hcy⟩ (by simpa [upd] using hG)
            · obtain ⟨b, o, x, h11, z11, hcx⟩ := (hp 11 (by kernel_rfl)).2
              have e11 := hc.ev 59 11 rfl
              rw [h11] at e11
              unfold Oper.wp execOp
              simp only [e11]
              go_simp
              exact hK _ _ (Keeps.refl _ _) ⟨x, rfl⟩ (by simpa [upd] using hG)
            · have h0 : vs 0 = _ := (hp 0 (by kernel_rfl)).2
              have e0 := hc.ev 48 0 rfl
              rw [h0] at e0
              unfold Oper.wp execOp
              simp only [e0]
              have y1 : (0 : Int) < (xs.length : Int) := by omega
              go_simp
              exact hK _ _ (Keeps.refl _ _) rfl (by simpa [upd] using hG)
            · have h13 : vs 13 = _ := (hp 13 (by kernel_rfl)).2
              obtain ⟨x, h12⟩ := (hp 12 (by kernel_rfl)).2
              have e13 := hc.ev 61 13 rfl
              have e12 := hc.ev 60 12 rfl
              rw [h13] at e13
              rw [h12] at e12
              obtain ⟨hrd, hgr, hzz, hoe, ys, hyl, how⟩ := hG
              have hcell : w5.cell? ⟨gb, 0, none⟩ = some (.int .i64 (ys[0]'(by omega))) := (how.cellAt 0 (by omega)).trans (nums_get _ _ (by omega))
              have hfr : w5.frozen? ⟨gb, 0, none⟩ = false := how.frozenAt 0
              have hst := how.stored 0 (.int .i64 x)
              unfold Oper.wp execOp
              simp only [e13, e12]
              go_simp
              refine hK undef _ (Keeps.set_ (by simp only; omega) _) trivial ⟨by simpa [upd] using hrd.setCell (by simp only; omega) _, gr_setCell hgr (by simp only; omega) _, by simp; omega, own_other (A2 := some ⟨gb, 0, none⟩) hoe hst.2 (fun a a2 h1 h2 => ?_), ys.set 0 x, by simpa using hyl, ?_⟩
              · injection h2 with h2
                subst h2 h1
                intro e
                rcases how.2 with ⟨hv, _⟩ | ⟨g, cap, cur, hv, _, hh, _⟩
                · cases hv
                · injection hv with hv
                  injection hv with hv
                  injection hv with hv
                  subst hv
                  exact own_blk_ne hoe (cs := cur) (t := 3) hh (by decide) (by simpa [Value.ownBlock] using e)
              · have e : nums .i64 (ys.set 0 x) = (nums .i64 ys).set 0 (.int .i64 x) := by simp [nums, List.map_set]
                rw [e]
                exact hst.1
          · intro fl vs w5 hfl hG hF
            obtain ⟨hrd, hgr, hzz, hoe, ys, hyl, how⟩ := hG
            rw [← hyl] at how
            have HE : Hid (w5.ownsRow W1 33 3 (.slice AE es.length cE) es.length (es.flatMap Edg.cells) ∧ w5.ownsRow W1 3 1 (.slice (some ⟨gb, 0, none⟩) ys.length c1) ys.length (nums .i64 ys) ∧ w1.grownBy w5 (some r)) := ⟨hoe, how, hgr⟩
            have HYL := Lib.hid hyl
            clear hrd hgr hzz hoe how hF hfl hyl
            simp only [fill]
            go_simp
            go_wp2
            refine bodyPost_ret (v := .tuple #[.int .i64 many, .slice AE es.length cE, .slice (some ⟨gb, 0, none⟩) xs.length c1]) (by simp [results, Try.results20, go_sem]) rfl ?_
            exact ⟨many, AE, cE, es, some ⟨gb, 0, none⟩, c1, ys, by rw [HYL.out], own_base HE.out.1 hwW, own_base HE.out.2.1 hwW, hes, by have := HYL.out; omega, below_gr HB1.out HE.out.2.2 (by rw [HRE.out]; exact Nat.le_refl _)⟩
end Go.Proofs.Ytgibmbjdnppiaaa
