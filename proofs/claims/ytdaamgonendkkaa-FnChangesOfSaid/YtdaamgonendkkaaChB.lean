/- Contract of the reference's l39Put. Condition: the sizes. Plain law of ChangesOf: both twins find the same sets of names. No condition. Contract of the reference's ChangesOf. Condition: the sizes. -/
import Derived.Test.YtdaamgonendkkaaRows
import Derived.Test.YtdaamgonendkkaaBase
import Derived.Test.YtdaamgonendkkaaBase2
import Derived.Test.YtdaamgonendkkaaIn
import Derived.Test.YtdaamgonendkkaaName
import Derived.Test.YtdaamgonendkkaaSlt
import Derived.Test.YtdaamgonendkkaaReg
import Derived.Test.YtdaamgonendkkaaRegS
import Derived.Test.YtdaamgonendkkaaBase3
import Derived.Test.YtdaamgonendkkaaOnly
import Derived.Test.YtdaamgonendkkaaSec
import Derived.Test.YtdaamgonendkkaaSym
import Derived.Test.YtdaamgonendkkaaObj
import Derived.Test.YtdaamgonendkkaaObjI
import Derived.Test.YtdaamgonendkkaaSymO
import Derived.Test.YtdaamgonendkkaaSorted
import Derived.Test.YtdaamgonendkkaaChA
import Derived.Test.YtdaamgonendkkaaObjP
import Derived.Test.YtdaamgonendkkaaObjW
import Derived.Test.YtdaamgonendkkaaPick2
import Derived.Test.YtdaamgonendkkaaKT
import Derived.Test.YtdaamgonendkkaaDobj
import Derived.Test.YtdaamgonendkkaaOwnA
import Derived.WalkKit
import Derived.WalkSpells
import Derived.WalkLawsBesides
import Derived.Handy
import Derived.BigQuiet
import Derived.Deep.RegionHeld3
import Derived.Deep.DrawnRows
import Derived.Deep.QuietTactic
import Derived.Deep.CutBlock
namespace Go.Proofs.Ytdaamgonendkkaa
open Go Go.RowKit

theorem st_info : (Try.prog.info? 9).map (fun i => (i.zero, i.size, i.bytes)) = some (some (.string ByteArray.empty), 1, 16) := by kernel_rfl
theorem texts_takeR {w : World} {B n m : Nat} {A : Option Addr} {xs : List ByteArray} (h : Reads w B 1 A n (texts xs)) (hm : m ≤ n) : Reads w B 1 A m (texts (xs.take m)) := by
  have hl : xs.length = n := by have := h.1; simpa [texts] using this
  refine ⟨by simp [texts]; omega, fun h0 => ?_⟩
  obtain ⟨ad, hA, hb, hc⟩ := h.2 (by omega)
  refine ⟨ad, hA, hb, fun j u hu => hc j u ?_⟩
  unfold texts at hu ⊢
  rw [List.map_take] at hu
  have hj : j < m := by
    have := (List.getElem?_eq_some_iff.1 hu).1
    rw [List.length_take] at this
    omega
  rw [List.getElem?_take, if_pos hj] at hu
  exact hu
theorem texts_dropR {w : World} {B n m c : Nat} {A : Option Addr} {xs : List ByteArray} (h : Reads w B 1 A n (texts xs)) (hm : m ≤ n) (hc : n ≤ c) : Reads w B 1 (if c = m then A else A.map (·.add m)) (n - m) (texts (xs.drop m)) := by
  have h2 := h.cut hm hc
  rw [Nat.mul_one] at h2
  have e : (texts xs).drop m = texts (xs.drop m) := by simp [texts, List.map_drop]
  rwa [e] at h2
theorem texts_blkR {w : World} {g : Nat} {x : ByteArray} {t : TypeId} (h : Blk w g t #[.string x]) : Reads w w.heap.size 1 (some ⟨g, 0, none⟩) 1 (texts [x]) := by
  refine ⟨rfl, fun _ => ⟨_, rfl, h.lt, fun j u hu => ?_⟩⟩
  have hj : j = 0 := by
    have := (List.getElem?_eq_some_iff.1 hu).1
    simp [texts] at this
    omega
  subst hj
  have h2 := h.cell 0
  have hu' : u = .string x := by simpa [texts] using hu.symm
  rw [hu']
  simpa [Addr.add] using h2
theorem texts_app (a b : List ByteArray) : texts (a ++ b) = texts a ++ texts b := by simp [texts]
theorem texts_ones (l : List ByteArray) : ∀ u ∈ texts l, u.oneCell' = true := fun u hu => by
  obtain ⟨x, _, rfl⟩ := List.mem_map.1 hu
  rfl
theorem own_sliceS {w : World} {base n : Nat} {v : Value} {xs : List Value} (h : w.ownsRow base 9 1 v n xs) : ∃ A c, v = .slice A n c := by
  rcases h.2 with ⟨hv, hn⟩ | ⟨g, cap, cur, hv, _⟩
  · exact ⟨none, 0, by rw [hv, hn]⟩
  · exact ⟨_, _, hv⟩
/-- What a sorted list is once a name is put in. -/
def PutIn (l : List ByteArray) (x : ByteArray) (m : List ByteArray) : Prop := Asc m ∧ (∀ y, y ∈ m ↔ y = x ∨ y ∈ l) ∧ m.length ≤ l.length + 1
set_option maxRecDepth 100000 in
set_option maxHeartbeats 6000000 in
theorem put39_any {gb c1 B0 : Nat} (l : List ByteArray) (x : ByteArray) (w : World) (hO : w.ownsRow B0 9 1 (.slice (some ⟨gb, 0, none⟩) l.length c1) l.length (texts l)) (hB0 : B0 ≤ w.heap.size) (hm : l.length ≤ 60) (ha : Asc l) :
    Calls Try.prog 56 #[.slice (some ⟨gb, 0, none⟩) l.length c1, .string x] w (fun e w' => ∃ (g c : Nat) (m : List ByteArray), e = .returned (.slice (some ⟨g, 0, none⟩) m.length c) ∧ PutIn l x m ∧ Below w.heap.size w w' ∧ w'.ownsRow B0 9 1 (.slice (some ⟨g, 0, none⟩) m.length c) m.length (texts m) ∧ (g = gb ∨ w.heap.size ≤ g)) := by
  obtain ⟨i0, hi0, hz0, hz1, hz2⟩ := info_parts st_info
  have HO := Lib.hid hO
  have HA := Lib.hid ha
  have HW0 := Lib.hid hB0
  have HR := Lib.hid (Reads.of_own hO)
  clear hO ha hB0
  go_enter Try.func56, Try.ntmps56
  go_wp2
  go_loopw [5] (fun av wi => ∃ (at_ d : Nat), av = .int .i64 (at_ : Int) ∧ at_ ≤ l.length ∧ Hid (∀ j (hj : j < l.length), j < at_ → Lt8 l[j] x) ∧ wi = w.drewN d) (fun av _ => l.length - (intOf av).toNat)
  case atStart => exact ⟨0, 0, rfl, Nat.zero_le _, fun j _ h => absurd h (by omega), rfl⟩
  case round =>
    obtain ⟨at_, d, rfl, hat_, HLO, rfl⟩ := hrel
    have y5 : (0 : Int) ≤ (at_ : Int) := Int.natCast_nonneg _
    by_cases hla : at_ < l.length
    · have y8 : (at_ : Int) < (l.length : Int) := by omega
      have hrc : w.cell? ⟨gb, at_, none⟩ = some (.string l[at_]) := (HO.out.cellAt at_ (by omega)).trans (texts_get _ _ hla)
      by_cases hls : Lt8 l[at_] x
      · have hl1 := less_true hls
        have HLO2 : Hid (∀ j (hj : j < l.length), j < at_ + 1 → Lt8 l[j] x) := fun j hj h => by
          by_cases hja : j = at_
          · subst hja
            exact hls
          · exact HLO.out j hj (by omega)
        clear hls
        go_wp2
        go_roundw
        case rel => exact ⟨at_ + 1, _, by go_num, by omega, HLO2, rfl⟩
        case measure => simp [intOf]; omega
      · have hl1 := less_false hls
        by_cases heq : l[at_] = x
        · have hq1 : (l[at_].toList == x.toList) = true := by simp [heq]
          have HMEM : Hid (x ∈ l) := by rw [← heq]; exact List.getElem_mem _
          clear hls heq
          go_wp2
          go_ret
          exact ⟨gb, c1, l, rfl, ⟨HA.out, fun y => ⟨fun h => .inr h, fun h => h.elim (fun e => by rw [e]; exact HMEM.out) id⟩, by omega⟩, below_drewN (Below.refl w.heap.size w) d, HO.out, .inl rfl⟩
        · have hq1 : (l[at_].toList == x.toList) = false := by
            rw [beq_eq_false_iff_ne]
            exact fun h => heq (toList_inj h)
          have HINS : Hid (Asc (l.take at_ ++ x :: l.drop at_) ∧ ∀ y, y ∈ l.take at_ ++ x :: l.drop at_ ↔ y = x ∨ y ∈ l) := ⟨asc_ins HA.out hat_ HLO.out (fun _ => by
              rcases Lt8.tri l[at_] x with h | h | h
              · exact absurd h hls
              · exact absurd h heq
              · exact h), fun y => mem_ins⟩
          clear hls heq
          have hcx : l.length ≤ c1 := by
            rcases HO.out.2 with ⟨hv, _⟩ | ⟨g', cap, cur, hv, _, _, hnc, _⟩
            · cases hv
            · injection hv with h1 h2 h3
              omega
          have y1 : (at_ : Int) ≤ (c1 : Int) := by omega
          have y2 : (0 : Int) ≤ (at_ : Int) := Int.natCast_nonneg _
          have y3 : (at_ : Int) ≤ (l.length : Int) := by omega
          have y4 : (l.length : Int) ≤ (c1 : Int) := by omega
          obtain ⟨AT, hAT⟩ : ∃ AT : Option Addr, AT = (if c1 = at_ then (some ⟨gb, 0, none⟩ : Option Addr) else (some ⟨gb, 0, none⟩ : Option Addr).map (·.add at_)) := ⟨_, rfl⟩
          have HAT := Lib.hid hAT
          have HBS : Hid (∀ q, Below w.heap.size w ((w.drewN d).drewN q)) := fun q => below_drewN (below_drewN (Below.refl w.heap.size w) d) q
          clear hAT
          go_wp2
          refine wp_region_facts (fun i v _ => match i with
              | 0 => True
              | 1 => v = .slice (some ⟨gb, 0, none⟩) l.length c1
              | 2 => v = .int .i64 (at_ : Int)
              | 3 => v = .slice (some ⟨gb, 0, none⟩) at_ c1
              | 4 => True
              | 5 => v = .string x
              | 6 => True
              | 7 => True
              | 8 => v = .slice (some ⟨gb, 0, none⟩) l.length c1
              | 9 => v = .int .i64 (at_ : Int)
              | 10 => v = .slice AT (l.length - at_) (c1 - at_)
              | 11 => True
              | _ => True)
            (fun fl vs wq => Below w.heap.size w wq ∧ ∃ (A : Option Addr) (n c : Nat) (ys : List ByteArray), wq.ownsRow w.heap.size 9 1 (.slice A n c) n (texts ys) ∧ (fl 0 = false → A = none ∧ n = 0 ∧ c = 0 ∧ ys = []) ∧ (fl 0 = true → fl 4 = false → vs 0 = .slice A n c ∧ ys = []) ∧ (fl 4 = true → fl 7 = false → vs 4 = .slice A n c ∧ ys = l.take at_) ∧ (fl 7 = true → fl 11 = false → vs 7 = .slice A n c ∧ ys = l.take at_ ++ [x]) ∧ (fl 11 = true → vs 11 = .slice A n c ∧ ys = l.take at_ ++ [x] ++ l.drop at_) ∧ (fl 6 = true → ∃ g, vs 6 = .slice (some ⟨g, 0, none⟩) 1 1 ∧ Blk wq g 9 #[.string x] ∧ ∀ a, A = some a → a.block ≠ g) ∧ (fl 12 = true → vs 12 = vs 11)) (fun _ _ => True) (by kernel_rfl) (by kernel_rfl) ?_ ?_ ?_ ?_
          · intro i v u u2 hk h
            exact h
          · intro fl vs hfl
            have z0 := hfl 0 (by simp)
            have z4 := hfl 4 (by simp)
            have z7 := hfl 7 (by simp)
            have z11 := hfl 11 (by simp)
            have z6 := hfl 6 (by simp)
            have z12 := hfl 12 (by simp)
            exact ⟨HBS.out _, none, 0, 0, [], ⟨rfl, .inl ⟨rfl, rfl⟩⟩, fun _ => ⟨rfl, rfl, rfl, rfl⟩, fun h => by simp [z0] at h, fun h => by simp [z4] at h, fun h => by simp [z7] at h, fun h => by simp [z11] at h, fun h => by simp [z6] at h, fun h => by simp [z12] at h⟩
          · refine ⟨?_, ?_, ?_, ?_, ?_, ?_, ?_, ?_, ?_, ?_, ?_, ?_, ?_, trivial⟩
            all_goals intro fl vs w5 a1 hc hG hfi hcl hp K hK
            · have n12 : fl 12 = false := by cases h : fl 12 with
                | false => rfl
                | true => have := hcl 12 0 (by kernel_rfl) h; rw [show fl 0 = false from hfi] at this; cases this
              have hfi0 : fl 0 = false := hfi
              obtain ⟨hB, A, n, c, ys, hown, g0, g1, g4, g7, g11, g6, g12⟩ := hG
              obtain ⟨rfl, rfl, rfl, rfl⟩ := g0 hfi0
              have n4 : fl 4 = false := by cases h : fl 4 with
                | false => rfl
                | true => have := hcl 4 0 (by kernel_rfl) h; rw [hfi0] at this; cases this
              have n7 : fl 7 = false := by cases h : fl 7 with
                | false => rfl
                | true => have := hcl 7 4 (by kernel_rfl) h; rw [n4] at this; cases this
              have n11 : fl 11 = false := by cases h : fl 11 with
                | false => rfl
                | true => have := hcl 11 7 (by kernel_rfl) h; rw [n7] at this; cases this
              unfold Oper.wp execOp
              go_simp
              refine hK _ _ trivial trivial ⟨hB.alloc hB.size _, some ⟨w5.heap.size, 0, none⟩, 0, 0, [], World.ownsRow_lit (base := w.heap.size) (e := 9) (size := 1) w5 #[] 0 hB.size (by unfold maxLen; omega) rfl, ?_, ?_, ?_, ?_, ?_, ?_, fun h => by simp [upd, n12] at h⟩
              · intro h; simp [upd] at h
              · intro _ _; exact ⟨by rw [upd_at], rfl⟩
              · intro h; simp [upd, n4] at h
              · intro h; simp [upd, n7] at h
              · intro h; simp [upd, n11] at h
              · intro h
                obtain ⟨g, hg1, hg2, _⟩ := g6 (by simpa [upd] using h)
                exact ⟨g, by simpa [upd] using hg1, hg2.alloc _, fun a ha e => by injection ha with ha; subst ha; have := hg2.lt; simp at e; omega⟩
            · refine op_move rfl ?_
              rw [hc.ev0 _ rfl]
              exact hK _ _ trivial rfl (by simpa [upd] using hG)
            · refine op_move rfl ?_
              rw [hc.ev0 _ rfl]
              exact hK _ _ trivial rfl (by simpa [upd] using hG)
            · have e1 := hc.ev 34 1 rfl
              have e2 := hc.ev 35 2 rfl
              rw [show vs 1 = _ from (hp 1 (by kernel_rfl)).2] at e1
              rw [show vs 2 = _ from (hp 2 (by kernel_rfl)).2] at e2
              unfold Oper.wp execOp
              simp only [e1, e2, Option.map_some, Option.map_none]
              go_simp
              exact hK _ _ trivial rfl (by simpa [upd] using hG)
            · have n12 : fl 12 = false := by cases h : fl 12 with
                | false => rfl
                | true => have := hcl 12 4 (by kernel_rfl) h; rw [show fl 4 = false from hfi] at this; cases this
              have f0 := (hp 0 (by kernel_rfl)).1
              obtain ⟨hB, A, n, c, ys, hown, g0, g1, g4, g7, g11, g6, g12⟩ := hG
              have hfi4 : fl 4 = false := hfi
              obtain ⟨hvp, hys⟩ := g1 f0 hfi4
              have n7 : fl 7 = false := by cases h : fl 7 with
                | false => rfl
                | true => have := hcl 7 4 (by kernel_rfl) h; rw [hfi4] at this; cases this
              have n11 : fl 11 = false := by cases h : fl 11 with
                | false => rfl
                | true => have := hcl 11 7 (by kernel_rfl) h; rw [n7] at this; cases this
              have eS := hc.ev 33 0 rfl
              rw [hvp] at eS
              have hyl : ys.length = n := by have := hown.1; simpa [texts] using this
              have eX := hc.ev 36 3 rfl
              rw [show vs 3 = _ from (hp 3 (by kernel_rfl)).2] at eX
              have hR := texts_takeR (HR.out.below hB) hat_
              have hnl : n + at_ ≤ 64 := by rw [← hyl, hys]; show 0 + at_ ≤ 64; omega
              refine wp_append_any _ _ _ _ rfl w.heap.size 9 i0 _ 1 16 Try.underlying23 hi0 hz0 hz1 hz2 rfl (by omega) (.slice A n c) n (texts ys) eS hown _ _ (at_) _ _ eX hR (texts_ones _) (by unfold maxLen; omega) (by omega) hB.size ?_
              intro v' w6 ho hg hat
              obtain ⟨A', c', rfl⟩ := own_sliceS ho
              have hob : Value.ownBlock (.slice A n c) = A.map (·.block) := by cases A <;> rfl
              rw [hob] at hg hat
              refine hK _ _ trivial trivial ⟨below_push hB hown (Nat.le_refl _) hB.size hg, A', n + (at_), c', [] ++ l.take at_, by rw [hys, ← texts_app] at ho; exact ho, fun h => by simp [upd, f0] at h, fun _ h => by simp [upd] at h, fun _ _ => ⟨by rw [upd_at], rfl⟩, fun h => by simp [upd, n7] at h, fun h => by simp [upd, n11] at h, fun h6 => ?_, fun h => by simp [upd, n12] at h⟩
              have h6' : fl 6 = true := by simpa [upd] using h6
              obtain ⟨g, hg1, hg2, hg3⟩ := g6 h6'
              refine ⟨g, by simpa [upd] using hg1, hg2.grown hg (fun e => by cases hA : A with
                | none => rw [hA] at e; cases e
                | some a => rw [hA] at e; exact hg3 a hA (by simpa using e.symm)), fun a ha e => ?_⟩
              subst ha
              rcases hat with hat | hat
              · cases hA : A with
                | none => rw [hA] at hat; cases hat
                | some a0 => rw [hA] at hat; exact hg3 a0 hA (by rw [← e]; simpa [Value.ownBlock] using hat.symm)
              · have := hg2.lt
                have h9 : a.block = w5.heap.size := by simpa [Value.ownBlock] using hat
                omega
            · refine op_move rfl ?_
              rw [hc.ev0 _ rfl]
              exact hK _ _ trivial rfl (by simpa [upd] using hG)
            · have n12 : fl 12 = false := by cases h : fl 12 with
                | false => rfl
                | true => have := hcl 12 6 (by kernel_rfl) h; rw [show fl 6 = false from hfi] at this; cases this
              have e8 := hc.ev 38 5 rfl
              rw [show vs 5 = _ from (hp 5 (by kernel_rfl)).2] at e8
              obtain ⟨hB, A, n, c, ys, hown, g0, g1, g4, g7, g11, g6, g12⟩ := hG
              have hup := own_up hown
              unfold Oper.wp execOp
              simp only [e8, List.map_toArray, List.map_cons, List.map_nil]
              go_simp
              refine hK _ _ trivial trivial ⟨hB.alloc hB.size _, A, n, c, ys, hown.alloc _, by simpa [upd] using g0, by simpa [upd] using g1, by simpa [upd] using g4, by simpa [upd] using g7, by simpa [upd] using g11, fun _ => ⟨_, by rw [upd_at], Blk.new _ _ _, fun a ha => by have := (hup a ha).2; omega⟩, fun h => by simp [upd, n12] at h⟩
            · have n12 : fl 12 = false := by cases h : fl 12 with
                | false => rfl
                | true => have := hcl 12 7 (by kernel_rfl) h; rw [show fl 7 = false from hfi] at this; cases this
              have f4 := (hp 4 (by kernel_rfl)).1
              obtain ⟨hB, A, n, c, ys, hown, g0, g1, g4, g7, g11, g6, g12⟩ := hG
              have f0 : fl 0 = true := hcl 4 0 (by kernel_rfl) f4
              have hfi7 : fl 7 = false := hfi
              obtain ⟨hvp, hys⟩ := g4 f4 hfi7
              have n11 : fl 11 = false := by cases h : fl 11 with
                | false => rfl
                | true => have := hcl 11 7 (by kernel_rfl) h; rw [hfi7] at this; cases this
              obtain ⟨gx, hx1, hx2, hx3⟩ := g6 (hp 6 (by kernel_rfl)).1
              have eS := hc.ev 37 4 rfl
              rw [hvp] at eS
              have hyl : ys.length = n := by have := hown.1; simpa [texts] using this
              have eX := hc.ev 39 6 rfl
              rw [hx1] at eX
              have hR := texts_blkR hx2
              have hnl : n + 1 ≤ 64 := by rw [← hyl, hys, List.length_take]; omega
              refine wp_append_any _ _ _ _ rfl w.heap.size 9 i0 _ 1 16 Try.underlying23 hi0 hz0 hz1 hz2 rfl (by omega) (.slice A n c) n (texts ys) eS hown _ _ (1) _ _ eX hR (texts_ones _) (by unfold maxLen; omega) (by omega) hB.size ?_
              intro v' w6 ho hg hat
              obtain ⟨A', c', rfl⟩ := own_sliceS ho
              have hob : Value.ownBlock (.slice A n c) = A.map (·.block) := by cases A <;> rfl
              rw [hob] at hg hat
              refine hK _ _ trivial trivial ⟨below_push hB hown (Nat.le_refl _) hB.size hg, A', n + (1), c', l.take at_ ++ [x], by rw [hys, ← texts_app] at ho; exact ho, fun h => by simp [upd, f0] at h, fun _ h => by simp [upd, f4] at h, fun _ h => by simp [upd] at h, fun _ _ => ⟨by rw [upd_at], rfl⟩, fun h => by simp [upd, n11] at h, fun h6 => ?_, fun h => by simp [upd, n12] at h⟩
              have h6' : fl 6 = true := by simpa [upd] using h6
              obtain ⟨g, hg1, hg2, hg3⟩ := g6 h6'
              refine ⟨g, by simpa [upd] using hg1, hg2.grown hg (fun e => by cases hA : A with
                | none => rw [hA] at e; cases e
                | some a => rw [hA] at e; exact hg3 a hA (by simpa using e.symm)), fun a ha e => ?_⟩
              subst ha
              rcases hat with hat | hat
              · cases hA : A with
                | none => rw [hA] at hat; cases hat
                | some a0 => rw [hA] at hat; exact hg3 a0 hA (by rw [← e]; simpa [Value.ownBlock] using hat.symm)
              · have := hg2.lt
                have h9 : a.block = w5.heap.size := by simpa [Value.ownBlock] using hat
                omega
            · refine op_move rfl ?_
              rw [hc.ev0 _ rfl]
              exact hK _ _ trivial rfl (by simpa [upd] using hG)
            · refine op_move rfl ?_
              rw [hc.ev0 _ rfl]
              exact hK _ _ trivial rfl (by simpa [upd] using hG)
            · have e11 := hc.ev 41 8 rfl
              have e12 := hc.ev 42 9 rfl
              rw [show vs 8 = _ from (hp 8 (by kernel_rfl)).2] at e11
              rw [show vs 9 = _ from (hp 9 (by kernel_rfl)).2] at e12
              unfold Oper.wp execOp
              simp only [e11, e12, Option.map_some, Option.map_none]
              have HAT' := HAT.out
              by_cases hca : c1 = at_
              · rw [if_pos hca] at HAT'
                have HATx := Lib.hid HAT'
                clear HAT'
                subst hca
                go_simp
                exact hK _ _ trivial (by show Value.slice _ _ _ = Value.slice AT _ _; rw [HATx.out]; congr 1 <;> omega) (by simpa [upd] using hG)
              · rw [if_neg hca] at HAT'
                have HATx := Lib.hid HAT'
                clear HAT'
                go_simp
                exact hK _ _ trivial (by show Value.slice _ _ _ = Value.slice AT _ _; rw [HATx.out]; simp [Addr.add]) (by simpa [upd] using hG)
            · have n12 : fl 12 = false := by cases h : fl 12 with
                | false => rfl
                | true => have := hcl 12 11 (by kernel_rfl) h; rw [show fl 11 = false from hfi] at this; cases this
              have f7 := (hp 7 (by kernel_rfl)).1
              obtain ⟨hB, A, n, c, ys, hown, g0, g1, g4, g7, g11, g6, g12⟩ := hG
              have f4 : fl 4 = true := hcl 7 4 (by kernel_rfl) f7
              have f0 : fl 0 = true := hcl 4 0 (by kernel_rfl) f4
              have hfi11 : fl 11 = false := hfi
              obtain ⟨hvp, hys⟩ := g7 f7 hfi11
              have eS := hc.ev 40 7 rfl
              rw [hvp] at eS
              have hyl : ys.length = n := by have := hown.1; simpa [texts] using this
              have eX := hc.ev 43 10 rfl
              rw [show vs 10 = _ from (hp 10 (by kernel_rfl)).2] at eX
              have hR : Reads w5 w.heap.size 1 AT (l.length - at_) (texts (l.drop at_)) := by rw [HAT.out]; exact texts_dropR (HR.out.below hB) hat_ hcx
              have hnl : n + (l.length - at_) ≤ 64 := by rw [← hyl, hys, List.length_append, List.length_take]; show _ + 1 + _ ≤ 64; omega
              refine wp_append_any _ _ _ _ rfl w.heap.size 9 i0 _ 1 16 Try.underlying23 hi0 hz0 hz1 hz2 rfl (by omega) (.slice A n c) n (texts ys) eS hown _ _ (l.length - at_) _ _ eX hR (texts_ones _) (by unfold maxLen; omega) (by omega) hB.size ?_
              intro v' w6 ho hg hat
              obtain ⟨A', c', rfl⟩ := own_sliceS ho
              have hob : Value.ownBlock (.slice A n c) = A.map (·.block) := by cases A <;> rfl
              rw [hob] at hg hat
              refine hK _ _ trivial trivial ⟨below_push hB hown (Nat.le_refl _) hB.size hg, A', n + (l.length - at_), c', l.take at_ ++ [x] ++ l.drop at_, by rw [hys, ← texts_app] at ho; exact ho, fun h => by simp [upd, f0] at h, fun _ h => by simp [upd, f4] at h, fun _ h => by simp [upd, f7] at h, fun _ h => by simp [upd] at h, fun _ => ⟨by rw [upd_at], rfl⟩, fun h6 => ?_, fun h => by simp [upd, n12] at h⟩
              have h6' : fl 6 = true := by simpa [upd] using h6
              obtain ⟨g, hg1, hg2, hg3⟩ := g6 h6'
              refine ⟨g, by simpa [upd] using hg1, hg2.grown hg (fun e => by cases hA : A with
                | none => rw [hA] at e; cases e
                | some a => rw [hA] at e; exact hg3 a hA (by simpa using e.symm)), fun a ha e => ?_⟩
              subst ha
              rcases hat with hat | hat
              · cases hA : A with
                | none => rw [hA] at hat; cases hat
                | some a0 => rw [hA] at hat; exact hg3 a0 hA (by rw [← e]; simpa [Value.ownBlock] using hat.symm)
              · have := hg2.lt
                have h9 : a.block = w5.heap.size := by simpa [Value.ownBlock] using hat
                omega
            · refine op_assign rfl ?_
              rw [hc.ev 44 11 rfl]
              obtain ⟨hB, A, n, c, ys, hown, g0, g1, g4, g7, g11, g6, g12⟩ := hG
              exact hK _ _ trivial trivial ⟨hB, A, n, c, ys, hown, by simpa [upd] using g0, by simpa [upd] using g1, by simpa [upd] using g4, by simpa [upd] using g7, by simpa [upd] using g11, by simpa [upd] using g6, fun _ => by simp [upd]⟩
          · intro fl vs w5 hfl hG hF
            obtain ⟨hB, A, n, c', ys, hown, g0, g1, g4, g7, g11, g6, g12⟩ := hG
            obtain ⟨h11, hys⟩ := g11 (hfl 11 (by simp))
            have h12 := g12 (hfl 12 (by simp))
            rw [h11] at h12
            have hyl : ys.length = n := by have := hown.1; simpa [texts] using this
            subst hyl
            have hyn : ys = l.take at_ ++ x :: l.drop at_ := by rw [hys]; simp
            have hyl2 : ys.length ≤ l.length + 1 := by
              rw [hyn]
              simp only [List.length_append, List.length_take, List.length_cons, List.length_drop]
              omega
            have hyl0 : 0 < ys.length := by rw [hyn, List.length_append, List.length_cons]; omega
            have HY : Hid (PutIn l x ys) := by rw [← hyn] at HINS; exact ⟨HINS.out.1, HINS.out.2, hyl2⟩
            obtain ⟨g', rfl, hgg, _⟩ := own_addr hown hyl0
            have HO5 := Lib.hid hown
            have HB5 := Lib.hid hB
            have HGG := Lib.hid hgg
            clear hB hown g0 g1 g4 g7 g11 g6 g12 hF hfl h11 hys hyn HINS
            simp only [fill]
            go_simp
            try rw [h12]
            clear h12
            go_wp2
            go_ret
            exact ⟨g', c', ys, rfl, HY.out, HB5.out, own_base HO5.out HW0.out, .inr (own_up HO5.out _ rfl).1⟩
    · have y8 : ¬ (at_ : Int) < (l.length : Int) := by omega
      have HINS : Hid (Asc (l.take at_ ++ x :: l.drop at_) ∧ ∀ y, y ∈ l.take at_ ++ x :: l.drop at_ ↔ y = x ∨ y ∈ l) := ⟨asc_ins HA.out hat_ HLO.out (fun h => absurd h (by omega)), fun y => mem_ins⟩
      have hcx : l.length ≤ c1 := by
        rcases HO.out.2 with ⟨hv, _⟩ | ⟨g', cap, cur, hv, _, _, hnc, _⟩
        · cases hv
        · injection hv with h1 h2 h3
          omega
      have y1 : (at_ : Int) ≤ (c1 : Int) := by omega
      have y2 : (0 : Int) ≤ (at_ : Int) := Int.natCast_nonneg _
      have y3 : (at_ : Int) ≤ (l.length : Int) := by omega
      have y4 : (l.length : Int) ≤ (c1 : Int) := by omega
      obtain ⟨AT, hAT⟩ : ∃ AT : Option Addr, AT = (if c1 = at_ then (some ⟨gb, 0, none⟩ : Option Addr) else (some ⟨gb, 0, none⟩ : Option Addr).map (·.add at_)) := ⟨_, rfl⟩
      have HAT := Lib.hid hAT
      have HBS : Hid (∀ q, Below w.heap.size w ((w.drewN d).drewN q)) := fun q => below_drewN (below_drewN (Below.refl w.heap.size w) d) q
      clear hAT
      go_wp2
      refine wp_region_facts (fun i v _ => match i with
          | 0 => True
          | 1 => v = .slice (some ⟨gb, 0, none⟩) l.length c1
          | 2 => v = .int .i64 (at_ : Int)
          | 3 => v = .slice (some ⟨gb, 0, none⟩) at_ c1
          | 4 => True
          | 5 => v = .string x
          | 6 => True
          | 7 => True
          | 8 => v = .slice (some ⟨gb, 0, none⟩) l.length c1
          | 9 => v = .int .i64 (at_ : Int)
          | 10 => v = .slice AT (l.length - at_) (c1 - at_)
          | 11 => True
          | _ => True)
        (fun fl vs wq => Below w.heap.size w wq ∧ ∃ (A : Option Addr) (n c : Nat) (ys : List ByteArray), wq.ownsRow w.heap.size 9 1 (.slice A n c) n (texts ys) ∧ (fl 0 = false → A = none ∧ n = 0 ∧ c = 0 ∧ ys = []) ∧ (fl 0 = true → fl 4 = false → vs 0 = .slice A n c ∧ ys = []) ∧ (fl 4 = true → fl 7 = false → vs 4 = .slice A n c ∧ ys = l.take at_) ∧ (fl 7 = true → fl 11 = false → vs 7 = .slice A n c ∧ ys = l.take at_ ++ [x]) ∧ (fl 11 = true → vs 11 = .slice A n c ∧ ys = l.take at_ ++ [x] ++ l.drop at_) ∧ (fl 6 = true → ∃ g, vs 6 = .slice (some ⟨g, 0, none⟩) 1 1 ∧ Blk wq g 9 #[.string x] ∧ ∀ a, A = some a → a.block ≠ g) ∧ (fl 12 = true → vs 12 = vs 11)) (fun _ _ => True) (by kernel_rfl) (by kernel_rfl) ?_ ?_ ?_ ?_
      · intro i v u u2 hk h
        exact h
      · intro fl vs hfl
        have z0 := hfl 0 (by simp)
        have z4 := hfl 4 (by simp)
        have z7 := hfl 7 (by simp)
        have z11 := hfl 11 (by simp)
        have z6 := hfl 6 (by simp)
        have z12 := hfl 12 (by simp)
        exact ⟨HBS.out _, none, 0, 0, [], ⟨rfl, .inl ⟨rfl, rfl⟩⟩, fun _ => ⟨rfl, rfl, rfl, rfl⟩, fun h => by simp [z0] at h, fun h => by simp [z4] at h, fun h => by simp [z7] at h, fun h => by simp [z11] at h, fun h => by simp [z6] at h, fun h => by simp [z12] at h⟩
      · refine ⟨?_, ?_, ?_, ?_, ?_, ?_, ?_, ?_, ?_, ?_, ?_, ?_, ?_, trivial⟩
        all_goals intro fl vs w5 a1 hc hG hfi hcl hp K hK
        · have n12 : fl 12 = false := by cases h : fl 12 with
            | false => rfl
            | true => have := hcl 12 0 (by kernel_rfl) h; rw [show fl 0 = false from hfi] at this; cases this
          have hfi0 : fl 0 = false := hfi
          obtain ⟨hB, A, n, c, ys, hown, g0, g1, g4, g7, g11, g6, g12⟩ := hG
          obtain ⟨rfl, rfl, rfl, rfl⟩ := g0 hfi0
          have n4 : fl 4 = false := by cases h : fl 4 with
            | false => rfl
            | true => have := hcl 4 0 (by kernel_rfl) h; rw [hfi0] at this; cases this
          have n7 : fl 7 = false := by cases h : fl 7 with
            | false => rfl
            | true => have := hcl 7 4 (by kernel_rfl) h; rw [n4] at this; cases this
          have n11 : fl 11 = false := by cases h : fl 11 with
            | false => rfl
            | true => have := hcl 11 7 (by kernel_rfl) h; rw [n7] at this; cases this
          unfold Oper.wp execOp
          go_simp
          refine hK _ _ trivial trivial ⟨hB.alloc hB.size _, some ⟨w5.heap.size, 0, none⟩, 0, 0, [], World.ownsRow_lit (base := w.heap.size) (e := 9) (size := 1) w5 #[] 0 hB.size (by unfold maxLen; omega) rfl, ?_, ?_, ?_, ?_, ?_, ?_, fun h => by simp [upd, n12] at h⟩
          · intro h; simp [upd] at h
          · intro _ _; exact ⟨by rw [upd_at], rfl⟩
          · intro h; simp [upd, n4] at h
          · intro h; simp [upd, n7] at h
          · intro h; simp [upd, n11] at h
          · intro h
            obtain ⟨g, hg1, hg2, _⟩ := g6 (by simpa [upd] using h)
            exact ⟨g, by simpa [upd] using hg1, hg2.alloc _, fun a ha e => by injection ha with ha; subst ha; have := hg2.lt; simp at e; omega⟩
        · refine op_move rfl ?_
          rw [hc.ev0 _ rfl]
          exact hK _ _ trivial rfl (by simpa [upd] using hG)
        · refine op_move rfl ?_
          rw [hc.ev0 _ rfl]
          exact hK _ _ trivial rfl (by simpa [upd] using hG)
        · have e1 := hc.ev 34 1 rfl
          have e2 := hc.ev 35 2 rfl
          rw [show vs 1 = _ from (hp 1 (by kernel_rfl)).2] at e1
          rw [show vs 2 = _ from (hp 2 (by kernel_rfl)).2] at e2
          unfold Oper.wp execOp
          simp only [e1, e2, Option.map_some, Option.map_none]
          go_simp
          exact hK _ _ trivial rfl (by simpa [upd] using hG)
        · have n12 : fl 12 = false := by cases h : fl 12 with
            | false => rfl
            | true => have := hcl 12 4 (by kernel_rfl) h; rw [show fl 4 = false from hfi] at this; cases this
          have f0 := (hp 0 (by kernel_rfl)).1
          obtain ⟨hB, A, n, c, ys, hown, g0, g1, g4, g7, g11, g6, g12⟩ := hG
          have hfi4 : fl 4 = false := hfi
          obtain ⟨hvp, hys⟩ := g1 f0 hfi4
          have n7 : fl 7 = false := by cases h : fl 7 with
            | false => rfl
            | true => have := hcl 7 4 (by kernel_rfl) h; rw [hfi4] at this; cases this
          have n11 : fl 11 = false := by cases h : fl 11 with
            | false => rfl
            | true => have := hcl 11 7 (by kernel_rfl) h; rw [n7] at this; cases this
          have eS := hc.ev 33 0 rfl
          rw [hvp] at eS
          have hyl : ys.length = n := by have := hown.1; simpa [texts] using this
          have eX := hc.ev 36 3 rfl
          rw [show vs 3 = _ from (hp 3 (by kernel_rfl)).2] at eX
          have hR := texts_takeR (HR.out.below hB) hat_
          have hnl : n + at_ ≤ 64 := by rw [← hyl, hys]; show 0 + at_ ≤ 64; omega
          refine wp_append_any _ _ _ _ rfl w.heap.size 9 i0 _ 1 16 Try.underlying23 hi0 hz0 hz1 hz2 rfl (by omega) (.slice A n c) n (texts ys) eS hown _ _ (at_) _ _ eX hR (texts_ones _) (by unfold maxLen; omega) (by omega) hB.size ?_
          intro v' w6 ho hg hat
          obtain ⟨A', c', rfl⟩ := own_sliceS ho
          have hob : Value.ownBlock (.slice A n c) = A.map (·.block) := by cases A <;> rfl
          rw [hob] at hg hat
          refine hK _ _ trivial trivial ⟨below_push hB hown (Nat.le_refl _) hB.size hg, A', n + (at_), c', [] ++ l.take at_, by rw [hys, ← texts_app] at ho; exact ho, fun h => by simp [upd, f0] at h, fun _ h => by simp [upd] at h, fun _ _ => ⟨by rw [upd_at], rfl⟩, fun h => by simp [upd, n7] at h, fun h => by simp [upd, n11] at h, fun h6 => ?_, fun h => by simp [upd, n12] at h⟩
          have h6' : fl 6 = true := by simpa [upd] using h6
          obtain ⟨g, hg1, hg2, hg3⟩ := g6 h6'
          refine ⟨g, by simpa [upd] using hg1, hg2.grown hg (fun e => by cases hA : A with
            | none => rw [hA] at e; cases e
            | some a => rw [hA] at e; exact hg3 a hA (by simpa using e.symm)), fun a ha e => ?_⟩
          subst ha
          rcases hat with hat | hat
          · cases hA : A with
            | none => rw [hA] at hat; cases hat
            | some a0 => rw [hA] at hat; exact hg3 a0 hA (by rw [← e]; simpa [Value.ownBlock] using hat.symm)
          · have := hg2.lt
            have h9 : a.block = w5.heap.size := by simpa [Value.ownBlock] using hat
            omega
        · refine op_move rfl ?_
          rw [hc.ev0 _ rfl]
          exact hK _ _ trivial rfl (by simpa [upd] using hG)
        · have n12 : fl 12 = false := by cases h : fl 12 with
            | false => rfl
            | true => have := hcl 12 6 (by kernel_rfl) h; rw [show fl 6 = false from hfi] at this; cases this
          have e8 := hc.ev 38 5 rfl
          rw [show vs 5 = _ from (hp 5 (by kernel_rfl)).2] at e8
          obtain ⟨hB, A, n, c, ys, hown, g0, g1, g4, g7, g11, g6, g12⟩ := hG
          have hup := own_up hown
          unfold Oper.wp execOp
          simp only [e8, List.map_toArray, List.map_cons, List.map_nil]
          go_simp
          refine hK _ _ trivial trivial ⟨hB.alloc hB.size _, A, n, c, ys, hown.alloc _, by simpa [upd] using g0, by simpa [upd] using g1, by simpa [upd] using g4, by simpa [upd] using g7, by simpa [upd] using g11, fun _ => ⟨_, by rw [upd_at], Blk.new _ _ _, fun a ha => by have := (hup a ha).2; omega⟩, fun h => by simp [upd, n12] at h⟩
        · have n12 : fl 12 = false := by cases h : fl 12 with
            | false => rfl
            | true => have := hcl 12 7 (by kernel_rfl) h; rw [show fl 7 = false from hfi] at this; cases this
          have f4 := (hp 4 (by kernel_rfl)).1
          obtain ⟨hB, A, n, c, ys, hown, g0, g1, g4, g7, g11, g6, g12⟩ := hG
          have f0 : fl 0 = true := hcl 4 0 (by kernel_rfl) f4
          have hfi7 : fl 7 = false := hfi
          obtain ⟨hvp, hys⟩ := g4 f4 hfi7
          have n11 : fl 11 = false := by cases h : fl 11 with
            | false => rfl
            | true => have := hcl 11 7 (by kernel_rfl) h; rw [hfi7] at this; cases this
          obtain ⟨gx, hx1, hx2, hx3⟩ := g6 (hp 6 (by kernel_rfl)).1
          have eS := hc.ev 37 4 rfl
          rw [hvp] at eS
          have hyl : ys.length = n := by have := hown.1; simpa [texts] using this
          have eX := hc.ev 39 6 rfl
          rw [hx1] at eX
          have hR := texts_blkR hx2
          have hnl : n + 1 ≤ 64 := by rw [← hyl, hys, List.length_take]; omega
          refine wp_append_any _ _ _ _ rfl w.heap.size 9 i0 _ 1 16 Try.underlying23 hi0 hz0 hz1 hz2 rfl (by omega) (.slice A n c) n (texts ys) eS hown _ _ (1) _ _ eX hR (texts_ones _) (by unfold maxLen; omega) (by omega) hB.size ?_
          intro v' w6 ho hg hat
          obtain ⟨A', c', rfl⟩ := own_sliceS ho
          have hob : Value.ownBlock (.slice A n c) = A.map (·.block) := by cases A <;> rfl
          rw [hob] at hg hat
          refine hK _ _ trivial trivial ⟨below_push hB hown (Nat.le_refl _) hB.size hg, A', n + (1), c', l.take at_ ++ [x], by rw [hys, ← texts_app] at ho; exact ho, fun h => by simp [upd, f0] at h, fun _ h => by simp [upd, f4] at h, fun _ h => by simp [upd] at h, fun _ _ => ⟨by rw [upd_at], rfl⟩, fun h => by simp [upd, n11] at h, fun h6 => ?_, fun h => by simp [upd, n12] at h⟩
          have h6' : fl 6 = true := by simpa [upd] using h6
          obtain ⟨g, hg1, hg2, hg3⟩ := g6 h6'
          refine ⟨g, by simpa [upd] using hg1, hg2.grown hg (fun e => by cases hA : A with
            | none => rw [hA] at e; cases e
            | some a => rw [hA] at e; exact hg3 a hA (by simpa using e.symm)), fun a ha e => ?_⟩
          subst ha
          rcases hat with hat | hat
          · cases hA : A with
            | none => rw [hA] at hat; cases hat
            | some a0 => rw [hA] at hat; exact hg3 a0 hA (by rw [← e]; simpa [Value.ownBlock] using hat.symm)
          · have := hg2.lt
            have h9 : a.block = w5.heap.size := by simpa [Value.ownBlock] using hat
            omega
        · refine op_move rfl ?_
          rw [hc.ev0 _ rfl]
          exact hK _ _ trivial rfl (by simpa [upd] using hG)
        · refine op_move rfl ?_
          rw [hc.ev0 _ rfl]
          exact hK _ _ trivial rfl (by simpa [upd] using hG)
        · have e11 := hc.ev 41 8 rfl
          have e12 := hc.ev 42 9 rfl
          rw [show vs 8 = _ from (hp 8 (by kernel_rfl)).2] at e11
          rw [show vs 9 = _ from (hp 9 (by kernel_rfl)).2] at e12
          unfold Oper.wp execOp
          simp only [e11, e12, Option.map_some, Option.map_none]
          have HAT' := HAT.out
          by_cases hca : c1 = at_
          · rw [if_pos hca] at HAT'
            have HATx := Lib.hid HAT'
            clear HAT'
            subst hca
            go_simp
            exact hK _ _ trivial (by show Value.slice _ _ _ = Value.slice AT _ _; rw [HATx.out]; congr 1 <;> omega) (by simpa [upd] using hG)
          · rw [if_neg hca] at HAT'
            have HATx := Lib.hid HAT'
            clear HAT'
            go_simp
            exact hK _ _ trivial (by show Value.slice _ _ _ = Value.slice AT _ _; rw [HATx.out]; simp [Addr.add]) (by simpa [upd] using hG)
        · have n12 : fl 12 = false := by cases h : fl 12 with
            | false => rfl
            | true => have := hcl 12 11 (by kernel_rfl) h; rw [show fl 11 = false from hfi] at this; cases this
          have f7 := (hp 7 (by kernel_rfl)).1
          obtain ⟨hB, A, n, c, ys, hown, g0, g1, g4, g7, g11, g6, g12⟩ := hG
          have f4 : fl 4 = true := hcl 7 4 (by kernel_rfl) f7
          have f0 : fl 0 = true := hcl 4 0 (by kernel_rfl) f4
          have hfi11 : fl 11 = false := hfi
          obtain ⟨hvp, hys⟩ := g7 f7 hfi11
          have eS := hc.ev 40 7 rfl
          rw [hvp] at eS
          have hyl : ys.length = n := by have := hown.1; simpa [texts] using this
          have eX := hc.ev 43 10 rfl
          rw [show vs 10 = _ from (hp 10 (by kernel_rfl)).2] at eX
          have hR : Reads w5 w.heap.size 1 AT (l.length - at_) (texts (l.drop at_)) := by rw [HAT.out]; exact texts_dropR (HR.out.below hB) hat_ hcx
          have hnl : n + (l.length - at_) ≤ 64 := by rw [← hyl, hys, List.length_append, List.length_take]; show _ + 1 + _ ≤ 64; omega
          refine wp_append_any _ _ _ _ rfl w.heap.size 9 i0 _ 1 16 Try.underlying23 hi0 hz0 hz1 hz2 rfl (by omega) (.slice A n c) n (texts ys) eS hown _ _ (l.length - at_) _ _ eX hR (texts_ones _) (by unfold maxLen; omega) (by omega) hB.size ?_
          intro v' w6 ho hg hat
          obtain ⟨A', c', rfl⟩ := own_sliceS ho
          have hob : Value.ownBlock (.slice A n c) = A.map (·.block) := by cases A <;> rfl
          rw [hob] at hg hat
          refine hK _ _ trivial trivial ⟨below_push hB hown (Nat.le_refl _) hB.size hg, A', n + (l.length - at_), c', l.take at_ ++ [x] ++ l.drop at_, by rw [hys, ← texts_app] at ho; exact ho, fun h => by simp [upd, f0] at h, fun _ h => by simp [upd, f4] at h, fun _ h => by simp [upd, f7] at h, fun _ h => by simp [upd] at h, fun _ => ⟨by rw [upd_at], rfl⟩, fun h6 => ?_, fun h => by simp [upd, n12] at h⟩
          have h6' : fl 6 = true := by simpa [upd] using h6
          obtain ⟨g, hg1, hg2, hg3⟩ := g6 h6'
          refine ⟨g, by simpa [upd] using hg1, hg2.grown hg (fun e => by cases hA : A with
            | none => rw [hA] at e; cases e
            | some a => rw [hA] at e; exact hg3 a hA (by simpa using e.symm)), fun a ha e => ?_⟩
          subst ha
          rcases hat with hat | hat
          · cases hA : A with
            | none => rw [hA] at hat; cases hat
            | some a0 => rw [hA] at hat; exact hg3 a0 hA (by rw [← e]; simpa [Value.ownBlock] using hat.symm)
          · have := hg2.lt
            have h9 : a.block = w5.heap.size := by simpa [Value.ownBlock] using hat
            omega
        · refine op_assign rfl ?_
          rw [hc.ev 44 11 rfl]
          obtain ⟨hB, A, n, c, ys, hown, g0, g1, g4, g7, g11, g6, g12⟩ := hG
          exact hK _ _ trivial trivial ⟨hB, A, n, c, ys, hown, by simpa [upd] using g0, by simpa [upd] using g1, by simpa [upd] using g4, by simpa [upd] using g7, by simpa [upd] using g11, by simpa [upd] using g6, fun _ => by simp [upd]⟩
      · intro fl vs w5 hfl hG hF
        obtain ⟨hB, A, n, c', ys, hown, g0, g1, g4, g7, g11, g6, g12⟩ := hG
        obtain ⟨h11, hys⟩ := g11 (hfl 11 (by simp))
        have h12 := g12 (hfl 12 (by simp))
        rw [h11] at h12
        have hyl : ys.length = n := by have := hown.1; simpa [texts] using this
        subst hyl
        have hyn : ys = l.take at_ ++ x :: l.drop at_ := by rw [hys]; simp
        have hyl2 : ys.length ≤ l.length + 1 := by
          rw [hyn]
          simp only [List.length_append, List.length_take, List.length_cons, List.length_drop]
          omega
        have hyl0 : 0 < ys.length := by rw [hyn, List.length_append, List.length_cons]; omega
        have HY : Hid (PutIn l x ys) := by rw [← hyn] at HINS; exact ⟨HINS.out.1, HINS.out.2, hyl2⟩
        obtain ⟨g', rfl, hgg, _⟩ := own_addr hown hyl0
        have HO5 := Lib.hid hown
        have HB5 := Lib.hid hB
        have HGG := Lib.hid hgg
        clear hB hown g0 g1 g4 g7 g11 g6 g12 hF hfl h11 hys hyn HINS
        simp only [fill]
        go_simp
        try rw [h12]
        clear h12
        go_wp2
        go_ret
        exact ⟨g', c', ys, rfl, HY.out, HB5.out, own_base HO5.out HW0.out, .inr (own_up HO5.out _ rfl).1⟩
end Go.Proofs.Ytdaamgonendkkaa
namespace Go.Proofs.Ytdaamgonendkkaa
open Go Go.RowKit

theorem sortL_set (ns : List ByteArray) : Asc ((sortL ns).map mk8) ∧ ∀ x, x ∈ (sortL ns).map mk8 ↔ x ∈ ns := by
  show Asc ((sortL ns).map fun l => ⟨l.toArray⟩) ∧ ∀ x, x ∈ (sortL ns).map (fun l => ⟨l.toArray⟩) ↔ x ∈ ns
  have hp := List.pairwise_mergeSort (le := fun x y : List UInt8 => decide (x ≤ y)) (fun a b c h1 h2 => decide_eq_true (List.le_trans (of_decide_eq_true h1) (of_decide_eq_true h2))) (fun a b => by
    rcases List.le_total a b with h | h
    · simp [h]
    · simp [h]) (ns.map (·.data.toList))
  have hm := List.mergeSort_perm (ns.map (·.data.toList)) (fun x y : List UInt8 => decide (x ≤ y))
  unfold sortL Lib.compact
  generalize (ns.map (·.data.toList)).mergeSort (fun x y : List UInt8 => decide (x ≤ y)) = zs at *
  have hs : ∀ i j, i < j → j < zs.toArray.size → zs.toArray[i]! ≤ zs.toArray[j]! := fun i j hij hj => by
    have hj' : j < zs.length := by simpa using hj
    have h1 := List.pairwise_iff_getElem.1 hp i j (by omega) hj' hij
    have h2 := of_decide_eq_true h1
    simpa [getElem!_pos, hj', show i < zs.length by omega] using h2
  obtain ⟨h1, h2, h3⟩ := compact_asc zs.toArray hs zs.length (by simp)
  refine ⟨List.pairwise_map.2 (h1.imp fun {a b} hab => by show (⟨a.toArray⟩ : ByteArray).data.toList < (⟨b.toArray⟩ : ByteArray).data.toList; simpa using hab), fun x => ?_⟩
  rw [List.mem_map]
  constructor
  · rintro ⟨l, hl, rfl⟩
    obtain ⟨j, hj, e⟩ := h2 l hl
    have hj' : j < zs.length := hj
    have hz : l ∈ zs := by
      rw [← e]
      simp only [getElem!_pos, List.size_toArray, hj', List.getElem_toArray]
      exact List.getElem_mem _
    have hz2 := hm.mem_iff.1 hz
    obtain ⟨y, hy, e2⟩ := List.mem_map.1 hz2
    have : y = ⟨l.toArray⟩ := bytesEq (by simpa using e2)
    rw [← this]
    exact hy
  · intro hx
    have hz := hm.mem_iff.2 (List.mem_map.2 ⟨x, hx, rfl⟩)
    obtain ⟨j, hj, e⟩ := List.getElem_of_mem hz
    have h4 := h3 j hj
    simp only [getElem!_pos, List.size_toArray, hj, List.getElem_toArray, e] at h4
    exact ⟨x.data.toList, h4, bytesEq (by simp)⟩
/-- The names of some symbols that p holds of, ascending, each once. -/
def SetOf (p : ByteArray → Bool) (ys : List Sym) (l : List ByteArray) : Prop := Asc l ∧ (∀ z, z ∈ l ↔ ∃ t ∈ ys, t.name = z ∧ p z = true) ∧ l.length ≤ ys.length
theorem SetOf.nil (p : ByteArray → Bool) : SetOf p [] [] := ⟨Asc.nil, fun z => by simp, by simp⟩
theorem SetOf.one {p : ByteArray → Bool} {ys : List Sym} {l m : List ByteArray} (h : SetOf p ys l) (g : SetOf p ys m) : l = m := asc_one h.1 g.1 (fun x => (h.2.1 x).trans (g.2.1 x).symm)
theorem take_mem {ys : List Sym} {k : Nat} (hk : k < ys.length) (t : Sym) : t ∈ ys.take (k + 1) ↔ t ∈ ys.take k ∨ t = ys[k] := by
  rw [List.take_succ_eq_append_getElem hk, List.mem_append, List.mem_singleton]
theorem SetOf.no {p : ByteArray → Bool} {ys : List Sym} {k : Nat} {l : List ByteArray} (h : SetOf p (ys.take k) l) (hk : k < ys.length) (hp : p ys[k].name = false) : SetOf p (ys.take (k + 1)) l := by
  refine ⟨h.1, fun z => (h.2.1 z).trans ⟨fun ⟨t, ht, e, hz⟩ => ⟨t, (take_mem hk t).2 (.inl ht), e, hz⟩, fun ⟨t, ht, e, hz⟩ => ?_⟩, ?_⟩
  · rcases (take_mem hk t).1 ht with ht | ht
    · exact ⟨t, ht, e, hz⟩
    · subst ht
      rw [← e, hp] at hz
      cases hz
  · have := h.2.2
    simp only [List.length_take] at this ⊢
    omega
theorem SetOf.put {p : ByteArray → Bool} {ys : List Sym} {k : Nat} {l m : List ByteArray} (h : SetOf p (ys.take k) l) (hk : k < ys.length) (hp : p ys[k].name = true) (hm : PutIn l ys[k].name m) : SetOf p (ys.take (k + 1)) m := by
  refine ⟨hm.1, fun z => (hm.2.1 z).trans ⟨fun hz => ?_, fun ⟨t, ht, e, hz⟩ => ?_⟩, ?_⟩
  · rcases hz with hz | hz
    · exact ⟨ys[k], (take_mem hk _).2 (.inr rfl), hz.symm, by rw [hz]; exact hp⟩
    · obtain ⟨t, ht, e, hz⟩ := (h.2.1 z).1 hz
      exact ⟨t, (take_mem hk t).2 (.inl ht), e, hz⟩
  · rcases (take_mem hk t).1 ht with ht | ht
    · exact .inr ((h.2.1 z).2 ⟨t, ht, e, hz⟩)
    · subst ht
      exact .inl e.symm
  · have h1 := h.2.2
    have h2 := hm.2.2
    simp only [List.length_take] at h1 ⊢
    omega
theorem sPlace_iff (ys : List Sym) (z : ByteArray) : 0 ≤ sPlace ys z ↔ ∃ t ∈ ys, t.name = z := by
  constructor
  · intro h
    have h2 := idxOf_any (fun t : Sym => decide (t.name = z)) ys
    have h3 : decide (0 ≤ sPlace ys z) = true := decide_eq_true h
    rw [show decide (0 ≤ sPlace ys z) = _ from h2] at h3
    obtain ⟨t, ht, e⟩ := List.any_eq_true.1 h3
    exact ⟨t, ht, of_decide_eq_true e⟩
  · rintro ⟨t, ht, rfl⟩
    exact sPlace_mem ht
theorem kept_mem (p : Sym → Bool) (xs : List Sym) (z : ByteArray) : z ∈ kept p xs ↔ ∃ t ∈ xs, t.name = z ∧ p t = true := by
  unfold kept
  rw [List.mem_map]
  exact ⟨fun ⟨t, ht, e⟩ => ⟨t, (List.mem_filter.1 ht).1, e, (List.mem_filter.1 ht).2⟩, fun ⟨t, ht, e, hp⟩ => ⟨t, List.mem_filter.2 ⟨ht, hp⟩, e⟩⟩
theorem moreI_set (x y : Obj) : SetOf (fun nm => decide (symOf x.secs x.syms nm < 0)) y.syms (moreI x y) := by
  obtain ⟨h1, h2⟩ := sortL_set (kept (fun s => decide (symOf x.secs x.syms s.name < 0)) y.syms)
  refine ⟨h1, fun z => ((h2 z).trans (kept_mem _ _ z)).trans ⟨fun ⟨t, ht, e, hp⟩ => ⟨t, ht, e, by rw [← e]; exact hp⟩, fun ⟨t, ht, e, hp⟩ => ⟨t, ht, e, by rw [← e] at hp; exact hp⟩⟩, ?_⟩
  unfold moreI
  rw [List.length_map]
  exact Nat.le_trans (sortL_len _) (kept_len _ _)
/-- What the reference asks of a name of the second object's symbols. -/
noncomputable def qOther (xs ys : List Sym) (nm : ByteArray) : Bool := decide (0 ≤ sPlace xs nm) && !decide (xs[(sPlace xs nm).toNat]? = ys[(sPlace ys nm).toNat]?)
theorem otherI_one {x y : Obj} {l : List ByteArray} (h : SetOf (qOther x.syms y.syms) y.syms l) : l = otherI x y := by
  obtain ⟨h1, h2⟩ := sortL_set (kept (fun s => pOther x.syms y.syms s.name) x.syms)
  refine asc_one h.1 h1 (fun z => (h.2.1 z).trans (Iff.trans ?_ ((h2 z).trans (kept_mem _ _ z)).symm))
  constructor
  · rintro ⟨t, ht, e, hz⟩
    unfold qOther at hz
    rw [Bool.and_eq_true, decide_eq_true_iff] at hz
    obtain ⟨t2, ht2, e2⟩ := (sPlace_iff _ _).1 hz.1
    refine ⟨t2, ht2, e2, ?_⟩
    unfold pOther
    rw [e2, hz.2, decide_eq_true ((sPlace_iff _ _).2 ⟨t, ht, e⟩)]
    rfl
  · rintro ⟨t, ht, e, hz⟩
    unfold pOther at hz
    rw [e, Bool.and_eq_true, decide_eq_true_iff] at hz
    obtain ⟨t2, ht2, e2⟩ := (sPlace_iff _ _).1 hz.1
    refine ⟨t2, ht2, e2, ?_⟩
    unfold qOther
    rw [hz.2, decide_eq_true ((sPlace_iff _ _).2 ⟨t, ht, e⟩)]
    rfl
theorem symOf_v2 {x y : Obj} (h : y.v = x.v) (nm : ByteArray) : symOf y.secs y.syms nm = symOf x.secs x.syms nm := by
  unfold symOf
  rw [Obj.ok_v h, (Obj.v_eq h).2]
theorem bothOk_v {x y x' y' : Obj} (hx : x'.v = x.v) (hy : y'.v = y.v) : bothOk x' y' = bothOk x y := by
  unfold bothOk
  rw [Obj.ok_v hx, Obj.ok_v hy]
theorem chMore_v {x y x' y' : Obj} (hx : x'.v = x.v) (hy : y'.v = y.v) : chMore x' y' = chMore x y := by
  have e : moreI x' y' = moreI x y := by
    unfold moreI
    rw [(Obj.v_eq hy).2]
    simp only [symOf_v2 hx]
  unfold chMore
  rw [bothOk_v hx hy, e]
theorem chOther_v {x y x' y' : Obj} (hx : x'.v = x.v) (hy : y'.v = y.v) : chOther x' y' = chOther x y := by
  have e : otherI x' y' = otherI x y := by
    unfold otherI
    rw [(Obj.v_eq hx).2, (Obj.v_eq hy).2]
  unfold chOther
  rw [bothOk_v hx hy, e]
end Go.Proofs.Ytdaamgonendkkaa
namespace Go.Proofs.Ytdaamgonendkkaa
open Go Go.RowKit

/-- A list of names in a row. -/
structure NmL where
  l : List ByteArray
  g : Nat
  c : Nat
def NmL.val (x : NmL) : Value := .slice (some ⟨x.g, 0, none⟩) x.l.length x.c
/-- While changes are gathered. -/
structure ChMem (w : World) (g2 g3 g4 g5 : Nat) (x y : Obj) (s : Nat → NmL) (wq : World) : Prop where
  b2 : Blk wq g2 47 x.two.toArray
  b3 : Blk wq g3 47 y.two.toArray
  z4 : Blk wq g4 25 #[.slice none 0 0, .slice none 0 0, .slice none 0 0]
  b5 : Blk wq g5 25 #[(s 0).val, (s 1).val, (s 2).val]
  rx : ObjRows w.heap.size x wq
  ry : ObjRows w.heap.size y wq
  own : ∀ i, i < 3 → wq.ownsRow w.heap.size 9 1 (s i).val (s i).l.length (texts (s i).l)
  ne : ∀ i j, i < 3 → j < 3 → i ≠ j → (s i).g ≠ (s j).g
  bl : Below w.heap.size w wq
  lt : w.heap.size ≤ g2 ∧ g2 < g3 ∧ g3 < g4 ∧ g4 < g5
section
variable {w wq w' : World} {g2 g3 g4 g5 : Nat} {x y : Obj} {s : Nat → NmL}
theorem ChMem.below (h : ChMem w g2 g3 g4 g5 x y s wq) (hb : Below wq.heap.size wq w') : ChMem w g2 g3 g4 g5 x y s w' :=
  ⟨h.b2.below hb h.b2.lt, h.b3.below hb h.b3.lt, h.z4.below hb h.z4.lt, h.b5.below hb h.b5.lt, h.rx.below hb, h.ry.below hb, fun i hi => own_below (h.own i hi) hb, h.ne, h.bl.trans (hb.mono h.bl.size), h.lt⟩
theorem ChMem.drewN (h : ChMem w g2 g3 g4 g5 x y s wq) (n : Nat) : ChMem w g2 g3 g4 g5 x y s (wq.drewN n) := h.below (below_drewN (Below.refl _ _) n)
theorem ChMem.put {m : List ByteArray} {g c : Nat} (h : ChMem w g2 g3 g4 g5 x y s wq) (i : Nat) (hi : i < 3) (hb : Below wq.heap.size wq w') (ho : w'.ownsRow w.heap.size 9 1 (.slice (some ⟨g, 0, none⟩) m.length c) m.length (texts m)) (hg : g = (s i).g ∨ wq.heap.size ≤ g) :
    ChMem w g2 g3 g4 g5 x y (upd s i ⟨m, g, c⟩) (w'.setCell ⟨g5, i, none⟩ (.slice (some ⟨g, 0, none⟩) m.length c)) := by
  have hlt := h.lt
  have h' := h.below hb
  have hup : ∀ j, j < 3 → (s j).g < wq.heap.size := fun j hj => (own_up (h.own j hj) _ rfl).2
  refine ⟨h'.b2.far (by simp only [ne_eq]; omega) _, h'.b3.far (by simp only [ne_eq]; omega) _, h'.z4.far (by simp only [ne_eq]; omega) _, ?_, h'.rx.keep (.of_set h'.b5 (by unfold TO; decide) i _), h'.ry.keep (.of_set h'.b5 (by unfold TO; decide) i _), fun j hj => ?_, fun a b ha hb' hab => ?_, h'.bl.setCell (by simp only; omega) _, hlt⟩
  · have q := h'.b5.set_ i (.slice (some ⟨g, 0, none⟩) m.length c)
    match i, hi with
    | 0, _ => simpa [upd, NmL.val] using q
    | 1, _ => simpa [upd, NmL.val] using q
    | 2, _ => simpa [upd, NmL.val] using q
  · have k : KeepT (fun t => t = 9) w' (w'.setCell ⟨g5, i, none⟩ (.slice (some ⟨g, 0, none⟩) m.length c)) := .of_set h'.b5 (by decide) i _
    by_cases hji : j = i
    · subst hji
      rw [upd_at]
      exact k.own ho rfl
    · rw [upd_ne _ _ hji]
      exact k.own (h'.own j hj) rfl
  · by_cases hai : a = i
    · subst hai
      rw [upd_at, upd_ne _ _ (Ne.symm hab)]
      rcases hg with hg | hg
      · have := h.ne a b ha hb' hab
        simp only
        rw [hg]
        exact this
      · have := hup b hb'
        simp only
        omega
    · rw [upd_ne _ _ hai]
      by_cases hbi : b = i
      · subst hbi
        rw [upd_at]
        rcases hg with hg | hg
        · have := h.ne a b ha hb' hab
          simp only
          rw [hg]
          exact this
        · have := hup a ha
          simp only
          omega
      · rw [upd_ne _ _ hbi]
        exact h.ne a b ha hb' hab
theorem ChMem.gave (h : ChMem w g2 g3 g4 g5 x y s wq) {l1 l2 l3 : List ByteArray} (h1 : (s 0).l = l1) (h2 : (s 1).l = l2) (h3 : (s 2).l = l3) (hb : Below w.heap.size w w') (hk : KeepT (fun t => t = 9) wq w') : GaveChg l1 l2 l3 w (.returned (.agg #[(s 0).val, (s 1).val, (s 2).val])) w' := by
  subst h1 h2 h3
  exact ⟨_, _, _, _, _, _, rfl, hk.own (h.own 0 (by omega)) rfl, hk.own (h.own 1 (by omega)) rfl, hk.own (h.own 2 (by omega)) rfl,
    fun a b ha hb' => by injection ha with ha; injection hb' with hb'; subst ha hb'; exact h.ne 0 1 (by omega) (by omega) (by omega),
    fun a b ha hb' => by injection ha with ha; injection hb' with hb'; subst ha hb'; exact h.ne 0 2 (by omega) (by omega) (by omega),
    fun a b ha hb' => by injection ha with ha; injection hb' with hb'; subst ha hb'; exact h.ne 1 2 (by omega) (by omega) (by omega), hb⟩
end
theorem sym_cells {w : World} {B : Nat} {A : Option Addr} {b off : Nat} {xs : List Sym} (h : Reads w B 4 A xs.length (xs.flatMap Sym.cells)) {k : Nat} (hk : k < xs.length) (hA : A = some ⟨b, off, none⟩) :
    w.cell? ⟨b, off + k * 4, none⟩ = some (.string xs[k].name) ∧ w.cell? ⟨b, off + k * 4 + 1, none⟩ = some (.int .i64 xs[k].bind) ∧ w.cell? ⟨b, off + k * 4 + 2, none⟩ = some (.int .i64 xs[k].where_) ∧ w.cell? ⟨b, off + k * 4 + 3, none⟩ = some (.int .i64 xs[k].value) := by
  obtain ⟨b', off', hA', _, h0, h1, h2, h3⟩ := Sym.at_ h hk
  rw [hA] at hA'
  injection hA' with hA'
  injection hA' with e1 e2
  subst e1 e2
  exact ⟨h0, h1, h2, h3⟩
theorem chm_new {w v2 : World} {g2 g3 g4 : Nat} {x y : Obj} (h2 : Blk v2 g2 47 x.two.toArray) (h3 : Blk v2 g3 47 y.two.toArray) (h4 : Blk v2 g4 25 #[.slice none 0 0, .slice none 0 0, .slice none 0 0]) (hx : ObjRows w.heap.size x v2) (hy : ObjRows w.heap.size y v2) (hb : Below w.heap.size w v2) (hs : w.heap.size ≤ g2 ∧ g2 < g3 ∧ g3 < g4) :
    ChMem w g2 g3 g4 (v2.heap.size + 1 + 1 + 1) x y (fun i => ⟨[], v2.heap.size + i, 0⟩) ((((v2.alloc (.cells #[] 9)).alloc (.cells #[] 9)).alloc (.cells #[] 9)).alloc (.cells #[.slice (some ⟨v2.heap.size, 0, none⟩) 0 0, .slice (some ⟨v2.heap.size + 1, 0, none⟩) 0 0, .slice (some ⟨v2.heap.size + 1 + 1, 0, none⟩) 0 0] 25)) := by
  have hset : Below v2.heap.size v2 ((((v2.alloc (.cells #[] 9)).alloc (.cells #[] 9)).alloc (.cells #[] 9)).alloc (.cells #[.slice (some ⟨v2.heap.size, 0, none⟩) 0 0, .slice (some ⟨v2.heap.size + 1, 0, none⟩) 0 0, .slice (some ⟨v2.heap.size + 1 + 1, 0, none⟩) 0 0] 25)) := ((((Below.refl _ _).alloc (Nat.le_refl _) _).alloc (by simp) _).alloc (by first | (simp; done) | (simp; omega)) _).alloc (by first | (simp; done) | (simp; omega)) _
  have hl2 := h2.lt
  have hl3 := h3.lt
  have hl4 := h4.lt
  have q5 : Blk ((((v2.alloc (.cells #[] 9)).alloc (.cells #[] 9)).alloc (.cells #[] 9)).alloc (.cells #[.slice (some ⟨v2.heap.size, 0, none⟩) 0 0, .slice (some ⟨v2.heap.size + 1, 0, none⟩) 0 0, .slice (some ⟨v2.heap.size + 1 + 1, 0, none⟩) 0 0] 25)) (v2.heap.size + 1 + 1 + 1) 25 #[.slice (some ⟨v2.heap.size, 0, none⟩) 0 0, .slice (some ⟨v2.heap.size + 1, 0, none⟩) 0 0, .slice (some ⟨v2.heap.size + 1 + 1, 0, none⟩) 0 0] := by
    have := Blk.new (((v2.alloc (.cells #[] 9)).alloc (.cells #[] 9)).alloc (.cells #[] 9)) 25 #[.slice (some ⟨v2.heap.size, 0, none⟩) 0 0, .slice (some ⟨v2.heap.size + 1, 0, none⟩) 0 0, .slice (some ⟨v2.heap.size + 1 + 1, 0, none⟩) 0 0]
    simpa using this
  have o1 := World.ownsRow_lit (base := w.heap.size) (e := 9) (size := 1) v2 #[] 0 hb.size (by unfold maxLen; omega) rfl
  have o2 := World.ownsRow_lit (base := w.heap.size) (e := 9) (size := 1) (v2.alloc (.cells #[] 9)) #[] 0 (by have := hb.size; simp; omega) (by unfold maxLen; omega) rfl
  have o3 := World.ownsRow_lit (base := w.heap.size) (e := 9) (size := 1) ((v2.alloc (.cells #[] 9)).alloc (.cells #[] 9)) #[] 0 (by have := hb.size; simp; omega) (by unfold maxLen; omega) rfl
  have p1 := (((o1.alloc (.cells #[] 9)).alloc (.cells #[] 9)).alloc (.cells #[.slice (some ⟨v2.heap.size, 0, none⟩) 0 0, .slice (some ⟨v2.heap.size + 1, 0, none⟩) 0 0, .slice (some ⟨v2.heap.size + 1 + 1, 0, none⟩) 0 0] 25))
  have p2 := ((o2.alloc (.cells #[] 9)).alloc (.cells #[.slice (some ⟨v2.heap.size, 0, none⟩) 0 0, .slice (some ⟨v2.heap.size + 1, 0, none⟩) 0 0, .slice (some ⟨v2.heap.size + 1 + 1, 0, none⟩) 0 0] 25))
  have p3 := (o3.alloc (.cells #[.slice (some ⟨v2.heap.size, 0, none⟩) 0 0, .slice (some ⟨v2.heap.size + 1, 0, none⟩) 0 0, .slice (some ⟨v2.heap.size + 1 + 1, 0, none⟩) 0 0] 25))
  refine ⟨h2.below hset hl2, h3.below hset hl3, h4.below hset hl4, q5, hx.below hset, hy.below hset, fun i hi => ?_, fun i j hi hj hij => ?_, hb.trans (hset.mono hb.size), by omega⟩
  · match i, hi with
    | 0, _ => simpa [NmL.val, texts] using p1
    | 1, _ => simpa [NmL.val, texts] using p2
    | 2, _ => simpa [NmL.val, texts] using p3
  · simp only
    omega
set_option maxRecDepth 100000 in
set_option maxHeartbeats 8000000 in
theorem specChanges_any (x0 y0 : Obj) (w : World) (hx : x0.At w w.heap.size) (hy : y0.At w w.heap.size) (hsx : x0.small) (hsy : y0.small) :
    Calls Try.prog 28 #[x0.val, y0.val] w (GaveChg (chMore x0 y0) (chMore y0 x0) (chOther x0 y0) w) := by
  obtain ⟨wA, hwA⟩ : ∃ wA, wA = ((w.alloc (.cells #[.slice x0.sA x0.secs.length x0.sc, .slice x0.yA x0.syms.length x0.yc] 47)).alloc (.cells #[.slice y0.sA y0.secs.length y0.sc, .slice y0.yA y0.syms.length y0.yc] 47)).alloc (.cells #[.slice none 0 0, .slice none 0 0, .slice none 0 0] 25) := ⟨_, rfl⟩
  obtain ⟨g2, hg2⟩ : ∃ g2, g2 = w.heap.size := ⟨_, rfl⟩
  obtain ⟨g3, hg3⟩ : ∃ g3, g3 = w.heap.size + 1 := ⟨_, rfl⟩
  obtain ⟨g4, hg4⟩ : ∃ g4, g4 = w.heap.size + 1 + 1 := ⟨_, rfl⟩
  have HWA : Hid (Below w.heap.size w wA) := by rw [hwA]; exact below_new3 w _ _ _
  have H2 : Hid (Blk wA g2 47 x0.two.toArray) := by rw [hwA, hg2]; exact blk_new1 w 47 x0.two.toArray _ _
  have H3 : Hid (Blk wA g3 47 y0.two.toArray) := by rw [hwA, hg3]; exact blk_new2 w 47 y0.two.toArray _ _
  have H4 : Hid (Blk wA g4 25 #[.slice none 0 0, .slice none 0 0, .slice none 0 0]) := by rw [hwA, hg4]; exact blk_new3 w 25 #[.slice none 0 0, .slice none 0 0, .slice none 0 0] _ _
  have HGS : Hid (w.heap.size ≤ g2 ∧ g2 < g3 ∧ g3 < g4) := by show _ ∧ _ ∧ _; omega
  have HOX := Lib.hid (fun w' (hb : Below w.heap.size w w') => ownObj_any x0 w' (hx.below hb) hb.size hsx)
  have HOY := Lib.hid (fun w' (hb : Below w.heap.size w w') => ownObj_any y0 w' (hy.below hb) hb.size hsy)
  have HSX0 := Lib.hid hsx
  have HSY0 := Lib.hid hsy
  clear hx hy hsx hsy
  simp only [Obj.val] at HOX HOY ⊢
  go_enter Try.func28, Try.ntmps28
  go_upto_region 1 with fail
  rw [← hwA, ← hg4, ← hg3, ← hg2]
  clear hwA hg2 hg3 hg4
  have ea0 : wA.cell? ⟨g2, 0, none⟩ = some (.slice x0.sA x0.secs.length x0.sc) := H2.out.cell 0
  have ea1 : wA.cell? ⟨g2, 1, none⟩ = some (.slice x0.yA x0.syms.length x0.yc) := H2.out.cell 1
  go_upto_region 2 with (refine (HOX.out wA HWA.out).mono ?_; rintro e w1 ⟨zx, rfl, hv, hr, hb⟩; have HVX := Lib.hid hv; have HRX := Lib.hid hr; have HB1 := Lib.hid hb; have K2 := Lib.hid (H2.out.below hb H2.out.lt); have c0 : w1.cell? ⟨g2, 0, none⟩ = some (.slice x0.sA x0.secs.length x0.sc) := K2.out.cell 0; have c1 : w1.cell? ⟨g2, 1, none⟩ = some (.slice x0.yA x0.syms.length x0.yc) := K2.out.cell 1; have f0 : w1.frozen? ⟨g2, 0, none⟩ = false := K2.out.frozen 0; have f1 : w1.frozen? ⟨g2, 1, none⟩ = false := K2.out.frozen 1; clear hv hr hb)
  have HBW1 : Hid (Below w.heap.size w ((w1.setCell ⟨g2, 0, none⟩ (.slice zx.sA zx.secs.length zx.sc)).setCell ⟨g2, 1, none⟩ (.slice zx.yA zx.syms.length zx.yc))) := ((HWA.out.trans (HB1.out.mono HWA.out.size)).setCell (p := ⟨g2, 0, none⟩) (by have := HGS.out; simp only; omega) _).setCell (p := ⟨g2, 1, none⟩) (by have := HGS.out; simp only; omega) _
  have H21 : Hid (Blk ((w1.setCell ⟨g2, 0, none⟩ (.slice zx.sA zx.secs.length zx.sc)).setCell ⟨g2, 1, none⟩ (.slice zx.yA zx.syms.length zx.yc)) g2 47 zx.two.toArray) := (K2.out.set_ 0 _).set_ 1 _
  have KT1 : Hid (KeepT TO w1 ((w1.setCell ⟨g2, 0, none⟩ (.slice zx.sA zx.secs.length zx.sc)).setCell ⟨g2, 1, none⟩ (.slice zx.yA zx.syms.length zx.yc))) := (KeepT.of_set K2.out TO_o 0 _).trans (KeepT.of_set (K2.out.set_ 0 _) TO_o 1 _)
  have H31 : Hid (Blk ((w1.setCell ⟨g2, 0, none⟩ (.slice zx.sA zx.secs.length zx.sc)).setCell ⟨g2, 1, none⟩ (.slice zx.yA zx.syms.length zx.yc)) g3 47 y0.two.toArray) := ((H3.out.below HB1.out H3.out.lt).far (by have := HGS.out; simp only [ne_eq]; omega) _).far (by have := HGS.out; simp only [ne_eq]; omega) _
  have H41 : Hid (Blk ((w1.setCell ⟨g2, 0, none⟩ (.slice zx.sA zx.secs.length zx.sc)).setCell ⟨g2, 1, none⟩ (.slice zx.yA zx.syms.length zx.yc)) g4 25 #[.slice none 0 0, .slice none 0 0, .slice none 0 0]) := ((H4.out.below HB1.out H4.out.lt).far (by have := HGS.out; simp only [ne_eq]; omega) _).far (by have := HGS.out; simp only [ne_eq]; omega) _
  have HRX1 := Lib.hid ((HRX.out.base HWA.out.size).keep KT1.out)
  clear H2 H3 H4 HB1 HRX K2 KT1 c0 c1 f0 f1 ea0 ea1 HWA HOX
  generalize ((w1.setCell ⟨g2, 0, none⟩ (.slice zx.sA zx.secs.length zx.sc)).setCell ⟨g2, 1, none⟩ (.slice zx.yA zx.syms.length zx.yc)) = v1 at *
  have ea0 : v1.cell? ⟨g3, 0, none⟩ = some (.slice y0.sA y0.secs.length y0.sc) := H31.out.cell 0
  have ea1 : v1.cell? ⟨g3, 1, none⟩ = some (.slice y0.yA y0.syms.length y0.yc) := H31.out.cell 1
  go_upto_region 3 with (refine (HOY.out v1 HBW1.out).mono ?_; rintro e w2 ⟨zy, rfl, hv, hr, hb⟩; have HVY := Lib.hid hv; have HRY := Lib.hid hr; have HB2 := Lib.hid hb; have K3 := Lib.hid (H31.out.below hb H31.out.lt); have c0 : w2.cell? ⟨g3, 0, none⟩ = some (.slice y0.sA y0.secs.length y0.sc) := K3.out.cell 0; have c1 : w2.cell? ⟨g3, 1, none⟩ = some (.slice y0.yA y0.syms.length y0.yc) := K3.out.cell 1; have f0 : w2.frozen? ⟨g3, 0, none⟩ = false := K3.out.frozen 0; have f1 : w2.frozen? ⟨g3, 1, none⟩ = false := K3.out.frozen 1; clear hv hr hb)
  have HBW2 : Hid (Below w.heap.size w ((w2.setCell ⟨g3, 0, none⟩ (.slice zy.sA zy.secs.length zy.sc)).setCell ⟨g3, 1, none⟩ (.slice zy.yA zy.syms.length zy.yc))) := ((HBW1.out.trans (HB2.out.mono HBW1.out.size)).setCell (p := ⟨g3, 0, none⟩) (by have := HGS.out; simp only; omega) _).setCell (p := ⟨g3, 1, none⟩) (by have := HGS.out; simp only; omega) _
  have H32 : Hid (Blk ((w2.setCell ⟨g3, 0, none⟩ (.slice zy.sA zy.secs.length zy.sc)).setCell ⟨g3, 1, none⟩ (.slice zy.yA zy.syms.length zy.yc)) g3 47 zy.two.toArray) := (K3.out.set_ 0 _).set_ 1 _
  have KT2 : Hid (KeepT TO w2 ((w2.setCell ⟨g3, 0, none⟩ (.slice zy.sA zy.secs.length zy.sc)).setCell ⟨g3, 1, none⟩ (.slice zy.yA zy.syms.length zy.yc))) := (KeepT.of_set K3.out TO_o 0 _).trans (KeepT.of_set (K3.out.set_ 0 _) TO_o 1 _)
  have H22 : Hid (Blk ((w2.setCell ⟨g3, 0, none⟩ (.slice zy.sA zy.secs.length zy.sc)).setCell ⟨g3, 1, none⟩ (.slice zy.yA zy.syms.length zy.yc)) g2 47 zx.two.toArray) := ((H21.out.below HB2.out H21.out.lt).far (by have := HGS.out; simp only [ne_eq]; omega) _).far (by have := HGS.out; simp only [ne_eq]; omega) _
  have H42 : Hid (Blk ((w2.setCell ⟨g3, 0, none⟩ (.slice zy.sA zy.secs.length zy.sc)).setCell ⟨g3, 1, none⟩ (.slice zy.yA zy.syms.length zy.yc)) g4 25 #[.slice none 0 0, .slice none 0 0, .slice none 0 0]) := ((H41.out.below HB2.out H41.out.lt).far (by have := HGS.out; simp only [ne_eq]; omega) _).far (by have := HGS.out; simp only [ne_eq]; omega) _
  have HRY2 := Lib.hid ((HRY.out.base HBW1.out.size).keep KT2.out)
  have HRX2 := Lib.hid ((HRX1.out.below HB2.out).keep KT2.out)
  clear H21 H31 H41 HB2 HRX1 HRY K3 KT2 c0 c1 f0 f1 ea0 ea1 HBW1 HOY
  generalize ((w2.setCell ⟨g3, 0, none⟩ (.slice zy.sA zy.secs.length zy.sc)).setCell ⟨g3, 1, none⟩ (.slice zy.yA zy.syms.length zy.yc)) = v2 at *
  clear w1 w2 v1 wA
  go_upto_region 4 with fail
  have HM3 : Hid (ChMem w g2 g3 g4 (v2.heap.size + 1 + 1 + 1) zx zy (fun i => ⟨[], v2.heap.size + i, 0⟩) ((((v2.alloc (.cells #[] 9)).alloc (.cells #[] 9)).alloc (.cells #[] 9)).alloc (.cells #[.slice (some ⟨v2.heap.size, 0, none⟩) 0 0, .slice (some ⟨v2.heap.size + 1, 0, none⟩) 0 0, .slice (some ⟨v2.heap.size + 1 + 1, 0, none⟩) 0 0] 25))) := chm_new H22.out H32.out H42.out HRX2.out HRY2.out HBW2.out HGS.out
  clear H22 H32 H42 HRX2 HRY2 HBW2
  generalize ((((v2.alloc (.cells #[] 9)).alloc (.cells #[] 9)).alloc (.cells #[] 9)).alloc (.cells #[.slice (some ⟨v2.heap.size, 0, none⟩) 0 0, .slice (some ⟨v2.heap.size + 1, 0, none⟩) 0 0, .slice (some ⟨v2.heap.size + 1 + 1, 0, none⟩) 0 0] 25)) = v3 at *
  generalize v2.heap.size + 1 + 1 + 1 = g5 at *
  obtain ⟨s0, hs0⟩ : ∃ s0 : Nat → NmL, s0 = (fun i => ⟨[], v2.heap.size + i, 0⟩) := ⟨_, rfl⟩
  have HS0 : Hid (∀ i, (s0 i).l = []) := fun i => by rw [hs0]
  rw [← hs0] at HM3
  clear hs0
  have HSX : Hid (∀ nm w', zx.At w' w'.heap.size → Calls Try.prog 22 #[zx.val, .string nm] w' (Gives w' (.int .i64 (symOf zx.secs zx.syms nm)))) := fun nm w' h => specSymOf_any zx nm w' h (Nat.le_refl _) (small_v HSX0.out HVX.out)
  have HSY : Hid (∀ nm w', zy.At w' w'.heap.size → Calls Try.prog 22 #[zy.val, .string nm] w' (Gives w' (.int .i64 (symOf zy.secs zy.syms nm)))) := fun nm w' h => specSymOf_any zy nm w' h (Nat.le_refl _) (small_v HSY0.out HVY.out)
  have HVAX : Hid (∀ w', zx.At w' w'.heap.size → Calls Try.prog 42 #[zx.val] w' (Gives w' (.bool (objOk zx.secs zx.syms)))) := fun w' h => specObj_any zx w' h (Nat.le_refl _) (small_v HSX0.out HVX.out)
  have HVAY : Hid (∀ w', zy.At w' w'.heap.size → Calls Try.prog 42 #[zy.val] w' (Gives w' (.bool (objOk zy.secs zy.syms)))) := fun w' h => specObj_any zy w' h (Nat.le_refl _) (small_v HSY0.out HVY.out)
  have HC1 : Hid (chMore x0 y0 = chMore zx zy) := (chMore_v HVX.out HVY.out).symm
  have HC2 : Hid (chMore y0 x0 = chMore zy zx) := (chMore_v HVY.out HVX.out).symm
  have HC3 : Hid (chOther x0 y0 = chOther zx zy) := (chOther_v HVX.out HVY.out).symm
  clear HVX HVY HSX0 HSY0 HGS
  simp only [Obj.val] at HVAX HVAY
  generalize zx = x at *
  generalize zy = y at *
  have eb0 : v3.cell? ⟨g2, 0, none⟩ = some (.slice x.sA x.secs.length x.sc) := HM3.out.b2.cell 0
  have eb1 : v3.cell? ⟨g2, 1, none⟩ = some (.slice x.yA x.syms.length x.yc) := HM3.out.b2.cell 1
  go_wp2_with fail
  refine (HVAX.out v3 HM3.out.rx.at_).mono ?_
  rintro e w4 ⟨rfl, hb⟩
  have HM4 := Lib.hid (HM3.out.below hb)
  clear hb HM3 eb0 eb1 HVAX
  have ec0 : w4.cell? ⟨g3, 0, none⟩ = some (.slice y.sA y.secs.length y.sc) := HM4.out.b3.cell 0
  have ec1 : w4.cell? ⟨g3, 1, none⟩ = some (.slice y.yA y.syms.length y.yc) := HM4.out.b3.cell 1
  cases hox : objOk x.secs x.syms
  · have HR1 : Hid (chMore x0 y0 = []) := HC1.out.trans (if_neg (by unfold bothOk; rw [hox]; simp))
    have HR2 : Hid (chMore y0 x0 = []) := HC2.out.trans (if_neg (by unfold bothOk; rw [hox]; simp))
    have HR3 : Hid (chOther x0 y0 = []) := HC3.out.trans (if_neg (by unfold bothOk; rw [hox]; simp))
    clear hox
    clear ec0 ec1
    have z0 : w4.cell? ⟨g4, 0, none⟩ = some (.slice none 0 0) := HM4.out.z4.cell 0
    have f0 : w4.frozen? ⟨g4, 0, none⟩ = false := HM4.out.z4.frozen 0
    have z1 : w4.cell? ⟨g4, 1, none⟩ = some (.slice none 0 0) := HM4.out.z4.cell 1
    have f1 : w4.frozen? ⟨g4, 1, none⟩ = false := HM4.out.z4.frozen 1
    have z2 : w4.cell? ⟨g4, 2, none⟩ = some (.slice none 0 0) := HM4.out.z4.cell 2
    have f2 : w4.frozen? ⟨g4, 2, none⟩ = false := HM4.out.z4.frozen 2
    have HQ := Lib.hid (((HM4.out.z4.set_ 0 (.slice none 0 0)).set_ 1 (.slice none 0 0)).set_ 2 (.slice none 0 0))
    have HBF := Lib.hid (((HM4.out.bl.setCell (p := ⟨g4, 0, none⟩) (by have := HM4.out.lt; simp only; omega) (.slice none 0 0)).setCell (p := ⟨g4, 1, none⟩) (by have := HM4.out.lt; simp only; omega) (.slice none 0 0)).setCell (p := ⟨g4, 2, none⟩) (by have := HM4.out.lt; simp only; omega) (.slice none 0 0))
    go_wp2
    generalize World.setCell _ ⟨g4, 2, none⟩ _ = WF at HQ HBF ⊢
    have y0 : WF.cell? ⟨g4, 0, none⟩ = some (.slice none 0 0) := HQ.out.cell 0
    have y1 : WF.cell? ⟨g4, 1, none⟩ = some (.slice none 0 0) := HQ.out.cell 1
    have y2 : WF.cell? ⟨g4, 2, none⟩ = some (.slice none 0 0) := HQ.out.cell 2
    refine bodyPost_ret (v := .agg #[.slice none 0 0, .slice none 0 0, .slice none 0 0]) (by simp [results, Try.results28, go_sem, y0, y1, y2]) rfl ?_
    rw [HR1.out, HR2.out, HR3.out]
    exact ⟨none, 0, none, 0, none, 0, rfl, ⟨rfl, .inl ⟨rfl, rfl⟩⟩, ⟨rfl, .inl ⟨rfl, rfl⟩⟩, ⟨rfl, .inl ⟨rfl, rfl⟩⟩, (fun a b h => by cases h), (fun a b h => by cases h), (fun a b h => by cases h), HBF.out⟩
  · have HOKX := Lib.hid hox
    clear hox
    go_wp2_with fail
    refine (HVAY.out w4 HM4.out.ry.at_).mono ?_
    rintro e w5 ⟨rfl, hb⟩
    have HM5 := Lib.hid (HM4.out.below hb)
    clear hb HM4 ec0 ec1 HVAY
    cases hoy : objOk y.secs y.syms
    · have HR1 : Hid (chMore x0 y0 = []) := HC1.out.trans (if_neg (by unfold bothOk; rw [hoy]; simp))
      have HR2 : Hid (chMore y0 x0 = []) := HC2.out.trans (if_neg (by unfold bothOk; rw [hoy]; simp))
      have HR3 : Hid (chOther x0 y0 = []) := HC3.out.trans (if_neg (by unfold bothOk; rw [hoy]; simp))
      clear hoy
      have z0 : w5.cell? ⟨g4, 0, none⟩ = some (.slice none 0 0) := HM5.out.z4.cell 0
      have f0 : w5.frozen? ⟨g4, 0, none⟩ = false := HM5.out.z4.frozen 0
      have z1 : w5.cell? ⟨g4, 1, none⟩ = some (.slice none 0 0) := HM5.out.z4.cell 1
      have f1 : w5.frozen? ⟨g4, 1, none⟩ = false := HM5.out.z4.frozen 1
      have z2 : w5.cell? ⟨g4, 2, none⟩ = some (.slice none 0 0) := HM5.out.z4.cell 2
      have f2 : w5.frozen? ⟨g4, 2, none⟩ = false := HM5.out.z4.frozen 2
      have HQ := Lib.hid (((HM5.out.z4.set_ 0 (.slice none 0 0)).set_ 1 (.slice none 0 0)).set_ 2 (.slice none 0 0))
      have HBF := Lib.hid (((HM5.out.bl.setCell (p := ⟨g4, 0, none⟩) (by have := HM5.out.lt; simp only; omega) (.slice none 0 0)).setCell (p := ⟨g4, 1, none⟩) (by have := HM5.out.lt; simp only; omega) (.slice none 0 0)).setCell (p := ⟨g4, 2, none⟩) (by have := HM5.out.lt; simp only; omega) (.slice none 0 0))
      go_wp2
      generalize World.setCell _ ⟨g4, 2, none⟩ _ = WF at HQ HBF ⊢
      have y0 : WF.cell? ⟨g4, 0, none⟩ = some (.slice none 0 0) := HQ.out.cell 0
      have y1 : WF.cell? ⟨g4, 1, none⟩ = some (.slice none 0 0) := HQ.out.cell 1
      have y2 : WF.cell? ⟨g4, 2, none⟩ = some (.slice none 0 0) := HQ.out.cell 2
      refine bodyPost_ret (v := .agg #[.slice none 0 0, .slice none 0 0, .slice none 0 0]) (by simp [results, Try.results28, go_sem, y0, y1, y2]) rfl ?_
      rw [HR1.out, HR2.out, HR3.out]
      exact ⟨none, 0, none, 0, none, 0, rfl, ⟨rfl, .inl ⟨rfl, rfl⟩⟩, ⟨rfl, .inl ⟨rfl, rfl⟩⟩, ⟨rfl, .inl ⟨rfl, rfl⟩⟩, (fun a b h => by cases h), (fun a b h => by cases h), (fun a b h => by cases h), HBF.out⟩
    · have HOKY := Lib.hid hoy
      clear hoy
      have HR1 : Hid (chMore x0 y0 = moreI x y) := HC1.out.trans (if_pos (by unfold bothOk; rw [HOKY.out, HOKX.out]; rfl))
      have HR2 : Hid (chMore y0 x0 = moreI y x) := HC2.out.trans (if_pos (by unfold bothOk; rw [HOKY.out, HOKX.out]; rfl))
      have HR3 : Hid (chOther x0 y0 = otherI x y) := HC3.out.trans (if_pos (by unfold bothOk; rw [HOKY.out, HOKX.out]; rfl))
      have hlx := objOk_len HOKX.out
      have hly := objOk_len HOKY.out
      go_wp2
      go_loopw [6] (fun kv wr => ∃ (k : Nat) (s : Nat → NmL), kv = .int .i64 (k : Int) ∧ k ≤ y.syms.length ∧ Hid (ChMem w g2 g3 g4 g5 x y s wr) ∧ Hid (SetOf (fun nm => decide (symOf x.secs x.syms nm < 0)) (y.syms.take k) (s 0).l ∧ (s 1).l = [] ∧ SetOf (qOther x.syms y.syms) (y.syms.take k) (s 2).l)) (fun kv _ => y.syms.length - (intOf kv).toNat)
      case atStart => exact ⟨0, s0, rfl, Nat.zero_le _, HM5, Lib.hid ⟨by rw [HS0.out]; exact SetOf.nil _, HS0.out 1, by rw [HS0.out]; exact SetOf.nil _⟩⟩
      case round =>
        obtain ⟨k, s, rfl, hk, HM, HST⟩ := hrel
        clear HM5 HS0
        have ed1 : wr.cell? ⟨g3, 1, none⟩ = some (.slice y.yA y.syms.length y.yc) := HM.out.b3.cell 1
        by_cases hlt : k < y.syms.length
        · have k_lt := Lib.hid hlt
          obtain ⟨by_, oy, hyA, hyb, n0, _, _, _⟩ := Sym.at_ (Reads.of_own HM.out.ry.oy) hlt
          have HYA := Lib.hid hyA
          have HSN := Lib.hid (HSX.out y.syms[k].name)
          obtain ⟨zn, hzn⟩ : ∃ zn, zn = symOf x.secs x.syms y.syms[k].name := ⟨_, rfl⟩
          have HZN := Lib.hid hzn
          rw [← hzn] at HSN
          clear hzn
          have hyl : (k : Int) < (y.syms.length : Int) := by omega
          rw [hyA] at ed1
          have el0 : wr.cell? ⟨g2, 0, none⟩ = some (.slice x.sA x.secs.length x.sc) := HM.out.b2.cell 0
          have el1 : wr.cell? ⟨g2, 1, none⟩ = some (.slice x.yA x.syms.length x.yc) := HM.out.b2.cell 1
          clear hyA
          simp only [Obj.val] at HSN
          go_wp2_with fail
          refine (HSN.out wr HM.out.rx.at_).mono ?_
          rintro e w7 ⟨rfl, hb⟩
          have HM7 := Lib.hid (HM.out.below hb)
          clear hb HM ed1 n0 el0 el1 HSN
          by_cases hneg : zn < 0
          · have HASC : Hid (Asc (s 0).l) := HST.out.1.1
            have HL60 : Hid ((s 0).l.length ≤ 60) := by have := HST.out.1.2.2; simp only [List.length_take] at this; show _ ≤ _; omega
            have HP1 : Hid ((fun nm => decide (symOf x.secs x.syms nm < 0)) y.syms[k].name = true) := decide_eq_true (by rw [← HZN.out]; exact hneg)
            have HP2 : Hid (qOther x.syms y.syms y.syms[k].name = false) := by
              unfold qOther
              rw [← symOf_yes HOKX.out, ← HZN.out, decide_eq_false (by omega)]
              rfl
            have cp : w7.cell? ⟨g5, 0, none⟩ = some (.slice (some ⟨(s 0).g, 0, none⟩) (s 0).l.length (s 0).c) := HM7.out.b5.cell 0
            go_wp2_with fail
            refine (put39_any (s 0).l y.syms[k].name _ (HM7.out.own 0 (by omega)) HM7.out.bl.size HL60.out HASC.out).mono ?_
            rintro e w10 ⟨g, c, m, rfl, hpi, hb, ho, hgg⟩
            have HPI := Lib.hid hpi
            have HM3 := Lib.hid (HM7.out.put 0 (by omega) hb ho hgg)
            have cq : w10.cell? ⟨g5, 0, none⟩ = some (.slice (some ⟨(s 0).g, 0, none⟩) (s 0).l.length (s 0).c) := (HM7.out.below hb).b5.cell 0
            have fq : w10.frozen? ⟨g5, 0, none⟩ = false := (HM7.out.below hb).b5.frozen 0
            clear hpi hb ho hgg cp HM7
            have HST2 : Hid (SetOf (fun nm => decide (symOf x.secs x.syms nm < 0)) (y.syms.take (k + 1)) m ∧ (s 1).l = [] ∧ SetOf (qOther x.syms y.syms) (y.syms.take (k + 1)) (s 2).l) := ⟨HST.out.1.put k_lt.out HP1.out HPI.out, HST.out.2.1, HST.out.2.2.no k_lt.out HP2.out⟩
            clear HST HP1 HP2 HZN HASC HL60 HPI
            go_wp2
            go_roundw
            case rel => exact ⟨k + 1, upd s 0 ⟨m, g, c⟩, by go_num, by omega, HM3, by simpa [upd] using HST2⟩
            case measure => simp [intOf]; omega
          · have HP1 : Hid ((fun nm => decide (symOf x.secs x.syms nm < 0)) y.syms[k].name = false) := decide_eq_false (by rw [← HZN.out]; exact hneg)
            have hzp : zn = sPlace x.syms y.syms[k].name := by rw [HZN.out, symOf_yes HOKX.out]
            have hbd := (sPlace_bd x.syms y.syms[k].name).2
            have hjp : 0 ≤ sPlace y.syms y.syms[k].name := sPlace_mem (List.getElem_mem hlt)
            have hjb := (sPlace_bd y.syms y.syms[k].name).2
            obtain ⟨n, hn⟩ := Int.eq_ofNat_of_zero_le (show 0 ≤ zn by omega)
            obtain ⟨j, hj⟩ := Int.eq_ofNat_of_zero_le hjp
            have hnl : n < x.syms.length := by omega
            have hjl : j < y.syms.length := by omega
            have n_lt := Lib.hid hnl
            have j_lt := Lib.hid hjl
            have HSJ : Hid (∀ (_ : Unit) w', y.At w' w'.heap.size → Calls Try.prog 22 #[y.val, .string y.syms[k].name] w' (Gives w' (.int .i64 (j : Int)))) := fun _ w' h => by
              have q := HSY.out y.syms[k].name w' h
              rw [symOf_yes HOKY.out, hj] at q
              exact q
            have HQO : Hid (qOther x.syms y.syms y.syms[k].name = !decide (x.syms[n] = y.syms[j])) := by
              show qOther x.syms y.syms y.syms[k].name = !decide (x.syms[n] = y.syms[j])
              unfold qOther
              rw [← hzp, hn, hj, decide_eq_true (Int.natCast_nonneg n), Bool.true_and, Int.toNat_natCast, Int.toNat_natCast, List.getElem?_eq_getElem hnl, List.getElem?_eq_getElem hjl]
              simp
              exact Iff.rfl
            obtain ⟨bx, ox, hxA, _, _, _, _, _⟩ := Sym.at_ (Reads.of_own HM7.out.rx.oy) hnl
            have HXA := Lib.hid hxA
            clear hxA hzp hbd hjp hjb hj HZN
            subst hn
            have HM := HM7
            clear HM7
            go_wp2
            refine wp_region_facts (fun i v wv => match i with
                | 0 => v = .pointer (some ⟨g2, 1, none⟩)
                | 1 => v = .slice x.yA x.syms.length x.yc
                | 2 => v = .int .i64 (n : Int)
                | 3 => v = .pointer (some ⟨bx, ox + n * 4, none⟩)
                | 4 => v = x.syms[n].val
                | 5 => v = .pointer (some ⟨g3, 1, none⟩)
                | 6 => v = .slice y.yA y.syms.length y.yc
                | 7 => v = y.val
                | 8 => v = .string y.syms[k].name
                | 9 => v = .int .i64 (j : Int)
                | 10 => v = .pointer (some ⟨by_, oy + j * 4, none⟩)
                | 11 => v = y.syms[j].val
                | 12 => v = .bool (!decide (x.syms[n] = y.syms[j]))
                | _ => v = .bool (!decide (x.syms[n] = y.syms[j])))
              (fun fl vs wq => ChMem w g2 g3 g4 g5 x y s wq) (fun _ _ => True) (by kernel_rfl) (by kernel_rfl) ?_ ?_ ?_ ?_
            · intro i v u u2 _ h
              exact h
            · intro fl vs hfl
              exact HM.out.drewN 1
            · refine ⟨?_, ?_, ?_, ?_, ?_, ?_, ?_, ?_, ?_, ?_, ?_, ?_, ?_, ?_, trivial⟩
              all_goals intro fl vs wr9 a1 hc hG hfi hcl hp K hK
              · have e1 : a1.eval (.tmp 2) = .pointer (some ⟨g2, 0, none⟩) := hc.ev0 2 rfl
                unfold Oper.wp execOp
                simp only [e1]
                go_simp
                exact hK _ _ trivial rfl hG
              · have e1 := hc.ev 52 0 rfl
                rw [show vs 0 = _ from (hp 0 (by kernel_rfl)).2] at e1
                have c0 : wr9.cell? ⟨g2, 1, none⟩ = some (.slice x.yA x.syms.length x.yc) := hG.b2.cell 1
                unfold Oper.wp execOp
                simp only [e1]
                go_simp
                exact hK _ _ trivial rfl hG
              · refine op_move rfl ?_
                rw [hc.ev0 _ rfl]
                exact hK _ _ trivial rfl hG
              · have e1 := hc.ev 53 1 rfl
                rw [show vs 1 = _ from (hp 1 (by kernel_rfl)).2, HXA.out] at e1
                have e2 := hc.ev 54 2 rfl
                rw [show vs 2 = _ from (hp 2 (by kernel_rfl)).2] at e2
                have i0 : (0 : Int) ≤ (n : Int) := Int.natCast_nonneg _
                have i1 : (n : Int) < (x.syms.length : Int) := by omega
                unfold Oper.wp execOp
                simp only [e1, e2]
                go_simp
                exact hK _ _ trivial rfl hG
              · have e1 := hc.ev 55 3 rfl
                rw [show vs 3 = _ from (hp 3 (by kernel_rfl)).2] at e1
                obtain ⟨c0, c1, c2, c3⟩ := sym_cells (Reads.of_own hG.rx.oy) n_lt.out HXA.out
                unfold Oper.wp execOp
                simp only [e1]
                go_simp
                exact hK _ _ trivial rfl hG
              · have e1 : a1.eval (.tmp 3) = .pointer (some ⟨g3, 0, none⟩) := hc.ev0 3 rfl
                unfold Oper.wp execOp
                simp only [e1]
                go_simp
                exact hK _ _ trivial rfl hG
              · have e1 := hc.ev 57 5 rfl
                rw [show vs 5 = _ from (hp 5 (by kernel_rfl)).2] at e1
                have c0 : wr9.cell? ⟨g3, 1, none⟩ = some (.slice y.yA y.syms.length y.yc) := hG.b3.cell 1
                unfold Oper.wp execOp
                simp only [e1]
                go_simp
                exact hK _ _ trivial rfl hG
              · have e1 : a1.eval (.tmp 3) = .pointer (some ⟨g3, 0, none⟩) := hc.ev0 3 rfl
                have c0 : wr9.cell? ⟨g3, 0, none⟩ = some (.slice y.sA y.secs.length y.sc) := hG.b3.cell 0
                have c1 : wr9.cell? ⟨g3, 1, none⟩ = some (.slice y.yA y.syms.length y.yc) := hG.b3.cell 1
                unfold Oper.wp execOp
                simp only [e1]
                go_simp
                exact hK _ _ trivial rfl hG
              · refine op_move rfl ?_
                rw [hc.ev0 _ rfl]
                exact hK _ _ trivial rfl hG
              · have e1 := hc.ev 59 7 rfl
                rw [show vs 7 = _ from (hp 7 (by kernel_rfl)).2] at e1
                have e2 := hc.ev 60 8 rfl
                rw [show vs 8 = _ from (hp 8 (by kernel_rfl)).2] at e2
                refine op_call rfl (vs := #[y.val, .string y.syms[k].name]) (by simp only [List.map_toArray, List.map_cons, List.map_nil, e1, e2]) (by kernel_rfl) (HSJ.out () wr9 hG.ry.at_) ?_
                rintro e w9 ⟨rfl, hb⟩
                exact ⟨_, rfl, hK _ _ trivial rfl (hG.below hb)⟩
              · have e1 := hc.ev 58 6 rfl
                rw [show vs 6 = _ from (hp 6 (by kernel_rfl)).2, HYA.out] at e1
                have e2 := hc.ev 61 9 rfl
                rw [show vs 9 = _ from (hp 9 (by kernel_rfl)).2] at e2
                have i0 : (0 : Int) ≤ (j : Int) := Int.natCast_nonneg _
                have i1 : (j : Int) < (y.syms.length : Int) := by omega
                unfold Oper.wp execOp
                simp only [e1, e2]
                go_simp
                exact hK _ _ trivial rfl hG
              · have e1 := hc.ev 62 10 rfl
                rw [show vs 10 = _ from (hp 10 (by kernel_rfl)).2] at e1
                obtain ⟨c0, c1, c2, c3⟩ := sym_cells (Reads.of_own hG.ry.oy) j_lt.out HYA.out
                unfold Oper.wp execOp
                simp only [e1]
                go_simp
                exact hK _ _ trivial rfl hG
              · have e1 := hc.ev 56 4 rfl
                rw [show vs 4 = _ from (hp 4 (by kernel_rfl)).2] at e1
                have e2 := hc.ev 63 11 rfl
                rw [show vs 11 = _ from (hp 11 (by kernel_rfl)).2] at e2
                clear hp hcl hc
                have HK := Lib.hid hK
                clear hK
                have HGG := Lib.hid hG
                clear hG
                generalize x.syms[n] = px at *
                generalize y.syms[j] = py at *
                obtain ⟨x0, x1, x2, x3⟩ := px
                obtain ⟨y0, y1, y2, y3⟩ := py
                simp only [Sym.val] at e1 e2
                unfold Oper.wp execOp
                simp only [e1, e2]
                by_cases t0 : x0 = y0
                · subst t0
                  by_cases t1 : x1 = y1
                  · subst t1
                    by_cases t2 : x2 = y2
                    · subst t2
                      by_cases t3 : x3 = y3
                      · subst t3
                        go_simp
                        exact HK.out _ _ trivial (by simp) HGG.out
                      · have hne : (x3 == y3) = false := by rw [beq_eq_false_iff_ne]; exact t3
                        go_simp
                        exact HK.out _ _ trivial (by simp [t3]) HGG.out
                    · have hne : (x2 == y2) = false := by rw [beq_eq_false_iff_ne]; exact t2
                      go_simp
                      exact HK.out _ _ trivial (by simp [t2]) HGG.out
                  · have hne : (x1 == y1) = false := by rw [beq_eq_false_iff_ne]; exact t1
                    go_simp
                    exact HK.out _ _ trivial (by simp [t1]) HGG.out
                · have hne : (x0.toList == y0.toList) = false := by rw [beq_eq_false_iff_ne]; exact fun h => t0 (toList_inj h)
                  go_simp
                  exact HK.out _ _ trivial (by simp [t0]) HGG.out
              · refine op_assign rfl ?_
                rw [hc.ev 64 12 rfl]
                exact hK _ _ trivial (hp 12 (by kernel_rfl)).2 hG
            · intro fl vs w9 hfl hG hF
              have h13 := hF 13 (by simp)
              have HM9 := Lib.hid hG
              clear hG hF hfl
              simp only [fill]
              go_simp
              rw [h13]
              clear h13
              clear HM HSJ
              cases hq : decide (x.syms[n] = y.syms[j])
              · have HP2 : Hid (qOther x.syms y.syms y.syms[k].name = true) := by rw [HQO.out, hq]; rfl
                have HASC : Hid (Asc (s 2).l) := HST.out.2.2.1
                have HL60 : Hid ((s 2).l.length ≤ 60) := by have := HST.out.2.2.2.2; simp only [List.length_take] at this; show _ ≤ _; omega
                clear hq HQO
                have cp : w9.cell? ⟨g5, 2, none⟩ = some (.slice (some ⟨(s 2).g, 0, none⟩) (s 2).l.length (s 2).c) := HM9.out.b5.cell 2
                go_wp2_with fail
                refine (put39_any (s 2).l y.syms[k].name _ (HM9.out.own 2 (by omega)) HM9.out.bl.size HL60.out HASC.out).mono ?_
                rintro e w10 ⟨g, c, m, rfl, hpi, hb, ho, hgg⟩
                have HPI := Lib.hid hpi
                have HM3 := Lib.hid (HM9.out.put 2 (by omega) hb ho hgg)
                have cq : w10.cell? ⟨g5, 2, none⟩ = some (.slice (some ⟨(s 2).g, 0, none⟩) (s 2).l.length (s 2).c) := (HM9.out.below hb).b5.cell 2
                have fq : w10.frozen? ⟨g5, 2, none⟩ = false := (HM9.out.below hb).b5.frozen 2
                clear hpi hb ho hgg cp HM9
                have HST2 : Hid (SetOf (fun nm => decide (symOf x.secs x.syms nm < 0)) (y.syms.take (k + 1)) (s 0).l ∧ (s 1).l = [] ∧ SetOf (qOther x.syms y.syms) (y.syms.take (k + 1)) m) := ⟨HST.out.1.no k_lt.out HP1.out, HST.out.2.1, HST.out.2.2.put k_lt.out HP2.out HPI.out⟩
                clear HST HP1 HP2 HASC HL60 HPI
                go_wp2
                go_roundw
                case rel => exact ⟨k + 1, upd s 2 ⟨m, g, c⟩, by go_num, by omega, HM3, by simpa [upd] using HST2⟩
                case measure => simp [intOf]; omega
              · have HP2 : Hid (qOther x.syms y.syms y.syms[k].name = false) := by rw [HQO.out, hq]; rfl
                have HST2 : Hid (SetOf (fun nm => decide (symOf x.secs x.syms nm < 0)) (y.syms.take (k + 1)) (s 0).l ∧ (s 1).l = [] ∧ SetOf (qOther x.syms y.syms) (y.syms.take (k + 1)) (s 2).l) := ⟨HST.out.1.no k_lt.out HP1.out, HST.out.2.1, HST.out.2.2.no k_lt.out HP2.out⟩
                clear hq HQO HST HP1 HP2
                go_wp2
                go_roundw
                case rel => exact ⟨k + 1, s, by go_num, by omega, HM9, HST2⟩
                case measure => simp [intOf]; omega
        · have HSA : Hid (SetOf (fun nm => decide (symOf x.secs x.syms nm < 0)) y.syms (s 0).l ∧ (s 1).l = [] ∧ SetOf (qOther x.syms y.syms) y.syms (s 2).l) := by
            have h := HST.out
            rw [List.take_of_length_le (by omega)] at h
            exact h
          clear HST
          obtain ⟨s1, hs1⟩ : ∃ s1, s1 = s := ⟨_, rfl⟩
          have HE : Hid ((s 0).l = moreI x y ∧ (s 1).l = [] ∧ (s 2).l = otherI x y) := ⟨HSA.out.1.one (moreI_set x y), HSA.out.2.1, otherI_one HSA.out.2.2⟩
          clear HSA hs1
          have HMA := HM
          clear HM s1 ed1
          have ed1 : wr.cell? ⟨g3, 1, none⟩ = some (.slice y.yA y.syms.length y.yc) := HMA.out.b3.cell 1
          go_wp2
          go_loopw [9] (fun kv wr => ∃ (k : Nat) (s : Nat → NmL), kv = .int .i64 (k : Int) ∧ k ≤ x.syms.length ∧ Hid (ChMem w g2 g3 g4 g5 x y s wr) ∧ Hid ((s 0).l = moreI x y ∧ SetOf (fun nm => decide (symOf y.secs y.syms nm < 0)) (x.syms.take k) (s 1).l ∧ (s 2).l = otherI x y)) (fun kv _ => x.syms.length - (intOf kv).toNat)
          case atStart => exact ⟨0, s, rfl, Nat.zero_le _, HMA, Lib.hid ⟨HE.out.1, by rw [HE.out.2.1]; exact SetOf.nil _, HE.out.2.2⟩⟩
          case round =>
            clear HMA HE ed1 hlt hk
            obtain ⟨k, s, rfl, hk, HM, HST⟩ := hrel
            have ed1 : wr.cell? ⟨g2, 1, none⟩ = some (.slice x.yA x.syms.length x.yc) := HM.out.b2.cell 1
            by_cases hlt : k < x.syms.length
            · have k_lt := Lib.hid hlt
              obtain ⟨bx, ox, hxA, _, _, _, _, _⟩ := Sym.at_ (Reads.of_own HM.out.rx.oy) hlt
              have HXA := Lib.hid hxA
              clear hxA
              go_wp2
              refine wp_region_facts (fun i v wv => match i with
                  | 0 => v = y.val
                  | 1 => v = .pointer (some ⟨g2, 1, none⟩)
                  | 2 => v = .slice x.yA x.syms.length x.yc
                  | 3 => v = .int .i64 (k : Int)
                  | 4 => v = .pointer (some ⟨bx, ox + k * 4, none⟩)
                  | 5 => v = .pointer (some ⟨bx, ox + k * 4, none⟩)
                  | 6 => v = .string x.syms[k].name
                  | 7 => v = .int .i64 (symOf y.secs y.syms x.syms[k].name)
                  | _ => v = .bool (decide (symOf y.secs y.syms x.syms[k].name < 0)))
                (fun fl vs wq => ChMem w g2 g3 g4 g5 x y s wq) (fun _ _ => True) (by kernel_rfl) (by kernel_rfl) ?_ ?_ ?_ ?_
              · intro i v u u2 _ h
                exact h
              · intro fl vs hfl
                exact HM.out.drewN 1
              · refine ⟨?_, ?_, ?_, ?_, ?_, ?_, ?_, ?_, ?_, trivial⟩
                all_goals intro fl vs wr9 a1 hc hG hfi hcl hp K hK
                · have e1 : a1.eval (.tmp 3) = .pointer (some ⟨g3, 0, none⟩) := hc.ev0 3 rfl
                  have c0 : wr9.cell? ⟨g3, 0, none⟩ = some (.slice y.sA y.secs.length y.sc) := hG.b3.cell 0
                  have c1 : wr9.cell? ⟨g3, 1, none⟩ = some (.slice y.yA y.syms.length y.yc) := hG.b3.cell 1
                  unfold Oper.wp execOp
                  simp only [e1]
                  go_simp
                  exact hK _ _ trivial rfl hG
                · have e1 : a1.eval (.tmp 2) = .pointer (some ⟨g2, 0, none⟩) := hc.ev0 2 rfl
                  unfold Oper.wp execOp
                  simp only [e1]
                  go_simp
                  exact hK _ _ trivial rfl hG
                · have e1 := hc.ev 78 1 rfl
                  rw [show vs 1 = _ from (hp 1 (by kernel_rfl)).2] at e1
                  have c0 : wr9.cell? ⟨g2, 1, none⟩ = some (.slice x.yA x.syms.length x.yc) := hG.b2.cell 1
                  unfold Oper.wp execOp
                  simp only [e1]
                  go_simp
                  exact hK _ _ trivial rfl hG
                · refine op_move rfl ?_
                  rw [hc.ev0 _ rfl]
                  exact hK _ _ trivial rfl hG
                · have e1 := hc.ev 79 2 rfl
                  rw [show vs 2 = _ from (hp 2 (by kernel_rfl)).2, HXA.out] at e1
                  have e2 := hc.ev 80 3 rfl
                  rw [show vs 3 = _ from (hp 3 (by kernel_rfl)).2] at e2
                  have i0 : (0 : Int) ≤ (k : Int) := Int.natCast_nonneg _
                  have i1 : (k : Int) < (x.syms.length : Int) := by omega
                  unfold Oper.wp execOp
                  simp only [e1, e2]
                  go_simp
                  exact hK _ _ trivial rfl hG
                · have e1 := hc.ev 81 4 rfl
                  rw [show vs 4 = _ from (hp 4 (by kernel_rfl)).2] at e1
                  unfold Oper.wp execOp
                  simp only [e1]
                  go_simp
                  exact hK _ _ trivial rfl hG
                · have e1 := hc.ev 82 5 rfl
                  rw [show vs 5 = _ from (hp 5 (by kernel_rfl)).2] at e1
                  obtain ⟨c0, c1, c2, c3⟩ := sym_cells (Reads.of_own hG.rx.oy) k_lt.out HXA.out
                  unfold Oper.wp execOp
                  simp only [e1]
                  go_simp
                  exact hK _ _ trivial rfl hG
                · have e1 := hc.ev 77 0 rfl
                  rw [show vs 0 = _ from (hp 0 (by kernel_rfl)).2] at e1
                  have e2 := hc.ev 83 6 rfl
                  rw [show vs 6 = _ from (hp 6 (by kernel_rfl)).2] at e2
                  refine op_call rfl (vs := #[y.val, .string x.syms[k].name]) (by simp only [List.map_toArray, List.map_cons, List.map_nil, e1, e2]) (by kernel_rfl) (HSY.out _ wr9 hG.ry.at_) ?_
                  rintro e w9 ⟨rfl, hb⟩
                  exact ⟨_, rfl, hK _ _ trivial rfl (hG.below hb)⟩
                · have e1 := hc.ev 84 7 rfl
                  rw [show vs 7 = _ from (hp 7 (by kernel_rfl)).2] at e1
                  unfold Oper.wp execOp
                  simp only [e1]
                  go_simp
                  exact hK _ _ trivial rfl hG
              · intro fl vs w9 hfl hG hF
                have h13 := hF 8 (by simp)
                have HM9 := Lib.hid hG
                clear hG hF hfl
                simp only [fill]
                go_simp
                rw [h13]
                clear h13
                clear HM ed1
                by_cases hneg : symOf y.secs y.syms x.syms[k].name < 0
                · have HP1 : Hid ((fun nm => decide (symOf y.secs y.syms nm < 0)) x.syms[k].name = true) := decide_eq_true hneg
                  have hd : decide (symOf y.secs y.syms x.syms[k].name < 0) = true := decide_eq_true hneg
                  have HASC : Hid (Asc (s 1).l) := HST.out.2.1.1
                  have HL60 : Hid ((s 1).l.length ≤ 60) := by have := HST.out.2.1.2.2; simp only [List.length_take] at this; show _ ≤ _; omega
                  rw [hd]
                  clear hneg hd
                  go_wp2
                  refine wp_region_facts (fun i v wv => match i with
                      | 0 => v = .pointer (some ⟨g5, 1, none⟩)
                      | 1 => v = (s 1).val
                      | 2 => v = .pointer (some ⟨g2, 1, none⟩)
                      | 3 => v = .slice x.yA x.syms.length x.yc
                      | 4 => v = .int .i64 (k : Int)
                      | 5 => v = .pointer (some ⟨bx, ox + k * 4, none⟩)
                      | 6 => v = .pointer (some ⟨bx, ox + k * 4, none⟩)
                      | 7 => v = .string x.syms[k].name
                      | 8 => True
                      | 9 => v = .pointer (some ⟨g5, 1, none⟩)
                      | _ => True)
                    (fun fl vs wq => (fl 8 = false → ChMem w g2 g3 g4 g5 x y s wq) ∧ (fl 8 = true → fl 10 = false → ∃ (m : List ByteArray) (g c : Nat) (wo : World), vs 8 = .slice (some ⟨g, 0, none⟩) m.length c ∧ PutIn (s 1).l x.syms[k].name m ∧ ChMem w g2 g3 g4 g5 x y s wo ∧ Below wo.heap.size wo wq ∧ wq.ownsRow w.heap.size 9 1 (.slice (some ⟨g, 0, none⟩) m.length c) m.length (texts m) ∧ (g = (s 1).g ∨ wo.heap.size ≤ g)) ∧ (fl 10 = true → ∃ (m : List ByteArray) (g c : Nat), PutIn (s 1).l x.syms[k].name m ∧ ChMem w g2 g3 g4 g5 x y (upd s 1 ⟨m, g, c⟩) wq)) (fun _ _ => True) (by kernel_rfl) (by kernel_rfl) ?_ ?_ ?_ ?_
                  · intro i v u u2 _ h
                    exact h
                  · intro fl vs hfl
                    have n8 := hfl 8 (by simp)
                    have n10 := hfl 10 (by simp)
                    exact ⟨fun _ => HM9.out.drewN 1, fun h => by simp [n8] at h, fun h => by simp [n10] at h⟩
                  · refine ⟨?_, ?_, ?_, ?_, ?_, ?_, ?_, ?_, ?_, ?_, ?_, trivial⟩
                    all_goals intro fl vs wr9 a1 hc hG hfi hcl hp K hK
                    · have e1 : a1.eval (.tmp 5) = .pointer (some ⟨g5, 0, none⟩) := hc.ev0 5 rfl
                      unfold Oper.wp execOp
                      simp only [e1]
                      go_simp
                      exact hK _ _ trivial rfl (by simpa [upd] using hG)
                    · have n8 : fl 8 = false := by cases h : fl 8 with
                        | false => rfl
                        | true => have := hcl 8 1 (by kernel_rfl) h; rw [show fl 1 = false from hfi] at this; cases this
                      have hM := hG.1 n8
                      have e1 := hc.ev 86 0 rfl
                      rw [show vs 0 = _ from (hp 0 (by kernel_rfl)).2] at e1
                      have c0 : wr9.cell? ⟨g5, 1, none⟩ = some (s 1).val := hM.b5.cell 1
                      unfold NmL.val at c0
                      unfold Oper.wp execOp
                      simp only [e1]
                      go_simp
                      exact hK _ _ trivial rfl (by simpa [upd] using hG)
                    · have e1 : a1.eval (.tmp 2) = .pointer (some ⟨g2, 0, none⟩) := hc.ev0 2 rfl
                      unfold Oper.wp execOp
                      simp only [e1]
                      go_simp
                      exact hK _ _ trivial rfl (by simpa [upd] using hG)
                    · have n8 : fl 8 = false := by cases h : fl 8 with
                        | false => rfl
                        | true =>
                          have h7 := hcl 8 7 (by kernel_rfl) h
                          have h6 := hcl 7 6 (by kernel_rfl) h7
                          have h5 := hcl 6 5 (by kernel_rfl) h6
                          have h3 := hcl 5 3 (by kernel_rfl) h5
                          rw [show fl 3 = false from hfi] at h3; cases h3
                      have hM := hG.1 n8
                      have e1 := hc.ev 88 2 rfl
                      rw [show vs 2 = _ from (hp 2 (by kernel_rfl)).2] at e1
                      have c0 : wr9.cell? ⟨g2, 1, none⟩ = some (.slice x.yA x.syms.length x.yc) := hM.b2.cell 1
                      unfold Oper.wp execOp
                      simp only [e1]
                      go_simp
                      exact hK _ _ trivial rfl (by simpa [upd] using hG)
                    · refine op_move rfl ?_
                      rw [hc.ev0 _ rfl]
                      exact hK _ _ trivial rfl (by simpa [upd] using hG)
                    · have e1 := hc.ev 89 3 rfl
                      rw [show vs 3 = _ from (hp 3 (by kernel_rfl)).2, HXA.out] at e1
                      have e2 := hc.ev 90 4 rfl
                      rw [show vs 4 = _ from (hp 4 (by kernel_rfl)).2] at e2
                      have i0 : (0 : Int) ≤ (k : Int) := Int.natCast_nonneg _
                      have i1 : (k : Int) < (x.syms.length : Int) := by omega
                      unfold Oper.wp execOp
                      simp only [e1, e2]
                      go_simp
                      exact hK _ _ trivial rfl (by simpa [upd] using hG)
                    · have e1 := hc.ev 91 5 rfl
                      rw [show vs 5 = _ from (hp 5 (by kernel_rfl)).2] at e1
                      unfold Oper.wp execOp
                      simp only [e1]
                      go_simp
                      exact hK _ _ trivial rfl (by simpa [upd] using hG)
                    · have n8 : fl 8 = false := by cases h : fl 8 with
                        | false => rfl
                        | true => have := hcl 8 7 (by kernel_rfl) h; rw [show fl 7 = false from hfi] at this; cases this
                      have hM := hG.1 n8
                      have e1 := hc.ev 92 6 rfl
                      rw [show vs 6 = _ from (hp 6 (by kernel_rfl)).2] at e1
                      obtain ⟨c0, c1, c2, c3⟩ := sym_cells (Reads.of_own hM.rx.oy) k_lt.out HXA.out
                      unfold Oper.wp execOp
                      simp only [e1]
                      go_simp
                      exact hK _ _ trivial rfl (by simpa [upd] using hG)
                    · have hfi8 : fl 8 = false := hfi
                      have hM := hG.1 hfi8
                      have n10 : fl 10 = false := by cases h : fl 10 with
                        | false => rfl
                        | true => have := hcl 10 8 (by kernel_rfl) h; rw [hfi8] at this; cases this
                      have e1 := hc.ev 87 1 rfl
                      rw [show vs 1 = _ from (hp 1 (by kernel_rfl)).2] at e1
                      have e2 := hc.ev 93 7 rfl
                      rw [show vs 7 = _ from (hp 7 (by kernel_rfl)).2] at e2
                      refine op_call rfl (vs := #[(s 1).val, .string x.syms[k].name]) (by simp only [List.map_toArray, List.map_cons, List.map_nil, e1, e2]) (by kernel_rfl) (put39_any (s 1).l x.syms[k].name wr9 (hM.own 1 (by omega)) hM.bl.size HL60.out HASC.out) ?_
                      rintro e w9 ⟨g, c, m, rfl, hpi, hb, ho, hgg⟩
                      exact ⟨_, rfl, hK _ _ trivial trivial ⟨fun h => by simp [upd] at h, fun _ _ => ⟨m, g, c, wr9, by rw [upd_at], hpi, hM, hb, ho, hgg⟩, fun h => by simp [upd, n10] at h⟩⟩
                    · have e1 : a1.eval (.tmp 5) = .pointer (some ⟨g5, 0, none⟩) := hc.ev0 5 rfl
                      unfold Oper.wp execOp
                      simp only [e1]
                      go_simp
                      exact hK _ _ trivial rfl (by simpa [upd] using hG)
                    · have n10 : fl 10 = false := hfi
                      have f8 := (hp 8 (by kernel_rfl)).1
                      obtain ⟨m, g, c, wo, hv, hpi, hM, hb, ho, hgg⟩ := hG.2.1 f8 n10
                      have e1 := hc.ev 94 8 rfl
                      rw [hv] at e1
                      have e2 := hc.ev 95 9 rfl
                      rw [show vs 9 = _ from (hp 9 (by kernel_rfl)).2] at e2
                      have c0 := (hM.below hb).b5.cell 1
                      have f0 := (hM.below hb).b5.frozen 1
                      have HQ := Lib.hid (hM.put 1 (by omega) hb ho hgg)
                      have HPI := Lib.hid hpi
                      clear hM hb ho hgg hpi hG
                      unfold Oper.wp execOp
                      simp only [e1, e2]
                      unfold NmL.val at c0
                      simp at c0
                      go_simp
                      exact hK undef _ trivial trivial ⟨fun h => by simp [upd, f8] at h, fun _ h => by simp [upd] at h, fun _ => ⟨m, g, c, HPI.out, HQ.out⟩⟩
                  · intro fl vs w10 hfl hG hF
                    obtain ⟨m, g, c, hpi, hM⟩ := hG.2.2 (hfl 10 (by simp))
                    have HPI := Lib.hid hpi
                    have HM3 := Lib.hid hM
                    clear hG hF hfl hpi hM HM9
                    simp only [fill]
                    go_simp
                    have HST2 : Hid ((s 0).l = moreI x y ∧ SetOf (fun nm => decide (symOf y.secs y.syms nm < 0)) (x.syms.take (k + 1)) m ∧ (s 2).l = otherI x y) := ⟨HST.out.1, HST.out.2.1.put k_lt.out HP1.out HPI.out, HST.out.2.2⟩
                    clear HST HP1 HASC HL60 HPI
                    go_wp2
                    go_roundw
                    case rel => exact ⟨k + 1, upd s 1 ⟨m, g, c⟩, by go_num, by omega, HM3, by simpa [upd] using HST2⟩
                    case measure => simp [intOf]; omega
                · have HP1 : Hid ((fun nm => decide (symOf y.secs y.syms nm < 0)) x.syms[k].name = false) := decide_eq_false hneg
                  have hd : decide (symOf y.secs y.syms x.syms[k].name < 0) = false := decide_eq_false hneg
                  have HST2 : Hid ((s 0).l = moreI x y ∧ SetOf (fun nm => decide (symOf y.secs y.syms nm < 0)) (x.syms.take (k + 1)) (s 1).l ∧ (s 2).l = otherI x y) := ⟨HST.out.1, HST.out.2.1.no k_lt.out HP1.out, HST.out.2.2⟩
                  rw [hd]
                  clear hneg hd HST HP1
                  go_wp2
                  go_roundw
                  case rel => exact ⟨k + 1, s, by go_num, by omega, HM9, HST2⟩
                  case measure => simp [intOf]; omega
            · have HE2 : Hid ((s 0).l = chMore x0 y0 ∧ (s 1).l = chMore y0 x0 ∧ (s 2).l = chOther x0 y0) := by
                have h := HST.out
                rw [List.take_of_length_le (by omega)] at h
                exact ⟨h.1.trans HR1.out.symm, (h.2.1.one (moreI_set y x)).trans HR2.out.symm, h.2.2.trans HR3.out.symm⟩
              clear HST ed1
              obtain ⟨⟨l0, a0, c0⟩, hv0⟩ : ∃ n, n = s 0 := ⟨_, rfl⟩
              obtain ⟨⟨l1, a1, c1⟩, hv1⟩ : ∃ n, n = s 1 := ⟨_, rfl⟩
              obtain ⟨⟨l2, a2, c2⟩, hv2⟩ : ∃ n, n = s 2 := ⟨_, rfl⟩
              have HV : Hid ((s 0).val = (.slice (some ⟨a0, 0, none⟩) l0.length c0) ∧ (s 1).val = (.slice (some ⟨a1, 0, none⟩) l1.length c1) ∧ (s 2).val = (.slice (some ⟨a2, 0, none⟩) l2.length c2)) := ⟨by rw [← hv0]; rfl, by rw [← hv1]; rfl, by rw [← hv2]; rfl⟩
              clear hv0 hv1 hv2
              have x0 : wr.cell? ⟨g5, 0, none⟩ = some (.slice (some ⟨a0, 0, none⟩) l0.length c0) := by rw [← HV.out.1]; exact HM.out.b5.cell 0
              have x1 : wr.cell? ⟨g5, 1, none⟩ = some (.slice (some ⟨a1, 0, none⟩) l1.length c1) := by rw [← HV.out.2.1]; exact HM.out.b5.cell 1
              have x2 : wr.cell? ⟨g5, 2, none⟩ = some (.slice (some ⟨a2, 0, none⟩) l2.length c2) := by rw [← HV.out.2.2]; exact HM.out.b5.cell 2
              have ex1 : wr.cell? ⟨g2, 1, none⟩ = some (.slice x.yA x.syms.length x.yc) := HM.out.b2.cell 1
              have z0 : wr.cell? ⟨g4, 0, none⟩ = some (.slice none 0 0) := HM.out.z4.cell 0
              have f0 : wr.frozen? ⟨g4, 0, none⟩ = false := HM.out.z4.frozen 0
              have z1 : wr.cell? ⟨g4, 1, none⟩ = some (.slice none 0 0) := HM.out.z4.cell 1
              have f1 : wr.frozen? ⟨g4, 1, none⟩ = false := HM.out.z4.frozen 1
              have z2 : wr.cell? ⟨g4, 2, none⟩ = some (.slice none 0 0) := HM.out.z4.cell 2
              have f2 : wr.frozen? ⟨g4, 2, none⟩ = false := HM.out.z4.frozen 2
              have HQ := Lib.hid (((HM.out.z4.set_ 0 (.slice (some ⟨a0, 0, none⟩) l0.length c0)).set_ 1 (.slice (some ⟨a1, 0, none⟩) l1.length c1)).set_ 2 (.slice (some ⟨a2, 0, none⟩) l2.length c2))
              have HKT : Hid (KeepT (fun t => t = 9) wr (((wr.setCell ⟨g4, 0, none⟩ (.slice (some ⟨a0, 0, none⟩) l0.length c0)).setCell ⟨g4, 1, none⟩ (.slice (some ⟨a1, 0, none⟩) l1.length c1)).setCell ⟨g4, 2, none⟩ (.slice (some ⟨a2, 0, none⟩) l2.length c2))) := ((KeepT.of_set HM.out.z4 (by decide) 0 (.slice (some ⟨a0, 0, none⟩) l0.length c0)).trans (KeepT.of_set (HM.out.z4.set_ 0 (.slice (some ⟨a0, 0, none⟩) l0.length c0)) (by decide) 1 (.slice (some ⟨a1, 0, none⟩) l1.length c1))).trans (KeepT.of_set ((HM.out.z4.set_ 0 (.slice (some ⟨a0, 0, none⟩) l0.length c0)).set_ 1 (.slice (some ⟨a1, 0, none⟩) l1.length c1)) (by decide) 2 (.slice (some ⟨a2, 0, none⟩) l2.length c2))
              have HBF := Lib.hid (((HM.out.bl.setCell (p := ⟨g4, 0, none⟩) (by have := HM.out.lt; simp only; omega) (.slice (some ⟨a0, 0, none⟩) l0.length c0)).setCell (p := ⟨g4, 1, none⟩) (by have := HM.out.lt; simp only; omega) (.slice (some ⟨a1, 0, none⟩) l1.length c1)).setCell (p := ⟨g4, 2, none⟩) (by have := HM.out.lt; simp only; omega) (.slice (some ⟨a2, 0, none⟩) l2.length c2))
              go_wp2
              generalize World.setCell _ ⟨g4, 2, none⟩ _ = WF at HQ HBF HKT ⊢
              have y0 : WF.cell? ⟨g4, 0, none⟩ = some (.slice (some ⟨a0, 0, none⟩) l0.length c0) := HQ.out.cell 0
              have y1 : WF.cell? ⟨g4, 1, none⟩ = some (.slice (some ⟨a1, 0, none⟩) l1.length c1) := HQ.out.cell 1
              have y2 : WF.cell? ⟨g4, 2, none⟩ = some (.slice (some ⟨a2, 0, none⟩) l2.length c2) := HQ.out.cell 2
              refine bodyPost_ret (v := .agg #[(.slice (some ⟨a0, 0, none⟩) l0.length c0), (.slice (some ⟨a1, 0, none⟩) l1.length c1), (.slice (some ⟨a2, 0, none⟩) l2.length c2)]) (by simp [results, Try.results28, go_sem, y0, y1, y2]) rfl ?_
              rw [← HV.out.1, ← HV.out.2.1, ← HV.out.2.2]
              exact HM.out.gave HE2.out.1 HE2.out.2.1 HE2.out.2.2 HBF.out HKT.out
end Go.Proofs.Ytdaamgonendkkaa
