/- Contract of the reference's SlotsOf. Condition: the sizes. -/
import Derived.Test.YteceiaaiocdlfaaRows
import Derived.Test.YteceiaaiocdlfaaBase
import Derived.Test.YteceiaaiocdlfaaBase2
import Derived.Test.YteceiaaiocdlfaaIn
import Derived.Test.YteceiaaiocdlfaaName
import Derived.Test.YteceiaaiocdlfaaSlt
import Derived.Test.YteceiaaiocdlfaaReg
import Derived.Test.YteceiaaiocdlfaaRegS
import Derived.WalkKit
import Derived.WalkSpells
import Derived.WalkLawsBesides
import Derived.Handy
import Derived.BigQuiet
import Derived.Deep.RegionHeld3
import Derived.Deep.DrawnRows
import Derived.Deep.QuietTactic
namespace Go.Proofs.Yteceiaaiocdlfaa
open Go Go.RowKit

theorem st_info : (Try.prog.info? 9).map (fun i => (i.zero, i.size, i.bytes)) = some (some (.string ByteArray.empty), 1, 16) := by kernel_rfl
/-- Slots in new memory. -/
def GaveSlots (ns : List ByteArray) (w : World) (e : Ending) (w' : World) : Prop := ∃ l : List ByteArray, Fresh 9 1 w l.length (texts l) e w' ∧ IsSlots ns l ∧ l.length ≤ ns.length
theorem texts_takeR {w : World} {B n m : Nat} {A : Option Addr} {xs : List ByteArray} (h : Reads w B 1 A n (texts xs)) (hm : m ≤ n) : Reads w B 1 A m (texts (xs.take m)) := by
  have hl : xs.length = n := by have := h.1; simpa [texts] using this
  refine ⟨by simp [texts]; omega, fun h0 => ?_⟩
  obtain ⟨ad, hA, hb, hc⟩ := h.2 (by omega)
  refine ⟨ad, hA, hb, fun j u hu => hc j u ?_⟩
  unfold texts at hu ⊢
  rw [List.map_take] at hu
  have hj : j < m := by
    have := (List.getElem?_eq_some_iff.1 hu).1
    rw [List.length_take] at this
    omega
  rw [List.getElem?_take, if_pos hj] at hu
  exact hu
theorem texts_dropR {w : World} {B n m c : Nat} {A : Option Addr} {xs : List ByteArray} (h : Reads w B 1 A n (texts xs)) (hm : m ≤ n) (hc : n ≤ c) : Reads w B 1 (if c = m then A else A.map (·.add m)) (n - m) (texts (xs.drop m)) := by
  have h2 := h.cut hm hc
  rw [Nat.mul_one] at h2
  have e : (texts xs).drop m = texts (xs.drop m) := by simp [texts, List.map_drop]
  rwa [e] at h2
theorem texts_blkR {w : World} {g : Nat} {x : ByteArray} {t : TypeId} (h : Blk w g t #[.string x]) : Reads w w.heap.size 1 (some ⟨g, 0, none⟩) 1 (texts [x]) := by
  refine ⟨rfl, fun _ => ⟨_, rfl, h.lt, fun j u hu => ?_⟩⟩
  have hj : j = 0 := by
    have := (List.getElem?_eq_some_iff.1 hu).1
    simp [texts] at this
    omega
  subst hj
  have h2 := h.cell 0
  have hu' : u = .string x := by simpa [texts] using hu.symm
  rw [hu']
  simpa [Addr.add] using h2
theorem texts_app (a b : List ByteArray) : texts (a ++ b) = texts a ++ texts b := by simp [texts]
theorem texts_ones (l : List ByteArray) : ∀ u ∈ texts l, u.oneCell' = true := fun u hu => by
  obtain ⟨x, _, rfl⟩ := List.mem_map.1 hu
  rfl
theorem own_sliceS {w : World} {base n : Nat} {v : Value} {xs : List Value} (h : w.ownsRow base 9 1 v n xs) : ∃ A c, v = .slice A n c := by
  rcases h.2 with ⟨hv, hn⟩ | ⟨g, cap, cur, hv, _⟩
  · exact ⟨none, 0, by rw [hv, hn]⟩
  · exact ⟨_, _, hv⟩
/-- The state while a name is put in. -/
structure SlSt (w : World) (Z : Nat) (gb c1 : Nat) (l : List ByteArray) (wq : World) : Prop where
  bl : Below w.heap.size w wq
  zz : Z ≤ wq.heap.size
  ox : wq.ownsRow w.heap.size 9 1 (.slice (some ⟨gb, 0, none⟩) l.length c1) l.length (texts l)
section
variable {w wq w' : World} {Z gb c1 : Nat} {l : List ByteArray}
theorem SlSt.alloc (h : SlSt w Z gb c1 l wq) (o : Obj) : SlSt w Z gb c1 l (wq.alloc o) := ⟨h.bl.alloc h.bl.size _, by have := h.zz; simp; omega, h.ox.alloc _⟩
theorem SlSt.row {A : Option Addr} {n c : Nat} {ys : List Value} (h : SlSt w Z gb c1 l wq) (hg : gb < Z) (hw : w.heap.size ≤ Z) (o : wq.ownsRow Z 9 1 (.slice A n c) n ys) (hgr : wq.grownBy w' (A.map (·.block))) : SlSt w Z gb c1 l w' :=
  ⟨below_push h.bl o hw h.bl.size hgr, Nat.le_trans h.zz hgr.size, own_other h.ox hgr (fun a a2 h1 h2 => by injection h1 with h1; subst h1; have := (own_up o a2 h2).1; show gb ≠ a2.block; omega)⟩
end
set_option maxRecDepth 100000 in
set_option maxHeartbeats 6000000 in
theorem specSlots_any {A : Option Addr} {c B : Nat} (ns : List ByteArray) (w : World) (h1 : Reads w B 1 A ns.length (texts ns)) (hB : B ≤ w.heap.size) (hm : ns.length ≤ 1048576) (hs : ∀ s ∈ ns, s.size ≤ maxLen) :
    Calls Try.prog 32 #[.slice A ns.length c] w (GaveSlots ns w) := by
  obtain ⟨i0, hi0, hz0, hz1, hz2⟩ := info_parts st_info
  have HS := Lib.hid hs
  have O0 := Lib.hid (World.ownsRow_lit (base := w.heap.size) (e := 9) (size := 1) w #[] 0 (Nat.le_refl _) (by unfold maxLen; omega) rfl)
  have B0 := Lib.hid ((Below.refl w.heap.size w).alloc (Nat.le_refl _) (.cells #[] 9))
  clear hs
  go_enter Try.func32, Try.ntmps32
  go_wp2
  go_loopw [3, 4] (fun av kv wr => ∃ (k gb c1 : Nat) (l : List ByteArray), av = .slice (some ⟨gb, 0, none⟩) l.length c1 ∧ kv = .int .i64 (k : Int) ∧ k ≤ ns.length ∧ l.length ≤ k ∧ Hid (Asc l ∧ ∀ y, y ∈ l ↔ y ∈ ns.take k) ∧ Hid (0 < k → ns.length ≤ 40 ∧ ∀ y ∈ ns.take k, nameOk y = true) ∧ Hid (wr.ownsRow w.heap.size 9 1 (.slice (some ⟨gb, 0, none⟩) l.length c1) l.length (texts l)) ∧ Hid (Below w.heap.size w wr)) (fun _ kv _ => ns.length - (intOf kv).toNat)
  case atStart => exact ⟨0, _, 0, [], rfl, rfl, Nat.zero_le _, Nat.le_refl _, ⟨Asc.nil, fun y => by simp⟩, fun h => absurd h (by omega), O0, B0⟩
  case round =>
    obtain ⟨k, gb, c1, l, rfl, rfl, hk, hlk, HA, HOK, HO, HB⟩ := hrel
    clear O0 B0
    by_cases hlt : k < ns.length
    · obtain ⟨nb, no, rfl, hnb, hcs⟩ := h1.row_ (by omega) (by omega)
      have hnbw : nb < w.heap.size := by omega
      have hnc := hcs k _ (texts_get ns k hlt)
      have hnc2 := (HB.out.cell (p := ⟨nb, no + k, none⟩) hnbw).trans hnc
      have hxs := HS.out ns[k] (List.getElem_mem _)
      have HTK : Hid (ns.take (k + 1) = ns.take k ++ [ns[k]]) := List.take_succ_eq_append_getElem hlt
      have HV := Lib.hid (fun w => specName_any ns[k] w hxs)
      have HBAD : Hid ((nameOk ns[k] = false ∨ 40 < ns.length) → namesB ns = false) := fun h => by
        unfold namesB
        rcases h with h | h
        · have : ns.all nameOk = false := by
            rw [List.all_eq_false]
            exact ⟨ns[k], List.getElem_mem _, by simp [h]⟩
          rw [this, Bool.and_false]
        · rw [decide_eq_false (by omega), Bool.false_and]
      generalize hx : ns[k] = x at *
      clear hx hcs h1
      obtain ⟨wo, rfl⟩ : ∃ wo, wo = wr := ⟨_, rfl⟩
      rcases Bool.eq_false_or_eq_true (nameOk x) with hv | hv
      · rw [hv] at HV
        by_cases h40 : ns.length ≤ 40
        · have h40i : ¬ (40 : Int) < (ns.length : Int) := by omega
          have HOKS : Hid (0 < k + 1 → ns.length ≤ 40 ∧ ∀ y ∈ ns.take (k + 1), nameOk y = true) := fun _ => ⟨h40, fun y hy => by
            rw [HTK.out, List.mem_append, List.mem_singleton] at hy
            rcases hy with hy | hy
            · rcases Nat.eq_zero_or_pos k with h0 | h0
              · subst h0
                simp at hy
              · exact (HOK.out h0).2 y hy
            · rw [hy]; exact hv⟩
          clear HBAD hv HOK
          go_wp2_with (go_at_call 55; refine (HV.out _).mono ?_; rintro e w' ⟨rfl, rfl⟩)
          go_loopw [5] (fun av wi => ∃ (at_ d : Nat), av = .int .i64 (at_ : Int) ∧ at_ ≤ l.length ∧ Hid (∀ j (hj : j < l.length), j < at_ → Lt8 l[j] x) ∧ wi = wo.drewN d) (fun av _ => l.length - (intOf av).toNat)
          case atStart => exact ⟨0, 0, rfl, Nat.zero_le _, fun j _ h => absurd h (by omega), rfl⟩
          case round =>
            obtain ⟨at_, d, rfl, hat_, HLO, rfl⟩ := hrel
            have y5 : (0 : Int) ≤ (at_ : Int) := Int.natCast_nonneg _
            have y6 : (0 : Int) ≤ (k : Int) := Int.natCast_nonneg _
            have y7 : (k : Int) < (ns.length : Int) := by omega
            by_cases hla : at_ < l.length
            · have y8 : (at_ : Int) < (l.length : Int) := by omega
              have y9 : ((at_ : Int) == (l.length : Int)) = false := by simp; omega
              have hrc : wo.cell? ⟨gb, at_, none⟩ = some (.string l[at_]) := (HO.out.cellAt at_ (by omega)).trans (texts_get _ _ hla)
              by_cases hls : Lt8 l[at_] x
              · have hl1 := less_true hls
                have HLO2 : Hid (∀ j (hj : j < l.length), j < at_ + 1 → Lt8 l[j] x) := fun j hj h => by
                  by_cases hja : j = at_
                  · subst hja
                    exact hls
                  · exact HLO.out j hj (by omega)
                clear hls
                go_wp2
                go_quiet (fail)
                go_wp2
                go_roundw
                case rel => exact ⟨at_ + 1, _, by go_num, by omega, HLO2, rfl⟩
                case measure => simp [intOf]; omega
              · have hl1 := less_false hls
                by_cases heq : l[at_] = x
                · have hq1 : (l[at_].toList == x.toList) = true := by simp [heq]
                  have HINS : Hid (Asc l ∧ ∀ y, y ∈ l ↔ y ∈ ns.take (k + 1)) := ⟨HA.out.1, fun y => by
                    rw [HTK.out, List.mem_append, List.mem_singleton, ← HA.out.2 y]
                    constructor
                    · exact fun h => .inl h
                    · rintro (h | h)
                      · exact h
                      · rw [h, ← heq]; exact List.getElem_mem _⟩
                  clear hls heq
                  go_wp2
                  go_quiet (fail)
                  go_wp2
                  go_quiet (fail)
                  go_wp2
                  go_roundw
                  case rel => exact ⟨k + 1, gb, c1, l, rfl, by go_num, by omega, by omega, HINS, HOKS, HO, Lib.hid (below_drewN HB.out _)⟩
                  case measure => simp [intOf]; omega
                · have hq1 : (l[at_].toList == x.toList) = false := by
                    rw [beq_eq_false_iff_ne]
                    exact fun h => heq (toList_inj h)
                  have HINS : Hid (Asc (l.take at_ ++ x :: l.drop at_) ∧ ∀ y, y ∈ l.take at_ ++ x :: l.drop at_ ↔ y ∈ ns.take (k + 1)) := ⟨asc_ins HA.out.1 hat_ HLO.out (fun _ => by
                      rcases Lt8.tri l[at_] x with h | h | h
                      · exact absurd h hls
                      · exact absurd h heq
                      · exact h), fun y => by
                    rw [mem_ins, HTK.out, List.mem_append, List.mem_singleton, HA.out.2 y]
                    constructor
                    · rintro (h | h)
                      · exact .inr h
                      · exact .inl h
                    · rintro (h | h)
                      · exact .inr h
                      · exact .inl h⟩
                  clear hls heq
                  go_wp2
                  go_quiet (fail)
                  go_wp2
                  go_quiet (fail)
                  clear hrc hl1 hq1
                  have hgz := HB.out.size
                  have hgg : w.heap.size ≤ gb ∧ gb < wo.heap.size := own_up HO.out _ rfl
                  have hcx : l.length ≤ c1 := by
                    rcases HO.out.2 with ⟨hv, _⟩ | ⟨g', cap, cur, hv, _, _, hnc, _⟩
                    · cases hv
                    · injection hv with h1 h2 h3
                      omega
                  obtain ⟨Z, hZ⟩ : ∃ Z, Z = wo.heap.size := ⟨_, rfl⟩
                  have hwZ : w.heap.size ≤ Z := by omega
                  have hgZ : gb < Z := by omega
                  have y1 : (at_ : Int) ≤ (c1 : Int) := by omega
                  have y2 : (0 : Int) ≤ (at_ : Int) := Int.natCast_nonneg _
                  have y3 : (at_ : Int) ≤ (l.length : Int) := by omega
                  have y4 : (l.length : Int) ≤ (c1 : Int) := by omega
                  obtain ⟨AT, hAT⟩ : ∃ AT : Option Addr, AT = (if c1 = at_ then (some ⟨gb, 0, none⟩ : Option Addr) else (some ⟨gb, 0, none⟩ : Option Addr).map (·.add at_)) := ⟨_, rfl⟩
                  have HAT := Lib.hid hAT
                  have HZ := Lib.hid hZ
                  have HSTG : Hid (∀ q1 q2 q3, SlSt w Z gb c1 l (((wo.drewN q1).drewN q2).drewN q3).drew) := fun q1 q2 q3 => ⟨(below_drewN (below_drewN (below_drewN HB.out q1) q2) q3).drew, by rw [HZ.out]; exact Nat.le_refl _, HO.out⟩
                  clear hAT hZ
                  go_wp2
                  refine wp_region_facts2 (fun i v _ => match i with
                    | 1 => v = .slice (some ⟨gb, 0, none⟩) l.length c1
                    | 2 => v = .int .i64 (at_ : Int)
                    | 3 => v = .slice (some ⟨gb, 0, none⟩) at_ c1
                    | 5 => v = .slice (some ⟨nb, no, none⟩) ns.length c
                    | 6 => v = .int .i64 (k : Int)
                    | 7 => v = .pointer (some ⟨nb, no + k, none⟩)
                    | 8 => v = .string x
                    | 11 => v = .slice (some ⟨gb, 0, none⟩) l.length c1
                    | 12 => v = .int .i64 (at_ : Int)
                    | 13 => v = .slice AT (l.length - at_) (c1 - at_)
                    | _ => True)
                    (fun fl vs wq => SlSt w Z gb c1 l wq ∧
                      ∃ (A : Option Addr) (n c : Nat) (ys : List ByteArray), wq.ownsRow Z 9 1 (.slice A n c) n (texts ys) ∧ (fl 0 = false → A = none ∧ n = 0 ∧ c = 0 ∧ ys = []) ∧ (fl 0 = true → fl 4 = false → vs 0 = .slice A n c ∧ ys = []) ∧ (fl 4 = true → fl 10 = false → vs 4 = .slice A n c ∧ ys = l.take at_) ∧ (fl 10 = true → fl 14 = false → vs 10 = .slice A n c ∧ ys = l.take at_ ++ [x]) ∧ (fl 14 = true → vs 14 = .slice A n c ∧ ys = l.take at_ ++ [x] ++ l.drop at_) ∧
                        (fl 9 = true → ∃ g, vs 9 = .slice (some ⟨g, 0, none⟩) 1 1 ∧ Blk wq g 9 #[.string x] ∧ ∀ a, A = some a → a.block ≠ g) ∧ (fl 15 = true → vs 15 = vs 14) ∧ (fl 15 = false → vs 15 = .slice (some ⟨gb, 0, none⟩) l.length c1)) (fun _ _ => True) (by kernel_rfl) (by kernel_rfl) ?_ ?_ ?_ ?_
                  · intro i v u u' _ h
                    exact h
                  · intro fl vs hfl hvs
                    have v15 : vs 15 = .slice (some ⟨gb, 0, none⟩) l.length c1 := hvs 15 3 rfl
                    have z0 := hfl 0 (by simp)
                    have z4 := hfl 4 (by simp)
                    have z9 := hfl 9 (by simp)
                    have z10 := hfl 10 (by simp)
                    have z14 := hfl 14 (by simp)
                    have z15 := hfl 15 (by simp)
                    exact ⟨HSTG.out _ _ _, none, 0, 0, [], ⟨rfl, .inl ⟨rfl, rfl⟩⟩, fun _ => ⟨rfl, rfl, rfl, rfl⟩, fun h => by simp [z0] at h, fun h => by simp [z4] at h, fun h => by simp [z10] at h, fun h => by simp [z14] at h, fun h => by simp [z9] at h, fun h => by simp [z15] at h, fun _ => v15⟩
                  · refine ⟨?_, ?_, ?_, ?_, ?_, ?_, ?_, ?_, ?_, ?_, ?_, ?_, ?_, ?_, ?_, ?_, trivial⟩
                    all_goals intro fl vs w5 a1 hc hG hfi hcl hp K hK
                    · have hfi0 : fl 0 = false := hfi
                      obtain ⟨hS, A, n, c, ys, hrow, g0, g1, g4, g10, g14, g9, g15, g16⟩ := hG
                      obtain ⟨rfl, rfl, rfl, rfl⟩ := g0 hfi0
                      have n4 : fl 4 = false := by cases h : fl 4 with
                        | false => rfl
                        | true => have := hcl 4 0 (by kernel_rfl) h; rw [hfi0] at this; cases this
                      have n10 : fl 10 = false := by cases h : fl 10 with
                        | false => rfl
                        | true => have := hcl 10 4 (by kernel_rfl) h; rw [n4] at this; cases this
                      have n14 : fl 14 = false := by cases h : fl 14 with
                        | false => rfl
                        | true => have := hcl 14 10 (by kernel_rfl) h; rw [n10] at this; cases this
                      have n15 : fl 15 = false := by cases h : fl 15 with
                        | false => rfl
                        | true => have := hcl 15 14 (by kernel_rfl) h; rw [n14] at this; cases this
                      unfold Oper.wp execOp
                      go_simp
                      refine hK _ _ trivial trivial ⟨hS.alloc _, some ⟨w5.heap.size, 0, none⟩, 0, 0, [], World.ownsRow_lit (base := Z) (e := 9) (size := 1) w5 #[] 0 hS.zz (by unfold maxLen; omega) rfl, ?_, ?_, ?_, ?_, ?_, ?_, ?_, ?_⟩
                      · intro h; simp [upd] at h
                      · intro _ _; exact ⟨by rw [upd_at], rfl⟩
                      · intro h; simp [upd, n4] at h
                      · intro h; simp [upd, n10] at h
                      · intro h; simp [upd, n14] at h
                      · intro h
                        obtain ⟨g, hg1, hg2, _⟩ := g9 (by simpa [upd] using h)
                        exact ⟨g, by simpa [upd] using hg1, hg2.alloc _, fun a ha e => by injection ha with ha; subst ha; have := hg2.lt; simp at e; omega⟩
                      · intro h; simp [upd, n15] at h
                      · intro _; simpa [upd] using g16 n15
                    · have n15 : fl 15 = false := by cases h : fl 15 with
                        | false => rfl
                        | true => have := hcl 15 1 (by kernel_rfl) h; rw [show fl 1 = false from hfi] at this; cases this
                      have h15 : vs 15 = _ := hG.2.choose_spec.choose_spec.choose_spec.choose_spec.2.2.2.2.2.2.2.2 n15
                      refine op_move rfl ?_
                      rw [hc.ev 3 15 rfl, h15]
                      exact hK _ _ trivial rfl (by simpa [upd] using hG)
                    · refine op_move rfl ?_
                      rw [hc.ev0 _ rfl]
                      exact hK _ _ trivial rfl (by simpa [upd] using hG)
                    · have h1 : vs 1 = _ := (hp 1 (by kernel_rfl)).2
                      have h2 : vs 2 = _ := (hp 2 (by kernel_rfl)).2
                      have e1 := hc.ev 58 1 rfl
                      have e2 := hc.ev 59 2 rfl
                      rw [h1] at e1
                      rw [h2] at e2
                      unfold Oper.wp execOp
                      simp only [e1, e2, Option.map_some, Option.map_none]
                      go_simp
                      exact hK _ _ trivial rfl (by simpa [upd] using hG)
                    · have f0 := (hp 0 (by kernel_rfl)).1
                      obtain ⟨hS, A, n, c, ys, hown, g0, g1, g4, g10, g14, g9, g15, g16⟩ := hG
                      have hfi4 : fl 4 = false := hfi
                      obtain ⟨hvp, hys⟩ := g1 f0 hfi4
                      have n10 : fl 10 = false := by cases h : fl 10 with
                        | false => rfl
                        | true => have := hcl 10 4 (by kernel_rfl) h; rw [hfi4] at this; cases this
                      have n14 : fl 14 = false := by cases h : fl 14 with
                        | false => rfl
                        | true => have := hcl 14 10 (by kernel_rfl) h; rw [n10] at this; cases this
                      have n15 : fl 15 = false := by cases h : fl 15 with
                        | false => rfl
                        | true => have := hcl 15 14 (by kernel_rfl) h; rw [n14] at this; cases this
                      have eS := hc.ev 57 0 rfl
                      rw [hvp] at eS
                      have hyl : ys.length = n := by have := hown.1; simpa [texts] using this
                      have h3 : vs 3 = _ := (hp 3 (by kernel_rfl)).2
                      have eX := hc.ev 60 3 rfl
                      rw [h3] at eX
                      have hR := texts_takeR (Reads.of_own hS.ox) hat_
                      have hnl : n + at_ ≤ 64 := by rw [← hyl, hys]; show 0 + at_ ≤ 64; omega
                      refine wp_append_any _ _ _ _ rfl Z 9 i0 _ 1 16 Try.underlying22 hi0 hz0 hz1 hz2 rfl (by omega) (.slice A n c) n (texts ys) eS hown _ _ at_ _ _ eX hR (texts_ones _) (by unfold maxLen; omega) (by omega) hS.zz ?_
                      intro v' w6 ho hg hat
                      obtain ⟨A', c', rfl⟩ := own_sliceS ho
                      have hob : Value.ownBlock (.slice A n c) = A.map (·.block) := by cases A <;> rfl
                      rw [hob] at hg hat
                      refine hK _ _ trivial trivial ⟨hS.row hgZ hwZ hown hg, A', n + at_, c', [] ++ l.take at_, by rw [hys, ← texts_app] at ho; exact ho, fun h => by simp [upd, f0] at h, fun _ h => by simp [upd] at h, fun _ _ => ⟨by rw [upd_at], rfl⟩, fun h => by simp [upd, n10] at h, fun h => by simp [upd, n14] at h, fun h6 => ?_, fun h12 => ?_, fun _ => by simpa [upd] using g16 n15⟩
                      · have h6' : fl 9 = true := by simpa [upd] using h6
                        obtain ⟨g, hg1, hg2, hg3⟩ := g9 h6'
                        refine ⟨g, by simpa [upd] using hg1, hg2.grown hg (fun e => by cases hA : A with
                          | none => rw [hA] at e; cases e
                          | some a => rw [hA] at e; exact hg3 a hA (by simpa using e.symm)), fun a ha e => ?_⟩
                        subst ha
                        rcases hat with hat | hat
                        · cases hA : A with
                          | none => rw [hA] at hat; cases hat
                          | some a0 => rw [hA] at hat; exact hg3 a0 hA (by rw [← e]; simpa [Value.ownBlock] using hat.symm)
                        · have := hg2.lt
                          have h9 : a.block = w5.heap.size := by simpa [Value.ownBlock] using hat
                          omega
                      · simp [upd, n15] at h12
                    · refine op_move rfl ?_
                      rw [hc.ev0 _ rfl]
                      exact hK _ _ trivial rfl (by simpa [upd] using hG)
                    · refine op_move rfl ?_
                      rw [hc.ev0 _ rfl]
                      exact hK _ _ trivial rfl (by simpa [upd] using hG)
                    · have h5 : vs 5 = _ := (hp 5 (by kernel_rfl)).2
                      have h6 : vs 6 = _ := (hp 6 (by kernel_rfl)).2
                      have e5 := hc.ev 62 5 rfl
                      have e6 := hc.ev 63 6 rfl
                      rw [h5] at e5
                      rw [h6] at e6
                      unfold Oper.wp execOp
                      simp only [e5, e6]
                      have y0 : (0 : Int) ≤ (k : Int) := by omega
                      have y1 : (k : Int) < (ns.length : Int) := by omega
                      go_simp
                      exact hK _ _ trivial rfl (by simpa [upd] using hG)
                    · have h7 : vs 7 = _ := (hp 7 (by kernel_rfl)).2
                      have e7 := hc.ev 64 7 rfl
                      rw [h7] at e7
                      have hcell := (hG.1.bl.cell (p := ⟨nb, no + k, none⟩) hnbw).trans hnc
                      unfold Oper.wp execOp
                      simp only [e7]
                      go_simp
                      exact hK _ _ trivial rfl (by simpa [upd] using hG)
                    · have h8 : vs 8 = _ := (hp 8 (by kernel_rfl)).2
                      have e8 := hc.ev 65 8 rfl
                      rw [h8] at e8
                      obtain ⟨hS, A, n, c, ys, hown, g0, g1, g4, g10, g14, g9, g15, g16⟩ := hG
                      have hup := own_up hown
                      unfold Oper.wp execOp
                      simp only [e8, List.map_toArray, List.map_cons, List.map_nil]
                      go_simp
                      refine hK _ _ trivial trivial ⟨hS.alloc _, A, n, c, ys, hown.alloc _, by simpa [upd] using g0, by simpa [upd] using g1, by simpa [upd] using g4, by simpa [upd] using g10, by simpa [upd] using g14, fun _ => ⟨_, by rw [upd_at], Blk.new _ _ _, fun a ha => by have := (hup a ha).2; omega⟩, by simpa [upd] using g15, by simpa [upd] using g16⟩
                    · have f4 := (hp 4 (by kernel_rfl)).1
                      obtain ⟨hS, A, n, c, ys, hown, g0, g1, g4, g10, g14, g9, g15, g16⟩ := hG
                      have f0 : fl 0 = true := hcl 4 0 (by kernel_rfl) f4
                      have hfi10 : fl 10 = false := hfi
                      obtain ⟨hvp, hys⟩ := g4 f4 hfi10
                      have n14 : fl 14 = false := by cases h : fl 14 with
                        | false => rfl
                        | true => have := hcl 14 10 (by kernel_rfl) h; rw [hfi10] at this; cases this
                      have n15 : fl 15 = false := by cases h : fl 15 with
                        | false => rfl
                        | true => have := hcl 15 14 (by kernel_rfl) h; rw [n14] at this; cases this
                      obtain ⟨gx, hx1, hx2, hx3⟩ := g9 (hp 9 (by kernel_rfl)).1
                      have eS := hc.ev 61 4 rfl
                      rw [hvp] at eS
                      have hyl : ys.length = n := by have := hown.1; simpa [texts] using this
                      have eX := hc.ev 66 9 rfl
                      rw [hx1] at eX
                      have hR := texts_blkR hx2
                      have hnl : n + 1 ≤ 64 := by rw [← hyl, hys, List.length_take]; omega
                      refine wp_append_any _ _ _ _ rfl Z 9 i0 _ 1 16 Try.underlying22 hi0 hz0 hz1 hz2 rfl (by omega) (.slice A n c) n (texts ys) eS hown _ _ 1 _ _ eX hR (texts_ones _) (by unfold maxLen; omega) (by omega) hS.zz ?_
                      intro v' w6 ho hg hat
                      obtain ⟨A', c', rfl⟩ := own_sliceS ho
                      have hob : Value.ownBlock (.slice A n c) = A.map (·.block) := by cases A <;> rfl
                      rw [hob] at hg hat
                      refine hK _ _ trivial trivial ⟨hS.row hgZ hwZ hown hg, A', n + 1, c', l.take at_ ++ [x], by rw [hys, ← texts_app] at ho; exact ho, fun h => by simp [upd, f0] at h, fun _ h => by simp [upd, f4] at h, fun _ h => by simp [upd] at h, fun _ _ => ⟨by rw [upd_at], rfl⟩, fun h => by simp [upd, n14] at h, fun h6 => ?_, fun h12 => ?_, fun _ => by simpa [upd] using g16 n15⟩
                      · have h6' : fl 9 = true := by simpa [upd] using h6
                        obtain ⟨g, hg1, hg2, hg3⟩ := g9 h6'
                        refine ⟨g, by simpa [upd] using hg1, hg2.grown hg (fun e => by cases hA : A with
                          | none => rw [hA] at e; cases e
                          | some a => rw [hA] at e; exact hg3 a hA (by simpa using e.symm)), fun a ha e => ?_⟩
                        subst ha
                        rcases hat with hat | hat
                        · cases hA : A with
                          | none => rw [hA] at hat; cases hat
                          | some a0 => rw [hA] at hat; exact hg3 a0 hA (by rw [← e]; simpa [Value.ownBlock] using hat.symm)
                        · have := hg2.lt
                          have h9 : a.block = w5.heap.size := by simpa [Value.ownBlock] using hat
                          omega
                      · simp [upd, n15] at h12
                    · have n15 : fl 15 = false := by cases h : fl 15 with
                        | false => rfl
                        | true => have := hcl 15 11 (by kernel_rfl) h; rw [show fl 11 = false from hfi] at this; cases this
                      have h15 : vs 15 = _ := hG.2.choose_spec.choose_spec.choose_spec.choose_spec.2.2.2.2.2.2.2.2 n15
                      refine op_move rfl ?_
                      rw [hc.ev 3 15 rfl, h15]
                      exact hK _ _ trivial rfl (by simpa [upd] using hG)
                    · refine op_move rfl ?_
                      rw [hc.ev0 _ rfl]
                      exact hK _ _ trivial rfl (by simpa [upd] using hG)
                    · have h11 : vs 11 = _ := (hp 11 (by kernel_rfl)).2
                      have h12 : vs 12 = _ := (hp 12 (by kernel_rfl)).2
                      have e11 := hc.ev 68 11 rfl
                      have e12 := hc.ev 69 12 rfl
                      rw [h11] at e11
                      rw [h12] at e12
                      unfold Oper.wp execOp
                      simp only [e11, e12, Option.map_some, Option.map_none]
                      have HAT' := HAT.out
                      by_cases hca : c1 = at_
                      · rw [if_pos hca] at HAT'
                        have HATx := Lib.hid HAT'
                        clear HAT'
                        subst hca
                        go_simp
                        exact hK _ _ trivial (by show Value.slice _ _ _ = Value.slice AT _ _; rw [HATx.out]; congr 1 <;> omega) (by simpa [upd] using hG)
                      · rw [if_neg hca] at HAT'
                        have HATx := Lib.hid HAT'
                        clear HAT'
                        go_simp
                        exact hK _ _ trivial (by show Value.slice _ _ _ = Value.slice AT _ _; rw [HATx.out]; simp [Addr.add]) (by simpa [upd] using hG)
                    · have f10 := (hp 10 (by kernel_rfl)).1
                      obtain ⟨hS, A, n, c, ys, hown, g0, g1, g4, g10, g14, g9, g15, g16⟩ := hG
                      have f4 : fl 4 = true := hcl 10 4 (by kernel_rfl) f10
                      have f0 : fl 0 = true := hcl 4 0 (by kernel_rfl) f4
                      have hfi14 : fl 14 = false := hfi
                      obtain ⟨hvp, hys⟩ := g10 f10 hfi14
                      have n15 : fl 15 = false := by cases h : fl 15 with
                        | false => rfl
                        | true => have := hcl 15 14 (by kernel_rfl) h; rw [hfi14] at this; cases this
                      have eS := hc.ev 67 10 rfl
                      rw [hvp] at eS
                      have hyl : ys.length = n := by have := hown.1; simpa [texts] using this
                      have h13 : vs 13 = _ := (hp 13 (by kernel_rfl)).2
                      have eX := hc.ev 70 13 rfl
                      rw [h13] at eX
                      have hR : Reads w5 w5.heap.size 1 AT (l.length - at_) (texts (l.drop at_)) := by rw [HAT.out]; exact texts_dropR (Reads.of_own hS.ox) hat_ hcx
                      have hnl : n + (l.length - at_) ≤ 64 := by rw [← hyl, hys, List.length_append, List.length_take]; show _ + 1 + _ ≤ 64; omega
                      refine wp_append_any _ _ _ _ rfl Z 9 i0 _ 1 16 Try.underlying22 hi0 hz0 hz1 hz2 rfl (by omega) (.slice A n c) n (texts ys) eS hown _ _ (l.length - at_) _ _ eX hR (texts_ones _) (by unfold maxLen; omega) (by omega) hS.zz ?_
                      intro v' w6 ho hg hat
                      obtain ⟨A', c', rfl⟩ := own_sliceS ho
                      have hob : Value.ownBlock (.slice A n c) = A.map (·.block) := by cases A <;> rfl
                      rw [hob] at hg hat
                      refine hK _ _ trivial trivial ⟨hS.row hgZ hwZ hown hg, A', n + (l.length - at_), c', l.take at_ ++ [x] ++ l.drop at_, by rw [hys, ← texts_app] at ho; exact ho, fun h => by simp [upd, f0] at h, fun _ h => by simp [upd, f4] at h, fun _ h => by simp [upd, f10] at h, fun _ h => by simp [upd] at h, fun _ => ⟨by rw [upd_at], rfl⟩, fun h6 => ?_, fun h12 => ?_, fun _ => by simpa [upd] using g16 n15⟩
                      · have h6' : fl 9 = true := by simpa [upd] using h6
                        obtain ⟨g, hg1, hg2, hg3⟩ := g9 h6'
                        refine ⟨g, by simpa [upd] using hg1, hg2.grown hg (fun e => by cases hA : A with
                          | none => rw [hA] at e; cases e
                          | some a => rw [hA] at e; exact hg3 a hA (by simpa using e.symm)), fun a ha e => ?_⟩
                        subst ha
                        rcases hat with hat | hat
                        · cases hA : A with
                          | none => rw [hA] at hat; cases hat
                          | some a0 => rw [hA] at hat; exact hg3 a0 hA (by rw [← e]; simpa [Value.ownBlock] using hat.symm)
                        · have := hg2.lt
                          have h9 : a.block = w5.heap.size := by simpa [Value.ownBlock] using hat
                          omega
                      · simp [upd, n15] at h12
                    · refine op_assign rfl ?_
                      rw [hc.ev 71 14 rfl]
                      obtain ⟨hS, A, n, c, ys, hrow, g0, g1, g4, g10, g14, g9, g15, g16⟩ := hG
                      exact hK _ _ trivial trivial ⟨hS, A, n, c, ys, hrow, by simpa [upd] using g0, by simpa [upd] using g1, by simpa [upd] using g4, by simpa [upd] using g10, by simpa [upd] using g14, by simpa [upd] using g9, fun _ => by simp [upd], fun h => by simp [upd] at h⟩
                  · intro fl vs w5 hfl hG hF
                    obtain ⟨hS, A, n, c', ys, hown, g0, g1, g4, g10, g14, g9, g15, g16⟩ := hG
                    obtain ⟨h14, hys⟩ := g14 (hfl 14 (by simp))
                    have h15 := g15 (hfl 15 (by simp))
                    rw [h14] at h15
                    have hyl : ys.length = n := by have := hown.1; simpa [texts] using this
                    subst hyl
                    have hyn : ys = l.take at_ ++ x :: l.drop at_ := by rw [hys]; simp
                    have hyl2 : ys.length ≤ l.length + 1 := by
                      rw [hyn]
                      simp only [List.length_append, List.length_take, List.length_cons, List.length_drop]
                      omega
                    have hyl0 : 0 < ys.length := by rw [hyn, List.length_append, List.length_cons]; omega
                    have HY := Lib.hid hyn
                    obtain ⟨g', rfl, _, _⟩ := own_addr hown hyl0
                    have HO5 := Lib.hid (own_base (base' := w.heap.size) hown hwZ)
                    have HB5 := Lib.hid hS.bl
                    clear hS hown g0 g1 g4 g10 g14 g9 g15 g16 hF hfl h14 hys hyn
                    simp only [fill]
                    go_simp
                    try rw [h15]
                    clear h15
                    go_wp2
                    go_roundw
                    case rel => exact ⟨k + 1, g', c', ys, rfl, by go_num, by omega, by omega, by
                      rw [← HY.out] at HINS
                      exact HINS, HOKS, HO5, HB5⟩
                    case measure => simp [intOf]; omega
            · have y8 : ¬ (at_ : Int) < (l.length : Int) := by omega
              have y9 : ((at_ : Int) == (l.length : Int)) = true := by simp; omega
              have HINS : Hid (Asc (l.take at_ ++ x :: l.drop at_) ∧ ∀ y, y ∈ l.take at_ ++ x :: l.drop at_ ↔ y ∈ ns.take (k + 1)) := ⟨asc_ins HA.out.1 hat_ HLO.out (fun h => absurd h (by omega)), fun y => by
                rw [mem_ins, HTK.out, List.mem_append, List.mem_singleton, HA.out.2 y]
                constructor
                · rintro (h | h)
                  · exact .inr h
                  · exact .inl h
                · rintro (h | h)
                  · exact .inr h
                  · exact .inl h⟩
              go_wp2
              go_quiet (fail)
              go_wp2
              go_quiet (fail)
              have hgz := HB.out.size
              have hgg : w.heap.size ≤ gb ∧ gb < wo.heap.size := own_up HO.out _ rfl
              have hcx : l.length ≤ c1 := by
                rcases HO.out.2 with ⟨hv, _⟩ | ⟨g', cap, cur, hv, _, _, hnc, _⟩
                · cases hv
                · injection hv with h1 h2 h3
                  omega
              obtain ⟨Z, hZ⟩ : ∃ Z, Z = wo.heap.size := ⟨_, rfl⟩
              have hwZ : w.heap.size ≤ Z := by omega
              have hgZ : gb < Z := by omega
              have y1 : (at_ : Int) ≤ (c1 : Int) := by omega
              have y2 : (0 : Int) ≤ (at_ : Int) := Int.natCast_nonneg _
              have y3 : (at_ : Int) ≤ (l.length : Int) := by omega
              have y4 : (l.length : Int) ≤ (c1 : Int) := by omega
              obtain ⟨AT, hAT⟩ : ∃ AT : Option Addr, AT = (if c1 = at_ then (some ⟨gb, 0, none⟩ : Option Addr) else (some ⟨gb, 0, none⟩ : Option Addr).map (·.add at_)) := ⟨_, rfl⟩
              have HAT := Lib.hid hAT
              have HZ := Lib.hid hZ
              have HSTG : Hid (∀ q1 q2 q3, SlSt w Z gb c1 l (((wo.drewN q1).drewN q2).drewN q3).drew) := fun q1 q2 q3 => ⟨(below_drewN (below_drewN (below_drewN HB.out q1) q2) q3).drew, by rw [HZ.out]; exact Nat.le_refl _, HO.out⟩
              clear hAT hZ
              go_wp2
              refine wp_region_facts2 (fun i v _ => match i with
                | 1 => v = .slice (some ⟨gb, 0, none⟩) l.length c1
                | 2 => v = .int .i64 (at_ : Int)
                | 3 => v = .slice (some ⟨gb, 0, none⟩) at_ c1
                | 5 => v = .slice (some ⟨nb, no, none⟩) ns.length c
                | 6 => v = .int .i64 (k : Int)
                | 7 => v = .pointer (some ⟨nb, no + k, none⟩)
                | 8 => v = .string x
                | 11 => v = .slice (some ⟨gb, 0, none⟩) l.length c1
                | 12 => v = .int .i64 (at_ : Int)
                | 13 => v = .slice AT (l.length - at_) (c1 - at_)
                | _ => True)
                (fun fl vs wq => SlSt w Z gb c1 l wq ∧
                  ∃ (A : Option Addr) (n c : Nat) (ys : List ByteArray), wq.ownsRow Z 9 1 (.slice A n c) n (texts ys) ∧ (fl 0 = false → A = none ∧ n = 0 ∧ c = 0 ∧ ys = []) ∧ (fl 0 = true → fl 4 = false → vs 0 = .slice A n c ∧ ys = []) ∧ (fl 4 = true → fl 10 = false → vs 4 = .slice A n c ∧ ys = l.take at_) ∧ (fl 10 = true → fl 14 = false → vs 10 = .slice A n c ∧ ys = l.take at_ ++ [x]) ∧ (fl 14 = true → vs 14 = .slice A n c ∧ ys = l.take at_ ++ [x] ++ l.drop at_) ∧
                    (fl 9 = true → ∃ g, vs 9 = .slice (some ⟨g, 0, none⟩) 1 1 ∧ Blk wq g 9 #[.string x] ∧ ∀ a, A = some a → a.block ≠ g) ∧ (fl 15 = true → vs 15 = vs 14) ∧ (fl 15 = false → vs 15 = .slice (some ⟨gb, 0, none⟩) l.length c1)) (fun _ _ => True) (by kernel_rfl) (by kernel_rfl) ?_ ?_ ?_ ?_
              · intro i v u u' _ h
                exact h
              · intro fl vs hfl hvs
                have v15 : vs 15 = .slice (some ⟨gb, 0, none⟩) l.length c1 := hvs 15 3 rfl
                have z0 := hfl 0 (by simp)
                have z4 := hfl 4 (by simp)
                have z9 := hfl 9 (by simp)
                have z10 := hfl 10 (by simp)
                have z14 := hfl 14 (by simp)
                have z15 := hfl 15 (by simp)
                exact ⟨HSTG.out _ _ _, none, 0, 0, [], ⟨rfl, .inl ⟨rfl, rfl⟩⟩, fun _ => ⟨rfl, rfl, rfl, rfl⟩, fun h => by simp [z0] at h, fun h => by simp [z4] at h, fun h => by simp [z10] at h, fun h => by simp [z14] at h, fun h => by simp [z9] at h, fun h => by simp [z15] at h, fun _ => v15⟩
              · refine ⟨?_, ?_, ?_, ?_, ?_, ?_, ?_, ?_, ?_, ?_, ?_, ?_, ?_, ?_, ?_, ?_, trivial⟩
                all_goals intro fl vs w5 a1 hc hG hfi hcl hp K hK
                · have hfi0 : fl 0 = false := hfi
                  obtain ⟨hS, A, n, c, ys, hrow, g0, g1, g4, g10, g14, g9, g15, g16⟩ := hG
                  obtain ⟨rfl, rfl, rfl, rfl⟩ := g0 hfi0
                  have n4 : fl 4 = false := by cases h : fl 4 with
                    | false => rfl
                    | true => have := hcl 4 0 (by kernel_rfl) h; rw [hfi0] at this; cases this
                  have n10 : fl 10 = false := by cases h : fl 10 with
                    | false => rfl
                    | true => have := hcl 10 4 (by kernel_rfl) h; rw [n4] at this; cases this
                  have n14 : fl 14 = false := by cases h : fl 14 with
                    | false => rfl
                    | true => have := hcl 14 10 (by kernel_rfl) h; rw [n10] at this; cases this
                  have n15 : fl 15 = false := by cases h : fl 15 with
                    | false => rfl
                    | true => have := hcl 15 14 (by kernel_rfl) h; rw [n14] at this; cases this
                  unfold Oper.wp execOp
                  go_simp
                  refine hK _ _ trivial trivial ⟨hS.alloc _, some ⟨w5.heap.size, 0, none⟩, 0, 0, [], World.ownsRow_lit (base := Z) (e := 9) (size := 1) w5 #[] 0 hS.zz (by unfold maxLen; omega) rfl, ?_, ?_, ?_, ?_, ?_, ?_, ?_, ?_⟩
                  · intro h; simp [upd] at h
                  · intro _ _; exact ⟨by rw [upd_at], rfl⟩
                  · intro h; simp [upd, n4] at h
                  · intro h; simp [upd, n10] at h
                  · intro h; simp [upd, n14] at h
                  · intro h
                    obtain ⟨g, hg1, hg2, _⟩ := g9 (by simpa [upd] using h)
                    exact ⟨g, by simpa [upd] using hg1, hg2.alloc _, fun a ha e => by injection ha with ha; subst ha; have := hg2.lt; simp at e; omega⟩
                  · intro h; simp [upd, n15] at h
                  · intro _; simpa [upd] using g16 n15
                · have n15 : fl 15 = false := by cases h : fl 15 with
                    | false => rfl
                    | true => have := hcl 15 1 (by kernel_rfl) h; rw [show fl 1 = false from hfi] at this; cases this
                  have h15 : vs 15 = _ := hG.2.choose_spec.choose_spec.choose_spec.choose_spec.2.2.2.2.2.2.2.2 n15
                  refine op_move rfl ?_
                  rw [hc.ev 3 15 rfl, h15]
                  exact hK _ _ trivial rfl (by simpa [upd] using hG)
                · refine op_move rfl ?_
                  rw [hc.ev0 _ rfl]
                  exact hK _ _ trivial rfl (by simpa [upd] using hG)
                · have h1 : vs 1 = _ := (hp 1 (by kernel_rfl)).2
                  have h2 : vs 2 = _ := (hp 2 (by kernel_rfl)).2
                  have e1 := hc.ev 58 1 rfl
                  have e2 := hc.ev 59 2 rfl
                  rw [h1] at e1
                  rw [h2] at e2
                  unfold Oper.wp execOp
                  simp only [e1, e2, Option.map_some, Option.map_none]
                  go_simp
                  exact hK _ _ trivial rfl (by simpa [upd] using hG)
                · have f0 := (hp 0 (by kernel_rfl)).1
                  obtain ⟨hS, A, n, c, ys, hown, g0, g1, g4, g10, g14, g9, g15, g16⟩ := hG
                  have hfi4 : fl 4 = false := hfi
                  obtain ⟨hvp, hys⟩ := g1 f0 hfi4
                  have n10 : fl 10 = false := by cases h : fl 10 with
                    | false => rfl
                    | true => have := hcl 10 4 (by kernel_rfl) h; rw [hfi4] at this; cases this
                  have n14 : fl 14 = false := by cases h : fl 14 with
                    | false => rfl
                    | true => have := hcl 14 10 (by kernel_rfl) h; rw [n10] at this; cases this
                  have n15 : fl 15 = false := by cases h : fl 15 with
                    | false => rfl
                    | true => have := hcl 15 14 (by kernel_rfl) h; rw [n14] at this; cases this
                  have eS := hc.ev 57 0 rfl
                  rw [hvp] at eS
                  have hyl : ys.length = n := by have := hown.1; simpa [texts] using this
                  have h3 : vs 3 = _ := (hp 3 (by kernel_rfl)).2
                  have eX := hc.ev 60 3 rfl
                  rw [h3] at eX
                  have hR := texts_takeR (Reads.of_own hS.ox) hat_
                  have hnl : n + at_ ≤ 64 := by rw [← hyl, hys]; show 0 + at_ ≤ 64; omega
                  refine wp_append_any _ _ _ _ rfl Z 9 i0 _ 1 16 Try.underlying22 hi0 hz0 hz1 hz2 rfl (by omega) (.slice A n c) n (texts ys) eS hown _ _ at_ _ _ eX hR (texts_ones _) (by unfold maxLen; omega) (by omega) hS.zz ?_
                  intro v' w6 ho hg hat
                  obtain ⟨A', c', rfl⟩ := own_sliceS ho
                  have hob : Value.ownBlock (.slice A n c) = A.map (·.block) := by cases A <;> rfl
                  rw [hob] at hg hat
                  refine hK _ _ trivial trivial ⟨hS.row hgZ hwZ hown hg, A', n + at_, c', [] ++ l.take at_, by rw [hys, ← texts_app] at ho; exact ho, fun h => by simp [upd, f0] at h, fun _ h => by simp [upd] at h, fun _ _ => ⟨by rw [upd_at], rfl⟩, fun h => by simp [upd, n10] at h, fun h => by simp [upd, n14] at h, fun h6 => ?_, fun h12 => ?_, fun _ => by simpa [upd] using g16 n15⟩
                  · have h6' : fl 9 = true := by simpa [upd] using h6
                    obtain ⟨g, hg1, hg2, hg3⟩ := g9 h6'
                    refine ⟨g, by simpa [upd] using hg1, hg2.grown hg (fun e => by cases hA : A with
                      | none => rw [hA] at e; cases e
                      | some a => rw [hA] at e; exact hg3 a hA (by simpa using e.symm)), fun a ha e => ?_⟩
                    subst ha
                    rcases hat with hat | hat
                    · cases hA : A with
                      | none => rw [hA] at hat; cases hat
                      | some a0 => rw [hA] at hat; exact hg3 a0 hA (by rw [← e]; simpa [Value.ownBlock] using hat.symm)
                    · have := hg2.lt
                      have h9 : a.block = w5.heap.size := by simpa [Value.ownBlock] using hat
                      omega
                  · simp [upd, n15] at h12
                · refine op_move rfl ?_
                  rw [hc.ev0 _ rfl]
                  exact hK _ _ trivial rfl (by simpa [upd] using hG)
                · refine op_move rfl ?_
                  rw [hc.ev0 _ rfl]
                  exact hK _ _ trivial rfl (by simpa [upd] using hG)
                · have h5 : vs 5 = _ := (hp 5 (by kernel_rfl)).2
                  have h6 : vs 6 = _ := (hp 6 (by kernel_rfl)).2
                  have e5 := hc.ev 62 5 rfl
                  have e6 := hc.ev 63 6 rfl
                  rw [h5] at e5
                  rw [h6] at e6
                  unfold Oper.wp execOp
                  simp only [e5, e6]
                  have y0 : (0 : Int) ≤ (k : Int) := by omega
                  have y1 : (k : Int) < (ns.length : Int) := by omega
                  go_simp
                  exact hK _ _ trivial rfl (by simpa [upd] using hG)
                · have h7 : vs 7 = _ := (hp 7 (by kernel_rfl)).2
                  have e7 := hc.ev 64 7 rfl
                  rw [h7] at e7
                  have hcell := (hG.1.bl.cell (p := ⟨nb, no + k, none⟩) hnbw).trans hnc
                  unfold Oper.wp execOp
                  simp only [e7]
                  go_simp
                  exact hK _ _ trivial rfl (by simpa [upd] using hG)
                · have h8 : vs 8 = _ := (hp 8 (by kernel_rfl)).2
                  have e8 := hc.ev 65 8 rfl
                  rw [h8] at e8
                  obtain ⟨hS, A, n, c, ys, hown, g0, g1, g4, g10, g14, g9, g15, g16⟩ := hG
                  have hup := own_up hown
                  unfold Oper.wp execOp
                  simp only [e8, List.map_toArray, List.map_cons, List.map_nil]
                  go_simp
                  refine hK _ _ trivial trivial ⟨hS.alloc _, A, n, c, ys, hown.alloc _, by simpa [upd] using g0, by simpa [upd] using g1, by simpa [upd] using g4, by simpa [upd] using g10, by simpa [upd] using g14, fun _ => ⟨_, by rw [upd_at], Blk.new _ _ _, fun a ha => by have := (hup a ha).2; omega⟩, by simpa [upd] using g15, by simpa [upd] using g16⟩
                · have f4 := (hp 4 (by kernel_rfl)).1
                  obtain ⟨hS, A, n, c, ys, hown, g0, g1, g4, g10, g14, g9, g15, g16⟩ := hG
                  have f0 : fl 0 = true := hcl 4 0 (by kernel_rfl) f4
                  have hfi10 : fl 10 = false := hfi
                  obtain ⟨hvp, hys⟩ := g4 f4 hfi10
                  have n14 : fl 14 = false := by cases h : fl 14 with
                    | false => rfl
                    | true => have := hcl 14 10 (by kernel_rfl) h; rw [hfi10] at this; cases this
                  have n15 : fl 15 = false := by cases h : fl 15 with
                    | false => rfl
                    | true => have := hcl 15 14 (by kernel_rfl) h; rw [n14] at this; cases this
                  obtain ⟨gx, hx1, hx2, hx3⟩ := g9 (hp 9 (by kernel_rfl)).1
                  have eS := hc.ev 61 4 rfl
                  rw [hvp] at eS
                  have hyl : ys.length = n := by have := hown.1; simpa [texts] using this
                  have eX := hc.ev 66 9 rfl
                  rw [hx1] at eX
                  have hR := texts_blkR hx2
                  have hnl : n + 1 ≤ 64 := by rw [← hyl, hys, List.length_take]; omega
                  refine wp_append_any _ _ _ _ rfl Z 9 i0 _ 1 16 Try.underlying22 hi0 hz0 hz1 hz2 rfl (by omega) (.slice A n c) n (texts ys) eS hown _ _ 1 _ _ eX hR (texts_ones _) (by unfold maxLen; omega) (by omega) hS.zz ?_
                  intro v' w6 ho hg hat
                  obtain ⟨A', c', rfl⟩ := own_sliceS ho
                  have hob : Value.ownBlock (.slice A n c) = A.map (·.block) := by cases A <;> rfl
                  rw [hob] at hg hat
                  refine hK _ _ trivial trivial ⟨hS.row hgZ hwZ hown hg, A', n + 1, c', l.take at_ ++ [x], by rw [hys, ← texts_app] at ho; exact ho, fun h => by simp [upd, f0] at h, fun _ h => by simp [upd, f4] at h, fun _ h => by simp [upd] at h, fun _ _ => ⟨by rw [upd_at], rfl⟩, fun h => by simp [upd, n14] at h, fun h6 => ?_, fun h12 => ?_, fun _ => by simpa [upd] using g16 n15⟩
                  · have h6' : fl 9 = true := by simpa [upd] using h6
                    obtain ⟨g, hg1, hg2, hg3⟩ := g9 h6'
                    refine ⟨g, by simpa [upd] using hg1, hg2.grown hg (fun e => by cases hA : A with
                      | none => rw [hA] at e; cases e
                      | some a => rw [hA] at e; exact hg3 a hA (by simpa using e.symm)), fun a ha e => ?_⟩
                    subst ha
                    rcases hat with hat | hat
                    · cases hA : A with
                      | none => rw [hA] at hat; cases hat
                      | some a0 => rw [hA] at hat; exact hg3 a0 hA (by rw [← e]; simpa [Value.ownBlock] using hat.symm)
                    · have := hg2.lt
                      have h9 : a.block = w5.heap.size := by simpa [Value.ownBlock] using hat
                      omega
                  · simp [upd, n15] at h12
                · have n15 : fl 15 = false := by cases h : fl 15 with
                    | false => rfl
                    | true => have := hcl 15 11 (by kernel_rfl) h; rw [show fl 11 = false from hfi] at this; cases this
                  have h15 : vs 15 = _ := hG.2.choose_spec.choose_spec.choose_spec.choose_spec.2.2.2.2.2.2.2.2 n15
                  refine op_move rfl ?_
                  rw [hc.ev 3 15 rfl, h15]
                  exact hK _ _ trivial rfl (by simpa [upd] using hG)
                · refine op_move rfl ?_
                  rw [hc.ev0 _ rfl]
                  exact hK _ _ trivial rfl (by simpa [upd] using hG)
                · have h11 : vs 11 = _ := (hp 11 (by kernel_rfl)).2
                  have h12 : vs 12 = _ := (hp 12 (by kernel_rfl)).2
                  have e11 := hc.ev 68 11 rfl
                  have e12 := hc.ev 69 12 rfl
                  rw [h11] at e11
                  rw [h12] at e12
                  unfold Oper.wp execOp
                  simp only [e11, e12, Option.map_some, Option.map_none]
                  have HAT' := HAT.out
                  by_cases hca : c1 = at_
                  · rw [if_pos hca] at HAT'
                    have HATx := Lib.hid HAT'
                    clear HAT'
                    subst hca
                    go_simp
                    exact hK _ _ trivial (by show Value.slice _ _ _ = Value.slice AT _ _; rw [HATx.out]; congr 1 <;> omega) (by simpa [upd] using hG)
                  · rw [if_neg hca] at HAT'
                    have HATx := Lib.hid HAT'
                    clear HAT'
                    go_simp
                    exact hK _ _ trivial (by show Value.slice _ _ _ = Value.slice AT _ _; rw [HATx.out]; simp [Addr.add]) (by simpa [upd] using hG)
                · have f10 := (hp 10 (by kernel_rfl)).1
                  obtain ⟨hS, A, n, c, ys, hown, g0, g1, g4, g10, g14, g9, g15, g16⟩ := hG
                  have f4 : fl 4 = true := hcl 10 4 (by kernel_rfl) f10
                  have f0 : fl 0 = true := hcl 4 0 (by kernel_rfl) f4
                  have hfi14 : fl 14 = false := hfi
                  obtain ⟨hvp, hys⟩ := g10 f10 hfi14
                  have n15 : fl 15 = false := by cases h : fl 15 with
                    | false => rfl
                    | true => have := hcl 15 14 (by kernel_rfl) h; rw [hfi14] at this; cases this
                  have eS := hc.ev 67 10 rfl
                  rw [hvp] at eS
                  have hyl : ys.length = n := by have := hown.1; simpa [texts] using this
                  have h13 : vs 13 = _ := (hp 13 (by kernel_rfl)).2
                  have eX := hc.ev 70 13 rfl
                  rw [h13] at eX
                  have hR : Reads w5 w5.heap.size 1 AT (l.length - at_) (texts (l.drop at_)) := by rw [HAT.out]; exact texts_dropR (Reads.of_own hS.ox) hat_ hcx
                  have hnl : n + (l.length - at_) ≤ 64 := by rw [← hyl, hys, List.length_append, List.length_take]; show _ + 1 + _ ≤ 64; omega
                  refine wp_append_any _ _ _ _ rfl Z 9 i0 _ 1 16 Try.underlying22 hi0 hz0 hz1 hz2 rfl (by omega) (.slice A n c) n (texts ys) eS hown _ _ (l.length - at_) _ _ eX hR (texts_ones _) (by unfold maxLen; omega) (by omega) hS.zz ?_
                  intro v' w6 ho hg hat
                  obtain ⟨A', c', rfl⟩ := own_sliceS ho
                  have hob : Value.ownBlock (.slice A n c) = A.map (·.block) := by cases A <;> rfl
                  rw [hob] at hg hat
                  refine hK _ _ trivial trivial ⟨hS.row hgZ hwZ hown hg, A', n + (l.length - at_), c', l.take at_ ++ [x] ++ l.drop at_, by rw [hys, ← texts_app] at ho; exact ho, fun h => by simp [upd, f0] at h, fun _ h => by simp [upd, f4] at h, fun _ h => by simp [upd, f10] at h, fun _ h => by simp [upd] at h, fun _ => ⟨by rw [upd_at], rfl⟩, fun h6 => ?_, fun h12 => ?_, fun _ => by simpa [upd] using g16 n15⟩
                  · have h6' : fl 9 = true := by simpa [upd] using h6
                    obtain ⟨g, hg1, hg2, hg3⟩ := g9 h6'
                    refine ⟨g, by simpa [upd] using hg1, hg2.grown hg (fun e => by cases hA : A with
                      | none => rw [hA] at e; cases e
                      | some a => rw [hA] at e; exact hg3 a hA (by simpa using e.symm)), fun a ha e => ?_⟩
                    subst ha
                    rcases hat with hat | hat
                    · cases hA : A with
                      | none => rw [hA] at hat; cases hat
                      | some a0 => rw [hA] at hat; exact hg3 a0 hA (by rw [← e]; simpa [Value.ownBlock] using hat.symm)
                    · have := hg2.lt
                      have h9 : a.block = w5.heap.size := by simpa [Value.ownBlock] using hat
                      omega
                  · simp [upd, n15] at h12
                · refine op_assign rfl ?_
                  rw [hc.ev 71 14 rfl]
                  obtain ⟨hS, A, n, c, ys, hrow, g0, g1, g4, g10, g14, g9, g15, g16⟩ := hG
                  exact hK _ _ trivial trivial ⟨hS, A, n, c, ys, hrow, by simpa [upd] using g0, by simpa [upd] using g1, by simpa [upd] using g4, by simpa [upd] using g10, by simpa [upd] using g14, by simpa [upd] using g9, fun _ => by simp [upd], fun h => by simp [upd] at h⟩
              · intro fl vs w5 hfl hG hF
                obtain ⟨hS, A, n, c', ys, hown, g0, g1, g4, g10, g14, g9, g15, g16⟩ := hG
                obtain ⟨h14, hys⟩ := g14 (hfl 14 (by simp))
                have h15 := g15 (hfl 15 (by simp))
                rw [h14] at h15
                have hyl : ys.length = n := by have := hown.1; simpa [texts] using this
                subst hyl
                have hyn : ys = l.take at_ ++ x :: l.drop at_ := by rw [hys]; simp
                have hyl2 : ys.length ≤ l.length + 1 := by
                  rw [hyn]
                  simp only [List.length_append, List.length_take, List.length_cons, List.length_drop]
                  omega
                have hyl0 : 0 < ys.length := by rw [hyn, List.length_append, List.length_cons]; omega
                have HY := Lib.hid hyn
                obtain ⟨g', rfl, _, _⟩ := own_addr hown hyl0
                have HO5 := Lib.hid (own_base (base' := w.heap.size) hown hwZ)
                have HB5 := Lib.hid hS.bl
                clear hS hown g0 g1 g4 g10 g14 g9 g15 g16 hF hfl h14 hys hyn
                simp only [fill]
                go_simp
                try rw [h15]
                clear h15
                go_wp2
                go_roundw
                case rel => exact ⟨k + 1, g', c', ys, rfl, by go_num, by omega, by omega, by
                  rw [← HY.out] at HINS
                  exact HINS, HOKS, HO5, HB5⟩
                case measure => simp [intOf]; omega
        · have h40i : (40 : Int) < (ns.length : Int) := by omega
          have HF := Lib.hid (HBAD.out (.inr (by omega)))
          clear HBAD
          go_wp2_with (go_at_call 55; refine (HV.out _).mono ?_; rintro e w' ⟨rfl, rfl⟩)
          go_ret
          exact ⟨[], ⟨_, _, rfl, World.ownsRow_lit (base := w.heap.size) (e := 9) (size := 1) wo #[] 0 HB.out.size (by unfold maxLen; omega) rfl, HB.out.alloc HB.out.size _⟩, .inr ⟨HF.out, rfl⟩, Nat.zero_le _⟩
      · rw [hv] at HV
        have HF := Lib.hid (HBAD.out (.inl hv))
        clear HBAD hv
        go_wp2_with (go_at_call 55; refine (HV.out _).mono ?_; rintro e w' ⟨rfl, rfl⟩)
        go_ret
        exact ⟨[], ⟨_, _, rfl, World.ownsRow_lit (base := w.heap.size) (e := 9) (size := 1) wo #[] 0 HB.out.size (by unfold maxLen; omega) rfl, HB.out.alloc HB.out.size _⟩, .inr ⟨HF.out, rfl⟩, Nat.zero_le _⟩
    · obtain rfl : k = ns.length := by omega
      have hfull : ns.take ns.length = ns := List.take_of_length_le (Nat.le_refl _)
      rw [hfull] at HA HOK
      have HNB : Hid (namesB ns = true) := by
        unfold Hid namesB
        rcases Nat.eq_zero_or_pos ns.length with h0 | h0
        · have : ns = [] := List.eq_nil_of_length_eq_zero h0
          subst this
          rfl
        · obtain ⟨h40, hall⟩ := HOK.out h0
          rw [decide_eq_true h40, Bool.true_and, List.all_eq_true]
          exact hall
      clear hfull HOK
      go_wp2
      go_ret
      exact ⟨l, ⟨_, _, rfl, HO.out, HB.out⟩, .inl ⟨HNB.out, HA.out⟩, hlk⟩
end Go.Proofs.Yteceiaaiocdlfaa
