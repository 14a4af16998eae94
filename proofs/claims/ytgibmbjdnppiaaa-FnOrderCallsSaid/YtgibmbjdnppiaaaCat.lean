/- Contracts of the library's Concat at rows of ints and Clone at edges. Condition: the sizes. -/
import Derived.Test.YtgibmbjdnppiaaaRows
import Derived.Test.YtgibmbjdnppiaaaBase
import Derived.Test.YtgibmbjdnppiaaaBase2
import Derived.Test.YtgibmbjdnppiaaaBase3
import Derived.Test.YtgibmbjdnppiaaaIdxI
import Derived.Test.YtgibmbjdnppiaaaPick2
import Derived.Test.YtgibmbjdnppiaaaEdge
import Derived.Test.YtgibmbjdnppiaaaEdgeV
import Derived.Test.YtgibmbjdnppiaaaCallP
import Derived.Test.YtgibmbjdnppiaaaOrdP
import Derived.Test.YtgibmbjdnppiaaaChn
import Derived.WalkKit
import Derived.WalkSpells
import Derived.WalkLawsBesides
import Derived.Handy
import Derived.BigQuiet
import Derived.Deep.RegionHeld3
import Derived.Deep.DrawnRows
import Derived.Deep.QuietTactic
import Derived.Lib.AppendZeros
import Derived.Lib.SliceRun
namespace Go.Proofs.Ytgibmbjdnppiaaa
open Go Go.RowKit

theorem own_sliceC {w : World} {base size n : Nat} {t : TypeId} {v : Value} {xs : List Value} (h : w.ownsRow base t size v n xs) : ∃ A c, v = .slice A n c := by
  rcases h.2 with ⟨hv, hn⟩ | ⟨g, cap, cur, hv, _⟩
  · exact ⟨none, 0, by rw [hv, hn]⟩
  · exact ⟨_, _, hv⟩
theorem own_upV {w : World} {base size n : Nat} {t : TypeId} {v : Value} {xs : List Value} (h : w.ownsRow base t size v n xs) : ∀ g, v.ownBlock = some g → base ≤ g ∧ g < w.heap.size := fun g hg => by
  obtain ⟨A, c, rfl⟩ := own_sliceC h
  cases A with
  | none => cases hg
  | some a =>
    have e : a.block = g := by simpa [Value.ownBlock] using hg
    have := own_up h a rfl
    omega
theorem edge_info : (Try.prog.info? 33).map (fun i => (i.zero, i.size, i.bytes)) = some (some (.agg #[.int .i64 0, .int .i64 0, .int .i64 0]), 3, 24) := by kernel_rfl
theorem edges_one (es : List Edg) : ∀ u ∈ es.flatMap Edg.cells, u.oneCell' = true := fun u hu => by
  obtain ⟨e, _, h⟩ := List.mem_flatMap.1 hu
  simp [Edg.cells] at h
  rcases h with rfl | rfl | rfl <;> rfl
set_option maxHeartbeats 2000000 in
theorem cloneE_any {A : Option Addr} {c B : Nat} (es : List Edg) (w : World) (h : Reads w B 3 A es.length (es.flatMap Edg.cells)) (hB : B ≤ w.heap.size) (hm : es.length ≤ 1000) :
    Calls Try.prog 42 #[.slice A es.length c] w (Fresh 33 3 w es.length (es.flatMap Edg.cells)) := by
  obtain ⟨i0, hi0, hz0, hz1, hz2⟩ := info_parts edge_info
  cases A with
  | none =>
    have h0 : es = [] := by
      cases es with
      | nil => rfl
      | cons e l =>
        obtain ⟨ad, h1, _⟩ := h.2 (by simp)
        cases h1
    subst h0
    have hnil : ∀ W, (binOp .eql 25 (.slice none 0 c) (.slice none 0 0)).run Try.prog W = .ok (.bool true) W := fun W => Lib.run_eql_slice_nil W _ _ none 0 c 0 0 Try.underlying25
    clear h
    simp only [List.length_nil]
    go_enter Try.func42, Try.ntmps42
    go_wp2
    go_ret
    exact ⟨none, 0, rfl, ⟨rfl, .inl ⟨rfl, rfl⟩⟩, Below.refl _ _⟩
  | some a =>
    have hnil : ∀ W, (binOp .eql 25 (.slice (some a) es.length c) (.slice none 0 0)).run Try.prog W = .ok (.bool false) W := fun W => Lib.run_eql_slice_nil W _ _ (some a) es.length c 0 0 Try.underlying25
    have HR := Lib.hid (h.alloc hB (.cells #[] 33))
    have HO := Lib.hid (World.ownsRow_lit (base := w.heap.size) (e := 33) (size := 3) w #[] 0 (Nat.le_refl _) (by unfold maxLen; omega) rfl)
    clear h
    go_enter Try.func42, Try.ntmps42
    go_wp2_with (at_builtin; refine wpList_append_any _ rfl (.tmp 5) (.tmp 6) _ rfl w.heap.size 33 i0 _ 3 24 Try.underlying25 hi0 hz0 hz1 hz2 rfl (by omega) (.slice (some ⟨w.heap.size, 0, none⟩) 0 0) 0 [] rfl (by exact HO.out) B (some a) es.length c (es.flatMap Edg.cells) rfl (by exact HR.out) (edges_one _) (by unfold maxLen; omega) (by omega) (by simp) ?_; intro v' w9 ho hg hat; obtain ⟨A9, c9, rfl⟩ := own_sliceC ho; have HO9 := Lib.hid ho; have HB9 : Hid (Below w.heap.size w w9) := ((Below.refl _ _).alloc (Nat.le_refl _) _).grown hg (by simp) (fun k hk => by have := own_upV HO.out k hk; omega); clear ho hg hat)
    go_ret
    exact ⟨A9, c9, by simp, by simpa using HO9.out, HB9.out⟩
/-- What the first chains hold. -/
def flatC (ks : List Ch) : List Int := (ks.map Ch.xs).flatten
theorem flatC_snoc (ks : List Ch) (k : Nat) (hk : k < ks.length) : flatC (ks.take (k + 1)) = flatC (ks.take k) ++ ks[k].xs := by
  unfold flatC
  rw [List.take_succ_eq_append_getElem hk, List.map_append, List.flatten_append]
  congr 1
  simp
theorem flatC_le (ks : List Ch) (k : Nat) : (flatC (ks.take k)).length ≤ (flatC ks).length := by
  have : flatC ks = flatC (ks.take k) ++ flatC (ks.drop k) := by
    unfold flatC
    rw [← List.flatten_append, ← List.map_append, List.take_append_drop]
  rw [this, List.length_append]
  omega
set_option maxHeartbeats 4000000 in
theorem concat_any {OA : Option Addr} {oc B : Nat} (ks : List Ch) (w : World) (h1 : Reads w B 1 OA (ks.map Ch.val).length (ks.map Ch.val)) (hB : B ≤ w.heap.size) (h2 : ∀ k ∈ ks, Reads w w.heap.size 1 k.A k.xs.length (nums .i64 k.xs)) (hm : ks.length ≤ 1000) (ht : 0 < (flatC ks).length) (ht2 : (flatC ks).length ≤ 1000) :
    Calls Try.prog 50 #[.slice OA ks.length oc] w (Fresh 3 1 w (flatC ks).length (nums .i64 (flatC ks))) := by
  obtain ⟨i0, hi0, hz0, hz1, hz2⟩ := info_parts chint_info
  have H2 := Lib.hid h2
  clear h2
  rw [List.length_map] at h1
  have HLE := Lib.hid (flatC_le ks)
  go_enter Try.func50, Try.ntmps50
  go_wp2
  go_loop [3, 5, 11] (fun s _ i => ∃ k : Nat, k ≤ ks.length ∧ i = .int .i64 k ∧ s = .int .i64 ((flatC (ks.take k)).length : Int)) (fun _ _ i => ks.length - (intOf i).toNat)
  case atStart => exact ⟨0, Nat.zero_le _, rfl, by simp [flatC]⟩
  case round =>
    obtain ⟨k, hk, rfl, rfl⟩ := hrel
    have hle := HLE.out k
    by_cases hlt : k < ks.length
    · obtain ⟨ad, u1, rfl, hbl, hx1, hc1⟩ := h1.at_ hlt
      rw [ch_get hlt] at hx1
      injection hx1 with hx1
      subst hx1
      have hle1 := HLE.out (k + 1)
      have hsn := congrArg List.length (flatC_snoc ks k hlt)
      rw [List.length_append] at hsn
      have hki : (k : Int) < (ks.length : Int) := by omega
      have HN : Hid (((flatC (ks.take k)).length : Int) + (ks[k].xs.length : Int) = ((flatC (ks.take (k + 1))).length : Int)) := by rw [Hid]; omega
      have hsz : (flatC (ks.take (k + 1))).length ≤ 1000 := by omega
      clear hsn
      generalize hq1 : (flatC (ks.take (k + 1))).length = m1 at *
      have HQ1 := Lib.hid hq1
      clear hq1
      generalize (flatC (ks.take k)).length = m0 at *
      generalize ks[k].A = cA at *
      generalize ks[k].c = cc at *
      generalize ks[k].xs = xs at *
      have hw : IntKind.i64.wrap ((m0 : Int) + (xs.length : Int)) = (m1 : Int) := by rw [HN.out]; exact IntWalk.i64_in _ (by omega)
      have hneg : ¬ ((m1 : Int) < 0) := by omega
      go_wp2
      go_round
      case rel => exact ⟨k + 1, by omega, by go_num, by rw [HQ1.out]⟩
      case measure => simp [intOf]; omega
    · have hki : ¬ (k : Int) < (ks.length : Int) := by omega
      have hkk : ks.take k = ks := List.take_of_length_le (by omega)
      rw [hkk]
      clear hle hkk
      obtain ⟨N, hN⟩ : ∃ N, N = (flatC ks).length := ⟨_, rfl⟩
      have HNN := Lib.hid hN
      rw [← hN] at ht ht2 ⊢
      clear hN
      go_wp2_with fail
      refine (grow_any N w ht (by omega)).mono ?_
      rintro e w1 ⟨A0, c0, rfl, ho0, hb0⟩
      have HO0 := Lib.hid ho0
      have HB0 := Lib.hid hb0
      clear ho0 hb0
      go_wp2
      go_loopw [6, 8, 27] (fun v _ i wr => ∃ (k : Nat) (A : Option Addr) (c : Nat) (ys : List Int), k ≤ ks.length ∧ i = .int .i64 k ∧ v = .slice A ys.length c ∧ Hid (ys = flatC (ks.take k)) ∧ Hid (wr.ownsRow w.heap.size 3 1 (.slice A ys.length c) ys.length (nums .i64 ys)) ∧ Hid (Below w.heap.size w wr)) (fun _ _ i _ => ks.length - (intOf i).toNat)
      case atStart => exact ⟨0, A0, c0, [], Nat.zero_le _, rfl, rfl, Lib.hid rfl, HO0, HB0⟩
      case round =>
        clear HO0 HB0 hki hlt
        obtain ⟨k, A, c, ys, hk, rfl, rfl, HY, HO, HB⟩ := hrel
        have hbz := HB.out.size
        by_cases hlt : k < ks.length
        · have h1' := (h1.more hB).below HB.out
          obtain ⟨ad, u1, rfl, hbl, hx1, hc1⟩ := h1'.at_ hlt
          rw [ch_get hlt] at hx1
          injection hx1 with hx1
          subst hx1
          have hki : (k : Int) < (ks.length : Int) := by omega
          have HR : Hid (Reads wr w.heap.size 1 ks[k].A ks[k].xs.length (nums .i64 ks[k].xs)) := (H2.out ks[k] (List.getElem_mem hlt)).below HB.out
          have HY2 : Hid (ys ++ ks[k].xs = flatC (ks.take (k + 1))) := by rw [Hid, flatC_snoc ks k hlt, ← HY.out]
          have hys : ys.length + ks[k].xs.length ≤ 1000 := by
            have e1 := congrArg List.length HY2.out
            have e2 := HLE.out (k + 1)
            rw [List.length_append] at e1
            have := HNN.out
            omega
          clear HY h1'
          generalize ks[k].A = cA at *
          generalize ks[k].c = cc at *
          generalize ks[k].xs = xs at *
          go_wp2_with (at_builtin; refine wpList_append_any _ rfl (.tmp 31) (.tmp 32) _ rfl w.heap.size 3 i0 _ 1 8 Try.underlying36 hi0 hz0 hz1 hz2 rfl (by omega) (.slice A ys.length c) ys.length (nums .i64 ys) rfl (by exact HO.out) w.heap.size cA xs.length cc (nums .i64 xs) rfl (by exact HR.out) (nums_one _ _) (by unfold maxLen; omega) (by omega) (by omega) ?_; intro v' w9 ho hg hat; obtain ⟨A9, c9, rfl⟩ := own_sliceC ho; have HB9 : Hid (Below w.heap.size w w9) := HB.out.grown hg (by omega) (fun q hq => (own_upV HO.out q hq).1); have HO9 := Lib.hid ho; clear ho hg hat)
          have HO8 : Hid (w9.ownsRow w.heap.size 3 1 (.slice A9 (ys ++ xs).length c9) (ys ++ xs).length (nums .i64 (ys ++ xs))) := by
            rw [List.length_append]
            have h := HO9.out
            rw [show nums .i64 ys ++ nums .i64 xs = nums .i64 (ys ++ xs) from by simp [nums]] at h
            exact h
          go_roundw
          case rel => exact ⟨k + 1, A9, c9, ys ++ xs, by omega, by go_num, by simp, HY2, HO8, HB9⟩
          case measure => simp [intOf]; omega
        · have hki : ¬ (k : Int) < (ks.length : Int) := by omega
          have HE : Hid (ys = flatC ks) := by rw [Hid, HY.out, List.take_of_length_le (by omega)]
          go_wp2
          go_ret
          have hN2 : N = ys.length := by rw [HNN.out, HE.out]
          clear HNN
          subst hN2
          rw [← HE.out]
          exact ⟨A, c, rfl, HO.out, HB.out⟩
end Go.Proofs.Ytgibmbjdnppiaaa
