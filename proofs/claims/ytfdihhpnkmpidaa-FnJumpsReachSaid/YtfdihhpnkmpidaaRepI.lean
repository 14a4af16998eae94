/- Contract of slices.Repeat at one int. Condition: not too often. -/
import Derived.Test.YtfdihhpnkmpidaaRows
import Derived.Test.YtfdihhpnkmpidaaBase
import Derived.Test.YtfdihhpnkmpidaaBase2
import Derived.Test.YtfdihhpnkmpidaaShelf
import Derived.Laws.CopyOwn
import Derived.WalkKit
import Derived.WalkSpells
import Derived.WalkLawsBesides
import Derived.Handy
import Derived.BigQuiet
import Derived.Deep.RegionHeld3
import Derived.Deep.DrawnRows
import Derived.Deep.QuietTactic
namespace Go.Proofs.Ytfdihhpnkmpidaa
open Go Go.RowKit

theorem int_inf : (Try.prog.info? 3).map (fun i => (i.zero, i.size, i.bytes)) = some (some (.int .i64 0), 1, 8) := by kernel_rfl
theorem mul_one (n : Nat) (hn : n ≤ 1048576) (w : World) : Calls Try.prog 48 #[.int .u64 1, .int .u64 n] w fun e w' => e = .returned (.tuple #[.int .u64 0, .int .u64 n]) ∧ w = w' := by
  have h := Try.bits_Mul 1 n (by omega) (by omega) w
  have e1 : 1 * n / 18446744073709551616 = 0 := by omega
  have e2 : 1 * n % 18446744073709551616 = n := by omega
  rw [e1, e2] at h
  exact h.mono fun _ _ ⟨a, b⟩ => ⟨a, b.symm⟩
theorem own_row {w : World} {base : Nat} {e : TypeId} {g n : Nat} {xs : List Value} (hb : base ≤ g) (hg : w.heap[g]? = some (.cells xs.toArray e (0, 0))) (hl : xs.length = n) (hm : n ≤ maxLen) : w.ownsRow base e 1 (.slice (some ⟨g, 0, none⟩) n n) n xs :=
  ⟨by omega, .inr ⟨g, n, xs.toArray, rfl, hb, hg, Nat.le_refl _, hm, by simp [hl], by rw [List.take_of_length_le]; simp [hl]⟩⟩
/-- k twos, then noughts. -/
def repZ (x : Int) (k m : Nat) : List Value := List.replicate k (.int .i64 x) ++ List.replicate m (.int .i64 0)
theorem repZ_len (x : Int) (k m : Nat) : (repZ x k m).length = k + m := by simp [repZ]
theorem repZ_splice {x : Int} {k m c : Nat} (hc : c ≤ m) : splice (repZ x k m) k (List.replicate c (.int .i64 x)) = repZ x (k + c) (m - c) := by
  unfold splice repZ
  rw [List.take_append_of_le_length (by simp), List.drop_append, List.take_of_length_le (by simp), List.drop_eq_nil_of_le (by simp), List.nil_append, List.length_replicate, List.length_replicate, List.drop_replicate, ← List.replicate_append_replicate, List.append_assoc]
  congr 3
  omega
theorem repZ_get {x : Int} {k m j : Nat} {w : World} {g : Nat} {t : TypeId} (hg : w.heap[g]? = some (.cells (repZ x k m).toArray t (0, 0))) (hj : j < k) : w.cell? ⟨g, j, none⟩ = some (.int .i64 x) := by
  rw [cell_of_row w g j _ t (0, 0) hg]
  simp [repZ, List.getElem?_append, hj]

set_option maxRecDepth 100000 in
set_option maxHeartbeats 4000000 in
theorem repeatInt_any {A : Option Addr} {c B : Nat} (x : Int) (n : Nat) (w : World) (h1 : Reads w B 1 A 1 (nums .i64 [x])) (hB : B ≤ w.heap.size) (hn : n ≤ 1048576) :
    Calls Try.prog 42 #[.slice A 1 c, .int .i64 n] w (Fresh 3 1 w n (nums .i64 (List.replicate n x))) := by
  obtain ⟨i0, hi0, hz0, hz1, hz2⟩ := info_parts int_inf
  have hszz : (Try.prog.info? 3).map (·.size) = some 1 := by kernel_rfl
  obtain ⟨w1, hmk, hown, hgr⟩ := run_make_full (P := Try.prog) w w.heap.size 22 3 i0 _ 1 Try.underlying22 hi0 hz0 hz1 .i64 .i64 n (by rw [hz2]; omega) (by unfold maxLen; omega) (Nat.le_refl _)
  have hb1 : Below w.heap.size w w1 := (Below.refl _ _).grown hgr (Nat.le_refl _) (by simp)
  have hg0 : Hid (w1.heap[w.heap.size]? = some (.cells (repZ x 0 n).toArray 3 (0, 0))) := by
    rcases hown.2 with ⟨hv, _⟩ | ⟨g, cap, cur, hv, hbg, hh, hnc, hcm, hcs, htk⟩
    · exact absurd hv (by simp)
    · injection hv with h1 h2 h3
      injection h1 with h1
      injection h1 with h1
      subst h1 h3
      rw [List.take_of_length_le (by simp; omega)] at htk
      have hcur : cur = (repZ x 0 n).toArray := by
        apply Array.toList_inj.1
        rw [htk]
        have := toList_madeCells_one (.int .i64 0) (n * 1)
        simpa [repZ, Value.cells] using this
      rw [hcur] at hh
      exact hh
  obtain ⟨ad, u, rfl, hbl, hx1, hc1⟩ := h1.at_ (k := 0) (by omega)
  have hu : u = .int .i64 x := by simpa [nums] using hx1.symm
  subst hu
  have hc2 := (hb1.cell (p := ad.add 0) (by rw [block_of_add]; omega)).trans hc1
  have hsz := hown.lt _ rfl
  have hn63 : (n : Int) ≤ 9223372036854775807 := by omega
  have hn0 : decide ((n : Int) < 0) = false := by simp
  have hn1 : decide ((n : Int) > 9223372036854775807) = false := by simp; omega
  clear hx1 hown hgr hz0 hz1 hz2 hi0
  have HS := Lib.hid hszz
  have HC2 := Lib.hid hc2
  clear hszz hc2 hc1
  have H1 : Hid (∀ c, ∀ v ∈ List.replicate c (Value.int .i64 x), v.oneCell' = true) := fun c v hv => by
    rw [List.eq_of_mem_replicate hv]
    rfl
  have hcl : (List.replicate (min 1 n) (Value.int .i64 x)).length = Nat.min 1 n := by simp
  have HSP : Hid (∀ j v, (List.replicate (min 1 n) (Value.int .i64 x))[j]? = some v → w1.cell? (ad.add j) = some v) := fun j v hv => by
    obtain ⟨hj, rfl⟩ := List.getElem?_eq_some_iff.1 hv
    rw [List.length_replicate] at hj
    obtain rfl : j = 0 := by omega
    rw [List.getElem_replicate]
    exact HC2.out
  have HCL := Lib.hid hcl
  have hmin : min 1 n ≤ n := Nat.min_le_right _ _
  have HFT : Hid (0 + (List.replicate (min 1 n) (Value.int .i64 x)).length ≤ (repZ x 0 n).length) := by rw [Hid, repZ_len, List.length_replicate]; omega
  clear hcl
  go_enter Try.func42, Try.ntmps42
  go_wp2_with (first | (go_at_call 48; refine (mul_one n hn _).mono ?_; rintro e w' ⟨rfl, rfl⟩) | (with_reducible refine wpList_copy_splice rfl (.tmp 31) (.tmp 32) 22 22 rfl 3 Try.underlying22 HS.out (some ⟨w.heap.size, 0, none⟩) (some ad) n n 1 c rfl rfl w.heap.size 0 (repZ x 0 n) 3 hg0.out (List.replicate (min 1 n) (.int .i64 x)) HCL.out (fun _ => ⟨rfl, ad, rfl, HSP.out⟩) HFT.out (H1.out _) w.heap.size w hb1 (Nat.le_refl _) ?_; intro w2 hg2 hb2))
  clear hmk hg0 hb1 HCL HSP HC2 hsz h1
  have HG2 : Hid (w2.heap[w.heap.size]? = some (.cells (repZ x (0 + min 1 n) (n - min 1 n)).toArray 3 (0, 0))) := by rw [← repZ_splice hmin]; exact hg2
  clear hg2
  have hml : (List.replicate (min 1 n) (Value.int .i64 x)).length = min 1 n := List.length_replicate
  go_wp2
  go_loopw [8] (fun i wr => ∃ k : Nat, k ≤ n ∧ (0 < n → 0 < k) ∧ i = .int .i64 k ∧ Below w.heap.size w wr ∧ Hid (wr.heap[w.heap.size]? = some (.cells (repZ x k (n - k)).toArray 3 (0, 0)))) (fun i _ => n - (intOf i).toNat)
  case atStart =>
    rw [Nat.zero_add] at HG2
    exact ⟨min 1 n, hmin, fun h => by omega, by simp, hb2, HG2⟩
  case round =>
    obtain ⟨k, hk, hk0, rfl, hb, HG⟩ := hrel
    clear hml HG2 hb2
    by_cases hlt : k < n
    · have hk1 : 0 < k := hk0 (by omega)
      have hne : ¬ (n = k) := by omega
      have hne' : ¬ (k = n) := by omega
      have i1 : (0 : Int) ≤ (k : Int) := Int.natCast_nonneg _
      have i2 : (k : Int) ≤ (n : Int) := by omega
      have hm2 : min k (n - k) ≤ n - k := Nat.min_le_right _ _
      have HCL : Hid ((List.replicate (min k (n - k)) (Value.int .i64 x)).length = Nat.min k (n - k)) := List.length_replicate
      have HSP : Hid (∀ j v, (List.replicate (min k (n - k)) (Value.int .i64 x))[j]? = some v → wr.cell? ((⟨w.heap.size, 0, none⟩ : Addr).add j) = some v) := fun j v hv => by
        obtain ⟨hj, rfl⟩ := List.getElem?_eq_some_iff.1 hv
        rw [List.length_replicate] at hj
        rw [List.getElem_replicate, Addr.add_lit, Nat.zero_add]
        exact repZ_get HG.out (by omega)
      have HFT : Hid (k + (List.replicate (min k (n - k)) (Value.int .i64 x)).length ≤ (repZ x k (n - k)).length) := by rw [Hid, repZ_len, List.length_replicate]; omega
      clear hk0
      go_wp2
      have hb5 : Below w.heap.size w wr.drew := hb.drew
      go_region_held3 (fun w' => True) (trivial)
        ((refine step_copy_splice (by rfl) _ _ 22 22 (by rfl) 3 Try.underlying22 HS.out (some ⟨w.heap.size, k, none⟩) (some ⟨w.heap.size, 0, none⟩) (n - k) (n - k) k n (by rfl) (by rfl) w.heap.size k (repZ x k (n - k)) 3 HG.out (List.replicate (min k (n - k)) (.int .i64 x)) HCL.out (fun _ => ⟨rfl, _, rfl, HSP.out⟩) HFT.out (H1.out _) w.heap.size w hb5 (Nat.le_refl _) ?_; intro w4 hg4 hb4))
      have HG4 : Hid (w4.heap[w.heap.size]? = some (.cells (repZ x (k + min k (n - k)) (n - k - min k (n - k))).toArray 3 (0, 0))) := by rw [← repZ_splice hm2]; exact hg4
      clear hg4 HSP HG hb5 HCL HFT
      have he4 : n - k - min k (n - k) = n - (k + min k (n - k)) := by omega
      rw [he4] at HG4
      clear he4
      have hmp : 0 < min k (n - k) := by omega
      generalize min k (n - k) = c at *
      have Y1 : Hid (IntKind.i64.wrap ((k : Int) + (c : Int)) = (k : Int) + (c : Int)) := IntWalk.i64_in _ (by omega)
      go_wp2
      go_roundw
      case rel => exact ⟨k + c, by omega, fun _ => by omega, by rw [Y1.out]; go_num, hb4, HG4⟩
      case measure => rw [Y1.out]; simp [intOf]; omega
    · obtain rfl : k = n := by omega
      go_wp2
      go_ret
      refine ⟨_, _, rfl, ?_, hb⟩
      refine own_row (Nat.le_refl _) ?_ (by simp [nums]) (by unfold maxLen; omega)
      rw [HG.out]
      simp [repZ, nums]
end Go.Proofs.Ytfdihhpnkmpidaa
