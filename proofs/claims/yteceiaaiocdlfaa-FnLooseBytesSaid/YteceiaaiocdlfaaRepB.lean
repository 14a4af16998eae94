/- Contract of bytes.Repeat at one byte. Condition: not too often. -/
import Derived.Test.YteceiaaiocdlfaaRows
import Derived.Test.YteceiaaiocdlfaaBase
import Derived.Test.YteceiaaiocdlfaaBase2
import Derived.Test.YteceiaaiocdlfaaShelf
import Derived.Laws.CopyOwn
import Derived.Lib.MakeNoZero
import Derived.WalkKit
import Derived.WalkSpells
import Derived.WalkLawsBesides
import Derived.Handy
import Derived.BigQuiet
import Derived.Deep.RegionHeld3
import Derived.Deep.DrawnRows
import Derived.Deep.QuietTactic
namespace Go.Proofs.Yteceiaaiocdlfaa
open Go Go.RowKit

theorem mul_one (n : Nat) (hn : n ≤ 1048576) (w : World) : Calls Try.prog 72 #[.int .u64 1, .int .u64 n] w fun e w' => e = .returned (.tuple #[.int .u64 0, .int .u64 n]) ∧ w = w' := by
  have h := Try.bits_Mul 1 n (by omega) (by omega) w
  have e1 : 1 * n / 18446744073709551616 = 0 := by omega
  have e2 : 1 * n % 18446744073709551616 = n := by omega
  rw [e1, e2] at h
  exact h.mono fun _ _ ⟨a, b⟩ => ⟨a, b.symm⟩
/-- k times x, then what was there. -/
def repD (x : Int) (k : Nat) (cs : Array Value) : List Value := List.replicate k (.int .u8 x) ++ cs.toList.drop k
theorem repD_len {x : Int} {k : Nat} {cs : Array Value} (h : k ≤ cs.size) : (repD x k cs).length = cs.size := by simp [repD]; omega
theorem repD_splice {x : Int} {k c : Nat} {cs : Array Value} : splice (repD x k cs) k (List.replicate c (.int .u8 x)) = repD x (k + c) cs := by
  unfold splice repD
  rw [List.take_append_of_le_length (by simp), List.drop_append, List.take_of_length_le (by simp), List.drop_eq_nil_of_le (by simp), List.nil_append, List.length_replicate, List.length_replicate, List.drop_drop, ← List.replicate_append_replicate, List.append_assoc]
  congr 3
  omega
theorem repD_get {x : Int} {k j : Nat} {cs : Array Value} {w : World} {g : Nat} {t : TypeId} (hg : w.heap[g]? = some (.cells (repD x k cs).toArray t (0, 0))) (hj : j < k) : w.cell? ⟨g, j, none⟩ = some (.int .u8 x) := by
  rw [cell_of_row w g j _ t (0, 0) hg]
  simp [repD, List.getElem?_append, hj]
/-- The call hands back a slice that reads as xs, and leaves alone what was there. -/
def GivesR (size : Nat) (w : World) (n : Nat) (xs : List Value) (e : Ending) (w' : World) : Prop :=
  ∃ A c, e = .returned (.slice A n c) ∧ Reads w' w'.heap.size size A n xs ∧ Below w.heap.size w w'

set_option maxRecDepth 100000 in
set_option maxHeartbeats 4000000 in
theorem repeatByte_any {A : Option Addr} {c B : Nat} (x : Int) (n : Nat) (w : World) (h1 : Reads w B 1 A 1 (nums .u8 [x])) (hB : B ≤ w.heap.size) (hn : n ≤ 8192) :
    Calls Try.prog 59 #[.slice A 1 c, .int .i64 n] w (GivesR 1 w n (nums .u8 (List.replicate n x))) := by
  rcases Nat.eq_zero_or_pos n with rfl | hpos
  · go_enter Try.func59, Try.ntmps59
    go_wp2
    go_ret
    exact ⟨_, _, rfl, Reads.of_own (World.ownsRow_lit (base := w.heap.size) (e := 5) (size := 1) w #[] 0 (Nat.le_refl _) (by unfold maxLen; omega) rfl), (Below.refl _ _).alloc (Nat.le_refl _) _⟩
  · have hszz : (Try.prog.info? 5).map (·.size) = some 1 := by kernel_rfl
    obtain ⟨cs, hrunM, hle, hmax⟩ := Lib.run_makeNoZero (P := Try.prog) w #[3] 28 5 Try.underlying28 n (by omega)
    have hcall : (callFunc 73 #[.int .i64 (n : Int)]).run Try.prog w = .ok (.value (.slice (some ⟨w.heap.size, 0, none⟩) n cs.size)) ((w.alloc (.cells cs 5)).drewN 2) := by
      rw [run_callFunc_extern Try.func73 (by kernel_rfl) (by kernel_rfl) (by kernel_rfl) (e := Extern.BytealgMakeNoZero.makeNoZero #[3] #[28]) (by kernel_rfl), hrunM]
      rfl
    clear hrunM
    have hmax' := hmax (by unfold maxLen; omega)
    unfold maxLen at hmax'
    have hb1 : Below w.heap.size w ((w.alloc (.cells cs 5)).drewN 2) := below_drewN ((Below.refl _ _).alloc (Nat.le_refl _) _) 2
    have hg0 : Hid (((w.alloc (.cells cs 5)).drewN 2).heap[w.heap.size]? = some (.cells (repD x 0 cs).toArray 5 (0, 0))) := by
      have h : (w.alloc (.cells cs 5)).heap[w.heap.size]? = some (.cells cs 5 (0, 0)) := heap_alloc_new w _
      simpa [repD, Hid] using h
    obtain ⟨ad, u, rfl, hbl, hx1, hc1⟩ := h1.at_ (k := 0) (by omega)
    have hu : u = .int .u8 x := by simpa [nums] using hx1.symm
    subst hu
    have hc2 := (hb1.cell (p := ad.add 0) (by rw [block_of_add]; omega)).trans hc1
    have HS := Lib.hid hszz
    have HC2 := Lib.hid hc2
    have HB1 := Lib.hid hb1
    clear hszz hc2 hc1 hx1 hb1
    have H1 : Hid (∀ c, ∀ v ∈ List.replicate c (Value.int .u8 x), v.oneCell' = true) := fun c v hv => by
      rw [List.eq_of_mem_replicate hv]
      rfl
    have HSP : Hid (∀ j v, (List.replicate 1 (Value.int .u8 x))[j]? = some v → ((w.alloc (.cells cs 5)).drewN 2).cell? (ad.add j) = some v) := fun j v hv => by
      obtain ⟨hj, rfl⟩ := List.getElem?_eq_some_iff.1 hv
      rw [List.length_replicate] at hj
      obtain rfl : j = 0 := by omega
      rw [List.getElem_replicate]
      exact HC2.out
    have hmin : Nat.min 1 n = 1 := Nat.min_eq_left (by omega)
    have HCL : Hid ((List.replicate 1 (Value.int .u8 x)).length = Nat.min 1 n) := by rw [hmin]; exact rfl
    have HFT : Hid (0 + (List.replicate 1 (Value.int .u8 x)).length ≤ (repD x 0 cs).length) := by rw [Hid, repD_len (by omega), List.length_replicate]; omega
    have HLE := Lib.hid hle
    have n0 : ((n : Int) == 0) = false := by simp; omega
    have n1 : decide ((n : Int) < 0) = false := by simp
    have n2 : decide ((n : Int) > 8192) = false := by simp; omega
    have n3 : decide ((n : Int) > 9223372036854775807) = false := by simp; omega
    have n4 : (n : Int) ≤ (cs.size : Int) := by omega
    clear hmin hmax
    go_enter Try.func59, Try.ntmps59
    go_wp2_with (first | (go_at_call 72; refine (mul_one n (by omega) _).mono ?_; rintro e w' ⟨rfl, rfl⟩) | (with_reducible refine wpList_copy_splice rfl (.tmp 58) (.tmp 59) 28 28 rfl 5 Try.underlying28 HS.out (some ⟨w.heap.size, 0, none⟩) (some ad) n n 1 c rfl rfl w.heap.size 0 (repD x 0 cs) 5 hg0.out (List.replicate 1 (.int .u8 x)) HCL.out (fun _ => ⟨rfl, ad, rfl, HSP.out⟩) HFT.out (H1.out _) w.heap.size w HB1.out (Nat.le_refl _) ?_; intro w2 hg2 hb2))
    clear hcall HCL HFT HSP HC2 HB1 hg0 n0 n1 n2 n3
    have HG2 : Hid (w2.heap[w.heap.size]? = some (.cells (repD x 1 cs).toArray 5 (0, 0))) := by
      have h := hg2
      rw [repD_splice] at h
      exact h
    clear hg2
    go_loopw [10] (fun i wr => ∃ k : Nat, 1 ≤ k ∧ k ≤ n ∧ i = .int .i64 k ∧ Below w.heap.size w wr ∧ Hid (wr.heap[w.heap.size]? = some (.cells (repD x k cs).toArray 5 (0, 0)))) (fun i _ => n - (intOf i).toNat)
    case atStart => exact ⟨1, by omega, by omega, rfl, hb2, HG2⟩
    case round =>
      obtain ⟨k, hk1, hk, rfl, hb, HG⟩ := hrel
      clear HG2 hb2
      by_cases hlt : k < n
      · have hne : ¬ (n = k) := by omega
        have hne' : ¬ (k = n) := by omega
        have i1 : (0 : Int) ≤ (k : Int) := Int.natCast_nonneg _
        have i2 : (k : Int) ≤ (n : Int) := by omega
        have i3 : (k : Int) < (n : Int) := by omega
        have i4 : min (k : Int) (n : Int) = (k : Int) := Int.min_eq_left i2
        have HLE2 := HLE.out
        have HCL : Hid ((List.replicate (min k (n - k)) (Value.int .u8 x)).length = Nat.min k (n - k)) := List.length_replicate
        have HSP : Hid (∀ j v, (List.replicate (min k (n - k)) (Value.int .u8 x))[j]? = some v → wr.cell? ((⟨w.heap.size, 0, none⟩ : Addr).add j) = some v) := fun j v hv => by
          obtain ⟨hj, rfl⟩ := List.getElem?_eq_some_iff.1 hv
          rw [List.length_replicate] at hj
          rw [List.getElem_replicate, Addr.add_lit, Nat.zero_add]
          exact repD_get HG.out (by omega)
        have HFT : Hid (k + (List.replicate (min k (n - k)) (Value.int .u8 x)).length ≤ (repD x k cs).length) := by rw [Hid, repD_len (by omega), List.length_replicate]; omega
        clear HLE2
        go_wp2
        have hb5 : Below w.heap.size w wr.drew := hb.drew
        go_region_held3 (fun w' => True) (trivial)
          ((refine step_copy_splice (by rfl) _ _ 28 28 (by rfl) 5 Try.underlying28 HS.out (some ⟨w.heap.size, k, none⟩) (some ⟨w.heap.size, 0, none⟩) (n - k) (n - k) k n (by rfl) (by rfl) w.heap.size k (repD x k cs) 5 HG.out (List.replicate (min k (n - k)) (.int .u8 x)) HCL.out (fun _ => ⟨rfl, _, rfl, HSP.out⟩) HFT.out (H1.out _) w.heap.size w hb5 (Nat.le_refl _) ?_; intro w4 hg4 hb4))
        have HG4 : Hid (w4.heap[w.heap.size]? = some (.cells (repD x (k + min k (n - k)) cs).toArray 5 (0, 0))) := by
          have h := hg4
          rw [repD_splice] at h
          exact h
        clear hg4 HSP HG hb5 HCL HFT
        have hmp : 0 < min k (n - k) := by omega
        have hmq : k + min k (n - k) ≤ n := by omega
        generalize min k (n - k) = c at *
        have Y1 : Hid (IntKind.i64.wrap ((k : Int) + (c : Int)) = (k : Int) + (c : Int)) := IntWalk.i64_in _ (by omega)
        go_wp2
        go_roundw
        case rel => exact ⟨k + c, by omega, by omega, by rw [Y1.out]; go_num, hb4, HG4⟩
        case measure => rw [Y1.out]; simp [intOf]; omega
      · obtain rfl : k = n := by omega
        go_wp2
        go_ret
        refine ⟨_, _, rfl, ⟨by simp [nums], fun _ => ⟨_, rfl, ?_, fun j u hu => ?_⟩⟩, hb⟩
        · have h := HG.out
          exact (Array.getElem?_eq_some_iff.1 h).1
        · rw [Addr.add_lit, Nat.zero_add]
          have hj : j < k ∧ u = .int .u8 x := by
            simp only [nums, List.map_replicate] at hu
            obtain ⟨hj, rfl⟩ := List.getElem?_eq_some_iff.1 hu
            rw [List.length_replicate] at hj
            exact ⟨hj, by simp⟩
          rw [hj.2]
          exact repD_get HG.out hj.1
end Go.Proofs.Yteceiaaiocdlfaa
