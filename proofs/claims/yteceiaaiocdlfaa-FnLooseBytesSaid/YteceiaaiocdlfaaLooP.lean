/- What loosened bytes are; bytes.Equal, l7Same. Condition: the cells are bytes. -/
import Derived.Test.YteceiaaiocdlfaaRows
import Derived.Test.YteceiaaiocdlfaaBase
import Derived.Test.YteceiaaiocdlfaaBase2
import Derived.Test.YteceiaaiocdlfaaShelf
import Derived.Test.YteceiaaiocdlfaaSqz
import Derived.WalkKit
import Derived.WalkSpells
import Derived.WalkLawsBesides
import Derived.Handy
import Derived.BigQuiet
import Derived.Deep.QuietTactic
namespace Go.Proofs.Yteceiaaiocdlfaa
open Go Go.RowKit

/-- The first k pairs, loosened. -/
def looTo (bs : List Int) : Nat → List Int
  | 0 => []
  | k + 1 => looTo bs k ++ List.replicate (bs.getD (2 * k) 0).toNat (bs.getD (2 * k + 1) 0)
def looAll (bs : List Int) : List Int := looTo bs (bs.length / 2)
def looOk (bs : List Int) : Bool := decide (bs.length % 2 = 0 ∧ (looAll bs).length ≤ 600 ∧ squeeze (looAll bs) = bs)
def looL (bs : List Int) : List Int := if looOk bs = true then looAll bs else []
theorem loo_yes {bs : List Int} (h : looOk bs = true) : looL bs = looAll bs := if_pos h
theorem loo_no {bs : List Int} (h : looOk bs = false) : looL bs = [] := by unfold looL; rw [h]; rfl
theorem looTo_mono (bs : List Int) {k m : Nat} (h : k ≤ m) : (looTo bs k).length ≤ (looTo bs m).length := by
  induction m with
  | zero => obtain rfl : k = 0 := by omega
            exact Nat.le_refl _
  | succ m ih =>
    rcases Nat.lt_or_ge m k with h1 | h1
    · obtain rfl : k = m + 1 := by omega
      exact Nat.le_refl _
    · have := ih h1
      rw [looTo, List.length_append]
      omega
theorem loo_long {bs : List Int} {k : Nat} (hk : k ≤ bs.length / 2) (h : 600 < (looTo bs k).length) : looOk bs = false := by
  have := looTo_mono bs hk
  refine decide_eq_false ?_
  rintro ⟨_, h2, _⟩
  unfold looAll at h2
  omega
theorem loo_odd {bs : List Int} (h : bs.length % 2 = 1) : looOk bs = false := decide_eq_false (by rintro ⟨h1, _⟩; omega)
theorem looGetD {bs : List Int} {k : Nat} (hk : k < bs.length) : bs.getD k 0 = bs[k] := by rw [List.getD_eq_getElem?_getD, List.getElem?_eq_getElem hk]; rfl
theorem looTo_step {bs : List Int} {k : Nat} (h : 2 * k + 1 < bs.length) : looTo bs (k + 1) = looTo bs k ++ List.replicate (bs[2 * k]).toNat (bs[2 * k + 1]) := by
  rw [looTo, looGetD h, looGetD (by omega)]
def isB (l : List Int) : Prop := ∀ x ∈ l, 0 ≤ x ∧ x ≤ 255
theorem isB_at {l : List Int} (h : isB l) {k : Nat} (hk : k < l.length) : 0 ≤ l[k] ∧ l[k] ≤ 255 := h _ (List.getElem_mem hk)
theorem runGo_le {c : Nat → Bool} : ∀ (f n : Nat), runGo c f n ≤ n + f
  | 0, n => Nat.le_refl _
  | f + 1, n => by
    unfold runGo
    split
    · have := runGo_le (c := c) f (n + 1); omega
    · omega
theorem runGo_cap {xs : List Int} {i : Nat} : ∀ (f n : Nat), n ≤ 255 → runGo (runC xs i) f n ≤ 255
  | 0, n, h => h
  | f + 1, n, h => by
    unfold runGo
    split
    · rename_i hc
      have : n < 255 := by unfold runC at hc; simp only [decide_eq_true_eq] at hc; exact hc.2.2
      exact runGo_cap f (n + 1) (by omega)
    · exact h
theorem runLen_cap (xs : List Int) (i : Nat) : runLen xs i ≤ 255 := runGo_cap 255 1 (by omega)
theorem sqGo_isB {xs : List Int} (h : isB xs) : ∀ (f i : Nat), isB (sqGo xs f i)
  | 0, i => by intro x hx; cases hx
  | f + 1, i => by
    unfold sqGo
    split
    · rename_i hi
      intro x hx
      have h1 := runLen_cap xs i
      simp only [List.mem_cons] at hx
      rcases hx with rfl | rfl | hx
      · omega
      · rw [looGetD hi]; exact isB_at h hi
      · exact sqGo_isB h f _ x hx
    · intro x hx; cases hx
theorem squeeze_isB {xs : List Int} (h : isB xs) : isB (squeeze xs) := by
  unfold squeeze
  split
  · exact sqGo_isB h _ _
  · intro x hx; cases hx
theorem sqGo_even (xs : List Int) : ∀ (f i : Nat), (sqGo xs f i).length % 2 = 0
  | 0, i => rfl
  | f + 1, i => by
    unfold sqGo
    split
    · have := sqGo_even xs f (i + runLen xs i); simp only [List.length_cons]; omega
    · rfl
theorem squeeze_even (xs : List Int) : (squeeze xs).length % 2 = 0 := by
  unfold squeeze
  split
  · exact sqGo_even _ _ _
  · rfl
theorem looTo_isB {bs : List Int} (h : isB bs) : ∀ k, 2 * k ≤ bs.length → isB (looTo bs k)
  | 0, _ => by intro x hx; cases hx
  | k + 1, hk => by
    rw [looTo_step (by omega)]
    intro x hx
    rcases List.mem_append.1 hx with hx | hx
    · exact looTo_isB h k (by omega) x hx
    · rw [List.eq_of_mem_replicate hx]; exact isB_at h (by omega)
theorem looTo_len {bs : List Int} (h : isB bs) {k : Nat} (hk : 2 * k + 1 < bs.length) : (looTo bs (k + 1)).length ≤ (looTo bs k).length + 255 := by
  rw [looTo_step hk, List.length_append, List.length_replicate]
  have := isB_at h (k := 2 * k) (by omega)
  omega
theorem bytes_inj {a b : List Int} (ha : isB a) (hb : isB b) (h : Lib.bytesOf a = Lib.bytesOf b) : a = b := by
  unfold Lib.bytesOf at h
  induction a generalizing b with
  | nil => cases b with
    | nil => rfl
    | cons => simp at h
  | cons x a ih =>
    cases b with
    | nil => simp at h
    | cons y b =>
      simp only [List.map_cons, List.cons.injEq] at h
      have h1 := ha x (by simp)
      have h2 := hb y (by simp)
      have e : x.toNat = y.toNat := by
        have := congrArg UInt8.toNat h.1
        simp only [UInt8.toNat_ofNat'] at this
        omega
      rw [ih (fun z hz => ha z (by simp [hz])) (fun z hz => hb z (by simp [hz])) h.2]
      congr 1
      omega
theorem bytes_dec {a b : List Int} (ha : isB a) (hb : isB b) : (Lib.bytesOf a == Lib.bytesOf b) = decide (a = b) := by
  by_cases h : a = b
  · subst h; simp
  · rw [decide_eq_false h]
    have : ¬ Lib.bytesOf a = Lib.bytesOf b := fun e => h (bytes_inj ha hb e)
    simpa using this
theorem reads_bytesIn {w : World} {B : Nat} {A : Option Addr} {xs : List Int} (h : Reads w B 1 A xs.length (nums .u8 xs)) : Lib.BytesIn w A xs.length xs := fun hn => by
  obtain ⟨b, off, rfl, _, hc⟩ := h.row_ hn (by omega)
  refine ⟨b, off, rfl, fun i hi => ?_⟩
  rw [looGetD hi]
  exact hc i _ (nums_get _ _ hi)
theorem bytesEqual_any {A1 A2 : Option Addr} {c1 c2 B1 B2 : Nat} (xs ys : List Int) (w : World) (h1 : Reads w B1 1 A1 xs.length (nums .u8 xs)) (h2 : Reads w B2 1 A2 ys.length (nums .u8 ys)) (hx : isB xs) (hy : isB ys) :
    Calls Try.prog 60 #[.slice A1 xs.length c1, .slice A2 ys.length c2] w fun e w' => e = .returned (.bool (decide (xs = ys))) ∧ w' = w :=
  (Try.bytes_Equal_all A1 A2 xs.length c1 ys.length c2 xs ys w rfl rfl (reads_bytesIn h1) (reads_bytesIn h2)).mono fun _ _ ⟨he, hw⟩ => ⟨by rw [he, bytes_dec hx hy], hw⟩

set_option maxHeartbeats 1000000 in
theorem l7Same_any {A1 A2 : Option Addr} {c1 c2 B1 B2 : Nat} (xs ys : List Int) (w : World) (h1 : Reads w B1 1 A1 xs.length (nums .u8 xs)) (h2 : Reads w B2 1 A2 ys.length (nums .u8 ys)) (hm1 : xs.length ≤ maxLen) (hm2 : ys.length ≤ maxLen) :
    Calls Try.prog 61 #[.slice A1 xs.length c1, .slice A2 ys.length c2] w (Gives w (.bool (decide (xs = ys)))) := by
  unfold maxLen at hm1 hm2
  by_cases hl : xs.length = ys.length
  · have HL := Lib.hid hl
    have hb : ((xs.length : Int) != ys.length) = false := by simp [hl]
    clear hl
    go_enter Try.func61, Try.ntmps61
    go_wp2
    go_loopw [5] (fun i wr => ∃ k : Nat, k ≤ xs.length ∧ i = .int .i64 k ∧ Hid (∀ j < k, xs[j]? = ys[j]?) ∧ ∃ d, wr = w.drewN d) (fun i _ => xs.length - (intOf i).toNat)
    case atStart => exact ⟨0, Nat.zero_le _, rfl, fun j hj => by omega, 0, rfl⟩
    case round =>
      obtain ⟨k, hk, rfl, HA, d, rfl⟩ := hrel
      by_cases hlt : k < xs.length
      · have hlt2 : k < ys.length := by rw [← HL.out]; exact hlt
        obtain ⟨a1, u1, rfl, hbl1, hx1, hc1⟩ := h1.at_ hlt
        obtain ⟨a2, u2, rfl, hbl2, hx2, hc2⟩ := h2.at_ hlt2
        rw [nums_get _ _ hlt] at hx1
        rw [nums_get _ _ hlt2] at hx2
        injection hx1 with hx1
        injection hx2 with hx2
        subst hx1 hx2
        have k0 : (0 : Int) ≤ (k : Int) := Int.natCast_nonneg _
        have k1 : (k : Int) < (xs.length : Int) := by omega
        have k2 : (k : Int) < (ys.length : Int) := by omega
        by_cases he : xs[k] = ys[k]
        · have HE := Lib.hid he
          have hE : (xs[k] != ys[k]) = false := by simp [he]
          clear he
          go_wp2
          go_quiet (fail)
          go_wp2
          go_roundw
          case rel => exact ⟨k + 1, by omega, by go_num, Lib.hid (fun j hj => by
            by_cases hjk : j < k
            · exact HA.out j hjk
            · obtain rfl : j = k := by omega
              rw [List.getElem?_eq_getElem hlt, List.getElem?_eq_getElem hlt2, HE.out]), _, rfl⟩
          case measure => simp [intOf]; omega
        · have HN : Hid (decide (xs = ys) = false) := decide_eq_false (fun e => he (by subst e; rfl))
          have hE : (xs[k] != ys[k]) = true := by simp [bne_iff_ne, he]
          clear he
          go_wp2
          go_quiet (fail)
          go_wp2
          go_ret
          rw [HN.out]
          exact ⟨rfl, below_drewN (below_drewN (Below.refl _ _) _) _⟩
      · have HN : Hid (decide (xs = ys) = true) := decide_eq_true (List.ext_getElem? fun j => by
          by_cases hj : j < k
          · exact HA.out j hj
          · have := HL.out
            rw [List.getElem?_eq_none (by omega), List.getElem?_eq_none (by omega)])
        go_wp2
        go_ret
        rw [HN.out]
        exact ⟨rfl, below_drewN (Below.refl _ _) _⟩
  · have HN : Hid (decide (xs = ys) = false) := decide_eq_false (fun e => hl (by rw [e]))
    have hb : ((xs.length : Int) != ys.length) = true := by simp [bne_iff_ne]; omega
    clear hl
    go_enter Try.func61, Try.ntmps61
    go_wp2
    go_ret
    rw [HN.out]
    exact ⟨rfl, Below.refl _ _⟩
end Go.Proofs.Yteceiaaiocdlfaa
