/- Contracts of bytes.Equal and l7Same. Condition: the cells are bytes. -/
import Derived.Test.YtmmenedjmdcbcaaRows
import Derived.Test.YtmmenedjmdcbcaaBase
import Derived.Test.YtmmenedjmdcbcaaBase2
import Derived.Test.YtmmenedjmdcbcaaShelf
import Derived.WalkKit
import Derived.WalkSpells
import Derived.WalkLawsBesides
import Derived.Handy
import Derived.BigQuiet
import Derived.Deep.QuietTactic
namespace Go.Proofs.Ytmmenedjmdcbcaa
open Go Go.RowKit

theorem looGetD {bs : List Int} {k : Nat} (hk : k < bs.length) : bs.getD k 0 = bs[k] := by rw [List.getD_eq_getElem?_getD, List.getElem?_eq_getElem hk]; rfl
def isB (l : List Int) : Prop := ∀ x ∈ l, 0 ≤ x ∧ x ≤ 255
theorem bytes_inj {a b : List Int} (ha : isB a) (hb : isB b) (h : Lib.bytesOf a = Lib.bytesOf b) : a = b := by
  unfold Lib.bytesOf at h
  induction a generalizing b with
  | nil => cases b with
    | nil => rfl
    | cons => simp at h
  | cons x a ih =>
    cases b with
    | nil => simp at h
    | cons y b =>
      simp only [List.map_cons, List.cons.injEq] at h
      have h1 := ha x (by simp)
      have h2 := hb y (by simp)
      have e : x.toNat = y.toNat := by
        have := congrArg UInt8.toNat h.1
        simp only [UInt8.toNat_ofNat'] at this
        omega
      rw [ih (fun z hz => ha z (by simp [hz])) (fun z hz => hb z (by simp [hz])) h.2]
      congr 1
      omega
theorem bytes_dec {a b : List Int} (ha : isB a) (hb : isB b) : (Lib.bytesOf a == Lib.bytesOf b) = decide (a = b) := by
  by_cases h : a = b
  · subst h; simp
  · rw [decide_eq_false h]
    have : ¬ Lib.bytesOf a = Lib.bytesOf b := fun e => h (bytes_inj ha hb e)
    simpa using this
theorem reads_bytesIn {w : World} {B : Nat} {A : Option Addr} {xs : List Int} (h : Reads w B 1 A xs.length (nums .u8 xs)) : Lib.BytesIn w A xs.length xs := fun hn => by
  obtain ⟨b, off, rfl, _, hc⟩ := h.row_ hn (by omega)
  refine ⟨b, off, rfl, fun i hi => ?_⟩
  rw [looGetD hi]
  exact hc i _ (nums_get _ _ hi)
theorem bytesEqual_any {A1 A2 : Option Addr} {c1 c2 B1 B2 : Nat} (xs ys : List Int) (w : World) (h1 : Reads w B1 1 A1 xs.length (nums .u8 xs)) (h2 : Reads w B2 1 A2 ys.length (nums .u8 ys)) (hx : isB xs) (hy : isB ys) :
    Calls Try.prog 54 #[.slice A1 xs.length c1, .slice A2 ys.length c2] w fun e w' => e = .returned (.bool (decide (xs = ys))) ∧ w' = w :=
  (Try.bytes_Equal_all A1 A2 xs.length c1 ys.length c2 xs ys w rfl rfl (reads_bytesIn h1) (reads_bytesIn h2)).mono fun _ _ ⟨he, hw⟩ => ⟨by rw [he, bytes_dec hx hy], hw⟩

set_option maxHeartbeats 1000000 in
theorem l7Same_any {A1 A2 : Option Addr} {c1 c2 B1 B2 : Nat} (xs ys : List Int) (w : World) (h1 : Reads w B1 1 A1 xs.length (nums .u8 xs)) (h2 : Reads w B2 1 A2 ys.length (nums .u8 ys)) (hm1 : xs.length ≤ maxLen) (hm2 : ys.length ≤ maxLen) :
    Calls Try.prog 58 #[.slice A1 xs.length c1, .slice A2 ys.length c2] w (Gives w (.bool (decide (xs = ys)))) := by
  unfold maxLen at hm1 hm2
  by_cases hl : xs.length = ys.length
  · have HL := Lib.hid hl
    have hb : ((xs.length : Int) != ys.length) = false := by simp [hl]
    clear hl
    go_enter Try.func58, Try.ntmps58
    go_wp2
    go_loopw [5] (fun i wr => ∃ k : Nat, k ≤ xs.length ∧ i = .int .i64 k ∧ Hid (∀ j < k, xs[j]? = ys[j]?) ∧ ∃ d, wr = w.drewN d) (fun i _ => xs.length - (intOf i).toNat)
    case atStart => exact ⟨0, Nat.zero_le _, rfl, fun j hj => by omega, 0, rfl⟩
    case round =>
      obtain ⟨k, hk, rfl, HA, d, rfl⟩ := hrel
      by_cases hlt : k < xs.length
      · have hlt2 : k < ys.length := by rw [← HL.out]; exact hlt
        obtain ⟨a1, u1, rfl, hbl1, hx1, hc1⟩ := h1.at_ hlt
        obtain ⟨a2, u2, rfl, hbl2, hx2, hc2⟩ := h2.at_ hlt2
        rw [nums_get _ _ hlt] at hx1
        rw [nums_get _ _ hlt2] at hx2
        injection hx1 with hx1
        injection hx2 with hx2
        subst hx1 hx2
        have k0 : (0 : Int) ≤ (k : Int) := Int.natCast_nonneg _
        have k1 : (k : Int) < (xs.length : Int) := by omega
        have k2 : (k : Int) < (ys.length : Int) := by omega
        by_cases he : xs[k] = ys[k]
        · have HE := Lib.hid he
          have hE : (xs[k] != ys[k]) = false := by simp [he]
          clear he
          go_wp2
          go_quiet (fail)
          go_wp2
          go_roundw
          case rel => exact ⟨k + 1, by omega, by go_num, Lib.hid (fun j hj => by
            by_cases hjk : j < k
            · exact HA.out j hjk
            · obtain rfl : j = k := by omega
              rw [List.getElem?_eq_getElem hlt, List.getElem?_eq_getElem hlt2, HE.out]), _, rfl⟩
          case measure => simp [intOf]; omega
        · have HN : Hid (decide (xs = ys) = false) := decide_eq_false (fun e => he (by subst e; rfl))
          have hE : (xs[k] != ys[k]) = true := by simp [bne_iff_ne, he]
          clear he
          go_wp2
          go_quiet (fail)
          go_wp2
          go_ret
          rw [HN.out]
          exact ⟨rfl, below_drewN (below_drewN (Below.refl _ _) _) _⟩
      · have HN : Hid (decide (xs = ys) = true) := decide_eq_true (List.ext_getElem? fun j => by
          by_cases hj : j < k
          · exact HA.out j hj
          · have := HL.out
            rw [List.getElem?_eq_none (by omega), List.getElem?_eq_none (by omega)])
        go_wp2
        go_ret
        rw [HN.out]
        exact ⟨rfl, below_drewN (Below.refl _ _) _⟩
  · have HN : Hid (decide (xs = ys) = false) := decide_eq_false (fun e => hl (by rw [e]))
    have hb : ((xs.length : Int) != ys.length) = true := by simp [bne_iff_ne]; omega
    clear hl
    go_enter Try.func58, Try.ntmps58
    go_wp2
    go_ret
    rw [HN.out]
    exact ⟨rfl, Below.refl _ _⟩
end Go.Proofs.Ytmmenedjmdcbcaa
