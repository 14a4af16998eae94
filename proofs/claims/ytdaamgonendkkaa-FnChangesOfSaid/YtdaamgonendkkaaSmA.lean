/- Contract of sameTexts. No condition but the sizes. Contracts of alive and of sameInts. No condition but the sizes. An argument that is a code to draw from, opened. No condition. -/
import Derived.Test.YtdaamgonendkkaaRows
import Derived.Test.YtdaamgonendkkaaBase
import Derived.Test.YtdaamgonendkkaaIn
import Derived.Test.YtdaamgonendkkaaOpen
import Derived.WalkKit
import Derived.WalkSpells
import Derived.WalkLawsBesides
import Derived.Handy
import Derived.BigQuiet
import Derived.Deep.RegionHeld3
import Derived.Deep.DrawnRows
import Derived.Deep.QuietTactic
namespace Go.Proofs.Ytdaamgonendkkaa
open Go Go.RowKit

set_option maxHeartbeats 400000 in
theorem sameTexts_any (A1 A2 : Option Addr) (c1 c2 B1 B2 : Nat) (xs ys : List ByteArray) (w : World) (h1 : Reads w B1 1 A1 xs.length (texts xs)) (h2 : Reads w B2 1 A2 ys.length (texts ys)) (hm1 : xs.length ≤ 1048576) (hm2 : ys.length ≤ 1048576) :
    Calls Try.prog 11 #[.slice A1 xs.length c1, .slice A2 ys.length c2] w (Gives w (.bool (decide (xs = ys)))) := by
  by_cases hl : xs.length = ys.length
  · have HL := Lib.hid hl
    have hb : ((xs.length : Int) != ys.length) = false := by simp [hl]
    clear hl
    go_enter Try.func11, Try.ntmps11
    go_wp2
    go_loopw [5] (fun i wr => ∃ k : Nat, k ≤ xs.length ∧ i = .int .i64 k ∧ Hid (∀ j < k, xs[j]? = ys[j]?) ∧ ∃ m, wr = w.drewN m) (fun i _ => xs.length - (intOf i).toNat)
    case atStart => exact ⟨0, Nat.zero_le _, rfl, fun j hj => by omega, 0, rfl⟩
    case round =>
      obtain ⟨k, hk, rfl, HA, m, rfl⟩ := hrel
      by_cases hlt : k < xs.length
      · have hlt2 : k < ys.length := by rw [← HL.out]; exact hlt
        obtain ⟨a1, u1, rfl, _, hx1, hc1⟩ := h1.at_ hlt
        obtain ⟨a2, u2, rfl, _, hx2, hc2⟩ := h2.at_ hlt2
        rw [texts_get _ _ hlt] at hx1
        rw [texts_get _ _ hlt2] at hx2
        injection hx1 with hx1
        injection hx2 with hx2
        subst hx1 hx2
        by_cases he : xs[k] = ys[k]
        · have HE := Lib.hid he
          have hne : (!xs[k].toList == ys[k].toList) = false := by simp [he]
          clear he
          go_wp2
          go_quiet (fail)
          go_wp2
          go_roundw
          case rel => exact ⟨k + 1, by omega, by go_num, Lib.hid (fun j hj => by
            by_cases hjk : j < k
            · exact HA.out j hjk
            · obtain rfl : j = k := by omega
              rw [List.getElem?_eq_getElem hlt, List.getElem?_eq_getElem hlt2, HE.out]), _, rfl⟩
          case measure => simp [intOf]; omega
        · have hne : (!xs[k].toList == ys[k].toList) = true := by simpa using fun h => he (toList_inj h)
          have hxy : decide (xs = ys) = false := decide_eq_false (by rintro rfl; exact he rfl)
          have HE := Lib.hid he
          have HXY := Lib.hid hxy
          clear he hxy
          go_wp2
          go_quiet (fail)
          go_wp2
          go_ret
          rw [HXY.out]
          exact ⟨rfl, by repeat (first | exact Below.refl _ _ | apply below_drewN)⟩
      · obtain rfl : k = xs.length := by omega
        go_wp2
        go_ret
        have hxy : xs = ys := by
          apply List.ext_getElem?
          intro j
          by_cases hj : j < xs.length
          · exact HA.out j hj
          · rw [List.getElem?_eq_none (by omega), List.getElem?_eq_none (by rw [← HL.out]; omega)]
        rw [decide_eq_true hxy]
        exact ⟨rfl, by repeat (first | exact Below.refl _ _ | apply below_drewN)⟩
  · have hb : ((xs.length : Int) != ys.length) = true := by simp [bne_iff_ne]; omega
    have HXY : Hid (decide (xs = ys) = false) := decide_eq_false (by rintro rfl; exact hl rfl)
    clear hl
    go_enter Try.func11, Try.ntmps11
    go_wp2
    go_ret
    rw [HXY.out]
    exact ⟨rfl, Below.refl _ _⟩

end Go.Proofs.Ytdaamgonendkkaa
namespace Go.Proofs.Ytdaamgonendkkaa
open Go Go.RowKit

theorem alive_any (w : World) : Calls Try.prog 13 #[] w fun e w' => e = .returned (.bool true) ∧ w = w' := by
  have H1 := Lib.hid (inB_true (n := 5) (lo := 0) (hi := 1000000) (by omega) (by omega))
  go_enter Try.func13, Try.ntmps13
  go_wp2_with (first | (go_at_call 65; refine (within_any _ _ _ _).mono ?_; rintro e w' ⟨rfl, rfl⟩; rw [H1.out]) | go_in)
  go_ret
  exact ⟨rfl, rfl⟩
end Go.Proofs.Ytdaamgonendkkaa
namespace Go.Proofs.Ytdaamgonendkkaa
open Go Go.RowKit
open Go.ChangeShapes Go.WideShapes Go.ChangeAt Go.Deep
/-- Bytes that came in. -/
def ArgCode (W : World) (v : Value) : Prop :=
  ∃ (A : Option Addr) (c : Nat) (xs : List Int), v = .slice A xs.length c ∧ Reads W W.heap.size 1 A xs.length (nums .u8 xs) ∧ xs.length ≤ c ∧ c ≤ maxLen ∧ ∀ x ∈ xs, 0 ≤ x ∧ x ≤ 255
section
variable {H : Type} {enc : TypeId × Value → H} {P : Program} {W : World} {base : Nat} {b0 : Nat} {r : Reach} {hd : Bool}
theorem arg_code {t e : TypeId} {v : Value} {d : DataW H} {p : List MemPlace} (ht : P.underlying t = some (.slice e)) (he : P.underlying e = some (.int .u8)) (hc : P.cellsOf e = 1)
    (hv : Value.okWide P W r b0 t v) (h : DataW.Trod enc P W base (fun _ => true) hd t v d p) : ArgCode W v := by
  obtain ⟨a, len, cap, rfl⟩ := okWide_slice ht hv
  obtain ⟨fuel, hf⟩ := h
  have hf' : DataW.trod enc P W base (fun _ => true) hd fuel t [.slice a len cap] = some (d, p) := by simpa [Value.cells] using hf
  obtain ⟨A, c, xs, h1, h2, h3, h4⟩ := read_nums ht he hc hf'
  injection h1 with ha hb hcc
  subst ha hb hcc
  rcases open_ints ht he hc hf' with ⟨hcs, _⟩ | ⟨a2, len2, cap2, zs, hcs, _, hl, hm, _⟩
  · simp only [List.cons.injEq, and_true] at hcs
    injection hcs with e1 e2 e3
    refine ⟨_, _, xs, rfl, h2, by omega, by rw [e3]; exact Nat.zero_le _, fun x hx => wf_u8_bd (h4 x hx)⟩
  · simp only [List.cons.injEq, and_true] at hcs
    injection hcs with e1 e2 e3
    exact ⟨_, _, xs, rfl, h2, by omega, by omega, fun x hx => wf_u8_bd (h4 x hx)⟩
end
end Go.Proofs.Ytdaamgonendkkaa
