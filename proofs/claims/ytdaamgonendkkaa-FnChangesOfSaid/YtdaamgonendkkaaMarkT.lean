/- Contract of the laws' markText at every number. No condition. -/
import Derived.Test.YtdaamgonendkkaaRows
import Derived.Test.YtdaamgonendkkaaBase
import Derived.WalkKit
import Derived.WalkSpells
import Derived.WalkLawsBesides
import Derived.Handy
import Derived.Laws.BytesArg
namespace Go.Proofs.Ytdaamgonendkkaa
open Go Go.RowKit

theorem mk_conv (w : World) (x : Int) : (convert 22 9 (.slice (some ⟨w.heap.size, 0, none⟩) 1 1)).run Try.prog (w.alloc (.cells #[.int .u8 x] 5)) = .ok (.string (strOfNums [x])) (w.alloc (.cells #[.int .u8 x] 5)) := by
  exact run_convert_bytes_arg (P := Try.prog) _ 22 5 Try.underlying22 Try.underlying5 w.heap.size 0 1 1 [x] rfl (fun i hi => by
    obtain rfl : i = 0 := by simp at hi; omega
    exact World.cell?_alloc_at _ _ _ 0 rfl) _ Try.underlying9

def mkDig (k : Nat) (out : ByteArray) : ByteArray := if 0 < k then mkDig (k / 10) (strOfNums [48 + (k : Int) % 10] ++ out) else out
termination_by k
decreasing_by omega
theorem mkDig_pos {k : Nat} (out : ByteArray) (h : 0 < k) : mkDig k out = mkDig (k / 10) (strOfNums [48 + (k : Int) % 10] ++ out) := by rw [mkDig, if_pos h]
theorem mkDig_zero {k : Nat} (out : ByteArray) (h : ¬ 0 < k) : mkDig k out = out := by rw [mkDig, if_neg h]
/-- The text that stands for the number k. -/
def mkText (k : Int) : ByteArray := if k ≤ 0 then ⟨#[109, 48]⟩ else ⟨#[109]⟩ ++ mkDig k.toNat ⟨#[]⟩

set_option maxRecDepth 100000 in
set_option maxHeartbeats 1000000 in
theorem markText_any (k : Int) (w : World) (hk : k < 1099511627776) : Calls Try.prog 39 #[.int .i64 k] w (Gives w (.string (mkText k))) := by
  by_cases h0 : k ≤ 0
  · have HR := Lib.hid (show mkText k = ⟨#[109, 48]⟩ from if_pos h0)
    go_enter Try.func39, Try.ntmps39
    go_wp2
    go_ret
    rw [HR.out]
    exact ⟨rfl, Below.refl _ _⟩
  · have HR := Lib.hid (show mkText k = ⟨#[109]⟩ ++ mkDig k.toNat ⟨#[]⟩ from if_neg h0)
    have kc := mk_conv
    go_enter Try.func39, Try.ntmps39
    go_wp2
    go_loopw [0, 3] (fun kv s wr => ∃ j : Nat, ∃ b : ByteArray, kv = .int .i64 j ∧ s = .string b ∧ b.size + j ≤ k.toNat ∧ Hid (mkDig k.toNat ⟨#[]⟩ = mkDig j b) ∧ Below w.heap.size w wr) (fun kv _ _ => (intOf kv).toNat)
    case atStart => exact ⟨k.toNat, _, by simp; omega, rfl, by show 0 + _ ≤ _; omega, rfl, Below.refl _ _⟩
    case round =>
      obtain ⟨j, b, rfl, rfl, hz, he, hb⟩ := hrel
      by_cases hj : 0 < j
      · have HE : Hid (mkDig k.toNat ⟨#[]⟩ = mkDig (j / 10) (strOfNums [48 + (j : Int) % 10] ++ b)) := he.out.trans (mkDig_pos b hj)
        have hzs : (strOfNums [48 + (j : Int) % 10] ++ b).size = 1 + b.size := by rw [ByteArray.size_append, strOfNums_size]; rfl
        have hzt : (strOfNums [48 + (j : Int) % 10]).size = 1 := by rw [strOfNums_size]; rfl
        have HB := Lib.hid hb
        clear he hb
        go_wp2
        go_roundw
        case rel => exact ⟨j / 10, _, by go_num, rfl, by omega, HE, HB.out.alloc HB.out.size _⟩
        case measure => simp [intOf]; omega
      · have HE := Lib.hid (mkDig_zero b hj)
        go_wp2
        go_ret
        rw [HR.out, he.out, HE.out]
        exact ⟨rfl, hb⟩

end Go.Proofs.Ytdaamgonendkkaa
