/- A number below a hundred, as the reference and Go's library write it. Condition: the size. -/
import Derived.Test.YthjjbgpeajeneaaDoorBase
import Derived.Test.YthjjbgpeajeneaaDoorDec
import Derived.Test.YthjjbgpeajeneaaDoorNum
import Derived.Test.YthjjbgpeajeneaaDoorShelf
namespace Go.Proofs.YthjjbgpeajeneaaDoor
open Go Go.RowKit

def decS (k : Nat) : ByteArray := ⟨(dec2 k).toArray⟩
theorem l8Number_small (k : Nat) (w : World) (h : k < 100) : Calls Tryd.prog 21 #[.int .i64 (k : Int)] w (Gives w (.string (decS k))) :=
  (l8Number_any (k : Int) w (by omega) (by omega)).mono fun e w' ⟨s, he, hn, hb⟩ => by
    have h1 := hn.2 (by omega) (by omega)
    rw [Int.toNat_natCast] at h1
    have h2 : s = decS k := by
      obtain ⟨a⟩ := s
      exact congrArg ByteArray.mk (Array.ext' h1)
    subst h2
    exact ⟨he, hb⟩
theorem itoa_small (k : Nat) (w : World) (h : k < 100) : Calls Tryd.prog 24 #[.int .i64 (k : Int)] w (Gives w (.string (decS k))) :=
  (Tryd.strconv_Itoa_small k h w).mono fun e w' ⟨he, hw⟩ => by
    subst hw
    rw [dec2_eq h] at he
    exact ⟨he, Below.refl _ _⟩
theorem decS_size {k : Nat} (h : k < 100) : (decS k).size ≤ 2 := by
  have := (dec2_len h).2
  simpa [decS, ByteArray.size] using this
end Go.Proofs.YthjjbgpeajeneaaDoor
