/- Contracts of within and of l1In where the answer is known; a closure's. No condition. -/
import Derived.Test.YtgibmbjdnppiaaaRows
import Derived.Test.YtgibmbjdnppiaaaBase
import Derived.Test.YtgibmbjdnppiaaaIn
import Derived.WalkKit
namespace Go.Proofs.Ytgibmbjdnppiaaa
open Go Go.RowKit

theorem within_k {n lo hi : Int} {b : Bool} (h : Hid (inB n lo hi = b)) (w : World) : Calls Try.prog 30 #[.int .i64 n, .int .i64 lo, .int .i64 hi] w fun e w' => e = .returned (.bool b) ∧ w' = w :=
  (within_any n lo hi w).mono fun _ _ ⟨he, hw⟩ => ⟨by rw [he, h.out], hw.symm⟩
theorem l1In_k {n lo hi : Int} {b : Bool} (h : Hid (inB n lo hi = b)) (w : World) : Calls Try.prog 28 #[.int .i64 n, .int .i64 lo, .int .i64 hi] w fun e w' => e = .returned (.bool b) ∧ w' = w :=
  (l1In_any n lo hi w).mono fun _ _ ⟨he, hw⟩ => ⟨by rw [he, h.out], hw.symm⟩
end Go.Proofs.Ytgibmbjdnppiaaa
