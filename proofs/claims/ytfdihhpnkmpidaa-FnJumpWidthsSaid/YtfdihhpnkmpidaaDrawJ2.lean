/- The drawn arguments of the laws on jumps. No condition but the code's size. -/
import Derived.Test.YtfdihhpnkmpidaaRows
import Derived.Test.YtfdihhpnkmpidaaBase
import Derived.Test.YtfdihhpnkmpidaaBase2
import Derived.Test.YtfdihhpnkmpidaaIn
import Derived.Test.YtfdihhpnkmpidaaIn2
import Derived.Test.YtfdihhpnkmpidaaFindI
import Derived.Test.YtfdihhpnkmpidaaJumpV
import Derived.Test.YtfdihhpnkmpidaaPick
import Derived.Test.YtfdihhpnkmpidaaPick2
import Derived.Test.YtfdihhpnkmpidaaOpenC
import Derived.Test.YtfdihhpnkmpidaaDrawJ
import Derived.WalkKit
import Derived.WalkSpells
import Derived.WalkLawsBesides
import Derived.Handy
import Derived.BigQuiet
import Derived.Deep.RegionHeld3
import Derived.Deep.DrawnRows
import Derived.Deep.QuietTactic
namespace Go.Proofs.Ytfdihhpnkmpidaa
open Go Go.RowKit

/-- Two lists were drawn. -/
def DrewTwo (n : Int) (w : World) (e : Ending) (w' : World) : Prop :=
  ∃ (A1 : Option Addr) (c1 : Nat) (xs : List Int) (A2 : Option Addr) (c2 : Nat) (ts : List Int), e = .returned (.tuple #[.slice A1 xs.length c1, .slice A2 ts.length c2]) ∧
    w'.ownsRow w.heap.size 3 1 (.slice A1 xs.length c1) xs.length (nums .i64 xs) ∧ w'.ownsRow w.heap.size 3 1 (.slice A2 ts.length c2) ts.length (nums .i64 ts) ∧ Apart A1 A2 ∧
    (xs.length ≤ 7 ∧ ts.length ≤ 7) ∧ (n = 0 → jumpsOk xs ts = true) ∧ Below w.heap.size w w'

theorem DrawJumpsValid_any {A : Option Addr} {c : Nat} (xs : List Int) (w : World) (h1 : Reads w w.heap.size 1 A xs.length (nums .u8 xs)) (hx : ∀ x ∈ xs, 0 ≤ x ∧ x ≤ 255) (hm : xs.length ≤ 1048576) (hc : xs.length ≤ c) (hc2 : c ≤ maxLen) :
    Calls Try.prog 15 #[.slice A xs.length c] w (DrewTwo 2 w) := by
  have HO := Lib.hid (open_any xs w h1 hx hm hc hc2)
  clear h1 hx
  go_enter Try.func15, Try.ntmps15
  go_wp2_with fail
  refine HO.out.mono ?_
  rintro e w1 ⟨rfl, hr, hz, hb⟩
  have HZ := Lib.hid hz
  clear hz
  go_wp2_with fail
  refine (l20Jumps_any _ 0 2 _ hr (by omega) (by omega) (by omega)).mono ?_
  rintro e w2 ⟨A1, c1, us, A2, c2, ts, rfl, oa, ob, hap, hl, hv, hr2, hg⟩
  go_wp2
  refine bodyPost_ret (v := .tuple #[.slice A1 us.length c1, .slice A2 ts.length c2]) (by simp [results, Try.results15, go_sem]) rfl ?_
  exact ⟨A1, c1, us, A2, c2, ts, rfl, own_base oa hb.size, own_base ob hb.size, hap, hl, hv, below_gr hb hg (Nat.le_refl _)⟩

theorem DrawJumpWidths_any {A : Option Addr} {c : Nat} (xs : List Int) (w : World) (h1 : Reads w w.heap.size 1 A xs.length (nums .u8 xs)) (hx : ∀ x ∈ xs, 0 ≤ x ∧ x ≤ 255) (hm : xs.length ≤ 1048576) (hc : xs.length ≤ c) (hc2 : c ≤ maxLen) :
    Calls Try.prog 28 #[.slice A xs.length c] w (DrewTwo 9 w) := by
  have HO := Lib.hid (open_any xs w h1 hx hm hc hc2)
  clear h1 hx
  go_enter Try.func28, Try.ntmps28
  go_wp2_with fail
  refine HO.out.mono ?_
  rintro e w1 ⟨rfl, hr, hz, hb⟩
  have HZ := Lib.hid hz
  clear hz
  go_wp2_with fail
  refine (l20Jumps_any _ 0 9 _ hr (by omega) (by omega) (by omega)).mono ?_
  rintro e w2 ⟨A1, c1, us, A2, c2, ts, rfl, oa, ob, hap, hl, hv, hr2, hg⟩
  go_wp2
  refine bodyPost_ret (v := .tuple #[.slice A1 us.length c1, .slice A2 ts.length c2]) (by simp [results, Try.results28, go_sem]) rfl ?_
  exact ⟨A1, c1, us, A2, c2, ts, rfl, own_base oa hb.size, own_base ob hb.size, hap, hl, hv, below_gr hb hg (Nat.le_refl _)⟩
end Go.Proofs.Ytfdihhpnkmpidaa
