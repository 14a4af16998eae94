/- Contract of PutCode. Condition: none. -/
import Derived.Test.YtbljkdhokbhcdaaRows
import Derived.Test.YtbljkdhokbhcdaaBase
import Derived.Test.YtbljkdhokbhcdaaBase2
import Derived.Test.YtbljkdhokbhcdaaBase3
import Derived.Test.YtbljkdhokbhcdaaOnly
import Derived.Test.YtbljkdhokbhcdaaIn
import Derived.Test.YtbljkdhokbhcdaaIn2
import Derived.Test.YtbljkdhokbhcdaaGet2IS
import Derived.Test.YtbljkdhokbhcdaaPutS
import Derived.Test.YtbljkdhokbhcdaaMc
import Derived.Test.YtbljkdhokbhcdaaMcy
import Derived.Test.YtbljkdhokbhcdaaCd
import Derived.WalkKit
import Derived.WalkSpells
import Derived.WalkLawsBesides
import Derived.Handy
import Derived.BigQuiet
import Derived.Deep.RegionHeld3
import Derived.Deep.DrawnRows
import Derived.Deep.QuietTactic
import Derived.Deep.CutBlock
namespace Go.Proofs.Ytbljkdhokbhcdaa
open Go Go.RowKit

/-- Some bytes in a row of their own. -/
def GaveB (n : Nat) (w : World) (e : Ending) (w' : World) : Prop := ∃ (A : Option Addr) (c : Nat) (bs : List Int), e = .returned (.slice A bs.length c) ∧ w'.ownsRow w.heap.size 5 1 (.slice A bs.length c) bs.length (nums .u8 bs) ∧ bs.length ≤ n ∧ (∀ x ∈ bs, 0 ≤ x ∧ x ≤ 255) ∧ Below w.heap.size w w'
set_option maxRecDepth 100000 in
set_option maxHeartbeats 4000000 in
theorem putCode_any (d a : Int) (w : World) : Calls Try.prog 46 #[.agg #[.int .i64 d, .int .i64 a]] w (GaveB 3 w) := by
  obtain ⟨i0, hi0, hz0, hz1, hz2⟩ := info_parts u8_info
  have HB0 : Hid (Below w.heap.size w (w.alloc (.cells #[.int .i64 d, .int .i64 a] 57))) := (Below.refl _ _).alloc (Nat.le_refl _) _
  have HK0 := Lib.hid (Blk.new w 57 #[.int .i64 d, .int .i64 a])
  go_enter Try.func46, Try.ntmps46
  go_wp2_with fail
  refine (specCodeOk_any d a _).mono ?_
  rintro e w1 ⟨rfl, s9⟩
  have HB := Lib.hid (HB0.out.trans (s9.mono HB0.out.size))
  have HK := Lib.hid (HK0.out.below s9 HK0.out.lt)
  clear s9 HB0 HK0
  cases hok : codeOk d a
  · have HO := Lib.hid (World.ownsRow_lit (base := w.heap.size) (e := 5) (size := 1) w1 #[] 0 HB.out.size (by unfold maxLen; omega) rfl)
    have HB2 := Lib.hid (HB.out.alloc HB.out.size (.cells #[] 5))
    go_wp2
    go_ret
    exact ⟨_, _, [], rfl, HO.out, by simp, by simp, HB2.out⟩
  · have hd : 0 ≤ d ∧ d ≤ 7 := by
      rw [codeOk_spec] at hok
      simp only [Bool.and_eq_true] at hok
      exact inB_iff.1 hok.1
    have hdw : IntKind.u8.wrap d = d := by
      unfold IntKind.wrap
      simp [IntKind.signed, IntKind.bits]
      omega
    have x0 : w1.cell? ⟨w.heap.size, 0, none⟩ = some (.int .i64 d) := HK.out.cell 0
    have xz : w.heap.size < w1.heap.size := HK.out.lt
    have HO := Lib.hid (World.ownsRow_lit (base := w.heap.size) (e := 5) (size := 1) w1 #[.int .u8 d] 1 HB.out.size (by unfold maxLen; omega) rfl)
    have HB2 := Lib.hid (HB.out.alloc HB.out.size (.cells #[.int .u8 d] 5))
    have HK2 := Lib.hid (HK.out.alloc (.cells #[.int .u8 d] 5))
    go_wp2_with fail
    refine (specHas_any d _).mono ?_
    rintro e w2 ⟨rfl, s9⟩
    have HB3 := Lib.hid (HB2.out.trans (s9.mono HB2.out.size))
    have HO3 := Lib.hid (own_below HO.out s9)
    have HK3 := Lib.hid (HK2.out.below s9 HK2.out.lt)
    clear s9 HB HK HO HB2 HK2 x0 xz
    cases hA : hasA d
    · clear hA hok
      go_wp2
      go_ret
      exact ⟨_, _, [d], rfl, HO3.out, by simp, fun x hx => by rw [List.mem_singleton.1 hx]; omega, HB3.out⟩
    · have ha : 0 ≤ a ∧ a ≤ 65535 := by
        unfold codeOk at hok
        rw [if_pos hA] at hok
        exact inB_iff.1 hok
      have x1 : w2.cell? ⟨w.heap.size, 1, none⟩ = some (.int .i64 a) := HK3.out.cell 1
      clear hA hok
      go_wp2_with fail
      refine (specPut2_any a w2 ha.1 ha.2).mono ?_
      rintro e w3 ⟨A3, c3, rfl, o3, s9⟩
      have HB4 := Lib.hid (HB3.out.trans (s9.mono HB3.out.size))
      have HO4 := Lib.hid (own_below HO3.out s9)
      have HR4 := Lib.hid (Reads.of_own o3)
      clear s9 o3 HB3 HO3 HK3 x1
      go_wp2_with (at_builtin; refine wpList_append_any _ rfl (.tmp 15) (.tmp 18) _ rfl w.heap.size 5 i0 _ 1 1 Try.underlying25 hi0 hz0 hz1 hz2 rfl (by omega) _ 1 (nums .u8 [d]) rfl (by exact HO4.out) w3.heap.size A3 2 c3 (nums .u8 [a % 256, a / 256]) rfl (by exact HR4.out) (nums_one _ _) (by unfold maxLen; omega) (by omega) (by exact HB4.out.size) ?_; intro v' w5 ho hg hat; obtain ⟨A9, c9, rfl⟩ := own_sliceM ho; have HO5 := Lib.hid ho; have HB5 := Lib.hid (HB4.out.grown hg HB4.out.size (fun k hk => by have := (own_blkM HO4.out k hk).1; omega)); clear ho hg hat)
      go_ret
      exact ⟨A9, c9, [d, a % 256, a / 256], rfl, HO5.out, by simp, fun x hx => by
        simp only [List.mem_cons, List.not_mem_nil, or_false] at hx
        rcases hx with rfl | rfl | rfl <;> omega, HB5.out⟩
end Go.Proofs.Ytbljkdhokbhcdaa
