/- Contract of the drawing of a list. Condition: not too many draws. -/
import Derived.Test.YtogdeekjfgbneaaRows
import Derived.Test.YtogdeekjfgbneaaBase
import Derived.Test.YtogdeekjfgbneaaBase2
import Derived.Test.YtogdeekjfgbneaaIn
import Derived.Test.YtogdeekjfgbneaaName
import Derived.Test.YtogdeekjfgbneaaVer
import Derived.Test.YtogdeekjfgbneaaVerF
import Derived.Test.YtogdeekjfgbneaaVerG
import Derived.Test.YtogdeekjfgbneaaPick
import Derived.Test.YtogdeekjfgbneaaPick2
import Derived.Test.YtogdeekjfgbneaaDrawN
import Derived.Test.YtogdeekjfgbneaaDrawV
import Derived.WalkKit
import Derived.WalkSpells
import Derived.WalkLawsBesides
import Derived.Handy
import Derived.BigQuiet
import Derived.Deep.RegionHeld3
import Derived.Deep.DrawnRows
import Derived.Deep.QuietTactic
namespace Go.Proofs.Ytogdeekjfgbneaa
open Go Go.RowKit


theorem l20Versions_info : (Try.prog.info? 26).map (fun i => (i.zero, i.size, i.bytes)) = some (some (.agg #[.string ByteArray.empty, .int .i64 0]), 2, 24) := by kernel_rfl
/-- A list was drawn. -/
def l20VersionsDrew (w : World) (r P : Nat) (n : Int) (e : Ending) (w' : World) : Prop :=
  ∃ (A : Option Addr) (c : Nat) (xs : List Ver), e = .returned (.slice A xs.length c) ∧ w'.ownsRow w.heap.size 26 2 (.slice A xs.length c) xs.length (xs.flatMap Ver.cells) ∧ xs.length ≤ 5 ∧ (∀ x ∈ xs, x.name.size ≤ 9 ∧ 0 ≤ x.number ∧ x.number ≤ 100 ∧ (n = 0 → verOk x = true)) ∧ Rdr w' r (P + 31) ∧ w.grownBy w' (some r)
set_option maxRecDepth 100000 in
set_option maxHeartbeats 4000000 in
theorem l20Versions_any (r P : Nat) (n : Int) (w : World) (hr : Rdr w r P) (hP : P ≤ 700000) (hn : 0 ≤ n) (hn2 : n ≤ 1000) : Calls Try.prog 34 #[.pointer (some ⟨r, 0, none⟩), .int .i64 n] w (l20VersionsDrew w r P n) := by
  obtain ⟨i0, hi0, hz0, hz1, hz2⟩ := info_parts l20Versions_info
  have hrl := hr.lt
  have HR := Lib.hid hr
  clear hr
  go_enter Try.func34, Try.ntmps34
  go_wp2_with fail
  refine (pick_any r _ 6 _ (HR.out.alloc _) (by omega) (by omega) (by omega)).mono ?_
  rintro e w1 ⟨v1, rfl, ⟨v1a, v1b⟩, hr1, hg1⟩
  have o1 : w1.ownsRow w.heap.size 26 2 (.slice (some ⟨w.heap.size, 0, none⟩) 0 0) 0 (([] : List Ver).flatMap Ver.cells) :=
    own_pick (World.ownsRow_lit (base := w.heap.size) (e := 26) (size := 2) w #[] 0 (Nat.le_refl _) (by unfold maxLen; omega) rfl) hg1 hrl
  have HG1 := Lib.hid (gr_trans (gr_alloc (grown_refl w (some r)) _) hg1)
  have HR1 := Lib.hid hr1
  clear hr1 hg1 HR
  obtain ⟨m1, hm1⟩ : ∃ m : Nat, v1 = m := ⟨v1.toNat, by omega⟩
  subst hm1
  go_wp2
  go_loopw [5, 6] (fun v i wr => ∃ (k j : Nat) (A1 : Option Addr) (c1 : Nat) (xs : List Ver), k + j = m1 ∧ i = .int .i64 j ∧ v = .slice A1 k c1 ∧ Hid (xs.length = k ∧ ∀ x ∈ xs, x.name.size ≤ 9 ∧ 0 ≤ x.number ∧ x.number ≤ 100 ∧ (n = 0 → verOk x = true)) ∧ Hid (wr.ownsRow w.heap.size 26 2 (.slice A1 k c1) k (xs.flatMap Ver.cells)) ∧ Hid (Rdr wr r (P + 1 + 6 * k)) ∧ Hid (w.grownBy wr (some r))) (fun _ i _ => (intOf i).toNat)
  case atStart => exact ⟨0, m1, _, _, [], by omega, rfl, rfl, ⟨rfl, by simp⟩, o1, HR1, HG1⟩
  case round =>
    obtain ⟨k, j, A1, c1, xs, hkj, rfl, rfl, HX, Ha, HRk, HGk⟩ := hrel
    clear o1 HR1 HG1
    have hgz := HGk.out.size
    have hkm : k ≤ 5 := by omega
    by_cases hj : 0 < j
    · have hj7 : j ≤ 5 := by omega
      have HKJ := Lib.hid hkj
      clear hkj
      go_wp2_with fail
      refine (l20Version_any r _ n _ HRk.out (by omega) hn (by omega)).mono ?_
      rintro e w2 ⟨⟨nm, num⟩, rfl, hq, hr2, hg2⟩
      replace Ha := Lib.hid (own_pick Ha.out hg2 hrl)
      have HG2 := Lib.hid (gr_trans HGk.out hg2)
      have HR2 := Lib.hid hr2
      have zz2 := HG2.out.size
      have HQ : Hid ((⟨nm, num⟩ : Ver).name.size ≤ 9 ∧ 0 ≤ (⟨nm, num⟩ : Ver).number ∧ (⟨nm, num⟩ : Ver).number ≤ 100 ∧ (n = 0 → verOk ⟨nm, num⟩ = true)) := hq
      clear HGk HRk hr2 hg2 hq
      simp only [Ver.val]
      go_wp2_with (at_builtin; refine wpList_push _ rfl (.tmp 14) (.tmp 18) _ rfl w.heap.size 26 i0 _ 2 24 Try.underlying36 hi0 hz0 hz1 hz2 rfl (by omega) (by omega) A1 k c1 1 1 (xs.flatMap Ver.cells) [.string nm, .int .i64 num] (by exact Ha.out.alloc _) rfl ⟨w2.heap.size, 0, none⟩ rfl rfl (World.news_of_block (cs := #[.string nm, .int .i64 num]) (t := 26) (fr := (0, 0)) (by exact heap_alloc_new w2 _)) (by simp [Value.oneCell']) (by omega) (by omega) (by simp; omega) ?_; intro A' c' w5 hown5 hgrow5 hat5 hkeep5)
      go_roundw
      case rel =>
        have hkj := HKJ.out
        have e1 : (xs ++ [(⟨nm, num⟩ : Ver)]).flatMap Ver.cells = xs.flatMap Ver.cells ++ [.string nm, .int .i64 num] := by simp [Ver.cells]
        refine ⟨k + 1, j - 1, A', c', xs ++ [(⟨nm, num⟩ : Ver)], by omega, by go_num, rfl, Lib.hid ⟨by have := HX.out.1; simp; omega, fun x hx => ?_⟩, Lib.hid ?_, Lib.hid ?_, ?_⟩
        · rcases List.mem_append.1 hx with hx | hx
          · exact HX.out.2 x hx
          · rw [List.mem_singleton.1 hx]; exact HQ.out
        · rw [e1]; exact hown5
        · exact ((HR2.out.alloc _).row hgrow5 (Ha.out.alloc _) hrl).more (by omega)
        · exact gr_row (gr_alloc HG2.out _) hgrow5 (Ha.out.alloc _) (Nat.le_refl _)
      case measure => simp [intOf]; omega
    · obtain rfl : j = 0 := by omega
      have hxl := HX.out.1
      go_wp2
      go_ret
      subst hxl
      exact ⟨A1, c1, xs, rfl, Ha.out, by omega, HX.out.2, HRk.out.more (by omega), HGk.out⟩
end Go.Proofs.Ytogdeekjfgbneaa
