/- Contract of the drawing of a name. Condition: not too many draws. -/
import Derived.Test.YtdaamgonendkkaaRows
import Derived.Test.YtdaamgonendkkaaBase
import Derived.Test.YtdaamgonendkkaaBase2
import Derived.Test.YtdaamgonendkkaaIn
import Derived.Test.YtdaamgonendkkaaName
import Derived.Test.YtdaamgonendkkaaPick
import Derived.Test.YtdaamgonendkkaaPick2
import Derived.WalkKit
import Derived.WalkSpells
import Derived.WalkLawsBesides
import Derived.Handy
import Derived.BigQuiet
import Derived.Deep.RegionHeld3
import Derived.Deep.DrawnRows
import Derived.Deep.QuietTactic
namespace Go.Proofs.Ytdaamgonendkkaa
open Go Go.RowKit

def nm6 : List ByteArray := [⟨#[]⟩, ⟨#[65]⟩, ⟨#[49, 97]⟩, ⟨#[97, 98, 99, 100, 101, 102, 103, 104, 105]⟩, ⟨#[97, 32, 98]⟩, ⟨#[97, 45, 98]⟩]
def nm10 : List ByteArray := [⟨#[109, 97, 105, 110]⟩, ⟨#[105, 110]⟩, ⟨#[99, 111, 100, 101]⟩, ⟨#[100, 97, 116, 97]⟩, ⟨#[95, 115, 116, 97, 114, 116]⟩, ⟨#[97, 114, 116]⟩, ⟨#[116]⟩, ⟨#[120, 49]⟩, ⟨#[46, 116, 101, 120, 116]⟩, ⟨#[112, 117, 116, 115]⟩]
theorem nm6_ok : ∀ s ∈ nm6, s.size ≤ 9 := by
  intro s hs
  simp only [nm6, List.mem_cons, List.not_mem_nil, or_false] at hs
  rcases hs with rfl | rfl | rfl | rfl | rfl | rfl <;> decide
theorem nm10_ok : ∀ s ∈ nm10, s.size ≤ 9 ∧ nameOk s = true := by
  intro s hs
  simp only [nm10, List.mem_cons, List.not_mem_nil, or_false] at hs
  rcases hs with rfl | rfl | rfl | rfl | rfl | rfl | rfl | rfl | rfl | rfl <;> exact ⟨by decide, by decide +kernel⟩
/-- A name was drawn. -/
def DrewName (w : World) (r P : Nat) (n : Int) (e : Ending) (w' : World) : Prop := ∃ s : ByteArray, e = .returned (.string s) ∧ (s.size ≤ 9 ∧ (n = 0 → nameOk s = true)) ∧ Rdr w' r (P + 2) ∧ w.grownBy w' (some r)
theorem l20Name_ten (r P : Nat) (n : Int) (w : World) (hr : Rdr w r P) (hP : P ≤ 900000) (hn : Calls Try.prog 77 #[.pointer (some ⟨r, 0, none⟩), .int .i64 n] w (Odd w r P)) (hno : n ≠ 0 ∨ Calls Try.prog 77 #[.pointer (some ⟨r, 0, none⟩), .int .i64 n] w fun e w' => e = .returned (.bool false) ∧ w = w') :
    Calls Try.prog 51 #[.pointer (some ⟨r, 0, none⟩), .int .i64 n] w (DrewName w r P n) := by
  have hrl := hr.lt
  by_cases h0 : n = 0
  · have hno := hno.resolve_left (fun h => h h0)
    have HNO := Lib.hid hno
    have HR := Lib.hid hr
    have H0 := Lib.hid h0
    clear hno hn hr h0
    go_enter Try.func51, Try.ntmps51
    go_wp2_with fail
    refine HNO.out.mono ?_
    rintro e w1 ⟨rfl, rfl⟩
    go_wp2_with fail
    refine (pick_any r _ 10 _ (HR.out.alloc _) (by omega) (by omega) (by omega)).mono ?_
    rintro e w2 ⟨v, rfl, ⟨va, vb⟩, hr2, hg2⟩
    have hK : Blk w2 w.heap.size 9 (texts nm10).toArray := (Blk.new w 9 (texts nm10).toArray).grown hg2 (by simp; omega)
    obtain ⟨s, hs, hcs⟩ := lits_at hK va (by simp [nm10]; omega)
    clear hK
    have HS := Lib.hid hs
    have HG := Lib.hid (gr_trans (gr_alloc (grown_refl w (some r)) _) hg2)
    clear hs hg2
    go_wp2
    go_ret
    exact ⟨s, rfl, ⟨(nm10_ok s HS.out).1, fun _ => (nm10_ok s HS.out).2⟩, hr2.more (by omega), HG.out⟩
  · have HN := Lib.hid hn
    have HR := Lib.hid hr
    have H0 := Lib.hid h0
    clear hno hn hr h0
    go_enter Try.func51, Try.ntmps51
    go_wp2_with fail
    refine HN.out.mono ?_
    rintro e w1 ⟨b, rfl, hr1, hg1⟩
    have hz1 := hg1.size
    cases b
    · go_wp2_with fail
      refine (pick_any r _ 10 _ (hr1.alloc _) (by omega) (by omega) (by omega)).mono ?_
      rintro e w2 ⟨v, rfl, ⟨va, vb⟩, hr2, hg2⟩
      have hK : Blk w2 w1.heap.size 9 (texts nm10).toArray := (Blk.new w1 9 (texts nm10).toArray).grown hg2 (by simp; omega)
      obtain ⟨s, hs, hcs⟩ := lits_at hK va (by simp [nm10]; omega)
      clear hK
      have HS := Lib.hid hs
      have HG := Lib.hid (gr_trans (gr_alloc hg1 _) hg2)
      clear hs hg2 hg1
      go_wp2
      go_ret
      exact ⟨s, rfl, ⟨(nm10_ok s HS.out).1, fun _ => (nm10_ok s HS.out).2⟩, hr2.more (by omega), HG.out⟩
    · go_wp2_with fail
      refine (pick_any r _ 6 _ (hr1.alloc _) (by omega) (by omega) (by omega)).mono ?_
      rintro e w2 ⟨v, rfl, ⟨va, vb⟩, hr2, hg2⟩
      have hK : Blk w2 w1.heap.size 9 (texts nm6).toArray := (Blk.new w1 9 (texts nm6).toArray).grown hg2 (by simp; omega)
      obtain ⟨s, hs, hcs⟩ := lits_at hK va (by simp [nm6]; omega)
      clear hK
      have HS := Lib.hid hs
      have HG := Lib.hid (gr_trans (gr_alloc hg1 _) hg2)
      clear hs hg2 hg1
      go_wp2
      go_ret
      exact ⟨s, rfl, ⟨nm6_ok s HS.out, fun h => absurd h H0.out⟩, hr2.more (by omega), HG.out⟩
theorem l20Name_any (r P : Nat) (n : Int) (w : World) (hr : Rdr w r P) (hP : P ≤ 900000) (hn : 0 ≤ n) (hn2 : n ≤ 1000) : Calls Try.prog 51 #[.pointer (some ⟨r, 0, none⟩), .int .i64 n] w (DrewName w r P n) :=
  l20Name_ten r P n w hr hP (odd_any r P n w hr (by omega) hn (by omega)) (by
    by_cases h : n = 0
    · subst h; exact .inr (odd_zero r w)
    · exact .inl h)
end Go.Proofs.Ytdaamgonendkkaa
