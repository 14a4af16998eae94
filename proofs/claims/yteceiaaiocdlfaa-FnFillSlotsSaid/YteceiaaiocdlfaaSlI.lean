/- Contract of the program's SlotsOf. Condition: the sizes. -/
import Derived.Test.YteceiaaiocdlfaaRows
import Derived.Test.YteceiaaiocdlfaaBase
import Derived.Test.YteceiaaiocdlfaaBase2
import Derived.Test.YteceiaaiocdlfaaIn
import Derived.Test.YteceiaaiocdlfaaName
import Derived.Test.YteceiaaiocdlfaaStrS
import Derived.Test.YteceiaaiocdlfaaFindS
import Derived.Test.YteceiaaiocdlfaaSlt
import Derived.Test.YteceiaaiocdlfaaAre
import Derived.Test.YteceiaaiocdlfaaSorted
import Derived.Test.YteceiaaiocdlfaaSlS
import Derived.WalkKit
import Derived.WalkSpells
import Derived.WalkLawsBesides
import Derived.Handy
import Derived.BigQuiet
import Derived.Deep.RegionHeld3
import Derived.Deep.DrawnRows
import Derived.Deep.QuietTactic
namespace Go.Proofs.Yteceiaaiocdlfaa
open Go Go.RowKit

set_option maxHeartbeats 1000000 in
theorem implSlots_any {A : Option Addr} {c B : Nat} (ns : List ByteArray) (w : World) (h1 : Reads w B 1 A ns.length (texts ns)) (hB : B ≤ w.heap.size) (hm : ns.length ≤ 1048576) (hs : ∀ s ∈ ns, s.size ≤ maxLen) :
    Calls Try.prog 33 #[.slice A ns.length c] w (GaveSlots ns w) := by
  have HA := Lib.hid (areNames_any (c := c) ns w h1 hB (by unfold maxLen; omega) hs)
  have HR := Lib.hid h1
  clear hs h1
  cases hn : namesB ns with
  | false =>
    rw [hn] at HA
    have HN := Lib.hid hn
    clear hn
    go_enter Try.func33, Try.ntmps33
    go_wp2_with fail
    refine HA.out.mono ?_
    rintro e w1 ⟨rfl, hb⟩
    go_wp2
    go_ret
    exact ⟨[], ⟨none, 0, rfl, ⟨rfl, .inl ⟨rfl, rfl⟩⟩, hb⟩, .inr ⟨HN.out, rfl⟩, Nat.zero_le _⟩
  | true =>
    rw [hn] at HA
    have h40 : ns.length ≤ 40 := by
      unfold namesB at hn
      rw [Bool.and_eq_true] at hn
      exact of_decide_eq_true hn.1
    have HI : Hid (IsSlots ns ((sortL ns).map mk8)) := sortL_slots hn
    have hsl := sortL_len ns
    have HL : Hid (((sortL ns).map mk8).length = (sortL ns).length) := by unfold Hid; simp
    clear hn
    go_enter Try.func33, Try.ntmps33
    go_wp2_with fail
    refine HA.out.mono ?_
    rintro e w1 ⟨rfl, hb⟩
    have HB1 := Lib.hid hb
    have HS := Lib.hid (sorted_any (c := c) ns w1 ((HR.out.more hB).below hb) h40)
    clear hb HA
    go_wp2_with fail
    refine HS.out.mono ?_
    rintro e w2 ⟨A2, c2, rfl, ho, hb2⟩
    have HO := Lib.hid (own_base ho HB1.out.size)
    have HB2 := Lib.hid (HB1.out.trans (hb2.mono HB1.out.size))
    clear ho hb2 HS
    go_wp2
    go_ret
    exact ⟨(sortL ns).map mk8, ⟨A2, c2, congrArg (fun n => Ending.returned (Value.slice A2 n c2)) HL.out.symm, by rw [HL.out]; exact HO.out, HB2.out⟩, HI.out, by rw [HL.out]; exact hsl⟩
/-- The slots. -/
def slotsOf (ns : List ByteArray) : List ByteArray := if namesB ns then (sortL ns).map mk8 else []
theorem slotsOf_is (ns : List ByteArray) : IsSlots ns (slotsOf ns) := by
  unfold slotsOf
  cases h : namesB ns with
  | true => exact sortL_slots h
  | false => exact .inr ⟨h, rfl⟩
theorem slotsOf_len (ns : List ByteArray) : (slotsOf ns).length ≤ ns.length := by
  unfold slotsOf
  split
  · rw [List.length_map]; exact sortL_len ns
  · exact Nat.zero_le _
theorem GaveSlots.fresh {ns : List ByteArray} {w w' : World} {e : Ending} (h : GaveSlots ns w e w') : Fresh 9 1 w (slotsOf ns).length (texts (slotsOf ns)) e w' := by
  obtain ⟨l, hf, hi, _⟩ := h
  rw [(slotsOf_is ns).one hi]
  exact hf
theorem specSlotsF {A : Option Addr} {c B : Nat} (ns : List ByteArray) (w : World) (h1 : Reads w B 1 A ns.length (texts ns)) (hB : B ≤ w.heap.size) (hm : ns.length ≤ 1048576) (hs : ∀ s ∈ ns, s.size ≤ maxLen) :
    Calls Try.prog 32 #[.slice A ns.length c] w (Fresh 9 1 w (slotsOf ns).length (texts (slotsOf ns))) := (specSlots_any (c := c) ns w h1 hB hm hs).mono fun _ _ h => h.fresh
theorem implSlotsF {A : Option Addr} {c B : Nat} (ns : List ByteArray) (w : World) (h1 : Reads w B 1 A ns.length (texts ns)) (hB : B ≤ w.heap.size) (hm : ns.length ≤ 1048576) (hs : ∀ s ∈ ns, s.size ≤ maxLen) :
    Calls Try.prog 33 #[.slice A ns.length c] w (Fresh 9 1 w (slotsOf ns).length (texts (slotsOf ns))) := (implSlots_any (c := c) ns w h1 hB hm hs).mono fun _ _ h => h.fresh
end Go.Proofs.Yteceiaaiocdlfaa
