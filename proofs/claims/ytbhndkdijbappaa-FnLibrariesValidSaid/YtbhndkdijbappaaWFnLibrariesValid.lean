/- The walk of FnLibrariesValid. No condition. -/
import Derived.Test.YtbhndkdijbappaaRows
import Derived.Test.YtbhndkdijbappaaBase
import Derived.Test.YtbhndkdijbappaaBase2
import Derived.Test.YtbhndkdijbappaaBase3
import Derived.Test.YtbhndkdijbappaaBase4
import Derived.Test.YtbhndkdijbappaaBase5
import Derived.Test.YtbhndkdijbappaaOnly
import Derived.Test.YtbhndkdijbappaaOpen
import Derived.Test.YtbhndkdijbappaaIn
import Derived.Test.YtbhndkdijbappaaName
import Derived.Test.YtbhndkdijbappaaStrS
import Derived.Test.YtbhndkdijbappaaFindS
import Derived.Test.YtbhndkdijbappaaIdxI
import Derived.Test.YtbhndkdijbappaaIdxS
import Derived.Test.YtbhndkdijbappaaLb
import Derived.Test.YtbhndkdijbappaaFindLb
import Derived.Test.YtbhndkdijbappaaLibs
import Derived.Test.YtbhndkdijbappaaLibV
import Derived.Test.YtbhndkdijbappaaLibW
import Derived.Test.YtbhndkdijbappaaLoadP
import Derived.Test.YtbhndkdijbappaaLoadI
import Derived.Test.YtbhndkdijbappaaLoadS
import Derived.Test.YtbhndkdijbappaaLibG
import Derived.Test.YtbhndkdijbappaaLibN
import Derived.Test.YtbhndkdijbappaaLibM
import Derived.Test.YtbhndkdijbappaaLoadQ
import Derived.Test.YtbhndkdijbappaaAlive
import Derived.Test.YtbhndkdijbappaaPick
import Derived.Test.YtbhndkdijbappaaPick2
import Derived.Test.YtbhndkdijbappaaOpenC
import Derived.Test.YtbhndkdijbappaaReg
import Derived.Test.YtbhndkdijbappaaRegS
import Derived.Test.YtbhndkdijbappaaDrawLiP
import Derived.Test.YtbhndkdijbappaaDrawLi
import Derived.Test.YtbhndkdijbappaaDrawLo2
import Derived.WalkKit
import Derived.WalkSpells
import Derived.WalkLawsBesides
import Derived.Handy
import Derived.BigQuiet
import Derived.Deep.RegionHeld3
import Derived.Deep.DrawnRows
import Derived.Deep.QuietTactic
namespace Go.Proofs.Ytbhndkdijbappaa
open Go Go.RowKit

theorem lb_one (l : List Lb) : ∀ u ∈ l.flatMap Lb.cells, u.oneCell' = true := by
  intro u hu
  rw [List.mem_flatMap] at hu
  obtain ⟨x, _, hx⟩ := hu
  simp only [Lb.cells, List.mem_cons, List.not_mem_nil, or_false] at hx
  rcases hx with rfl | rfl | rfl <;> rfl
theorem lb_drop1 (l : Lb) (ls : List Lb) : ((l :: ls).flatMap Lb.cells).drop (1 * 3) = ls.flatMap Lb.cells := by simp [Lb.cells]
set_option maxRecDepth 100000 in
set_option maxHeartbeats 8000000 in
theorem FnLibrariesValid_walk (W : World) (v0 : Value) (a0 : ArgCode W v0) : Calls Try.prog 3 #[v0] W (Gives W (.bool true)) := by
  obtain ⟨A, c, cs, rfl, hr, hc1, hc2, hcb⟩ := a0
  by_cases hl : cs.length ≤ 1048576
  · have HD := Lib.hid (DrawLibrariesValid_any cs W hr hcb hl hc1 hc2)
    clear hcb hr
    unfold maxLen at hc2
    go_enter Try.func3, Try.ntmps3
    go_wp2_with fail
    refine HD.out.mono ?_
    rintro e w1 ⟨A1, c1, ls, rfl, hrow, hl6, hsm, b1⟩
    clear HD
    have hcap := hrow.cap
    have HSM := Lib.hid hsm
    clear hsm
    go_wp2_with fail
    refine (implLibs_any ls _ hrow.at_ (Nat.le_refl _) (by omega) hcap HSM.out).mono ?_
    rintro e w2 ⟨rfl, s2⟩
    replace hrow := hrow.below s2
    have b2 := b1.trans (s2.mono b1.size)
    clear s2
    go_wp2_with fail
    refine (specLibs_any ls _ hrow.at_ (Nat.le_refl _) (by omega) hcap HSM.out).mono ?_
    rintro e w3 ⟨rfl, s3⟩
    have HROW := Lib.hid (hrow.below s3)
    have HB := Lib.hid (b2.trans (s3.mono b2.size))
    clear s3 b1 b2 hrow
    have zz := HB.out.size
    cases hj : libsOk (ls.map Lb.v)
    · clear hj
      go_wp2_with fail
      refine (alive_any _).mono ?_
      rintro e w' ⟨rfl, rfl⟩
      go_wp2
      go_ret
      exact ⟨rfl, HB.out⟩
    · have HJ := Lib.hid hj
      clear hj
      match ls, HROW, HSM, hl6, hcap, HJ with
      | [], HROW, HSM, hl6, hcap, HJ =>
        go_wp2_with fail
        refine (alive_any _).mono ?_
        rintro e w' ⟨rfl, rfl⟩
        go_wp2
        go_ret
        exact ⟨rfl, HB.out⟩
      | l :: ls, HROW, HSM, hl6, hcap, HJ =>
        have HT : Hid (libsOk (ls.map Lb.v) = true) := libs_tail HJ.out
        have H2 : Hid (libsOk ((l :: l :: ls).map Lb.v) = false) := libs_twice
        simp only [List.length_cons] at hl6 hcap
        obtain ⟨b, off, hA, hbl, x0, x1, x2⟩ := Lb.at_ HROW.out.at_.1 (k := 0) (by simp)
        subst hA
        simp only [List.getElem_cons_zero, Nat.zero_mul, Nat.add_zero] at x0 x1 x2
        have R2 := (HROW.out.at_.1).cut (k := 1) (cap := c1) (by simp) (by simpa using hcap)
        rw [lb_drop1] at R2
        have HV : Hid (∀ (A' : Option Addr), Reads w3 w3.heap.size 3 A' ls.length (ls.flatMap Lb.cells) → Calls Try.prog 12 #[.slice A' ls.length (c1 - 1)] w3 (Gives w3 (.bool true))) := fun A' h => by
          have hh := implLibs_any (A := A') (c := c1 - 1) ls w3 ⟨h, fun x hx => (HROW.out.2 x (List.mem_cons_of_mem _ hx)).in_⟩ (Nat.le_refl _) (by omega) (by omega) (fun x hx => HSM.out x (List.mem_cons_of_mem _ hx))
          rw [HT.out] at hh
          exact hh
        have i1 : (1 : Int) ≤ (c1 : Int) := by omega
        have i2 : (1 : Int) ≤ ((ls.length + 1 : Nat) : Int) := by omega
        have i3 : ((ls.length + 1 : Nat) : Int) ≤ (c1 : Int) := by omega
        have i4 : ((((ls.length : Nat) : Int) + 1) == 0) = false := by simp; omega
        obtain ⟨j0, gi0, gz0, gz1, gz2⟩ := info_parts lib_info
        have HROW' : Hid (w3.ownsRow W.heap.size 29 3 (.slice (some ⟨b, off, none⟩) (ls.length + 1) c1) (ls.length + 1) ((l :: ls).flatMap Lb.cells)) := HROW.out.1
        by_cases hcc : c1 = 1
        · rw [if_pos hcc] at R2
          have HV2 := Lib.hid (HV.out _ R2)
          clear R2 HV
          subst hcc
          obtain rfl : ls = [] := List.eq_nil_of_length_eq_zero (by omega)
          go_wp2_with fail
          refine HV2.out.mono ?_
          rintro e w4 ⟨rfl, s4⟩
          have HROW4 := Lib.hid (HROW.out.below s4)
          have HB4 := Lib.hid (HB.out.trans (s4.mono HB.out.size))
          have zz4 := HB4.out.size
          have k0 := (s4.cell (p := ⟨b, off, none⟩) hbl).trans x0
          have k1 := (s4.cell (p := ⟨b, off + 1, none⟩) hbl).trans x1
          have k2 := (s4.cell (p := ⟨b, off + 2, none⟩) hbl).trans x2
          clear s4 HV2 HROW HB x0 x1 x2 HROW'
          go_wp2_with (at_builtin; refine wpList_appendSG _ (by rfl) (.tmp 31) (.tmp 32) _ rfl W.heap.size 29 j0 _ 3 64 Try.underlying23 gi0 gz0 gz1 gz2 rfl (by omega) (by omega) (some ⟨w4.heap.size, 0, none⟩) 1 1 l.cells rfl (by exact World.ownsRow_lit (base := W.heap.size) (e := 29) (size := 3) w4 #[.string l.name, .slice l.needsA l.needs.length l.needsc, .slice l.givesA l.gives.length l.givesc] 1 (by omega) (by unfold maxLen; omega) rfl) w4.heap.size (some ⟨b, off, none⟩) 1 1 ([l].flatMap Lb.cells) rfl (by exact HROW4.out.at_.1.alloc (Nat.le_refl _) _) (lb_one _) (by omega) (by first | omega | (simp <;> omega)) ?_; intro Ax cx w5 ho5 hg5 ha5)
          have s5 : Below w4.heap.size w4 w5 := below_lit hg5 (Nat.le_refl _)
          have HB5 := Lib.hid (HB4.out.trans (s5.mono HB4.out.size))
          have hcap5 : 1 + 1 ≤ cx := by
            rcases ho5.2 with ⟨hv, h0⟩ | ⟨g', cap, cur, hv, _, _, hnc, hcm, _⟩
            · simp at h0
            · injection hv with h1 h2 h3
              omega
          have HV5 := Lib.hid (implLibs_any (A := Ax) (c := cx) [l, l] w5 ⟨by have h := Reads.of_own ho5; simpa [Nat.add_comm, Lb.cells] using h, fun x hx => by
            have hx' : x ∈ [l] := by
              rcases List.mem_cons.1 hx with rfl | hx
              · exact List.mem_cons_self
              · exact hx
            exact (((HROW4.out.2 x hx').below s5)).in_⟩ (Nat.le_refl _) (by simp <;> omega) (by simp at hcap5 ⊢ <;> omega) (fun x hx => HSM.out x (by
              rcases List.mem_cons.1 hx with rfl | hx
              · exact List.mem_cons_self
              · exact hx)))
          rw [H2.out] at HV5
          clear ho5 hg5 ha5 s5 HROW4 HB4 k0 k1 k2
          rw [show ([l, l] : List Lb).length = 2 from rfl] at HV5
          refine HV5.out.mono ?_
          rintro e w6 ⟨rfl, s6⟩
          go_wp2
          go_ret
          exact ⟨rfl, HB5.out.trans (s6.mono HB5.out.size)⟩
        · rw [if_neg hcc] at R2
          have HV2 := Lib.hid (HV.out _ R2)
          clear R2 HV
          go_wp2_with fail
          refine HV2.out.mono ?_
          rintro e w4 ⟨rfl, s4⟩
          have HROW4 := Lib.hid (HROW.out.below s4)
          have HB4 := Lib.hid (HB.out.trans (s4.mono HB.out.size))
          have zz4 := HB4.out.size
          have k0 := (s4.cell (p := ⟨b, off, none⟩) hbl).trans x0
          have k1 := (s4.cell (p := ⟨b, off + 1, none⟩) hbl).trans x1
          have k2 := (s4.cell (p := ⟨b, off + 2, none⟩) hbl).trans x2
          clear s4 HV2 HROW HB x0 x1 x2 HROW'
          go_wp2_with (at_builtin; refine wpList_appendSG _ (by rfl) (.tmp 31) (.tmp 32) _ rfl W.heap.size 29 j0 _ 3 64 Try.underlying23 gi0 gz0 gz1 gz2 rfl (by omega) (by omega) (some ⟨w4.heap.size, 0, none⟩) 1 1 l.cells rfl (by exact World.ownsRow_lit (base := W.heap.size) (e := 29) (size := 3) w4 #[.string l.name, .slice l.needsA l.needs.length l.needsc, .slice l.givesA l.gives.length l.givesc] 1 (by omega) (by unfold maxLen; omega) rfl) w4.heap.size (some ⟨b, off, none⟩) (ls.length + 1) c1 ((l :: ls).flatMap Lb.cells) rfl (by exact HROW4.out.at_.1.alloc (Nat.le_refl _) _) (lb_one _) (by omega) (by first | omega | (simp <;> omega)) ?_; intro Ax cx w5 ho5 hg5 ha5)
          have s5 : Below w4.heap.size w4 w5 := below_lit hg5 (Nat.le_refl _)
          have HB5 := Lib.hid (HB4.out.trans (s5.mono HB4.out.size))
          have hcap5 : 1 + (ls.length + 1) ≤ cx := by
            rcases ho5.2 with ⟨hv, h0⟩ | ⟨g', cap, cur, hv, _, _, hnc, hcm, _⟩
            · simp at h0
            · injection hv with h1 h2 h3
              omega
          have HV5 := Lib.hid (implLibs_any (A := Ax) (c := cx) (l :: l :: ls) w5 ⟨by have h := Reads.of_own ho5; simpa [Nat.add_comm, Lb.cells] using h, fun x hx => by
            have hx' : x ∈ (l :: ls) := by
              rcases List.mem_cons.1 hx with rfl | hx
              · exact List.mem_cons_self
              · exact hx
            exact (((HROW4.out.2 x hx').below s5)).in_⟩ (Nat.le_refl _) (by simp <;> omega) (by simp at hcap5 ⊢ <;> omega) (fun x hx => HSM.out x (by
              rcases List.mem_cons.1 hx with rfl | hx
              · exact List.mem_cons_self
              · exact hx)))
          rw [H2.out] at HV5
          clear ho5 hg5 ha5 s5 HROW4 HB4 k0 k1 k2
          rw [show ((l :: l :: ls) : List Lb).length = 1 + (ls.length + 1) from by simp; omega] at HV5
          refine HV5.out.mono ?_
          rintro e w6 ⟨rfl, s6⟩
          go_wp2
          go_ret
          exact ⟨rfl, HB5.out.trans (s6.mono HB5.out.size)⟩
  · go_enter Try.func3, Try.ntmps3
    go_wp2
    go_ret
    exact ⟨rfl, Below.refl _ _⟩
end Go.Proofs.Ytbhndkdijbappaa
