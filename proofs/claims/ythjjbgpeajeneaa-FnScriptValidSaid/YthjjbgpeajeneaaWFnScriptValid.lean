/- The walk of FnScriptValid. No condition. -/
import Derived.Test.YthjjbgpeajeneaaRows
import Derived.Test.YthjjbgpeajeneaaBase
import Derived.Test.YthjjbgpeajeneaaBase2
import Derived.Test.YthjjbgpeajeneaaBase3
import Derived.Test.YthjjbgpeajeneaaBase4
import Derived.Test.YthjjbgpeajeneaaIn
import Derived.Test.YthjjbgpeajeneaaPart
import Derived.Test.YthjjbgpeajeneaaIntS
import Derived.Test.YthjjbgpeajeneaaScrV
import Derived.Test.YthjjbgpeajeneaaScrW
import Derived.Test.YthjjbgpeajeneaaAreV
import Derived.Test.YthjjbgpeajeneaaScrP
import Derived.Test.YthjjbgpeajeneaaMarkP
import Derived.Test.YthjjbgpeajeneaaAlive
import Derived.Test.YthjjbgpeajeneaaPick
import Derived.Test.YthjjbgpeajeneaaPick2
import Derived.Test.YthjjbgpeajeneaaOpenC
import Derived.Test.YthjjbgpeajeneaaDrawSc
import Derived.Test.YthjjbgpeajeneaaDrawSV
import Derived.WalkKit
import Derived.WalkSpells
import Derived.WalkLawsBesides
import Derived.Handy
import Derived.BigQuiet
import Derived.Deep.RegionHeld3
import Derived.Deep.DrawnRows
import Derived.Deep.QuietTactic
namespace Go.Proofs.Ythjjbgpeajeneaa
open Go Go.RowKit

theorem prt_drop1 (p q r : Prt) : [q, r].flatMap Prt.cells = ([p, q, r].flatMap Prt.cells).drop (1 * 2) := by simp [Prt.cells]
theorem at_up {A' : Option Addr} {g H B : Nat} (h : ∀ b, A' = some b → (∃ b0, some (⟨g, 0, none⟩ : Addr) = some b0 ∧ b0.block = b.block) ∨ H ≤ b.block) (hg : B ≤ g) (hH : B ≤ H) : ∀ a, A' = some a → B ≤ a.block := fun a ha => by
  rcases h a ha with ⟨b0, h0, h1⟩ | h1
  · injection h0 with h0
    subst h0
    simp only at h1
    omega
  · omega
theorem list_three {α : Type} {xs : List α} (h : xs.length = 3) : ∃ p q r, xs = [p, q, r] := by
  match xs, h with
  | [p, q, r], _ => exact ⟨p, q, r, rfl⟩
theorem own_rd {w : World} {base : Nat} {t : TypeId} {A : Option Addr} {c : Nat} {p q r : Prt} (h : w.ownsRow base t 2 (.slice A (2 + 1) c) (2 + 1) ([.int .i64 q.kind, .int .i64 q.align, .int .i64 r.kind, .int .i64 r.align] ++ [.int .i64 p.kind, .int .i64 p.align])) : Reads w w.heap.size 2 A 3 ([q, r, p].flatMap Prt.cells) := by
  have h2 := Reads.of_own h
  simpa [Prt.cells] using h2
set_option maxRecDepth 100000 in
set_option maxHeartbeats 8000000 in
theorem FnScriptValid_walk (W : World) (v0 : Value) (a0 : ArgCode W v0) : Calls Try.prog 4 #[v0] W (Gives W (.bool true)) := by
  obtain ⟨i0, hi0, hz0, hz1, hz2⟩ := info_parts part_info
  obtain ⟨A, c, cs, rfl, hr, hc1, hc2, hcb⟩ := a0
  by_cases hl : cs.length ≤ 1048576
  · have HD := Lib.hid (DrawScriptValid_any cs W hr hcb hl hc1 hc2)
    clear hcb hr
    unfold maxLen at hc2
    go_enter Try.func4, Try.ntmps4
    go_wp2_with fail
    refine HD.out.mono ?_
    rintro e w1 ⟨A1, c1, xs, rfl, oa, hl1, hlc, hlm, b1⟩
    clear HD
    unfold maxLen at hlm
    go_wp2_with fail
    refine (implScriptValid_any xs _ oa (Nat.le_refl _) (by unfold maxLen; omega)).mono ?_
    rintro e w2 ⟨rfl, s2⟩
    replace oa := (oa.below s2).more s2.size
    have b2 := b1.trans (s2.mono b1.size)
    clear s2
    go_wp2_with fail
    refine (specScriptValid_any xs _ oa (Nat.le_refl _) (by unfold maxLen; omega)).mono ?_
    rintro e w3 ⟨rfl, s3⟩
    replace oa := (oa.below s3).more s3.size
    have HG3 := Lib.hid (b2.trans (s3.mono b2.size))
    clear s3 b1 b2
    have zz := HG3.out.size
    cases hj : scriptOk xs
    · clear hj
      go_wp2_with fail
      refine (alive_any _).mono ?_
      rintro e w' ⟨rfl, rfl⟩
      go_wp2
      go_ret
      exact ⟨rfl, HG3.out⟩
    · obtain ⟨p, q, r, rfl⟩ := list_three (script_len hj)
      have HV1 : Hid (∀ w A' c', Reads w w.heap.size 2 A' 2 ([q, r].flatMap Prt.cells) → Calls Try.prog 10 #[.slice A' 2 c'] w (Gives w (.bool false))) := fun w A' c' h => by
        have hh := implScriptValid_any (A := A') (c1 := c') [q, r] w h (Nat.le_refl _) (by simp [maxLen])
        rw [show scriptOk [q, r] = false from script_short hj] at hh
        exact hh
      have HV2 : Hid (∀ w A' c', Reads w w.heap.size 2 A' 3 ([q, r, p].flatMap Prt.cells) → Calls Try.prog 10 #[.slice A' 3 c'] w (Gives w (.bool true))) := fun w A' c' h => by
        have hh := implScriptValid_any (A := A') (c1 := c') [q, r, p] w h (Nat.le_refl _) (by simp [maxLen])
        rw [script_rot hj] at hh
        exact hh
      clear hj
      obtain ⟨b, off, rfl, hbw, hcl⟩ := oa.row_ (by simp) (by omega)
      have k30 : w3.cell? ⟨b, off, none⟩ = some (.int .i64 p.kind) := hcl 0 _ rfl
      have k31 : w3.cell? ⟨b, off + 1, none⟩ = some (.int .i64 p.align) := hcl 1 _ rfl
      have HN3 : Hid (∀ j u, ([.int .i64 q.kind, .int .i64 q.align, .int .i64 r.kind, .int .i64 r.align] : List Value)[j]? = some u → w3.cell? ((⟨b, off + 2, none⟩ : Addr).add j) = some u) := fun j u hu => by
        rw [Addr.add_lit, Nat.add_assoc]
        exact hcl (2 + j) u (by rw [← hu, Nat.add_comm]; simp [Prt.cells])
      have HR1 : Hid (Reads w3.drew w3.drew.heap.size 2 (some ⟨b, off + 2, none⟩) 2 ([q, r].flatMap Prt.cells)) := ⟨by simp [Prt.cells], fun _ => ⟨_, rfl, hbw, fun j u hu => HN3.out j u (by simpa [Prt.cells] using hu)⟩⟩
      clear hcl oa
      have hc3 : 3 ≤ c1 := hlc
      have hc4 : (1 : Int) ≤ (c1 : Int) := by omega
      have hc5 : ¬ c1 = 1 := by omega
      have hc6 : ¬ c1 ≤ 1 := by omega
      go_wp2
      go_region_held3 (fun w' => w'.cell? ⟨b, off, none⟩ = some (.int .i64 p.kind) ∧ w'.cell? ⟨b, off + 1, none⟩ = some (.int .i64 p.align)) (first | go_keep) (first | (go_simp; go_at_call 10; (with_reducible refine (HV1.out _ _ _ HR1.out).mono ?_); rintro e w4 ⟨rfl, s4⟩; have HG4 := Lib.hid ((below_drewN HG3.out 1).trans (s4.mono HG3.out.size)); have z4 : W.heap.size ≤ w4.heap.size := HG4.out.size; have k40 : w4.cell? ⟨b, off, none⟩ = some (.int .i64 p.kind) := (s4.cell hbw).trans k30; have k41 : w4.cell? ⟨b, off + 1, none⟩ = some (.int .i64 p.align) := (s4.cell hbw).trans k31; have HN4 : Hid (∀ j u, ([.int .i64 q.kind, .int .i64 q.align, .int .i64 r.kind, .int .i64 r.align] : List Value)[j]? = some u → w4.cell? ((⟨b, off + 2, none⟩ : Addr).add j) = some u) := fun j u h => (s4.cell (by rw [block_of_add]; exact hbw)).trans (HN3.out j u h); have hb4 : b < w4.heap.size := Nat.lt_of_lt_of_le hbw s4.size; clear s4) | (refine step_pushG _ (by rfl) _ _ _ (by rfl) W.heap.size 33 i0 _ 2 16 Try.underlying25 hi0 hz0 hz1 hz2 rfl (by omega) (by omega) (some ⟨w4.heap.size, 0, none⟩) 0 0 2 (c1 - 1) [] [.int .i64 q.kind, .int .i64 q.align, .int .i64 r.kind, .int .i64 r.align] (World.ownsRow_lit (base := W.heap.size) (e := 33) (size := 2) w4 #[] 0 z4 (by unfold maxLen; omega) rfl) (by rfl) ⟨b, off + 2, none⟩ (by rfl) (by rfl) (news_alloc HN4.out _) (by simp [Value.oneCell']) (by omega) (by omega) (by first | omega | (simp; omega)) ?_; intro AA dA wA oA gA aA hA; have HOA := Lib.hid oA; have HGA := Lib.hid (below_push (B := W.heap.size) (HG4.out.alloc HG4.out.size _) (World.ownsRow_lit (base := W.heap.size) (e := 33) (size := 2) w4 #[] 0 z4 (by unfold maxLen; omega) rfl) (Nat.le_refl _) (by first | omega | (simp; omega)) gA); have zA : W.heap.size ≤ wA.heap.size := HGA.out.size; have kA0 : wA.cell? ⟨b, off, none⟩ = some (.int .i64 p.kind) := kept_other (B := w4.heap.size) hA (cell_alloc k40 _) hb4 (by simp); have kA1 : wA.cell? ⟨b, off + 1, none⟩ = some (.int .i64 p.align) := kept_other (B := w4.heap.size) hA (cell_alloc k41 _) hb4 (by simp); skip; have uA : Hid (∀ a, AA = some a → w4.heap.size ≤ a.block) := at_up aA (by omega) (by simp <;> omega); clear oA gA aA hA) | (refine step_pushG _ (by rfl) _ _ _ (by rfl) W.heap.size 33 i0 _ 2 16 Try.underlying25 hi0 hz0 hz1 hz2 rfl (by omega) (by omega) (some ⟨w4.heap.size, 0, none⟩) 0 0 2 (c1 - 1) [] [.int .i64 q.kind, .int .i64 q.align, .int .i64 r.kind, .int .i64 r.align] ((World.ownsRow_lit (base := W.heap.size) (e := 33) (size := 2) w4 #[] 0 z4 (by unfold maxLen; omega) rfl).alloc _) (by rfl) ⟨b, off + 2, none⟩ (by rfl) (by rfl) (news_alloc (news_alloc HN4.out _) _) (by simp [Value.oneCell']) (by omega) (by omega) (by first | omega | (simp; omega)) ?_; intro AB dB wB oB gB aB hB; have HOB := Lib.hid oB; have HGB := Lib.hid (below_push (B := W.heap.size) ((HG4.out.alloc HG4.out.size _).alloc (by first | omega | (simp; omega)) _) ((World.ownsRow_lit (base := W.heap.size) (e := 33) (size := 2) w4 #[] 0 z4 (by unfold maxLen; omega) rfl).alloc _) (Nat.le_refl _) (by first | omega | (simp; omega)) gB); have zB : W.heap.size ≤ wB.heap.size := HGB.out.size; have kB0 : wB.cell? ⟨b, off, none⟩ = some (.int .i64 p.kind) := kept_other (B := w4.heap.size) hB (cell_alloc (cell_alloc k40 _) _) hb4 (by simp); have kB1 : wB.cell? ⟨b, off + 1, none⟩ = some (.int .i64 p.align) := kept_other (B := w4.heap.size) hB (cell_alloc (cell_alloc k41 _) _) hb4 (by simp); have HPB : Hid (∀ j u, ([.int .i64 p.kind, .int .i64 p.align] : List Value)[j]? = some u → wB.cell? ((⟨w4.heap.size + 1, 0, none⟩ : Addr).add j) = some u) := fun j u hu => hB _ u (by have hq := (World.news_of_block (cs := #[.int .i64 p.kind, .int .i64 p.align]) (t := 33) (fr := (0, 0)) (heap_alloc_new (w4.alloc (.cells #[] 33)) _)) j u hu; rwa [World.size_alloc] at hq) (fun b0 h0 hb => by injection h0 with h0; subst h0; rw [block_of_add] at hb; simp at hb); have uB : Hid (∀ a, AB = some a → w4.heap.size ≤ a.block) := at_up aB (by omega) (by simp <;> omega); clear oB gB aB hB) | (refine step_pushG _ (by rfl) _ _ _ (by rfl) W.heap.size 33 i0 _ 2 16 Try.underlying25 hi0 hz0 hz1 hz2 rfl (by omega) (by omega) (some ⟨w4.heap.size + 1, 0, none⟩) 0 0 2 (c1 - 1) [] [.int .i64 q.kind, .int .i64 q.align, .int .i64 r.kind, .int .i64 r.align] (by have hq := World.ownsRow_lit (base := W.heap.size) (e := 33) (size := 2) (w4.alloc (.cells #[.int .i64 p.kind, .int .i64 p.align] 33)) #[] 0 (by first | omega | (simp; omega)) (by unfold maxLen; omega) rfl; rwa [World.size_alloc] at hq) (by rfl) ⟨b, off + 2, none⟩ (by rfl) (by rfl) (news_alloc (news_alloc HN4.out _) _) (by simp [Value.oneCell']) (by omega) (by omega) (by first | omega | (simp; omega)) ?_; intro AC dC wC oC gC aC hC; have HOC := Lib.hid oC; have HGC := Lib.hid (below_push (B := W.heap.size) ((HG4.out.alloc HG4.out.size _).alloc (by first | omega | (simp; omega)) _) (by have hq := World.ownsRow_lit (base := W.heap.size) (e := 33) (size := 2) (w4.alloc (.cells #[.int .i64 p.kind, .int .i64 p.align] 33)) #[] 0 (by first | omega | (simp; omega)) (by unfold maxLen; omega) rfl; rwa [World.size_alloc] at hq) (Nat.le_refl _) (by first | omega | (simp; omega)) gC); have zC : W.heap.size ≤ wC.heap.size := HGC.out.size; have kC0 : wC.cell? ⟨b, off, none⟩ = some (.int .i64 p.kind) := kept_other (B := w4.heap.size) hC (cell_alloc (cell_alloc k40 _) _) hb4 (by simp); have kC1 : wC.cell? ⟨b, off + 1, none⟩ = some (.int .i64 p.align) := kept_other (B := w4.heap.size) hC (cell_alloc (cell_alloc k41 _) _) hb4 (by simp); have HPC : Hid (∀ j u, ([.int .i64 p.kind, .int .i64 p.align] : List Value)[j]? = some u → wC.cell? ((⟨w4.heap.size, 0, none⟩ : Addr).add j) = some u) := fun j u hu => hC _ u ((news_alloc (World.news_of_block (cs := #[.int .i64 p.kind, .int .i64 p.align]) (t := 33) (fr := (0, 0)) (heap_alloc_new w4 _)) _) j u hu) (fun b0 h0 hb => by injection h0 with h0; subst h0; rw [block_of_add] at hb; simp at hb); have uC : Hid (∀ a, AC = some a → w4.heap.size ≤ a.block) := at_up aC (by omega) (by simp <;> omega); clear oC gC aC hC) | (refine step_pushG _ (by rfl) _ _ _ (by rfl) W.heap.size 33 i0 _ 2 16 Try.underlying25 hi0 hz0 hz1 hz2 rfl (by omega) (by omega) AA 2 dA 1 1 _ [.int .i64 p.kind, .int .i64 p.align] (HOA.out.alloc _) (by rfl) ⟨wA.heap.size, 0, none⟩ (by rfl) (by rfl) (World.news_of_block (cs := #[.int .i64 p.kind, .int .i64 p.align]) (t := 33) (fr := (0, 0)) (heap_alloc_new wA _)) (by simp [Value.oneCell']) (by omega) (by omega) (by first | omega | (simp; omega)) ?_; intro A6 d6 w6 o6 g6 a6 h6; have HO6 := Lib.hid o6; have HG6 := Lib.hid (below_push (B := W.heap.size) (HGA.out.alloc HGA.out.size _) (HOA.out.alloc _) (Nat.le_refl _) (by first | omega | (simp; omega)) g6); have k60 : w6.cell? ⟨b, off, none⟩ = some (.int .i64 p.kind) := h6 _ _ (cell_alloc kA0 _) (fun b0 h0 hb => by have hu := uA.out b0 h0; have hb2 : b0.block = b := hb; omega); have k61 : w6.cell? ⟨b, off + 1, none⟩ = some (.int .i64 p.align) := h6 _ _ (cell_alloc kA1 _) (fun b0 h0 hb => by have hu := uA.out b0 h0; have hb2 : b0.block = b := hb; omega); clear o6 g6 a6 h6) | (refine step_pushG _ (by rfl) _ _ _ (by rfl) W.heap.size 33 i0 _ 2 16 Try.underlying25 hi0 hz0 hz1 hz2 rfl (by omega) (by omega) AB 2 dB 1 1 _ [.int .i64 p.kind, .int .i64 p.align] (HOB.out) (by rfl) ⟨w4.heap.size + 1, 0, none⟩ (by rfl) (by rfl) (HPB.out) (by simp [Value.oneCell']) (by omega) (by omega) (by first | omega | (simp; omega)) ?_; intro A6 d6 w6 o6 g6 a6 h6; have HO6 := Lib.hid o6; have HG6 := Lib.hid (below_push (B := W.heap.size) (HGB.out) (HOB.out) (Nat.le_refl _) (by first | omega | (simp; omega)) g6); have k60 : w6.cell? ⟨b, off, none⟩ = some (.int .i64 p.kind) := h6 _ _ (kB0) (fun b0 h0 hb => by have hu := uB.out b0 h0; have hb2 : b0.block = b := hb; omega); have k61 : w6.cell? ⟨b, off + 1, none⟩ = some (.int .i64 p.align) := h6 _ _ (kB1) (fun b0 h0 hb => by have hu := uB.out b0 h0; have hb2 : b0.block = b := hb; omega); clear o6 g6 a6 h6) | (refine step_pushG _ (by rfl) _ _ _ (by rfl) W.heap.size 33 i0 _ 2 16 Try.underlying25 hi0 hz0 hz1 hz2 rfl (by omega) (by omega) AC 2 dC 1 1 _ [.int .i64 p.kind, .int .i64 p.align] (HOC.out) (by rfl) ⟨w4.heap.size, 0, none⟩ (by rfl) (by rfl) (HPC.out) (by simp [Value.oneCell']) (by omega) (by omega) (by first | omega | (simp; omega)) ?_; intro A6 d6 w6 o6 g6 a6 h6; have HO6 := Lib.hid o6; have HG6 := Lib.hid (below_push (B := W.heap.size) (HGC.out) (HOC.out) (Nat.le_refl _) (by first | omega | (simp; omega)) g6); have k60 : w6.cell? ⟨b, off, none⟩ = some (.int .i64 p.kind) := h6 _ _ (kC0) (fun b0 h0 hb => by have hu := uC.out b0 h0; have hb2 : b0.block = b := hb; omega); have k61 : w6.cell? ⟨b, off + 1, none⟩ = some (.int .i64 p.align) := h6 _ _ (kC1) (fun b0 h0 hb => by have hu := uC.out b0 h0; have hb2 : b0.block = b := hb; omega); clear o6 g6 a6 h6) | (go_simp; go_at_call 10; (with_reducible refine (HV2.out _ _ _ (own_rd HO6.out)).mono ?_); rintro e w7 ⟨rfl, s7⟩; have HG7 := Lib.hid (HG6.out.trans (s7.mono HG6.out.size)); have k70 : w7.cell? ⟨b, off, none⟩ = some (.int .i64 p.kind) := (s7.cell (World.block_lt_of_cell? w6 _ k60)).trans k60; have k71 : w7.cell? ⟨b, off + 1, none⟩ = some (.int .i64 p.align) := (s7.cell (World.block_lt_of_cell? w6 _ k61)).trans k61))
      all_goals
        go_wp2
        go_ret
        exact ⟨rfl, HG7.out⟩
  · go_enter Try.func4, Try.ntmps4
    go_wp2
    go_ret
    exact ⟨rfl, Below.refl _ _⟩
end Go.Proofs.Ythjjbgpeajeneaa
