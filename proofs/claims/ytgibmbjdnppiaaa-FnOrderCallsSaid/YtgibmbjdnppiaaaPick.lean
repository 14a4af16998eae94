/- Contracts of the drawing reader: l20Open, pick, odd. Condition: not too many draws. -/
import Derived.Test.YtgibmbjdnppiaaaRows
import Derived.Test.YtgibmbjdnppiaaaBase
import Derived.Test.YtgibmbjdnppiaaaBase2
import Derived.WalkKit
import Derived.WalkSpells
import Derived.WalkLawsBesides
import Derived.Handy
import Derived.BigQuiet
import Derived.Deep.RegionHeld3
import Derived.Deep.DrawnRows
import Derived.Deep.QuietTactic
namespace Go.Proofs.Ytgibmbjdnppiaaa
open Go Go.RowKit

/-- Block r is a reader of bytes that lie below it, at most P of them drawn. -/
def Rdr (w : World) (r P : Nat) : Prop :=
  ∃ (A : Option Addr) (n c p : Nat) (bs : List Int), p ≤ P ∧ n ≤ 2000 ∧ bs.length = n ∧ (∀ x ∈ bs, 0 ≤ x ∧ x ≤ 255) ∧ Reads w r 1 A n (nums .u8 bs) ∧ Blk w r 71 #[.slice A n c, .int .i64 p]
theorem Rdr.more {w : World} {r P P' : Nat} (h : Rdr w r P) (hP : P ≤ P') : Rdr w r P' := by
  obtain ⟨A, n, c, p, bs, h1, h2⟩ := h
  exact ⟨A, n, c, p, bs, by omega, h2⟩
theorem Rdr.lt {w : World} {r P : Nat} (h : Rdr w r P) : r < w.heap.size := by
  obtain ⟨A, n, c, p, bs, _, _, _, _, _, h⟩ := h
  exact h.lt
theorem Rdr.below {w w' : World} {r P : Nat} (h : Rdr w r P) (hb : Below w.heap.size w w') : Rdr w' r P := by
  have hl := h.lt
  obtain ⟨A, n, c, p, bs, h1, h2, h3, h4, h5, h6⟩ := h
  exact ⟨A, n, c, p, bs, h1, h2, h3, h4, h5.keep (fun q hq => hb.cell (by omega)), h6.below hb hl⟩
/-- Only the reader's block, and what is new, has turned. -/
theorem Rdr.grown {w w' : World} {r P : Nat} {row : Option Nat} (h : Rdr w r P) (hg : w.grownBy w' row) (hr : ∀ k, row = some k → r < k) : Rdr w' r P := by
  have hl := h.lt
  obtain ⟨A, n, c, p, bs, h1, h2, h3, h4, h5, h6⟩ := h
  exact ⟨A, n, c, p, bs, h1, h2, h3, h4, h5.keep (fun q hq => World.cell?_of_block (hg.block q.block (by omega) (fun e => by have := hr _ e.symm; omega))), h6.grown hg (fun e => by have := hr _ e.symm; omega)⟩
theorem xor_i64 (a b : Nat) (ha : a < 4611686018427387904) (hb : b < 4611686018427387904) : bits .xor .i64 (a : Int) (b : Int) = ((a ^^^ b : Nat) : Int) := by
  have hx : a ^^^ b < 2 ^ 62 := Nat.xor_lt_two_pow (by omega) (by omega)
  have h1 : (BitVec.ofInt 64 (a : Int)).toNat = a := by
    rw [BitVec.ofInt_natCast, BitVec.toNat_ofNat]; exact Nat.mod_eq_of_lt (by omega)
  have h2 : (BitVec.ofInt 64 (b : Int)).toNat = b := by
    rw [BitVec.ofInt_natCast, BitVec.toNat_ofNat]; exact Nat.mod_eq_of_lt (by omega)
  show IntKind.i64.wrap ((BitVec.ofInt 64 (a : Int) ^^^ BitVec.ofInt 64 (b : Int)).toNat : Int) = _
  rw [BitVec.toNat_xor, h1, h2]
  exact IntWalk.i64_in _ (by omega)
theorem xor_nonneg {z : Int} (h0 : 0 ≤ z) (h1 : z ≤ 1000000000) : 0 ≤ bits .xor .i64 z (z / 64) := by
  obtain ⟨n, rfl⟩ := Int.eq_ofNat_of_zero_le h0
  have e : ((n : Int) / 64) = ((n / 64 : Nat) : Int) := by omega
  rw [e, xor_i64 _ _ (by omega) (by omega)]
  exact Int.natCast_nonneg _
/-- A draw: some number in its range. -/
def Picked (w : World) (r P : Nat) (N : Int) (e : Ending) (w' : World) : Prop := ∃ v : Int, e = .returned (.int .i64 v) ∧ (0 ≤ v ∧ v ≤ N - 1) ∧ Rdr w' r (P + 1) ∧ w.grownBy w' (some r)

set_option maxRecDepth 100000 in
set_option maxHeartbeats 4000000 in
theorem pick_any (r P : Nat) (N : Int) (w : World) (h : Rdr w r P) (hP : P ≤ 1000000) (hN : 1 ≤ N) (hN2 : N ≤ 1000000) : Calls Try.prog 39 #[.pointer (some ⟨r, 0, none⟩), .int .i64 N] w (Picked w r P N) := by
  obtain ⟨A, n, c, p, bs, h1, h2, h3, h4, h5, h6⟩ := h
  have hc0 : w.cell? ⟨r, 0, none⟩ = some (.slice A n c) := h6.cell 0
  have hc1 : w.cell? ⟨r, 1, none⟩ = some (.int .i64 p) := h6.cell 1
  have hz0 : w.frozen? ⟨r, 0, none⟩ = false := h6.frozen 0
  have hz1 : w.frozen? ⟨r, 1, none⟩ = false := h6.frozen 1
  have hr := h6.lt
  have hst : ∀ u : Value, Blk (w.setCell ⟨r, 1, none⟩ u) r 71 #[.slice A n c, u] := fun u => h6.set_ 1 u
  have HG : Hid (∀ u : Value, w.grownBy (w.setCell ⟨r, 1, none⟩ u) (some r)) := fun u => ⟨rfl, rfl, rfl, by simp [World.setCell], fun k hk hne => Below.heap_setCell w _ u k (fun e => hne (by rw [e]))⟩
  have HRE : Hid (Reads (w.setCell ⟨r, 1, none⟩ (.int .i64 ((p : Int) + 1))) r 1 A n (nums .u8 bs)) := h5.setCell (p := ⟨r, 1, none⟩) (Nat.le_refl _) _
  have HFIN : Hid (Rdr (w.setCell ⟨r, 1, none⟩ (.int .i64 ((p : Int) + 1))) r (P + 1)) := ⟨A, n, c, p + 1, bs, by omega, h2, h3, h4, HRE.out, hst _⟩
  have HR1 : Hid (Blk (w.setCell ⟨r, 1, none⟩ (.int .i64 ((p : Int) + 1))) r 71 #[.slice A n c, .int .i64 ((p : Int) + 1)]) := hst _
  have h5' := Lib.hid h5
  have H4 := Lib.hid h4
  have H3 := Lib.hid h3
  clear hst h4 h3 h5
  have hn1 : decide (N < 1) = false := by simp; omega
  have hpp : 0 ≤ (p : Int) := Int.natCast_nonneg _
  rcases Nat.eq_zero_or_pos n with h0 | h0
  · subst h0
    go_enter Try.func39, Try.ntmps39
    go_wp2
    go_ret
    exact ⟨0, rfl, by omega, HFIN.out, HG.out _⟩
  · have hnz : ((n : Int) == 0) = false := by simp; omega
    by_cases hpn : p < n
    · obtain ⟨b, off, rfl, hbl, hcs⟩ := h5'.out.row_ h0 (by omega)
      obtain ⟨x, hx, hx255⟩ : ∃ x : Int, (nums .u8 bs)[p]? = some (.int .u8 x) ∧ 0 ≤ x ∧ x ≤ 255 :=
        ⟨_, nums_get _ _ (by rw [H3.out]; exact hpn), H4.out _ (List.getElem_mem _)⟩
      have hc := hcs p _ hx
      have hne1 : ¬ b = r := by omega
      have hne2 : ¬ r = b := by omega
      have i1 : (p : Int) < (n : Int) := by omega
      clear hcs hx
      go_enter Try.func39, Try.ntmps39
      go_wp2
      go_ret
      exact ⟨x % N, rfl, ⟨Int.emod_nonneg _ (by omega), by have := Int.emod_lt_of_pos x (by omega : 0 < N); omega⟩, HFIN.out, HG.out _⟩
    · obtain ⟨b, off, rfl, hbl, hcs⟩ := h5'.out.row_ h0 (by omega)
      obtain ⟨x, hx, hx255⟩ : ∃ x : Int, (nums .u8 bs)[p % n]? = some (.int .u8 x) ∧ 0 ≤ x ∧ x ≤ 255 :=
        ⟨_, nums_get _ _ (by rw [H3.out]; exact Nat.mod_lt _ h0), H4.out _ (List.getElem_mem _)⟩
      obtain ⟨y, hy, hy255⟩ : ∃ y : Int, (nums .u8 bs)[(p * 7 + 3) % n]? = some (.int .u8 y) ∧ 0 ≤ y ∧ y ≤ 255 :=
        ⟨_, nums_get _ _ (by rw [H3.out]; exact Nat.mod_lt _ h0), H4.out _ (List.getElem_mem _)⟩
      have hcx := hcs _ _ hx
      have hcy := hcs _ _ hy
      clear hcs hx hy
      have hne1 : ¬ b = r := by omega
      have hne2 : ¬ r = b := by omega
      have hn0 : ¬ (n = 0) := by omega
      have hn0' : ¬ ((n : Int) = 0) := by omega
      obtain ⟨q1, e1⟩ : ∃ q1 : Nat, p % n = q1 := ⟨_, rfl⟩
      obtain ⟨q2, e2⟩ : ∃ q2 : Nat, (p * 7 + 3) % n = q2 := ⟨_, rfl⟩
      obtain ⟨q3, e3⟩ : ∃ q3 : Nat, p / n = q3 := ⟨_, rfl⟩
      have q1n : (q1 : Int) < (n : Int) := by have := Nat.mod_lt p h0; omega
      have q2n : (q2 : Int) < (n : Int) := by have := Nat.mod_lt (p * 7 + 3) h0; omega
      have q10 : (0 : Int) ≤ (q1 : Int) := Int.natCast_nonneg _
      have q20 : (0 : Int) ≤ (q2 : Int) := Int.natCast_nonneg _
      have q3p : q3 ≤ p := by rw [← e3]; exact Nat.div_le_self _ _
      rw [e1] at hcx
      rw [e2] at hcy
      have f1 : (p : Int).tmod (n : Int) = (q1 : Int) := by rw [← e1, Int.tmod_eq_emod_of_nonneg hpp]; exact (Int.natCast_emod _ _).symm
      have f2 : ((p : Int) * 7 + 3).tmod (n : Int) = (q2 : Int) := by rw [← e2, Int.tmod_eq_emod_of_nonneg (by omega)]; simp
      have f3 : (p : Int).tdiv (n : Int) = (q3 : Int) := by rw [← e3, Int.tdiv_eq_ediv_of_nonneg hpp]; exact (Int.natCast_ediv _ _).symm
      have y1 : IntKind.i64.wrap (x * 131) = x * 131 := IntWalk.i64_in _ (by omega)
      have y2 : IntKind.i64.wrap ((p : Int) * 7) = (p : Int) * 7 := IntWalk.i64_in _ (by omega)
      have y3 : IntKind.i64.wrap ((p : Int) * 7 + 3) = (p : Int) * 7 + 3 := IntWalk.i64_in _ (by omega)
      have y4 : IntKind.i64.wrap (y * 1117) = y * 1117 := IntWalk.i64_in _ (by omega)
      have y5 : IntKind.i64.wrap (x * 131 + y * 1117) = x * 131 + y * 1117 := IntWalk.i64_in _ (by omega)
      have y6 : IntKind.i64.wrap ((p : Int) * 29) = (p : Int) * 29 := IntWalk.i64_in _ (by omega)
      have y7 : IntKind.i64.wrap (x * 131 + y * 1117 + (p : Int) * 29) = x * 131 + y * 1117 + (p : Int) * 29 := IntWalk.i64_in _ (by omega)
      have y8 : IntKind.i64.wrap ((q3 : Int) * 53) = (q3 : Int) * 53 := IntWalk.i64_in _ (by omega)
      have y9 : IntKind.i64.wrap (x * 131 + y * 1117 + (p : Int) * 29 + (q3 : Int) * 53) = x * 131 + y * 1117 + (p : Int) * 29 + (q3 : Int) * 53 := IntWalk.i64_in _ (by omega)
      have y0 : IntKind.i64.wrap (q3 : Int) = (q3 : Int) := IntWalk.i64_in _ (by omega)
      have y01 : IntKind.i64.wrap (q1 : Int) = (q1 : Int) := IntWalk.i64_in _ (by omega)
      have y02 : IntKind.i64.wrap (q2 : Int) = (q2 : Int) := IntWalk.i64_in _ (by omega)
      clear e1 e2 e3
      go_enter Try.func39, Try.ntmps39
      go_wp2
      go_quiet (fail)
      clear y1 y2 y3 y4 y5 y6 y7 y8 y9 y0 y01 y02 f1 f2 f3
      obtain ⟨z, hz⟩ : ∃ z, z = x * 131 + y * 1117 + (p : Int) * 29 + (q3 : Int) * 53 := ⟨_, rfl⟩
      have hz0 : 0 ≤ z := by omega
      have hz1 : z ≤ 1000000000 := by omega
      rw [← hz]
      clear hz
      have HXN := Lib.hid (xor_nonneg hz0 hz1)
      go_wp2
      go_ret
      refine ⟨_, rfl, ?_, ?_, ?_⟩
      · rw [Int.tmod_eq_emod_of_nonneg HXN.out]
        exact ⟨Int.emod_nonneg _ (by omega), by have := Int.emod_lt_of_pos (bits .xor .i64 z (z / 64)) (by omega : 0 < N); omega⟩
      · exact HFIN.out.below (below_drewN (Below.refl _ _) _)
      · have h := HG.out (.int .i64 ((p : Int) + 1))
        exact ⟨h.os, h.tape, h.output, h.size, h.block⟩
/-- A bool of a draw. -/
def Odd (w : World) (r P : Nat) (e : Ending) (w' : World) : Prop := ∃ b : Bool, e = .returned (.bool b) ∧ Rdr w' r (P + 1) ∧ w.grownBy w' (some r)
theorem odd_any (r P : Nat) (N : Int) (w : World) (h : Rdr w r P) (hP : P ≤ 1000000) (hN : 0 ≤ N) (hN2 : N ≤ 1000000) : Calls Try.prog 40 #[.pointer (some ⟨r, 0, none⟩), .int .i64 N] w (Odd w r P) := by
  by_cases h0 : N < 1
  · obtain rfl : N = 0 := by omega
    go_enter Try.func40, Try.ntmps40
    go_wp2_with fail
    go_ret
    exact ⟨false, rfl, h.more (by omega), grown_refl _ _⟩
  · have hN1 : 1 ≤ N := by omega
    have HP := Lib.hid (pick_any r P N w h hP hN1 hN2)
    go_enter Try.func40, Try.ntmps40
    go_wp2_with fail
    refine HP.out.mono ?_
    rintro e w1 ⟨v, rfl, hv, hr, hg⟩
    go_wp2
    go_ret
    exact ⟨_, rfl, hr, hg⟩
theorem odd_zero (r : Nat) (w : World) : Calls Try.prog 40 #[.pointer (some ⟨r, 0, none⟩), .int .i64 0] w fun e w' => e = .returned (.bool false) ∧ w = w' := by
  go_enter Try.func40, Try.ntmps40
  go_wp2_with fail
  go_ret
  exact ⟨rfl, rfl⟩
/-- A reader was laid. -/
def Opened (w : World) (e : Ending) (w' : World) : Prop := e = .returned (.pointer (some ⟨w.heap.size, 0, none⟩)) ∧ Rdr w' w.heap.size 0 ∧ w'.heap.size = w.heap.size + 1 ∧ Below w.heap.size w w'
theorem open_any {A : Option Addr} {c : Nat} (xs : List Int) (w : World) (h1 : Reads w w.heap.size 1 A xs.length (nums .u8 xs)) (hx : ∀ x ∈ xs, 0 ≤ x ∧ x ≤ 255) (hm : xs.length ≤ 1048576) (hc : xs.length ≤ c) (hc2 : c ≤ maxLen) :
    Calls Try.prog 35 #[.slice A xs.length c] w (Opened w) := by
  unfold maxLen at hc2
  have HX := Lib.hid hx
  have H1 := Lib.hid h1
  clear hx h1
  by_cases hl : xs.length ≤ 2000
  · go_enter Try.func35, Try.ntmps35
    go_wp2_with fail
    go_ret
    exact ⟨rfl, ⟨A, xs.length, c, 0, xs, Nat.le_refl _, hl, rfl, HX.out, H1.out.alloc (Nat.le_refl _) _, Blk.new _ _ _⟩, by simp, (Below.refl _ _).alloc (Nat.le_refl _) _⟩
  · have i1 : (2000 : Int) ≤ (c : Int) := by omega
    have i2 : (2000 : Int) < (xs.length : Int) := by omega
    go_enter Try.func35, Try.ntmps35
    go_wp2_with fail
    go_ret
    have hr := H1.out
    refine ⟨rfl, ⟨A, 2000, c, 0, xs.take 2000, Nat.le_refl _, Nat.le_refl _, by simp; omega, fun x hx => HX.out x (List.mem_of_mem_take hx), ?_, Blk.new _ _ _⟩, by simp, (Below.refl _ _).alloc (Nat.le_refl _) _⟩
    refine Reads.alloc ⟨by simp [nums]; omega, fun _ => ?_⟩ (Nat.le_refl _) _
    obtain ⟨ad, e, hb, hcell⟩ := hr.2 (by omega)
    refine ⟨ad, e, hb, fun j u hu => hcell j u ?_⟩
    have e2 : nums .u8 (xs.take 2000) = (nums .u8 xs).take 2000 := by simp [nums, List.map_take]
    rw [e2] at hu
    obtain ⟨hj, _⟩ := List.getElem?_eq_some_iff.1 hu
    rw [List.getElem?_take] at hu
    split at hu
    · exact hu
    · cases hu
end Go.Proofs.Ytgibmbjdnppiaaa
