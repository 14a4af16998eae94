/- Contracts of tooFar, of l31Near and of the two JumpsReach. Conditions: few numbers, each in its range. -/
import Derived.Test.YtfdihhpnkmpidaaRows
import Derived.Test.YtfdihhpnkmpidaaBase
import Derived.Test.YtfdihhpnkmpidaaBase2
import Derived.Test.YtfdihhpnkmpidaaIn
import Derived.Test.YtfdihhpnkmpidaaIn2
import Derived.Test.YtfdihhpnkmpidaaFindI
import Derived.Test.YtfdihhpnkmpidaaJumpV
import Derived.Test.YtfdihhpnkmpidaaJumpS
import Derived.Test.YtfdihhpnkmpidaaJumpT
import Derived.Test.YtfdihhpnkmpidaaJumpP
import Derived.WalkKit
import Derived.WalkSpells
import Derived.WalkLawsBesides
import Derived.Handy
import Derived.BigQuiet
import Derived.Deep.RegionHeld3
import Derived.Deep.DrawnRows
import Derived.Deep.QuietTactic
namespace Go.Proofs.Ytfdihhpnkmpidaa
open Go Go.RowKit

theorem reads_starts {w : World} {B : Nat} {A : Option Addr} {xs ys : List Int} (h : Reads w B 1 A (starts xs ys).length (nums .i64 (starts xs ys))) {k : Nat} (hk : k ≤ xs.length) :
    ∃ b off, A = some ⟨b, off, none⟩ ∧ b < B ∧ w.cell? ⟨b, off + k, none⟩ = some (.int .i64 (stAt xs ys k)) := by
  have hl := starts_len xs ys
  obtain ⟨b, off, rfl, hb, hc⟩ := h.row_ (by omega) (by omega)
  refine ⟨b, off, rfl, hb, hc k _ ?_⟩
  rw [nums_get _ _ (by omega), starts_getD xs ys hk]

set_option maxHeartbeats 4000000 in
theorem tooFar_any {A1 A2 A3 : Option Addr} {c1 c2 c3 B1 B2 B3 : Nat} (xs ts ys : List Int) (w : World) (h1 : Reads w B1 1 A1 xs.length (nums .i64 xs)) (hB1 : B1 ≤ w.heap.size) (h2 : Reads w B2 1 A2 ts.length (nums .i64 ts)) (hB2 : B2 ≤ w.heap.size)
    (h3 : Reads w B3 1 A3 ys.length (nums .i64 ys)) (hB3 : B3 ≤ w.heap.size) (hx : valsOk xs = true) (hy : valsOk ys = true) (hl : ys.length = xs.length) (hlt : ts.length = xs.length) (hm : xs.length ≤ 8) (ht : ∀ k, (hk : k < ts.length) → 0 ≤ ts[k] ∧ ts[k] ≤ xs.length) :
    Calls Try.prog 41 #[.slice A1 xs.length c1, .slice A2 ts.length c2, .slice A3 ys.length c3] w (Fresh 3 1 w (farL xs ts ys ts.length).length (nums .i64 (farL xs ts ys ts.length))) := by
  obtain ⟨i0, hi0, hz0, hz1, hz2⟩ := info_parts int_info
  have HX := Lib.hid hx
  have HY := Lib.hid hy
  have HL := Lib.hid hl
  have HLT := Lib.hid hlt
  have HT := Lib.hid ht
  have HC := Lib.hid (implJumpStarts_any (A1 := A1) (A2 := A3) (c1 := c1) (c2 := c3) (B1 := B1) (B2 := B3) xs ys (w.alloc (.cells #[] 3)) (h1.alloc hB1 _) (by simp; omega) (h3.alloc hB3 _) (by simp; omega) hx hy hl hm)
  have hbt : ts.length ≤ 8 := by omega
  clear hx hy hl hlt ht
  go_enter Try.func41, Try.ntmps41
  go_wp2_with fail
  refine HC.out.mono ?_
  rintro e w1 ⟨As, cs, rfl, os, s1⟩
  have hb1 : Below w.heap.size w w1 := ((Below.refl _ _).alloc (Nat.le_refl _) _).trans (s1.mono (by simp))
  have hz : w.heap.size + 1 ≤ w1.heap.size := by have := s1.size; simpa using this
  have ho0 : w1.ownsRow w.heap.size 3 1 (.slice (some ⟨w.heap.size, 0, none⟩) 0 0) 0 (nums .i64 []) := own_below (World.ownsRow_lit (base := w.heap.size) (e := 3) (size := 1) w #[] 0 (Nat.le_refl _) (by unfold maxLen; omega) rfl) s1
  clear s1 HC
  have HS := Lib.hid os
  have hsu := own_up os
  have HSL := Lib.hid (starts_len xs ys)
  clear os
  have hbS := starts_len xs ys
  have HSS := Lib.hid hbS
  have hsl : (starts xs ys).length = xs.length + 1 := hbS
  go_wp2
  go_loopw [7, 17] (fun v i wr => ∃ (k : Nat) (A : Option Addr) (c : Nat), k ≤ ts.length ∧ i = .int .i64 k ∧ v = .slice A (farL xs ts ys k).length c ∧ Below w.heap.size w wr ∧ wr.ownsRow w.heap.size 3 1 (.slice A (farL xs ts ys k).length c) (farL xs ts ys k).length (nums .i64 (farL xs ts ys k)) ∧
    wr.ownsRow (w.alloc (.cells #[] 3)).heap.size 3 1 (.slice As (xs.length + 1) cs) (xs.length + 1) (nums .i64 (starts xs ys)) ∧ Hid (∀ a b, As = some a → A = some b → a.block ≠ b.block)) (fun _ i _ => ts.length - (intOf i).toNat)
  case atStart =>
    refine ⟨0, _, _, Nat.zero_le _, rfl, rfl, hb1, ho0, HS.out, Lib.hid (fun a b h h2 => ?_)⟩
    have := hsu a h
    injection h2 with h2
    subst h2
    simp at this ⊢
    omega
  case round =>
    obtain ⟨k, A, c, hk, rfl, rfl, hb, ho, hS, HD⟩ := hrel
    clear ho0 hb1
    by_cases hlt : k < ts.length
    · have hlt3 : k < ys.length := by rw [HL.out, ← HLT.out]; exact hlt
      have hkx : k < xs.length := by rw [← HLT.out]; exact hlt
      have htk := HT.out k hlt
      have e1 := getD_eq hlt
      have e2 := getD_eq hlt3
      obtain ⟨a2, u2, rfl, hbl2, hx2, hc2⟩ := ((h2.more hB2).below hb).at_ hlt
      obtain ⟨a3, u3, rfl, hbl3, hx3, hc3⟩ := ((h3.more hB3).below hb).at_ hlt3
      rw [nums_get _ _ hlt] at hx2
      rw [nums_get _ _ hlt3] at hx3
      injection hx2 with hx2
      injection hx3 with hx3
      subst hx2 hx3
      have hRS : Reads wr wr.heap.size 1 As (starts xs ys).length (nums .i64 (starts xs ys)) := by rw [HSS.out]; exact Reads.of_own hS
      obtain ⟨bs, offs, rfl, hbs, hcs1⟩ := reads_starts hRS (k := (ts[k]).toNat) (by omega)
      obtain ⟨bs', offs', he, _, hcs2⟩ := reads_starts hRS (k := k + 1) (by omega)
      injection he with he
      injection he with he1 he2
      subst he1 he2
      have HBD1 := stAt_bd HX.out HY.out HL.out (ts[k]).toNat (by omega)
      have HBD2 := stAt_bd HX.out HY.out HL.out (k + 1) (by omega)
      have HF : Hid (farAt xs ts ys k = (decide (ys[k] = 2) && !inB (stAt xs ys (ts[k]).toNat - stAt xs ys (k + 1)) (-128) 127)) := by
        unfold farAt nearB
        rw [e1, e2]
        exact rfl
      have HY0 := Lib.hid (fun h => farL_yes (xs := xs) (ts := ts) (ys := ys) (n := k) h)
      have HN0 := Lib.hid (fun h => farL_no (xs := xs) (ts := ts) (ys := ys) (n := k) h)
      have hfl := farL_len xs ts ys k
      clear e1 e2 hRS
      have HO := Lib.hid ho
      have HSo := Lib.hid hS
      have hbz : w.heap.size ≤ wr.heap.size := hb.size
      have HB := Lib.hid hb
      clear ho hS hb
      generalize ts[k] = t at *
      generalize ys[k] = y at *
      generalize stAt xs ys t.toNat = s1 at *
      generalize stAt xs ys (k + 1) = s2 at *
      generalize hfk : farL xs ts ys k = fk at *
      have HFK := Lib.hid hfk
      clear hfk
      obtain ⟨ht0, ht1⟩ := htk
      have k0 : (0 : Int) ≤ (k : Int) := Int.natCast_nonneg _
      have k3 : (k : Int) < (ys.length : Int) := by omega
      have k4 : t < ((xs.length + 1 : Nat) : Int) := by omega
      have k5 : (k : Int) + 1 < ((xs.length + 1 : Nat) : Int) := by omega
      have k6 : (0 : Int) ≤ (k : Int) + 1 := by omega
      have hd1 : s1 - s2 ≤ 2000000 ∧ -2000000 ≤ s1 - s2 := by omega
      have y1 : IntKind.i64.wrap ((k : Int) + 1) = (k : Int) + 1 := IntWalk.i64_in _ (by omega)
      have y2 : IntKind.i64.wrap (s1 - s2) = s1 - s2 := IntWalk.i64_in _ (by omega)
      have y3 : ((k : Int) + 1).toNat = k + 1 := by omega
      by_cases hy2 : y = 2
      · subst hy2
        cases hn : inB (s1 - s2) (-128) 127
        · have HN := Lib.hid hn
          have HR : Hid (farL xs ts ys (k + 1) = fk ++ [(k : Int)]) := by rw [HY0.out (by rw [HF.out, HN.out]; rfl)]; exact rfl
          clear hn HY0 HN0 HF
          go_wp2
          go_quiet (first | (with_reducible exact Calls.quiet_of_same (within_k HN _)))
          clear y1 y2 y3
          go_wp2_with (at_builtin; refine wpList_push _ rfl (.tmp 41) (.tmp 43) _ rfl w.heap.size 3 i0 _ 1 8 Try.underlying22 hi0 hz0 hz1 hz2 rfl (by omega) (by omega) A fk.length c 1 1 (nums .i64 fk) [.int .i64 (k : Int)] (by exact HO.out.alloc _) rfl ⟨wr.heap.size, 0, none⟩ rfl rfl (World.news_of_block (cs := #[.int .i64 (k : Int)]) (t := 3) (fr := (0, 0)) (by exact heap_alloc_new wr _)) (by simp [Value.oneCell']) (by omega) (by omega) (by simp; omega) ?_; intro A' c' w1 hown1 hgrow hat hkeep)
          go_roundw
          case rel =>
            have hb1 : Below w.heap.size w (wr.alloc (Obj.cells #[.int .i64 (k : Int)] 3)) := HB.out.alloc HB.out.size _
            have hg1 : (wr.alloc (Obj.cells #[.int .i64 (k : Int)] 3)).grownBy w1 (A.map (·.block)) := by exact ⟨hgrow.os, hgrow.tape, hgrow.output, hgrow.size, hgrow.block⟩
            have hlen : (farL xs ts ys (k + 1)).length = fk.length + 1 := by rw [HR.out]; simp
            refine ⟨k + 1, A', c', by omega, by go_num, by rw [hlen], ?_, ?_, ?_, Lib.hid ?_⟩
            · exact below_push (w := wr.alloc (Obj.cells #[.int .i64 (k : Int)] 3)) hb1 (HO.out.alloc _) (Nat.le_refl _) hb1.size hg1
            · have e : nums .i64 (fk ++ [(k : Int)]) = nums .i64 fk ++ [.int .i64 (k : Int)] := by simp [nums]
              rw [hlen, HR.out, e]
              exact hown1
            · exact own_other (HSo.out.alloc _) hg1 (fun a a2 ha ha2 => HD.out a a2 ha ha2)
            · intro a b ha hb2
              have hlt2 : a.block < wr.heap.size := (own_up HSo.out a ha).2
              rcases hat b hb2 with ⟨b0, hb0, he⟩ | hge
              · rw [← he]; exact HD.out a b0 ha hb0
              · have hge' : wr.heap.size + 1 ≤ b.block := by simpa using hge
                omega
          case measure => simp [intOf]; omega
        · have HN := Lib.hid hn
          have HR : Hid (farL xs ts ys (k + 1) = fk) := by rw [HN0.out (by rw [HF.out, HN.out]; rfl)]; exact rfl
          clear hn HY0 HN0 HF
          go_wp2
          go_quiet (first | (with_reducible exact Calls.quiet_of_same (within_k HN _)))
          go_wp2
          go_roundw
          case rel =>
            refine ⟨k + 1, A, c, by omega, by go_num, by rw [HR.out], below_drewN HB.out _, ?_, HSo.out, HD⟩
            rw [HR.out]
            exact HO.out
          case measure => simp [intOf]; omega
      · have hy3 : (y == 2) = false := by simp [hy2]
        have HR : Hid (farL xs ts ys (k + 1) = fk) := by rw [HN0.out (by rw [HF.out, decide_eq_false hy2]; rfl)]; exact rfl
        clear HY0 HN0 HF hy2
        go_wp2
        go_quiet (fail)
        go_wp2
        go_roundw
        case rel =>
          refine ⟨k + 1, A, c, by omega, by go_num, by rw [HR.out], below_drewN HB.out _, ?_, HSo.out, HD⟩
          rw [HR.out]
          exact HO.out
        case measure => simp [intOf]; omega
    · obtain rfl : k = ts.length := by omega
      go_wp2
      go_ret
      exact ⟨A, c, rfl, ho, hb⟩
end Go.Proofs.Ytfdihhpnkmpidaa
