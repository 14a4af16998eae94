/- Contracts of the two LooseBytes. Condition: the cells are bytes. -/
import Derived.Test.YteceiaaiocdlfaaRows
import Derived.Test.YteceiaaiocdlfaaBase
import Derived.Test.YteceiaaiocdlfaaBase2
import Derived.Test.YteceiaaiocdlfaaShelf
import Derived.Test.YteceiaaiocdlfaaSqz
import Derived.Test.YteceiaaiocdlfaaBase3
import Derived.Test.YteceiaaiocdlfaaIn
import Derived.Test.YteceiaaiocdlfaaRepB
import Derived.Test.YteceiaaiocdlfaaFill
import Derived.Test.YteceiaaiocdlfaaLooP
import Derived.Deep.RegionHeld3
import Derived.Deep.DrawnRows
import Derived.WalkKit
import Derived.WalkSpells
import Derived.WalkLawsBesides
import Derived.Handy
import Derived.BigQuiet
import Derived.Deep.QuietTactic
namespace Go.Proofs.Yteceiaaiocdlfaa
open Go Go.RowKit

theorem below_any {W w w' : World} {base : Nat} {t : TypeId} {size : Nat} {A : Option Addr} {n c : Nat} {xs : List Value} {B : Nat} (hb : Below B W w) (h : w.ownsRow base t size (.slice A n c) n xs) (hB : B ≤ base) (hw : B ≤ w.heap.size)
    (hg : w.grownBy w' (Value.ownBlock (.slice A n c))) : Below B W w' := by
  have hob : Value.ownBlock (.slice A n c) = A.map (·.block) := by cases A <;> rfl
  rw [hob] at hg
  exact below_push hb h hB hw hg
theorem cell_far {w w' : World} {base : Nat} {t : TypeId} {size : Nat} {A : Option Addr} {n c : Nat} {xs : List Value} (h : w.ownsRow base t size (.slice A n c) n xs) (hg : w.grownBy w' (Value.ownBlock (.slice A n c))) {q : Addr} {v : Value} (hq : q.block < base) (hc : w.cell? q = some v) : w'.cell? q = some v := by
  have hob : Value.ownBlock (.slice A n c) = A.map (·.block) := by cases A <;> rfl
  rw [hob] at hg
  refine (World.cell?_of_block (hg.block q.block (World.block_lt_of_cell? w q hc) (fun e => ?_))).trans hc
  cases A with
  | none => cases e
  | some a =>
    have := own_up h a rfl
    have e' : q.block = a.block := by simpa using e
    omega
set_option maxRecDepth 100000 in
set_option maxHeartbeats 8000000 in
theorem implLoose_any {A1 : Option Addr} {c1 B1 : Nat} (bs : List Int) (w : World) (h1 : Reads w B1 1 A1 bs.length (nums .u8 bs)) (hB1 : B1 ≤ w.heap.size) (hm : bs.length ≤ 1048577) (hcap : bs.length ≤ c1) (hc63 : c1 ≤ maxLen) (hx : isB bs) :
    Calls Try.prog 41 #[.slice A1 bs.length c1] w (Fresh2 5 1 w (looL bs).length (nums .u8 (looL bs)) (.bool (looOk bs))) := by
  obtain ⟨i0, hi0, hz0, hz1, hz2⟩ := info_parts byte_info
  unfold maxLen at hc63
  have hm' : (bs.length : Int) ≤ 1048577 := by omega
  have HX := Lib.hid hx
  clear hx
  by_cases hodd : bs.length % 2 = 1
  · have HO := Lib.hid (loo_odd hodd)
    have HL := Lib.hid (loo_no HO.out)
    have ho : ((bs.length : Int) % 2 == 1) = true := by simp; omega
    clear hodd
    go_enter Try.func41, Try.ntmps41
    go_wp2
    refine bodyPost_ret (v := .tuple #[.slice none 0 0, .bool false]) (by simp [results, Try.results41, go_sem]) rfl ?_
    rw [HO.out, HL.out]
    exact ⟨none, 0, rfl, ⟨by simp [nums], .inl ⟨rfl, rfl⟩⟩, (Below.refl _ _).alloc (Nat.le_refl _) _⟩
  · have ho : ((bs.length : Int) % 2 == 1) = false := by simp; omega
    have heven : bs.length % 2 = 0 := by omega
    have HEV := Lib.hid heven
    clear hodd heven
    go_enter Try.func41, Try.ntmps41
    go_wp2
    go_loopw [4, 5] (fun v iv wr => ∃ (k i n : Nat) (A : Option Addr) (c : Nat), Hid (i = 2 * k) ∧ i ≤ bs.length ∧ n ≤ 900 ∧ iv = .int .i64 i ∧ v = .slice A n c ∧ Hid (Below w.heap.size w wr) ∧ Hid (wr.ownsRow w.heap.size 5 1 (.slice A n c) n (nums .u8 (looTo bs k)))) (fun _ iv _ => bs.length - (intOf iv).toNat)
    case atStart =>
      refine ⟨0, 0, 0, _, _, rfl, Nat.zero_le _, by omega, rfl, rfl, (Below.refl _ _).alloc (Nat.le_refl _) _, ?_⟩
      exact World.ownsRow_lit (base := w.heap.size) (e := 5) (size := 1) w #[] 0 (Nat.le_refl _) (by unfold maxLen; omega) rfl
    case round =>
      obtain ⟨k, i, n, A, c, HI, hk, hn, rfl, rfl, HB, HO⟩ := hrel
      have hbz : w.heap.size ≤ wr.heap.size := HB.out.size
      have HLn : Hid (n = (looTo bs k).length) := by have := HO.out.1; simp [nums] at this; unfold Hid; omega
      by_cases hlt : i < bs.length ∧ n ≤ 600
      · obtain ⟨hlt, hn6⟩ := hlt
        have hlt1 : i + 1 < bs.length := by have := HEV.out; have := HI.out; omega
        have HQ : Hid (looTo bs (k + 1) = looTo bs k ++ List.replicate (bs[i]).toNat (bs[i + 1])) := by
          have hi := HI.out
          subst hi
          exact looTo_step hlt1
        have hq := isB_at HX.out hlt
        have HR := Lib.hid ((h1.more hB1).below HB.out)
        obtain ⟨b, off, rfl, hbl, hcs⟩ := h1.row_ (by omega) (by omega)
        obtain ⟨b', off', he, _, hcs⟩ := HR.out.row_ (by omega) (by omega)
        injection he with he
        injection he with he1 he2
        subst he1 he2
        have e0 : wr.cell? ⟨b, off + i, none⟩ = some (.int .u8 bs[i]) := hcs _ _ (nums_get _ _ hlt)
        have e1 : wr.cell? ⟨b, off + (i + 1), none⟩ = some (.int .u8 bs[i + 1]) := hcs _ _ (nums_get _ _ hlt1)
        have HR1 : Hid (Reads wr.drew wr.drew.heap.size 1 (some ⟨b, off + (i + 1), none⟩) 1 (nums .u8 [bs[i + 1]])) := ⟨by simp [nums], fun _ => ⟨_, rfl, by show b < wr.heap.size; omega, fun j u hu => by
          obtain ⟨hj, rfl⟩ := List.getElem?_eq_some_iff.1 hu
          simp [nums] at hj
          subst hj
          exact e1⟩⟩
        clear hcs
        obtain ⟨q, hqq⟩ : ∃ q : Nat, bs[i] = (q : Int) := ⟨bs[i].toNat, by omega⟩
        rw [hqq] at e0 hq HQ
        have hq8 : q ≤ 8192 := by omega
        clear hqq
        generalize bs[i + 1] = x at *
        have HQ2 : Hid (looTo bs (k + 1) = looTo bs k ++ List.replicate q x) := by have h := HQ.out; simpa [Hid] using h
        have HE0 := Lib.hid e0
        clear e1 HQ
        have i0' : (0 : Int) ≤ (i : Int) := by omega
        have i1 : (i : Int) < (bs.length : Int) := by omega
        have i2 : (i : Int) + 1 ≤ (i : Int) + 2 := by omega
        have i3 : (i : Int) + 2 ≤ (c1 : Int) := by omega
        have i4 : (n : Int) ≤ 600 := by omega
        have i5 : (0 : Int) ≤ (i : Int) + 1 := by omega
        have i6 : ¬ c1 = i + 1 := by omega
        have y1 : IntKind.i64.wrap ((i : Int) + 1) = (i : Int) + 1 := IntWalk.i64_in _ (by omega)
        have y2 : IntKind.i64.wrap ((i : Int) + 2) = (i : Int) + 2 := IntWalk.i64_in _ (by omega)
        have y3 : ((i : Int) + 1).toNat = i + 1 := by omega
        have y5 : ((i : Int) + 2).toNat = i + 2 := by omega
        have y6 : i + 2 - (i + 1) = 1 := by omega
        have y7 : IntKind.i64.wrap (q : Int) = (q : Int) := IntWalk.i64_in _ (by omega)
        go_wp2
        go_region_held3 (fun w' => w'.cell? ⟨b, off + i, none⟩ = some (.int .u8 (q : Int))) (first | assumption | go_keep) (first | (go_simp; go_at_call 59; (with_reducible refine (repeatByte_any x q _ HR1.out (Nat.le_refl _) hq8).mono ?_); rintro e w4 ⟨A4, c4, rfl, r4, s4⟩; have s4' : Below wr.heap.size wr w4 := (below_drewN (Below.refl _ wr) 1).trans s4; have HB4 := Lib.hid (HB.out.trans (s4'.mono HB.out.size)); have HO4 := Lib.hid (own_below HO.out s4'); have HR4 := Lib.hid r4; have z4 : w.heap.size ≤ w4.heap.size := HB4.out.size; have e40 : w4.cell? ⟨b, off + i, none⟩ = some (.int .u8 (q : Int)) := (s4'.cell (World.block_lt_of_cell? wr _ HE0.out)).trans HE0.out; clear r4 s4 s4') | (refine step_append_any _ (by rfl) _ _ _ (by rfl) w.heap.size 5 i0 _ 1 1 Try.underlying28 hi0 hz0 hz1 hz2 rfl (by omega) (.slice A n c) n _ (by rfl) HO4.out w4.heap.size A4 q c4 _ (by rfl) HR4.out (nums_one _ _) (by unfold maxLen; omega) (by omega) z4 ?_; intro v5 w5 ho5 hg5 hat5; have HB5 := Lib.hid (below_any HB4.out HO4.out (Nat.le_refl _) z4 hg5); have HO5 := Lib.hid ho5; have e50 := Lib.hid ((cell_far HO4.out hg5 (Nat.lt_of_lt_of_le hbl hB1) e40 : w5.cell? ⟨b, off + i, none⟩ = some (.int .u8 (q : Int)))); have e51 := e50.out; clear ho5 hg5 hat5))
        clear y1 y2 y3 y5 y6 y7
        obtain ⟨A5, c5, rfl⟩ := own_slice HO5.out
        go_wp2
        go_roundw
        case rel =>
          refine ⟨k + 1, i + 2, n + q, A5, c5, Lib.hid (by have := HI.out; omega), by omega, by omega, by go_num, rfl, HB5.out, ?_⟩
          have e : nums .u8 (looTo bs (k + 1)) = nums .u8 (looTo bs k) ++ nums .u8 (List.replicate q x) := by rw [HQ2.out]; simp [nums]
          rw [e]
          exact HO5.out
        case measure => simp [intOf]; omega
      · have HIB := Lib.hid (looTo_isB HX.out k (by have := HI.out; omega))
        by_cases hn6 : n ≤ 600
        · have hge : ¬ i < bs.length := fun h => hlt ⟨h, hn6⟩
          have HAll : Hid (looAll bs = looTo bs k) := by
            unfold looAll
            have e : bs.length / 2 = k := by have := HI.out; omega
            rw [e]
            exact rfl
          have hge' : decide ((i : Int) < (bs.length : Int)) = false := by simp; omega
          have hng : decide ((n : Int) > 600) = false := by simp; omega
          clear hlt
          have HRo : Hid (Reads wr wr.heap.size 1 A (looTo bs k).length (nums .u8 (looTo bs k))) := by rw [← HLn.out]; exact Reads.of_own HO.out
          have HSq := Lib.hid (fun w' (hb : Below wr.heap.size wr w') => implSqueeze_any (A1 := A) (c1 := c) (looTo bs k) w' (HRo.out.below hb) hb.size (by have := HLn.out; unfold maxLen; omega))
          rw [← HLn.out] at HSq
          have HRb := Lib.hid ((h1.more hB1).below HB.out)
          by_cases heq : squeeze (looTo bs k) = bs
          · have HEQ : Hid (looOk bs = true) := decide_eq_true ⟨HEV.out, by rw [HAll.out, ← HLn.out]; exact hn6, by rw [HAll.out]; exact heq⟩
            have HV : Hid (looL bs = looTo bs k) := by rw [loo_yes HEQ.out]; exact HAll.out
            have HD : Hid (decide (squeeze (looTo bs k) = bs) = true) := decide_eq_true heq
            clear heq
            go_wp2_with fail
            refine (HSq.out _ (Below.refl _ _)).mono ?_
            rintro e w1 ⟨As, cs, rfl, os, s1⟩
            have HSB := Lib.hid (squeeze_isB HIB.out)
            go_wp2_with fail
            refine (bytesEqual_any (squeeze (looTo bs k)) bs _ (Reads.of_own os) (HRb.out.below (s1.mono HB.out.size)) HSB.out HX.out).mono ?_
            rintro e w' ⟨rfl, rfl⟩
            rw [HD.out]
            go_wp2
            refine bodyPost_ret (v := .tuple #[.slice A n c, .bool true]) (by simp [results, Try.results41, go_sem]) rfl ?_
            rw [HEQ.out, HV.out, ← HLn.out]
            exact ⟨A, c, rfl, own_below HO.out s1, HB.out.trans (s1.mono HB.out.size)⟩
          · have HEQ : Hid (looOk bs = false) := decide_eq_false (by rintro ⟨_, _, h⟩; rw [HAll.out] at h; exact heq h)
            have HV := Lib.hid (loo_no HEQ.out)
            have HD : Hid (decide (squeeze (looTo bs k) = bs) = false) := decide_eq_false heq
            clear heq
            go_wp2_with fail
            refine (HSq.out _ (Below.refl _ _)).mono ?_
            rintro e w1 ⟨As, cs, rfl, os, s1⟩
            have HSB := Lib.hid (squeeze_isB HIB.out)
            go_wp2_with fail
            refine (bytesEqual_any (squeeze (looTo bs k)) bs _ (Reads.of_own os) (HRb.out.below (s1.mono HB.out.size)) HSB.out HX.out).mono ?_
            rintro e w' ⟨rfl, rfl⟩
            rw [HD.out]
            go_wp2
            refine bodyPost_ret (v := .tuple #[.slice none 0 0, .bool false]) (by simp [results, Try.results41, go_sem]) rfl ?_
            rw [HEQ.out, HV.out]
            exact ⟨none, 0, rfl, ⟨by simp [nums], .inl ⟨rfl, rfl⟩⟩, HB.out.trans (s1.mono HB.out.size)⟩
        · have HEQ : Hid (looOk bs = false) := loo_long (k := k) (by have := HI.out; omega) (by have := HLn.out; omega)
          have HV := Lib.hid (loo_no HEQ.out)
          have hn6' : ¬ (n : Int) ≤ 600 := by omega
          have hng : (n : Int) > 600 := by omega
          clear hlt
          by_cases hil : (i : Int) < (bs.length : Int)
          all_goals
            go_wp2
            refine bodyPost_ret (v := .tuple #[.slice none 0 0, .bool false]) (by simp [results, Try.results41, go_sem]) rfl ?_
            rw [HEQ.out, HV.out]
            exact ⟨none, 0, rfl, ⟨by simp [nums], .inl ⟨rfl, rfl⟩⟩, HB.out⟩
set_option maxRecDepth 100000 in
set_option maxHeartbeats 8000000 in
theorem specLoose_any {A1 : Option Addr} {c1 B1 : Nat} (bs : List Int) (w : World) (h1 : Reads w B1 1 A1 bs.length (nums .u8 bs)) (hB1 : B1 ≤ w.heap.size) (hm : bs.length ≤ 1048577) (hcap : bs.length ≤ c1) (hc63 : c1 ≤ maxLen) (hx : isB bs) :
    Calls Try.prog 42 #[.slice A1 bs.length c1] w (Fresh2 5 1 w (looL bs).length (nums .u8 (looL bs)) (.bool (looOk bs))) := by
  obtain ⟨i0, hi0, hz0, hz1, hz2⟩ := info_parts byte_info
  unfold maxLen at hc63
  have hm' : (bs.length : Int) ≤ 1048577 := by omega
  have HX := Lib.hid hx
  clear hx
  go_enter Try.func42, Try.ntmps42
  go_wp2
  go_loopw [4, 5, 6] (fun v iv _ wr => ∃ (k i n : Nat) (A : Option Addr) (c : Nat), Hid (i = 2 * k) ∧ i ≤ bs.length ∧ n ≤ 600 ∧ iv = .int .i64 i ∧ v = .slice A n c ∧ Hid (Below w.heap.size w wr) ∧ Hid (wr.ownsRow w.heap.size 5 1 (.slice A n c) n (nums .u8 (looTo bs k)))) (fun _ iv _ _ => bs.length - (intOf iv).toNat)
  case atStart =>
    refine ⟨0, 0, 0, _, _, rfl, Nat.zero_le _, by omega, rfl, rfl, (Below.refl _ _).alloc (Nat.le_refl _) _, ?_⟩
    exact World.ownsRow_lit (base := w.heap.size) (e := 5) (size := 1) w #[] 0 (Nat.le_refl _) (by unfold maxLen; omega) rfl
  case round =>
    obtain ⟨k, i, n, A, c, HI, hk, hn, rfl, rfl, HB, HO⟩ := hrel
    have hbz : w.heap.size ≤ wr.heap.size := HB.out.size
    have HLn : Hid (n = (looTo bs k).length) := by have := HO.out.1; simp [nums] at this; unfold Hid; omega
    by_cases hlt : i + 1 < bs.length
    · have hlt0 : i < bs.length := by omega
      have HQ : Hid (looTo bs (k + 1) = looTo bs k ++ List.replicate (bs[i]).toNat (bs[i + 1])) := by
        have hi := HI.out
        subst hi
        exact looTo_step hlt
      have hq := isB_at HX.out hlt0
      obtain ⟨b, off, rfl, hbl, hcs⟩ := h1.row_ (by omega) (by omega)
      have hcsW : ∀ wr, Below w.heap.size w wr → ∀ j u, (nums .u8 bs)[j]? = some u → wr.cell? ⟨b, off + j, none⟩ = some u := fun wr hb j u hu => (hb.cell (p := ⟨b, off + j, none⟩) (by show b < _; omega)).trans (hcs j u hu)
      have HC0 : Hid (∀ wr, Below w.heap.size w wr → wr.cell? ⟨b, off + i, none⟩ = some (.int .u8 bs[i])) := fun wr hb => hcsW wr hb _ _ (nums_get _ _ hlt0)
      have HC1 : Hid (∀ wr, Below w.heap.size w wr → wr.cell? ⟨b, off + (i + 1), none⟩ = some (.int .u8 bs[i + 1])) := fun wr hb => hcsW wr hb _ _ (nums_get _ _ hlt)
      clear hcs hcsW
      obtain ⟨q, hqq⟩ : ∃ q : Nat, bs[i] = (q : Int) := ⟨bs[i].toNat, by omega⟩
      rw [hqq] at hq HQ HC0
      clear hqq
      generalize bs[i + 1] = x at *
      have HQ2 : Hid (looTo bs (k + 1) = looTo bs k ++ List.replicate q x) := by have h := HQ.out; simpa [Hid] using h
      have e0 := HC0.out _ HB.out
      clear HQ
      have i1 : (i : Int) + 1 < (bs.length : Int) := by omega
      have i2 : (i : Int) < (bs.length : Int) := by omega
      by_cases hbig : 600 < n + q
      · have HEQ : Hid (looOk bs = false) := loo_long (k := k + 1) (by have := HI.out; omega) (by rw [HQ2.out, List.length_append, List.length_replicate, ← HLn.out]; exact hbig)
        have HV := Lib.hid (loo_no HEQ.out)
        have j1 : (n : Int) + (q : Int) > 600 := by omega
        go_wp2
        refine bodyPost_ret (v := .tuple #[.slice (some ⟨wr.heap.size, 0, none⟩) 0 0, .bool false]) (by simp [results, Try.results42, go_sem]) rfl ?_
        rw [HEQ.out, HV.out]
        exact ⟨_, _, rfl, World.ownsRow_lit (base := w.heap.size) (e := 5) (size := 1) wr #[] 0 hbz (by unfold maxLen; omega) rfl, HB.out.alloc hbz _⟩
      · have j1 : ¬ (n : Int) + (q : Int) > 600 := by omega
        go_wp2
        obtain ⟨wo, hwo⟩ : ∃ wo : World, wo = wr := ⟨_, rfl⟩
        subst hwo
        go_loopw [4, 6] (fun v jv wr => ∃ (j m : Nat) (A : Option Addr) (c : Nat), j ≤ q ∧ m ≤ 600 ∧ jv = .int .i64 j ∧ v = .slice A m c ∧ Hid (m = n + j) ∧ Hid (Below w.heap.size w wr) ∧ Hid (wr.ownsRow w.heap.size 5 1 (.slice A m c) m (nums .u8 (looTo bs k ++ List.replicate j x)))) (fun _ jv _ => q - (intOf jv).toNat)
        case atStart => exact ⟨0, n, A, c, Nat.zero_le _, hn, rfl, rfl, rfl, HB, by simpa using HO⟩
        case round =>
          clear HB HO
          obtain ⟨j, m, A, c, hj, hm6, rfl, rfl, HM, HB, HO⟩ := hrel
          have hbz2 : w.heap.size ≤ wr.heap.size := HB.out.size
          have e0 := HC0.out _ HB.out
          have e1 := HC1.out _ HB.out
          have i3 : (0 : Int) ≤ (i : Int) + 1 := by omega
          by_cases hjq : j < q
          · go_wp2_with (at_builtin; refine wpList_push _ rfl (.tmp 34) (.tmp 40) _ rfl w.heap.size 5 i0 _ 1 1 Try.underlying28 hi0 hz0 hz1 hz2 rfl (by omega) (by omega) A m c 1 1 _ [.int .u8 x] (by exact HO.out.alloc _) rfl ⟨wr.heap.size, 0, none⟩ rfl rfl (World.news_of_block (cs := #[.int .u8 x]) (t := 5) (fr := (0, 0)) (by exact heap_alloc_new wr _)) (by simp [Value.oneCell']) (by omega) (by omega) (by simp; omega) ?_; intro A' c' w1 ho1 hg1 ha1 hk1; have HO1 := Lib.hid ho1; have HB1 := Lib.hid (below_push (HB.out.alloc hbz2 _) (HO.out.alloc _) (Nat.le_refl _) (by simp; omega) hg1); clear ho1 hg1 ha1 hk1)
            go_roundw
            case rel =>
              refine ⟨j + 1, m + 1, A', c', by omega, by have := HM.out; omega, by go_num, rfl, Lib.hid (by have := HM.out; omega), HB1.out, ?_⟩
              have e : nums .u8 (looTo bs k ++ List.replicate (j + 1) x) = nums .u8 (looTo bs k ++ List.replicate j x) ++ [.int .u8 x] := by simp [nums, List.replicate_succ']
              rw [e]
              exact HO1.out
            case measure => simp [intOf]; omega
          · obtain rfl : j = q := by omega
            go_wp2
            go_roundw
            case rel => exact ⟨k + 1, i + 2, m, A, c, Lib.hid (by have := HI.out; omega), by omega, hm6, by go_num, rfl, HB, by rw [HQ2.out]; exact HO⟩
            case measure => simp [intOf]; omega
    · have HIB := Lib.hid (looTo_isB HX.out k (by have := HI.out; omega))
      have HAll : Hid (looAll bs = looTo bs k) := by
        unfold looAll
        have e : bs.length / 2 = k := by have := HI.out; omega
        rw [e]
        exact rfl
      have hge' : decide ((i : Int) + 1 < (bs.length : Int)) = false := by simp; omega
      clear hlt
      have HRo : Hid (Reads wr wr.heap.size 1 A (looTo bs k).length (nums .u8 (looTo bs k))) := by rw [← HLn.out]; exact Reads.of_own HO.out
      have HSq := Lib.hid (fun w' (hb : Below wr.heap.size wr w') => specSqueeze_any (A1 := A) (c1 := c) (looTo bs k) w' (HRo.out.below hb) hb.size (by have := HLn.out; unfold maxLen; omega))
      rw [← HLn.out] at HSq
      have HRb := Lib.hid ((h1.more hB1).below HB.out)
      have hsl := squeeze_len (looTo bs k)
      by_cases heq : squeeze (looTo bs k) = bs
      · have HEQ : Hid (looOk bs = true) := decide_eq_true ⟨by have h := squeeze_even (looTo bs k); rw [heq] at h; exact h, by rw [HAll.out, ← HLn.out]; exact hn, by rw [HAll.out]; exact heq⟩
        have HV : Hid (looL bs = looTo bs k) := by rw [loo_yes HEQ.out]; exact HAll.out
        have HD : Hid (decide (squeeze (looTo bs k) = bs) = true) := decide_eq_true heq
        clear heq
        go_wp2_with fail
        refine (HSq.out _ (Below.refl _ _)).mono ?_
        rintro e w1 ⟨As, cs, rfl, os, s1⟩
        go_wp2_with fail
        refine (l7Same_any (squeeze (looTo bs k)) bs _ (Reads.of_own os) (HRb.out.below (s1.mono HB.out.size)) (by unfold maxLen; omega) (by unfold maxLen; omega)).mono ?_
        rintro e w2 ⟨rfl, s2⟩
        rw [HD.out]
        go_wp2
        refine bodyPost_ret (v := .tuple #[.slice A n c, .bool true]) (by simp [results, Try.results42, go_sem]) rfl ?_
        rw [HEQ.out, HV.out, ← HLn.out]
        have s12 := s1.trans (s2.mono s1.size)
        exact ⟨A, c, rfl, own_below HO.out s12, HB.out.trans (s12.mono HB.out.size)⟩
      · have HEQ : Hid (looOk bs = false) := decide_eq_false (by rintro ⟨_, _, h⟩; rw [HAll.out] at h; exact heq h)
        have HV := Lib.hid (loo_no HEQ.out)
        have HD : Hid (decide (squeeze (looTo bs k) = bs) = false) := decide_eq_false heq
        clear heq
        go_wp2_with fail
        refine (HSq.out _ (Below.refl _ _)).mono ?_
        rintro e w1 ⟨As, cs, rfl, os, s1⟩
        go_wp2_with fail
        refine (l7Same_any (squeeze (looTo bs k)) bs _ (Reads.of_own os) (HRb.out.below (s1.mono HB.out.size)) (by unfold maxLen; omega) (by unfold maxLen; omega)).mono ?_
        rintro e w2 ⟨rfl, s2⟩
        rw [HD.out]
        go_wp2
        have s12 := HB.out.trans ((s1.trans (s2.mono s1.size)).mono HB.out.size)
        have zz := s12.size
        refine bodyPost_ret (v := .tuple #[.slice (some ⟨w2.heap.size, 0, none⟩) 0 0, .bool false]) (by simp [results, Try.results42, go_sem]) rfl ?_
        rw [HEQ.out, HV.out]
        exact ⟨_, _, rfl, World.ownsRow_lit (base := w.heap.size) (e := 5) (size := 1) w2 #[] 0 zz (by unfold maxLen; omega) rfl, s12.alloc zz _⟩
end Go.Proofs.Yteceiaaiocdlfaa
