/- Chains of sections in memory: a row of rows. No condition. -/
import Derived.Test.YtgibmbjdnppiaaaRows
import Derived.Test.YtgibmbjdnppiaaaBase
import Derived.Test.YtgibmbjdnppiaaaBase2
import Derived.Test.YtgibmbjdnppiaaaBase3
import Derived.Test.YtgibmbjdnppiaaaIdxI
import Derived.Test.YtgibmbjdnppiaaaPick2
import Derived.Test.YtgibmbjdnppiaaaEdge
import Derived.Test.YtgibmbjdnppiaaaEdgeV
import Derived.Test.YtgibmbjdnppiaaaCallP
import Derived.Test.YtgibmbjdnppiaaaOrdP
import Derived.WalkKit
import Derived.WalkSpells
import Derived.WalkLawsBesides
import Derived.Handy
import Derived.BigQuiet
import Derived.Deep.RegionHeld3
import Derived.Deep.DrawnRows
import Derived.Deep.QuietTactic
import Derived.Lib.AppendZeros
namespace Go.Proofs.Ytgibmbjdnppiaaa
open Go Go.RowKit

/-- A chain in memory. -/
structure Ch where
  A : Option Addr
  c : Nat
  xs : List Int
instance : Inhabited Ch := ⟨⟨none, 0, []⟩⟩
def Ch.val (k : Ch) : Value := .slice k.A k.xs.length k.c
def Ch.Own (k : Ch) (w : World) (lo : Nat) : Prop := w.ownsRow lo 3 1 (.slice k.A k.xs.length k.c) k.xs.length (nums .i64 k.xs)
theorem own_types_neC {w : World} {b1 b2 : Nat} {e1 e2 : TypeId} {s1 s2 : Nat} {A1 A2 : Option Addr} {n1 c1 n2 c2 : Nat} {xs ys : List Value} (h1 : w.ownsRow b1 e1 s1 (.slice A1 n1 c1) n1 xs) (h2 : w.ownsRow b2 e2 s2 (.slice A2 n2 c2) n2 ys) (hne : e1 ≠ e2) : ∀ a1 a2, A1 = some a1 → A2 = some a2 → a1.block ≠ a2.block := by
  rintro a1 a2 rfl rfl heq
  rcases h1.2 with ⟨hv, _⟩ | ⟨g1, cap1, cur1, hv1, _, hg1, _⟩
  · cases hv
  · rcases h2.2 with ⟨hv, _⟩ | ⟨g2, cap2, cur2, hv2, _, hg2, _⟩
    · cases hv
    · injection hv1 with q1
      injection q1 with q1
      injection hv2 with q2
      injection q2 with q2
      subst q1 q2
      simp only at heq
      subst heq
      rw [hg1] at hg2
      injection hg2 with hg2
      injection hg2 with _ hg2
      exact hne hg2
/-- Rows of a call's own: the outer one holds these values, the inner ones lie apart. -/
structure Chs (lo : Nat) (OA : Option Addr) (oc : Nat) (vals : List Value) (ks : List Ch) (wq : World) : Prop where
  outer : wq.ownsRow lo 36 1 (.slice OA vals.length oc) vals.length vals
  inner : ∀ k ∈ ks, k.Own wq lo
  apart : ks.Pairwise (fun a b => Apart a.A b.A)
section
variable {lo oc : Nat} {OA : Option Addr} {vals : List Value} {ks : List Ch} {wq w' : World}
theorem Chs.below (h : Chs lo OA oc vals ks wq) (s : Below wq.heap.size wq w') : Chs lo OA oc vals ks w' := ⟨own_below h.outer s, fun k hk => own_below (h.inner k hk) s, h.apart⟩
theorem Chs.alloc (h : Chs lo OA oc vals ks wq) (o : Go.Obj) : Chs lo OA oc vals ks (wq.alloc o) := h.below ((Below.refl _ _).alloc (Nat.le_refl _) _)
theorem Chs.drewN (h : Chs lo OA oc vals ks wq) (n : Nat) : Chs lo OA oc vals ks (wq.drewN n) := h.below (below_drewN (Below.refl _ _) n)
theorem Chs.reads (h : Chs lo OA oc vals ks wq) : Reads wq wq.heap.size 1 OA vals.length vals := Reads.of_own h.outer
theorem Chs.readsIn (h : Chs lo OA oc vals ks wq) : ∀ k ∈ ks, Reads wq wq.heap.size 1 k.A k.xs.length (nums .i64 k.xs) := fun k hk => Reads.of_own (h.inner k hk)
theorem Chs.ne (h : Chs lo OA oc vals ks wq) {k : Ch} (hk : k ∈ ks) : Apart k.A OA := own_types_neC (h.inner k hk) h.outer (by decide)
/-- The outer row was written or has grown, and nothing else that was there. -/
theorem Chs.outerTo (h : Chs lo OA oc vals ks wq) {OA' : Option Addr} {oc' : Nat} {vals' : List Value} (ho : w'.ownsRow lo 36 1 (.slice OA' vals'.length oc') vals'.length vals') (hg : wq.grownBy w' (OA.map (·.block))) : Chs lo OA' oc' vals' ks w' :=
  ⟨ho, fun k hk => own_other (h.inner k hk) hg (h.ne hk), h.apart⟩
theorem Chs.more (h : Chs lo OA oc vals ks wq) (k : Ch) (hk : k.Own wq lo) (ha : ∀ j ∈ ks, Apart j.A k.A) : Chs lo OA oc vals (ks ++ [k]) wq :=
  ⟨h.outer, fun j hj => by
    rcases List.mem_append.1 hj with hj | hj
    · exact h.inner j hj
    · rw [List.mem_singleton.1 hj]; exact hk, List.pairwise_append.2 ⟨h.apart, List.pairwise_singleton _ _, fun a ha' b hb => by rw [List.mem_singleton.1 hb]; exact ha a ha'⟩⟩
/-- A chain is another now, apart from the rest. -/
theorem Chs.swap (h : Chs lo OA oc vals ks wq) (a : Nat) (k : Ch) (hk : k.Own wq lo) (hd : ∀ (i : Nat) (hi : i < ks.length), i ≠ a → Apart ks[i].A k.A) : Chs lo OA oc vals (ks.set a k) wq := by
  refine ⟨h.outer, fun j hj => ?_, ?_⟩
  · rcases List.mem_or_eq_of_mem_set hj with hj | hj
    · exact h.inner j hj
    · rw [hj]; exact hk
  · rw [List.pairwise_iff_getElem]
    intro i j hi hj hij
    have hp := List.pairwise_iff_getElem.1 h.apart
    rw [List.length_set] at hi hj
    rw [List.getElem_set, List.getElem_set]
    by_cases e1 : a = i
    · rw [if_pos e1, if_neg (by omega)]
      exact (hd j hj (by omega)).symm
    · rw [if_neg e1]
      by_cases e2 : a = j
      · rw [if_pos e2]; exact hd i hi (by omega)
      · rw [if_neg e2]; exact hp i j hi hj hij
theorem Chs.erase (h : Chs lo OA oc vals ks wq) (b : Nat) : Chs lo OA oc vals (ks.eraseIdx b) wq := ⟨h.outer, fun k hk => h.inner k (List.mem_of_mem_eraseIdx hk), h.apart.sublist (List.eraseIdx_sublist _ _)⟩
theorem Chs.up (h : Chs lo OA oc vals ks wq) {k : Ch} (hk : k ∈ ks) : ∀ a, k.A = some a → lo ≤ a.block ∧ a.block < wq.heap.size := own_up (h.inner k hk)
theorem Chs.nil (w : World) (hb : lo ≤ w.heap.size) : Chs lo (some ⟨w.heap.size, 0, none⟩) 0 [] [] (w.alloc (.cells #[] 36)) :=
  ⟨World.ownsRow_lit (base := lo) (e := 36) (size := 1) w #[] 0 hb (by unfold maxLen; omega) rfl, fun k hk => by simp at hk, List.Pairwise.nil⟩
end
/-- The chain that a section is in, by its rows. -/
def inCh (n : Int) (k : Ch) : Bool := k.xs.any fun x => decide (x = n)
theorem idx_eq {ks : List Ch} {n : Int} (h : n ∈ (ks.map Ch.xs).flatten) : idxOf (inCh n) ks = (idxC (ks.map Ch.xs) n : Int) ∧ idxC (ks.map Ch.xs) n < ks.length := by
  have hl := idxC_lt h
  rw [List.length_map] at hl
  have hb : ∀ c : List Int, c.contains n = c.any fun x => decide (x = n) := fun c => by
    rw [Bool.eq_iff_iff]
    simp
  refine ⟨idxOf_at hl ?_ (fun j hj hlt => ?_), hl⟩
  · have := List.findIdx_getElem (p := fun c : List Int => c.contains n) (xs := ks.map Ch.xs) (w := by rw [List.length_map]; exact hl)
    rw [hb] at this
    unfold inCh
    simpa [idxC] using this
  · have := List.not_of_lt_findIdx (p := fun c : List Int => c.contains n) (xs := ks.map Ch.xs) (i := j) hlt
    unfold inCh
    rw [← hb]
    simpa using this
theorem ch_get {ks : List Ch} {j : Nat} (h : j < ks.length) : (ks.map Ch.val)[j]? = some (.slice ks[j].A ks[j].xs.length ks[j].c) := by
  rw [List.getElem?_map, List.getElem?_eq_getElem h]
  rfl
set_option maxHeartbeats 2000000 in
theorem specChain_any {OA : Option Addr} {oc B : Nat} (n : Int) (ks : List Ch) (w : World) (h1 : Reads w B 1 OA (ks.map Ch.val).length (ks.map Ch.val)) (h2 : ∀ k ∈ ks, Reads w w.heap.size 1 k.A k.xs.length (nums .i64 k.xs)) (hs : ∀ k ∈ ks, k.xs.length ≤ 1000) (hm : ks.length ≤ 1000) :
    Calls Try.prog 41 #[.slice OA ks.length oc, .int .i64 n] w fun e w' => e = .returned (.int .i64 (idxOf (inCh n) ks)) ∧ w = w' := by
  have HS := Lib.hid hs
  have H2 := Lib.hid h2
  clear hs h2
  rw [List.length_map] at h1
  go_enter Try.func41, Try.ntmps41
  go_wp2
  go_loop [5, 6] (fun i _ => ∃ k : Nat, k ≤ ks.length ∧ i = .int .i64 k ∧ Hid (∀ j, (h : j < ks.length) → j < k → inCh n ks[j] = false)) (fun i _ => ks.length - (intOf i).toNat)
  case atStart => exact ⟨0, Nat.zero_le _, rfl, fun j _ hj => by omega⟩
  case round =>
    obtain ⟨k, hk, rfl, HA⟩ := hrel
    by_cases hlt : k < ks.length
    · obtain ⟨ad, u1, rfl, hbl, hx1, hc1⟩ := h1.at_ hlt
      rw [ch_get hlt] at hx1
      injection hx1 with hx1
      subst hx1
      have HR := Lib.hid (H2.out ks[k] (List.getElem_mem hlt))
      have HL := HS.out ks[k] (List.getElem_mem hlt)
      have HI1 := Lib.hid (fun (h : inCh n ks[k] = true) => idxOf_at (p := inCh n) hlt h (fun j h hj => HA.out j h hj))
      have HI2 : Hid (inCh n ks[k] = ks[k].xs.any fun x => decide (x = n)) := rfl
      have HA2 : Hid (inCh n ks[k] = false → ∀ j, (h : j < ks.length) → j < k + 1 → inCh n ks[j] = false) := fun hf j h hj => by
        by_cases hjk : j < k
        · exact HA.out j h hjk
        · obtain rfl : j = k := by omega
          exact hf
      clear HA
      have hki : (k : Int) < (ks.length : Int) := by omega
      generalize inCh n ks[k] = bb at *
      generalize ks[k].A = cA at *
      generalize ks[k].c = cc at *
      generalize ks[k].xs = xs at *
      go_wp2
      go_loop [6] (fun i => ∃ j : Nat, j ≤ xs.length ∧ i = .int .i64 j ∧ Hid (∀ q, (h : q < xs.length) → q < j → decide (xs[q] = n) = false)) (fun i => xs.length - (intOf i).toNat)
      case atStart => exact ⟨0, Nat.zero_le _, rfl, fun j _ hj => by omega⟩
      case round =>
        obtain ⟨j, hj, rfl, HB⟩ := hrel
        by_cases hjl : j < xs.length
        · obtain ⟨ad2, u2, rfl, hbl2, hx2, hc2⟩ := HR.out.at_ hjl
          rw [nums_get _ _ hjl] at hx2
          injection hx2 with hx2
          subst hx2
          have hji : (j : Int) < (xs.length : Int) := by omega
          by_cases he : xs[j] = n
          · have ht : (xs[j] == n) = true := by simp [he]
            have HT : Hid (bb = true) := by
              rw [Hid, HI2.out]
              exact List.any_eq_true.2 ⟨xs[j], List.getElem_mem hjl, decide_eq_true he⟩
            have HQ := Lib.hid (HI1.out HT.out)
            clear he HI1 HI2 HA2 HT HB
            generalize xs[j] = y at *
            go_wp2
            go_ret
            rw [HQ.out]
            exact ⟨rfl, rfl⟩
          · have ht : (xs[j] == n) = false := by simpa using he
            have HB2 : Hid (∀ q, (h : q < xs.length) → q < j + 1 → decide (xs[q] = n) = false) := fun q h hq => by
              by_cases hqj : q < j
              · exact HB.out q h hqj
              · obtain rfl : q = j := by omega
                exact decide_eq_false he
            clear he HB
            generalize xs[j] = y at hc2 ht
            go_wp2
            go_round
            case rel => exact ⟨j + 1, by omega, by go_num, HB2⟩
            case measure => simp [intOf]; omega
        · have HF : Hid (bb = false) := by
            rw [Hid, HI2.out, List.any_eq_false]
            intro x hx
            obtain ⟨q, hq, rfl⟩ := List.getElem_of_mem hx
            simpa using HB.out q hq (by omega)
          have HQ := Lib.hid (HA2.out HF.out)
          have hji : ¬ (j : Int) < (xs.length : Int) := by omega
          clear HI1 HI2 HA2 HF HB
          go_wp2
          go_round
          case rel => exact ⟨k + 1, by omega, by go_num, HQ⟩
          case measure => simp [intOf]; omega
    · have HI := Lib.hid (idxOf_none (p := inCh n) (xs := ks) (fun j h => HA.out j h (by omega)))
      have hki : ¬ (k : Int) < (ks.length : Int) := by omega
      go_wp2
      go_ret
      rw [HI.out]
      exact ⟨rfl, rfl⟩
set_option maxHeartbeats 1000000 in
theorem indexFuncCh_any (A : Option Addr) (c B f : Nat) (cap : Array Value) (p : Ch → Bool) (xs : List Ch) (w : World) (h1 : Reads w B 1 A (xs.map Ch.val).length (xs.map Ch.val)) (hB : B ≤ w.heap.size) (hm : xs.length ≤ maxLen)
    (hcall : ∀ args w, (callFunc f args).run Try.prog w = .ok (.enter f args) w) (hf : ∀ x ∈ xs, ∀ w', Below w.heap.size w w' → Calls Try.prog f (#[.slice x.A x.xs.length x.c] ++ cap) w' (Gives w' (.bool (p x)))) :
    Calls Try.prog 46 #[.slice A xs.length c, .func (.func f) #[] cap] w (Gives w (.int .i64 (idxOf p xs))) := by
  unfold maxLen at hm
  have HF := Lib.hid hf
  clear hf
  rw [List.length_map] at h1
  go_enter Try.func46, Try.ntmps46
  go_wp2
  go_loopw [8, 5] (fun i _ wr => ∃ k : Nat, k ≤ xs.length ∧ i = .int .i64 k ∧ Hid (∀ j, (h : j < xs.length) → j < k → p xs[j] = false) ∧ Below w.heap.size w wr) (fun i _ _ => xs.length - (intOf i).toNat)
  case atStart => exact ⟨0, Nat.zero_le _, rfl, fun j _ hj => by omega, Below.refl _ _⟩
  case round =>
    obtain ⟨k, hk, rfl, HA, hb⟩ := hrel
    by_cases hlt : k < xs.length
    · have hC := HF.out xs[k] (List.getElem_mem hlt)
      have HC := Lib.hid hC
      clear hC
      obtain ⟨ad, u1, rfl, hbl, hx1, hc1⟩ := ((h1.more hB).below hb).at_ hlt
      rw [ch_get hlt] at hx1
      injection hx1 with hx1
      subst hx1
      by_cases hp : p xs[k] = true
      · have HI := Lib.hid (idxOf_at hlt hp (fun j h hj => HA.out j h hj))
        have HP := Lib.hid hp
        clear hp
        go_wp2_with fail
        refine (HC.out _ hb).mono ?_
        rintro e w2 ⟨rfl, hb2⟩
        have hP := HP.out
        go_wp2
        go_ret
        rw [HI.out]
        exact ⟨rfl, hb.trans (hb2.mono hb.size)⟩
      · have hp' : p xs[k] = false := by simpa using hp
        have HP := Lib.hid hp'
        clear hp hp'
        go_wp2_with fail
        refine (HC.out _ hb).mono ?_
        rintro e w2 ⟨rfl, hb2⟩
        have hP := HP.out
        go_wp2
        go_roundw
        case rel => exact ⟨k + 1, by omega, by go_num, Lib.hid (fun j h hj => by
          by_cases hjk : j < k
          · exact HA.out j h hjk
          · obtain rfl : j = k := by omega
            exact HP.out), hb.trans (hb2.mono hb.size)⟩
        case measure => simp [intOf]; omega
    · have HI := Lib.hid (idxOf_none (p := p) (xs := xs) (fun j h => HA.out j h (by omega)))
      go_wp2
      go_ret
      rw [HI.out]
      exact ⟨rfl, hb⟩
set_option maxHeartbeats 1000000 in
theorem inCh2_any (k : Ch) (ge : Nat) (n : Int) (w : World) (h : Reads w w.heap.size 1 k.A k.xs.length (nums .i64 k.xs)) (hs : k.xs.length ≤ 1000) (hc : w.cell? ⟨ge, 0, none⟩ = some (.int .i64 n)) : Calls Try.prog 47 #[.slice k.A k.xs.length k.c, .pointer (some ⟨ge, 0, none⟩)] w (Gives w (.bool (inCh n k))) := by
  have HC := Lib.hid (containsInt_any (A := k.A) (c := k.c) n k.xs w h (by unfold maxLen; omega))
  have HE : Hid (inCh n k = k.xs.any fun x => decide (x = n)) := rfl
  rw [HE.out]
  generalize (k.xs.any fun x => decide (x = n)) = r at HC ⊢
  clear HE h
  go_enter Try.func47, Try.ntmps47
  go_wp2_with fail
  refine HC.out.mono ?_
  rintro e w' ⟨rfl, rfl⟩
  go_wp2
  go_ret
  exact ⟨rfl, Below.refl _ _⟩
theorem findCh2_any {OA : Option Addr} {oc B : Nat} (n : Int) (ge : Nat) (ks : List Ch) (w : World) (h1 : Reads w B 1 OA (ks.map Ch.val).length (ks.map Ch.val)) (hB : B ≤ w.heap.size) (h2 : ∀ k ∈ ks, Reads w w.heap.size 1 k.A k.xs.length (nums .i64 k.xs)) (hs : ∀ k ∈ ks, k.xs.length ≤ 1000) (hm : ks.length ≤ 1000) (hc : w.cell? ⟨ge, 0, none⟩ = some (.int .i64 n)) :
    Calls Try.prog 46 #[.slice OA ks.length oc, .func (.func 47) #[] #[.pointer (some ⟨ge, 0, none⟩)]] w (Gives w (.int .i64 (idxOf (inCh n) ks))) :=
  indexFuncCh_any OA oc B 47 #[.pointer (some ⟨ge, 0, none⟩)] (inCh n) ks w h1 hB (by unfold maxLen; omega) (fun args w => by kernel_rfl) (fun k hk w' hb => by
    have hl := World.block_lt_of_cell? w _ hc
    exact inCh2_any k ge n w' (((h2 k hk).below hb).more hb.size) (hs k hk) ((World.cell?_of_block (hb.block _ hl)).trans hc))
set_option maxHeartbeats 1000000 in
theorem inCh3_any (k : Ch) (ge : Nat) (n : Int) (w : World) (h : Reads w w.heap.size 1 k.A k.xs.length (nums .i64 k.xs)) (hs : k.xs.length ≤ 1000) (hc : w.cell? ⟨ge, 1, none⟩ = some (.int .i64 n)) : Calls Try.prog 48 #[.slice k.A k.xs.length k.c, .pointer (some ⟨ge, 0, none⟩)] w (Gives w (.bool (inCh n k))) := by
  have HC := Lib.hid (containsInt_any (A := k.A) (c := k.c) n k.xs w h (by unfold maxLen; omega))
  have HE : Hid (inCh n k = k.xs.any fun x => decide (x = n)) := rfl
  rw [HE.out]
  generalize (k.xs.any fun x => decide (x = n)) = r at HC ⊢
  clear HE h
  go_enter Try.func48, Try.ntmps48
  go_wp2_with fail
  refine HC.out.mono ?_
  rintro e w' ⟨rfl, rfl⟩
  go_wp2
  go_ret
  exact ⟨rfl, Below.refl _ _⟩
theorem findCh3_any {OA : Option Addr} {oc B : Nat} (n : Int) (ge : Nat) (ks : List Ch) (w : World) (h1 : Reads w B 1 OA (ks.map Ch.val).length (ks.map Ch.val)) (hB : B ≤ w.heap.size) (h2 : ∀ k ∈ ks, Reads w w.heap.size 1 k.A k.xs.length (nums .i64 k.xs)) (hs : ∀ k ∈ ks, k.xs.length ≤ 1000) (hm : ks.length ≤ 1000) (hc : w.cell? ⟨ge, 1, none⟩ = some (.int .i64 n)) :
    Calls Try.prog 46 #[.slice OA ks.length oc, .func (.func 48) #[] #[.pointer (some ⟨ge, 0, none⟩)]] w (Gives w (.int .i64 (idxOf (inCh n) ks))) :=
  indexFuncCh_any OA oc B 48 #[.pointer (some ⟨ge, 0, none⟩)] (inCh n) ks w h1 hB (by unfold maxLen; omega) (fun args w => by kernel_rfl) (fun k hk w' hb => by
    have hl := World.block_lt_of_cell? w _ hc
    exact inCh3_any k ge n w' (((h2 k hk).below hb).more hb.size) (hs k hk) ((World.cell?_of_block (hb.block _ hl)).trans hc))
theorem chint_info : (Try.prog.info? 3).map (fun i => (i.zero, i.size, i.bytes)) = some (some (.int .i64 0), 1, 8) := by kernel_rfl
theorem zeroCells_size (z : Array Value) (n : Nat) : (Builtin.zeroCells z n).size = n * z.size := by simp [Builtin.zeroCells]
set_option maxHeartbeats 2000000 in
theorem grow_any (n : Nat) (w : World) (h0 : 0 < n) (hn : n ≤ 1000) : Calls Try.prog 56 #[.slice none 0 0, .int .i64 (n : Int)] w fun e w' => ∃ A c, e = .returned (.slice A 0 c) ∧ w'.ownsRow w.heap.size 3 1 (.slice A 0 c) 0 [] ∧ Below w.heap.size w w' := by
  obtain ⟨i0, hi0, hz0, hz1, hz2⟩ := info_parts chint_info
  have hrz := fun (w : World) (ty : TypeId) => Lib.run_append_nil_zeros (P := Try.prog) w 36 3 ty 3 i0 (.int .i64 0) .i64 .i64 Try.underlying36 Try.underlying3 hi0 hz0 n h0 (by omega) (by omega) (by rw [hz2]; omega)
  have HG : Hid (∀ w : World, n ≤ grownCap w n 0 3 ∧ grownCap w n 0 3 ≤ maxLen) := fun w => ⟨by simpa using grownCap_ge w n 0 3, grownCap_le_maxLen w n 0 3 (by unfold maxLen; omega)⟩
  have h1 : ¬ ((n : Int) < 0) := by omega
  have h2 : IntKind.i64.wrap (n : Int) = n := IntWalk.i64_in _ (by omega)
  have h3 : (0 : Int) < (n : Int) := by omega
  go_enter Try.func56, Try.ntmps56
  go_wp2_with (at_builtin; refine Lib.wpList_append_run _ rfl _ _ _ _ rfl _ _ rfl rfl _ _ (hrz _ _) ?_)
  go_ret
  refine ⟨_, _, rfl, ⟨rfl, .inr ⟨w.heap.size, _, _, rfl, Nat.le_refl _, heap_alloc_new _ _, Nat.zero_le _, (HG.out w).2, ?_, by simp⟩⟩, ?_⟩
  · have := (HG.out w).1
    rw [Array.size_append, zeroCells_size, zeroCells_size]
    simp
    omega
  · exact (below_drewN (Below.refl _ _) 1).alloc (Nat.le_refl _) _
end Go.Proofs.Ytgibmbjdnppiaaa
