/- The walk of FnEdgesValid. No condition. -/
import Derived.Test.YtgibmbjdnppiaaaRows
import Derived.Test.YtgibmbjdnppiaaaBase
import Derived.Test.YtgibmbjdnppiaaaBase2
import Derived.Test.YtgibmbjdnppiaaaBase3
import Derived.Test.YtgibmbjdnppiaaaIn
import Derived.Test.YtgibmbjdnppiaaaIn2
import Derived.Test.YtgibmbjdnppiaaaEdge
import Derived.Test.YtgibmbjdnppiaaaFindEdg
import Derived.Test.YtgibmbjdnppiaaaEdgeV
import Derived.Test.YtgibmbjdnppiaaaEdgeW
import Derived.Test.YtgibmbjdnppiaaaAlive
import Derived.Test.YtgibmbjdnppiaaaPick
import Derived.Test.YtgibmbjdnppiaaaPick2
import Derived.Test.YtgibmbjdnppiaaaOpenC
import Derived.Test.YtgibmbjdnppiaaaDrawE
import Derived.WalkKit
import Derived.WalkSpells
import Derived.WalkLawsBesides
import Derived.Handy
import Derived.BigQuiet
import Derived.Deep.RegionHeld3
import Derived.Deep.DrawnRows
import Derived.Deep.QuietTactic
namespace Go.Proofs.Ytgibmbjdnppiaaa
open Go Go.RowKit

def DrewEdgesT (w : World) (e : Ending) (w' : World) : Prop :=
  ∃ (many : Int) (A : Option Addr) (c : Nat) (xs : List Edg), e = .returned (.tuple #[.int .i64 many, .slice A xs.length c]) ∧ w'.ownsRow w.heap.size 33 3 (.slice A xs.length c) xs.length (xs.flatMap Edg.cells) ∧
    (0 ≤ many ∧ many ≤ 9) ∧ xs.length ≤ 8 ∧ Below w.heap.size w w'
set_option maxRecDepth 100000 in
set_option maxHeartbeats 4000000 in
theorem DrawEdgesValid_any {A : Option Addr} {c : Nat} (xs : List Int) (w : World) (h1 : Reads w w.heap.size 1 A xs.length (nums .u8 xs)) (hx : ∀ x ∈ xs, 0 ≤ x ∧ x ≤ 255) (hm : xs.length ≤ 1048576) (hc : xs.length ≤ c) (hc2 : c ≤ maxLen) :
    Calls Try.prog 14 #[.slice A xs.length c] w (DrewEdgesT w) := by
  have HO := Lib.hid (open_any xs w h1 hx hm hc hc2)
  clear h1 hx
  go_enter Try.func14, Try.ntmps14
  go_wp2_with fail
  refine HO.out.mono ?_
  rintro e w1 ⟨rfl, hr, hz, hb⟩
  have HZ := Lib.hid hz
  clear hz
  go_wp2_with fail
  refine (l20Edges_any _ 0 2 _ hr (by omega) (by omega) (by omega)).mono ?_
  rintro e w2 ⟨many, A1, c1, es, rfl, oa, hm1, hl, hr2, hg⟩
  go_wp2
  refine bodyPost_ret (v := .tuple #[.int .i64 many, .slice A1 es.length c1]) (by simp [results, Try.results14, go_sem]) rfl ?_
  exact ⟨many, A1, c1, es, rfl, own_base oa hb.size, hm1, hl, below_gr hb hg (Nat.le_refl _)⟩
theorem edg_one (l : List Edg) : ∀ u ∈ l.flatMap Edg.cells, u.oneCell' = true := by
  intro u hu
  rw [List.mem_flatMap] at hu
  obtain ⟨x, _, hx⟩ := hu
  simp only [Edg.cells, List.mem_cons, List.not_mem_nil, or_false] at hx
  rcases hx with rfl | rfl | rfl <;> rfl
theorem edg_flat_len (l : List Edg) : (l.flatMap Edg.cells).length = l.length * 3 := flat_len Edg.cells 3 Edg.cells_len l
theorem edg_drop (l : List Edg) : ∀ k, (l.flatMap Edg.cells).drop (k * 3) = (l.drop k).flatMap Edg.cells := by
  induction l with
  | nil => intro k; simp
  | cons x l ih =>
    intro k
    match k with
    | 0 => simp
    | k + 1 =>
      rw [List.drop_succ_cons, ← ih k, List.flatMap_cons]
      have e : (k + 1) * 3 = x.cells.length + k * 3 := by rw [Edg.cells_len]; omega
      rw [e, List.drop_length_add_append]
theorem edgesOk_self (many : Int) (xs : List Edg) : edgesOk many (xs ++ [(⟨0, 0, 1⟩ : Edg)]) = false := by
  unfold edgesOk
  have : (xs ++ [(⟨0, 0, 1⟩ : Edg)]).all (edgeOk (many - 1)) = false := by
    rw [List.all_eq_false]
    exact ⟨⟨0, 0, 1⟩, by simp, by simp [edgeOk]⟩
  rw [this, Bool.and_false]
theorem edgesOk_part {many : Int} {xs : List Edg} (h : edgesOk many xs = true) (k : Nat) : edgesOk many (xs.drop k) = true := by
  unfold edgesOk at h ⊢
  rw [Bool.and_eq_true, Bool.and_eq_true] at h ⊢
  obtain ⟨⟨h1, h2⟩, h3⟩ := h
  refine ⟨⟨h1, decide_eq_true (by have := of_decide_eq_true h2; simp; omega)⟩, ?_⟩
  rw [List.all_eq_true] at h3 ⊢
  intro x hx
  exact h3 x (List.mem_of_mem_drop hx)

set_option maxRecDepth 100000 in
set_option maxHeartbeats 8000000 in
theorem FnEdgesValid_walk (W : World) (v0 : Value) (a0 : ArgCode W v0) : Calls Try.prog 4 #[v0] W (Gives W (.bool true)) := by
  obtain ⟨i0, hi0, hz0, hz1, hz2⟩ := info_parts edg_info
  obtain ⟨A, c, cs, rfl, hr, hc1, hc2, hcb⟩ := a0
  by_cases hl : cs.length ≤ 1048576
  · have HD := Lib.hid (DrawEdgesValid_any cs W hr hcb hl hc1 hc2)
    clear hcb hr
    unfold maxLen at hc2
    go_enter Try.func4, Try.ntmps4
    go_wp2_with fail
    refine HD.out.mono ?_
    rintro e w1 ⟨many, A1, c1, xs, rfl, oa, ⟨hm1, hm2⟩, hl1, b1⟩
    clear HD
    go_wp2_with fail
    refine (implEdgesValid_any many xs _ (Reads.of_own oa) (Nat.le_refl _) (by unfold maxLen; omega)).mono ?_
    rintro e w2 ⟨rfl, s2⟩
    replace oa := own_below oa s2
    have b2 := b1.trans (s2.mono b1.size)
    clear s2
    go_wp2_with fail
    refine (specEdgesValid_any many xs _ (Reads.of_own oa) (Nat.le_refl _) (by unfold maxLen; omega)).mono ?_
    rintro e w3 ⟨rfl, s3⟩
    have HA := Lib.hid (own_below oa s3)
    have HG3 := Lib.hid (b2.trans (s3.mono b2.size))
    clear s3 oa b1 b2
    have zz := HG3.out.size
    have HF := Lib.hid (edgesOk_self many xs)
    cases hj : edgesOk many xs
    · clear hj
      go_wp2_with (first | (at_builtin; refine wpList_appendS _ rfl (.tmp 23) (.tmp 24) _ rfl W.heap.size 33 i0 _ 3 24 Try.underlying25 hi0 hz0 hz1 hz2 rfl (by omega) (by omega) (some ⟨w3.heap.size, 0, none⟩) 0 0 [] rfl (by exact World.ownsRow_lit (base := W.heap.size) (e := 33) (size := 3) w3 #[] 0 (by omega) (by unfold maxLen; omega) rfl) w3.heap.size A1 xs.length c1 (xs.flatMap Edg.cells) rfl (by exact (Reads.of_own HA.out).alloc (Nat.le_refl _) _) (edg_one _) (by omega) (by simp; omega) ?_; intro Ax cx w4 ho4 hg4 ha4; simp only [Nat.zero_add, List.nil_append] at ho4; have s4 : Below w3.heap.size w3 w4 := below_lit hg4 (Nat.le_refl _); have PxA := Lib.hid (apart_lit HA.out (Nat.le_refl _) (by simp) ha4); have Hx := Lib.hid ho4; replace HA := Lib.hid (own_below HA.out s4); have HG4 := Lib.hid (HG3.out.trans (s4.mono HG3.out.size)); have zz4 := HG4.out.size; clear HG3; clear s4 ho4 hg4 ha4) | (at_builtin; refine wpList_push _ rfl (.tmp 25) (.tmp 27) _ rfl W.heap.size 33 i0 _ 3 24 Try.underlying25 hi0 hz0 hz1 hz2 rfl (by omega) (by omega) Ax xs.length cx 1 1 (xs.flatMap Edg.cells) [.int .i64 0, .int .i64 0, .int .i64 1] (by exact Hx.out.alloc _) rfl ⟨w4.heap.size, 0, none⟩ rfl rfl (World.news_of_block (cs := #[.int .i64 0, .int .i64 0, .int .i64 1]) (t := 33) (fr := (0, 0)) (by exact heap_alloc_new w4 _)) (by simp [Value.oneCell']) (by omega) (by omega) (by simp; omega) ?_; intro Ax' cx' w5 ho5 hg5 ha5 hk5; have HAn := Lib.hid (own_apart (HA.out.alloc _) hg5 PxA.out.symm); have PxAn := Lib.hid (apart_push PxA.out HA.out (by simp) ha5); have HG5 := Lib.hid (below_push (HG4.out.alloc HG4.out.size _) (Hx.out.alloc _) (Nat.le_refl _) (by simp; omega) hg5); have Hxn := Lib.hid ho5; have zz5 := HG5.out.size; clear ho5 hg5 ha5 hk5 HG4 HA Hx PxA; have HA := Lib.hid HAn.out; clear HAn; have Hx := Lib.hid Hxn.out; clear Hxn; have PxA := Lib.hid PxAn.out; clear PxAn))
      have e1 : xs.flatMap Edg.cells ++ [.int .i64 0, .int .i64 0, .int .i64 1] = (xs ++ [(⟨0, 0, 1⟩ : Edg)]).flatMap Edg.cells := by simp [Edg.cells]
      have R1 := Reads.of_own Hx.out
      rw [e1] at R1
      have HV := Lib.hid (implEdgesValid_any (A := Ax') (c := cx') many (xs ++ [(⟨0, 0, 1⟩ : Edg)]) w5 (by simpa using R1) (Nat.le_refl _) (by simp; unfold maxLen; omega))
      rw [HF.out] at HV
      simp only [List.length_append, List.length_cons, List.length_nil, Nat.zero_add] at HV
      clear R1 e1
      refine (HV.out).mono ?_
      rintro e w6 ⟨rfl, s6⟩
      replace HA := Lib.hid (own_below HA.out s6)
      replace Hx := Lib.hid (own_below Hx.out s6)
      have HG6 := Lib.hid (HG5.out.trans (s6.mono HG5.out.size))
      have zz6 := HG6.out.size
      clear HG5
      clear s6
      go_wp2_with fail
      refine (alive_any _).mono ?_
      rintro e w' ⟨rfl, rfl⟩
      go_wp2
      go_ret
      exact ⟨rfl, HG6.out⟩
    · have HP := Lib.hid (edgesOk_part hj (xs.length / 2))
      clear hj
      go_wp2_with (first | (at_builtin; refine wpList_appendS _ rfl (.tmp 23) (.tmp 24) _ rfl W.heap.size 33 i0 _ 3 24 Try.underlying25 hi0 hz0 hz1 hz2 rfl (by omega) (by omega) (some ⟨w3.heap.size, 0, none⟩) 0 0 [] rfl (by exact World.ownsRow_lit (base := W.heap.size) (e := 33) (size := 3) w3 #[] 0 (by omega) (by unfold maxLen; omega) rfl) w3.heap.size A1 xs.length c1 (xs.flatMap Edg.cells) rfl (by exact (Reads.of_own HA.out).alloc (Nat.le_refl _) _) (edg_one _) (by omega) (by simp; omega) ?_; intro Ax cx w4 ho4 hg4 ha4; simp only [Nat.zero_add, List.nil_append] at ho4; have s4 : Below w3.heap.size w3 w4 := below_lit hg4 (Nat.le_refl _); have PxA := Lib.hid (apart_lit HA.out (Nat.le_refl _) (by simp) ha4); have Hx := Lib.hid ho4; replace HA := Lib.hid (own_below HA.out s4); have HG4 := Lib.hid (HG3.out.trans (s4.mono HG3.out.size)); have zz4 := HG4.out.size; clear HG3; clear s4 ho4 hg4 ha4) | (at_builtin; refine wpList_push _ rfl (.tmp 25) (.tmp 27) _ rfl W.heap.size 33 i0 _ 3 24 Try.underlying25 hi0 hz0 hz1 hz2 rfl (by omega) (by omega) Ax xs.length cx 1 1 (xs.flatMap Edg.cells) [.int .i64 0, .int .i64 0, .int .i64 1] (by exact Hx.out.alloc _) rfl ⟨w4.heap.size, 0, none⟩ rfl rfl (World.news_of_block (cs := #[.int .i64 0, .int .i64 0, .int .i64 1]) (t := 33) (fr := (0, 0)) (by exact heap_alloc_new w4 _)) (by simp [Value.oneCell']) (by omega) (by omega) (by simp; omega) ?_; intro Ax' cx' w5 ho5 hg5 ha5 hk5; have HAn := Lib.hid (own_apart (HA.out.alloc _) hg5 PxA.out.symm); have PxAn := Lib.hid (apart_push PxA.out HA.out (by simp) ha5); have HG5 := Lib.hid (below_push (HG4.out.alloc HG4.out.size _) (Hx.out.alloc _) (Nat.le_refl _) (by simp; omega) hg5); have Hxn := Lib.hid ho5; have zz5 := HG5.out.size; clear ho5 hg5 ha5 hk5 HG4 HA Hx PxA; have HA := Lib.hid HAn.out; clear HAn; have Hx := Lib.hid Hxn.out; clear Hxn; have PxA := Lib.hid PxAn.out; clear PxAn))
      have e1 : xs.flatMap Edg.cells ++ [.int .i64 0, .int .i64 0, .int .i64 1] = (xs ++ [(⟨0, 0, 1⟩ : Edg)]).flatMap Edg.cells := by simp [Edg.cells]
      have R1 := Reads.of_own Hx.out
      rw [e1] at R1
      have HV := Lib.hid (implEdgesValid_any (A := Ax') (c := cx') many (xs ++ [(⟨0, 0, 1⟩ : Edg)]) w5 (by simpa using R1) (Nat.le_refl _) (by simp; unfold maxLen; omega))
      rw [HF.out] at HV
      simp only [List.length_append, List.length_cons, List.length_nil, Nat.zero_add] at HV
      clear R1 e1
      refine (HV.out).mono ?_
      rintro e w6 ⟨rfl, s6⟩
      replace HA := Lib.hid (own_below HA.out s6)
      replace Hx := Lib.hid (own_below Hx.out s6)
      have HG6 := Lib.hid (HG5.out.trans (s6.mono HG5.out.size))
      have zz6 := HG6.out.size
      clear HG5
      clear s6
      clear Hx PxA
      have hca : xs.length ≤ c1 := by
        rcases HA.out.2 with ⟨hv, h0⟩ | ⟨g, cap, cur, hv, _, _, hnc, _⟩
        · omega
        · injection hv with h1 h2 h3
          omega
      have R2 := (Reads.of_own HA.out).cut (k := xs.length / 2) (cap := c1) (by omega) hca
      rw [edg_drop] at R2
      have HV : Hid (∀ (A' : Option Addr) (c' : Nat), Reads w6 w6.heap.size 3 A' (xs.length - xs.length / 2) ((xs.drop (xs.length / 2)).flatMap Edg.cells) → Calls Try.prog 12 #[.int .i64 many, .slice A' (xs.length - xs.length / 2) c'] w6 (Gives w6 (.bool true))) := fun A' c' h => by
        have hh := implEdgesValid_any (A := A') (c := c') many (xs.drop (xs.length / 2)) w6 (by rw [List.length_drop]; exact h) (Nat.le_refl _) (by rw [List.length_drop]; unfold maxLen; omega)
        rw [HP.out, List.length_drop] at hh
        exact hh
      have i1 : (0 : Int) ≤ (xs.length : Int) / 2 := by omega
      have i2 : (xs.length : Int) / 2 ≤ (c1 : Int) := by omega
      have i3 : (xs.length : Int) / 2 ≤ (xs.length : Int) := by omega
      by_cases hcc : c1 = xs.length / 2
      · rw [if_pos hcc] at R2
        have HR2 := Lib.hid R2
        clear R2
        go_wp2_with fail
        refine (HV.out _ _ HR2.out).mono ?_
        rintro e w7 ⟨rfl, s7⟩
        have HG7 := Lib.hid (HG6.out.trans (s7.mono HG6.out.size))
        have zz7 := HG7.out.size
        clear HG6
        clear s7
        go_wp2_with fail
        refine (alive_any _).mono ?_
        rintro e w' ⟨rfl, rfl⟩
        go_wp2
        go_ret
        exact ⟨rfl, HG7.out⟩
      · rw [if_neg hcc] at R2
        have HR2 := Lib.hid R2
        clear R2
        go_wp2_with fail
        refine (HV.out _ _ HR2.out).mono ?_
        rintro e w7 ⟨rfl, s7⟩
        have HG7 := Lib.hid (HG6.out.trans (s7.mono HG6.out.size))
        have zz7 := HG7.out.size
        clear HG6
        clear s7
        go_wp2_with fail
        refine (alive_any _).mono ?_
        rintro e w' ⟨rfl, rfl⟩
        go_wp2
        go_ret
        exact ⟨rfl, HG7.out⟩
  · go_enter Try.func4, Try.ntmps4
    go_wp2
    go_ret
    exact ⟨rfl, Below.refl _ _⟩
end Go.Proofs.Ytgibmbjdnppiaaa
