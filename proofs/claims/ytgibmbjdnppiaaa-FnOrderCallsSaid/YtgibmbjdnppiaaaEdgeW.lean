/- Contract of the reference EdgesValid. No condition but the sizes. -/
import Derived.Test.YtgibmbjdnppiaaaRows
import Derived.Test.YtgibmbjdnppiaaaBase
import Derived.Test.YtgibmbjdnppiaaaBase2
import Derived.Test.YtgibmbjdnppiaaaIn
import Derived.Test.YtgibmbjdnppiaaaEdge
import Derived.Test.YtgibmbjdnppiaaaFindEdg
import Derived.Test.YtgibmbjdnppiaaaEdgeV
import Derived.WalkKit
import Derived.WalkSpells
import Derived.WalkLawsBesides
import Derived.Handy
import Derived.BigQuiet
import Derived.Deep.RegionHeld3
import Derived.Deep.DrawnRows
import Derived.Deep.QuietTactic
namespace Go.Proofs.Ytgibmbjdnppiaaa
open Go Go.RowKit


set_option maxRecDepth 100000 in
set_option maxHeartbeats 8000000 in
theorem specEdgesValid_any {A : Option Addr} {c B : Nat} (many : Int) (xs : List Edg) (w : World) (h1 : Reads w B 3 A xs.length (xs.flatMap Edg.cells)) (hB : B ≤ w.heap.size) (hm : xs.length ≤ maxLen) :
    Calls Try.prog 10 #[.int .i64 many, .slice A xs.length c] w (Gives w (.bool (edgesOk many xs))) := by
  unfold maxLen at hm
  obtain ⟨m1, hw⟩ : ∃ m1, IntKind.i64.wrap (many - 1) = m1 := ⟨_, rfl⟩
  have HN : Hid (∀ k, (h : k < xs.length) → edgeOk m1 xs[k] = false → edgesOk many xs = false) := fun k h he => by
    unfold edgesOk
    cases hi : inB many 1 8
    · simp
    · have := inB_iff.1 hi
      have e : m1 = many - 1 := by rw [← hw]; exact IntWalk.i64_in _ (by omega)
      subst e
      rw [all_not h he]
      simp
  have HY : Hid ((∀ j, (h : j < xs.length) → edgeOk m1 xs[j] = true) → edgesOk many xs = (inB many 1 8 && decide (xs.length ≤ 12))) := fun h => by
    unfold edgesOk
    cases hi : inB many 1 8
    · simp
    · have := inB_iff.1 hi
      have e : m1 = many - 1 := by rw [← hw]; exact IntWalk.i64_in _ (by omega)
      subst e
      rw [all_at h]
      simp
  go_enter Try.func10, Try.ntmps10
  go_wp2
  go_loopw [5] (fun i wr => ∃ k : Nat, k ≤ xs.length ∧ i = .int .i64 k ∧ Hid (∀ j, (h : j < xs.length) → j < k → edgeOk m1 xs[j] = true) ∧ Below w.heap.size w wr) (fun i _ => xs.length - (intOf i).toNat)
  case atStart => exact ⟨0, Nat.zero_le _, rfl, Lib.hid (fun j _ hj => by omega), Below.refl _ _⟩
  case round =>
    obtain ⟨k, hk, rfl, HA, hb⟩ := hrel
    by_cases hlt : k < xs.length
    · obtain ⟨b, off, rfl, hbl, e0, e1, e2⟩ := Edg.at_ ((h1.more hB).below hb) hlt
      have hk0 : (0 : Int) ≤ (k : Int) := Int.natCast_nonneg _
      have hk1 : (k : Int) < (xs.length : Int) := by omega
      have HN2 := Lib.hid (HN.out k hlt)
      unfold edgeOk at HN2
      have HK : Hid (edgeOk m1 xs[k] = (inB xs[k].from_ 0 m1 && inB xs[k].to_ 0 m1 && !(xs[k].from_ == xs[k].to_) && inB xs[k].count 1 60000)) := rfl
      generalize xs[k].from_ = ef at *
      generalize xs[k].to_ = et at *
      generalize xs[k].count = ec at *
      cases h1 : inB ef 0 m1
      · have H1 := Lib.hid h1
        clear h1
        go_wp2
        go_quiet (first | (with_reducible exact Calls.quiet_of_same (l1In_q (Hid.out H1) _)))
        go_wp2
        go_ret
        rw [HN2.out (by rw [H1.out]; simp)]
        exact ⟨rfl, by repeat (first | exact hb | apply below_drewN)⟩
      · cases h2 : inB et 0 m1
        · have H1 := Lib.hid h1
          have H2 := Lib.hid h2
          clear h1 h2
          go_wp2
          go_quiet (first | (with_reducible exact Calls.quiet_of_same (l1In_q (Hid.out H1) _)) | (with_reducible exact Calls.quiet_of_same (l1In_q (Hid.out H2) _)))
          go_wp2
          go_ret
          rw [HN2.out (by rw [H2.out]; simp)]
          exact ⟨rfl, by repeat (first | exact hb | apply below_drewN)⟩
        · cases h3 : (ef == et)
          · cases h4 : inB ec 1 60000
            · have H1 := Lib.hid h1
              have H2 := Lib.hid h2
              have H4 := Lib.hid h4
              clear h1 h2 h4
              go_wp2
              go_quiet (first | (with_reducible exact Calls.quiet_of_same (l1In_q (Hid.out H1) _)) | (with_reducible exact Calls.quiet_of_same (l1In_q (Hid.out H2) _)) | (with_reducible exact Calls.quiet_of_same (l1In_q (Hid.out H4) _)))
              go_wp2
              go_ret
              rw [HN2.out (by rw [H4.out]; simp)]
              exact ⟨rfl, by repeat (first | exact hb | apply below_drewN)⟩
            · have H1 := Lib.hid h1
              have H2 := Lib.hid h2
              have H4 := Lib.hid h4
              clear h1 h2 h4
              go_wp2
              go_quiet (first | (with_reducible exact Calls.quiet_of_same (l1In_q (Hid.out H1) _)) | (with_reducible exact Calls.quiet_of_same (l1In_q (Hid.out H2) _)) | (with_reducible exact Calls.quiet_of_same (l1In_q (Hid.out H4) _)))
              go_wp2
              go_roundw
              case rel => exact ⟨k + 1, by omega, by go_num, Lib.hid (fun j h hj => by
                by_cases hjk : j < k
                · exact HA.out j h hjk
                · obtain rfl : j = k := by omega
                  rw [HK.out, H1.out, H2.out, h3, H4.out]
                  rfl), below_drewN hb _⟩
              case measure => simp [intOf]; omega
          · have H1 := Lib.hid h1
            have H2 := Lib.hid h2
            clear h1 h2
            go_wp2
            go_quiet (first | (with_reducible exact Calls.quiet_of_same (l1In_q (Hid.out H1) _)) | (with_reducible exact Calls.quiet_of_same (l1In_q (Hid.out H2) _)))
            go_wp2
            go_ret
            rw [HN2.out (by rw [h3]; simp)]
            exact ⟨rfl, by repeat (first | exact hb | apply below_drewN)⟩
    · have HE := Lib.hid (HY.out (fun j h => HA.out j h (by omega)))
      cases hi : inB many 1 8
      · have HI := Lib.hid hi
        have HR := Lib.hid HE.out
        clear hi
        go_wp2_with fail
        refine (l1In_q HI.out _).mono ?_
        rintro e w' ⟨rfl, rfl⟩
        go_wp2
        go_ret
        rw [HE.out, HI.out]
        exact ⟨rfl, by repeat (first | exact hb | apply below_drewN)⟩
      · have HI := Lib.hid hi
        clear hi
        go_wp2_with fail
        refine (l1In_q HI.out _).mono ?_
        rintro e w' ⟨rfl, rfl⟩
        go_wp2
        go_ret
        rw [HE.out, HI.out]
        exact ⟨by simp; omega, hb⟩
end Go.Proofs.Ytgibmbjdnppiaaa
