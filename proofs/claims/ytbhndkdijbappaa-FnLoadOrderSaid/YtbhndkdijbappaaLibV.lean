/- Contracts of the two LibrariesValid. No condition but the sizes. -/
import Derived.Test.YtbhndkdijbappaaRows
import Derived.Test.YtbhndkdijbappaaBase
import Derived.Test.YtbhndkdijbappaaBase2
import Derived.Test.YtbhndkdijbappaaOnly
import Derived.Test.YtbhndkdijbappaaIn
import Derived.Test.YtbhndkdijbappaaName
import Derived.Test.YtbhndkdijbappaaFindS
import Derived.Test.YtbhndkdijbappaaLb
import Derived.Test.YtbhndkdijbappaaFindLb
import Derived.Test.YtbhndkdijbappaaLibs
import Derived.WalkKit
import Derived.WalkSpells
import Derived.WalkLawsBesides
import Derived.Handy
import Derived.BigQuiet
import Derived.Deep.RegionHeld3
import Derived.Deep.DrawnRows
import Derived.Deep.QuietTactic
namespace Go.Proofs.Ytbhndkdijbappaa
open Go Go.RowKit

theorem gives_same {P : Program} {g : FuncId} {args : Array Value} {w : World} {v : Value} (h : Calls P g args w fun e w' => e = .returned v ∧ w = w') : Calls P g args w (Gives w v) := h.mono fun _ _ ⟨he, hw⟩ => ⟨he, by rw [← hw]; exact Below.refl _ _⟩
theorem same_sym {P : Program} {g : FuncId} {args : Array Value} {w : World} {v : Value} (h : Calls P g args w fun e w' => e = .returned v ∧ w = w') : Calls P g args w fun e w' => e = .returned v ∧ w' = w := h.mono fun _ _ ⟨he, hw⟩ => ⟨he, hw.symm⟩
theorem map_at {ls : List Lb} {k : Nat} (h : k < ls.length) : (ls.map Lb.v)[k]'(by simpa using h) = ls[k].v := by simp
theorem lOk1_eq {ls : List Lb} {k : Nat} (h : k < ls.length) : lOk1 (ls.map Lb.v) k ls[k].v = (nameOk ls[k].name && decide (lPlace ((ls.take k).map Lb.v) ls[k].name < 0) && fewOk ls[k].needs && fewOk ls[k].gives) := by
  unfold lOk1
  rw [List.map_take]
  rfl
theorem libs_noL {ls : List Lb} {k : Nat} (h : k < ls.length) (hk : lOk1 (ls.map Lb.v) k ls[k].v = false) : libsOk (ls.map Lb.v) = false :=
  libs_no (vs := ls.map Lb.v) (k := k) (by simpa using h) (by rw [map_at h]; exact hk)
theorem libs_allL {ls : List Lb} (h : ∀ k, (h : k < ls.length) → lOk1 (ls.map Lb.v) k ls[k].v = true) : libsOk (ls.map Lb.v) = decide (ls.length ≤ 6) := by
  rw [libs_all (vs := ls.map Lb.v) (fun k hk => by rw [map_at (by simpa using hk)]; exact h k (by simpa using hk)), List.length_map]
theorem size_le {s : ByteArray} (h : s.size ≤ 1048576) : s.size ≤ maxLen := by unfold maxLen; omega

set_option maxRecDepth 100000 in
set_option maxHeartbeats 4000000 in
theorem implLibs_any {A : Option Addr} {c B : Nat} (ls : List Lb) (w : World) (h1 : LbAt w B A ls) (hB : B ≤ w.heap.size) (hm : ls.length ≤ 1048576) (hc : ls.length ≤ c) (hs : ∀ l ∈ ls, l.small) :
    Calls Try.prog 12 #[.slice A ls.length c] w (Gives w (.bool (libsOk (ls.map Lb.v)))) := by
  have H1 := Lib.hid (h1.more hB)
  have HS := Lib.hid hs
  clear h1 hs
  go_enter Try.func12, Try.ntmps12
  go_wp2
  go_loopw [7] (fun i wr => ∃ k : Nat, k ≤ ls.length ∧ i = .int .i64 k ∧ Hid (∀ j, (h : j < ls.length) → j < k → lOk1 (ls.map Lb.v) j ls[j].v = true) ∧ Below w.heap.size w wr) (fun i _ => ls.length - (intOf i).toNat)
  case atStart => exact ⟨0, Nat.zero_le _, rfl, fun j _ hj => by omega, Below.refl _ _⟩
  case round =>
    obtain ⟨k, hk, rfl, HA, hb⟩ := hrel
    by_cases hlt : k < ls.length
    · obtain ⟨b, off, rfl, hbl, e0, e1, e2⟩ := Lb.at_ ((H1.out.below hb).1) hlt
      have HB := Lib.hid hb
      have HOK := Lib.hid (lOk1_eq hlt)
      obtain ⟨z0, z1, y1, z2, y2⟩ := HS.out _ (List.getElem_mem hlt)
      obtain ⟨i1, i2⟩ := H1.out.2 _ (List.getElem_mem hlt)
      have HN := Lib.hid (fun w => gives_same (implName_any ls[k].name w (size_le z0)))
      have HF1 := Lib.hid (fun w' (hb : Below w.heap.size w w') => few_any (c := ls[k].needsc) ls[k].needs w' (i1.below hb) hb.size (by unfold maxLen; omega) (fun s hs => size_le (y1 s hs)))
      have HF2 := Lib.hid (fun w' (hb : Below w.heap.size w w') => few_any (c := ls[k].givesc) ls[k].gives w' (i2.below hb) hb.size (by unfold maxLen; omega) (fun s hs => size_le (y2 s hs)))
      have HP := Lib.hid (fun w' (hb : Below w.heap.size w w') => implPlace_any (c := c) (ls.take k) ls[k].name w' (reads_take (H1.out.1.below hb) hk) hb.size (by rw [List.length_take]; unfold maxLen; omega))
      have hlk : (ls.take k).length = k := by rw [List.length_take]; omega
      rw [hlk] at HP
      clear y1 y2 i1 i2 hlk z0 z1 z2
      have HK0 := Lib.hid (libs_noL hlt)
      have HRE := Lib.hid (HOK.out)
      clear HOK
      have HE0 := Lib.hid e0
      have HE1 := Lib.hid e1
      have HE2 := Lib.hid e2
      clear e0 e1 e2
      generalize lPlace ((ls.take k).map Lb.v) ls[k].name = z at *
      generalize hq1 : nameOk ls[k].name = b1 at *
      generalize hq2 : fewOk ls[k].needs = f1 at *
      generalize hq3 : fewOk ls[k].gives = f2 at *
      clear hq1 hq2 hq3
      have e0 := HE0.out
      have e1 := HE1.out
      have e2 := HE2.out
      clear HE0 HE1 HE2
      have hb2 : Below w.heap.size w (wr.alloc (.cells #[Value.string ls[k].name, Value.slice ls[k].needsA ls[k].needs.length ls[k].needsc, Value.slice ls[k].givesA ls[k].gives.length ls[k].givesc] 29)) := hb.alloc hb.size _
      have x0 : (wr.alloc (.cells #[Value.string ls[k].name, Value.slice ls[k].needsA ls[k].needs.length ls[k].needsc, Value.slice ls[k].givesA ls[k].gives.length ls[k].givesc] 29)).cell? ⟨wr.heap.size, 0, none⟩ = some (.string ls[k].name) := (Blk.new wr 29 #[Value.string ls[k].name, Value.slice ls[k].needsA ls[k].needs.length ls[k].needsc, Value.slice ls[k].givesA ls[k].gives.length ls[k].givesc]).cell 0
      have x1 : (wr.alloc (.cells #[Value.string ls[k].name, Value.slice ls[k].needsA ls[k].needs.length ls[k].needsc, Value.slice ls[k].givesA ls[k].gives.length ls[k].givesc] 29)).cell? ⟨wr.heap.size, 1, none⟩ = some (.slice ls[k].needsA ls[k].needs.length ls[k].needsc) := (Blk.new wr 29 #[Value.string ls[k].name, Value.slice ls[k].needsA ls[k].needs.length ls[k].needsc, Value.slice ls[k].givesA ls[k].gives.length ls[k].givesc]).cell 1
      have x2 : (wr.alloc (.cells #[Value.string ls[k].name, Value.slice ls[k].needsA ls[k].needs.length ls[k].needsc, Value.slice ls[k].givesA ls[k].gives.length ls[k].givesc] 29)).cell? ⟨wr.heap.size, 2, none⟩ = some (.slice ls[k].givesA ls[k].gives.length ls[k].givesc) := (Blk.new wr 29 #[Value.string ls[k].name, Value.slice ls[k].needsA ls[k].needs.length ls[k].needsc, Value.slice ls[k].givesA ls[k].gives.length ls[k].givesc]).cell 2
      have HB2 := Lib.hid hb2
      have HX0 := Lib.hid x0
      have HX1 := Lib.hid x1
      have HX2 := Lib.hid x2
      clear hb2 x0 x1 x2 hb
      have k0 : (0 : Int) ≤ (k : Int) := Int.natCast_nonneg _
      have k1 : (k : Int) ≤ (c : Int) := by omega
      go_wp2
      generalize wr.alloc (.cells #[Value.string ls[k].name, Value.slice ls[k].needsA ls[k].needs.length ls[k].needsc, Value.slice ls[k].givesA ls[k].gives.length ls[k].givesc] 29) = w1 at *
      clear e0 e1 e2
      have X0 := cell_regrown HX0.out
      have X1 := cell_regrown HX1.out
      have X2 := cell_regrown HX2.out
      have bq := Lib.hid (fun d os => HB2.out.trans ((below_regrown w1 d os).mono HB2.out.size))
      have cN := fun d os => Calls.regrown_of (w := w1) (d := d) (os := os) (HN.out _)
      have cP := fun d os => Calls.regrown_of (w := w1) (d := d) (os := os) (HP.out _ (bq.out d os))
      have cF1 := fun d os => Calls.regrown_of (w := w1) (d := d) (os := os) (HF1.out _ (bq.out d os))
      have cF2 := fun d os => Calls.regrown_of (w := w1) (d := d) (os := os) (HF2.out _ (bq.out d os))
      clear HN HP HF1 HF2 HX0 HX1 HX2
      cases b1
      · skip
        have HR : Hid (libsOk (ls.map Lb.v) = false) := HK0.out (by rw [HRE.out]; simp)
        refine wp_region_quiet_below (by kernel_rfl) (by kernel_rfl) ?_
        repeat (go_big_quiet_step (first | exact cN _ _ | exact cP _ _ | exact cF1 _ _ | exact cF2 _ _))
        refine wpQuiet_nil ?_
        intro _ hw'
        obtain ⟨⟨dq, osq⟩, hw''⟩ := hw'
        subst hw''
        have hbn := below_regrown w1 dq osq
        have HBN := Lib.hid (HB2.out.trans (hbn.mono HB2.out.size))
        clear hbn cN cP cF1 cF2 X0 X1 X2
        generalize Go.Sort.grow (redrawn w1 dq) osq = w3 at *
        go_wp2
        go_ret
        rw [HR.out]
        exact ⟨rfl, HBN.out⟩
      · skip
        by_cases hz : z < 0
        · have hzq : decide (0 ≤ z) = false := decide_eq_false (by omega)
          cases f1
          · skip
            have HR : Hid (libsOk (ls.map Lb.v) = false) := HK0.out (by rw [HRE.out]; simp)
            refine wp_region_quiet_below (by kernel_rfl) (by kernel_rfl) ?_
            repeat (go_big_quiet_step (first | exact cN _ _ | exact cP _ _ | exact cF1 _ _ | exact cF2 _ _))
            refine wpQuiet_nil ?_
            intro _ hw'
            obtain ⟨⟨dq, osq⟩, hw''⟩ := hw'
            subst hw''
            have hbn := below_regrown w1 dq osq
            have HBN := Lib.hid (HB2.out.trans (hbn.mono HB2.out.size))
            clear hbn cN cP cF1 cF2 X0 X1 X2
            generalize Go.Sort.grow (redrawn w1 dq) osq = w3 at *
            go_wp2
            go_ret
            rw [HR.out]
            exact ⟨rfl, HBN.out⟩
          · skip
            cases f2
            · skip
              have HR : Hid (libsOk (ls.map Lb.v) = false) := HK0.out (by rw [HRE.out]; simp)
              refine wp_region_quiet_below (by kernel_rfl) (by kernel_rfl) ?_
              repeat (go_big_quiet_step (first | exact cN _ _ | exact cP _ _ | exact cF1 _ _ | exact cF2 _ _))
              refine wpQuiet_nil ?_
              intro _ hw'
              obtain ⟨⟨dq, osq⟩, hw''⟩ := hw'
              subst hw''
              have hbn := below_regrown w1 dq osq
              have HBN := Lib.hid (HB2.out.trans (hbn.mono HB2.out.size))
              clear hbn cN cP cF1 cF2 X0 X1 X2
              generalize Go.Sort.grow (redrawn w1 dq) osq = w3 at *
              go_wp2
              go_ret
              rw [HR.out]
              exact ⟨rfl, HBN.out⟩
            · skip
              have HK : Hid (lOk1 (ls.map Lb.v) k ls[k].v = true) := by rw [Hid, HRE.out]; simp [hz]
              refine wp_region_quiet_below (by kernel_rfl) (by kernel_rfl) ?_
              repeat (go_big_quiet_step (first | exact cN _ _ | exact cP _ _ | exact cF1 _ _ | exact cF2 _ _))
              refine wpQuiet_nil ?_
              intro _ hw'
              obtain ⟨⟨dq, osq⟩, hw''⟩ := hw'
              subst hw''
              have hbn := below_regrown w1 dq osq
              have HBN := Lib.hid (HB2.out.trans (hbn.mono HB2.out.size))
              clear hbn cN cP cF1 cF2 X0 X1 X2
              generalize Go.Sort.grow (redrawn w1 dq) osq = w3 at *
              go_wp2
              go_roundw
              case rel => exact ⟨k + 1, by omega, by go_num, Lib.hid (fun j h hj => by
                by_cases hjk : j < k
                · exact HA.out j h hjk
                · obtain rfl : j = k := by omega
                  exact HK.out), HBN.out⟩
              case measure => simp [intOf]; omega
        · have hzq : decide (0 ≤ z) = true := decide_eq_true (by omega)
          have hzd : decide (z < 0) = false := decide_eq_false hz
          have HR : Hid (libsOk (ls.map Lb.v) = false) := HK0.out (by rw [HRE.out]; rw [hzd]; simp)
          refine wp_region_quiet_below (by kernel_rfl) (by kernel_rfl) ?_
          repeat (go_big_quiet_step (first | exact cN _ _ | exact cP _ _ | exact cF1 _ _ | exact cF2 _ _))
          refine wpQuiet_nil ?_
          intro _ hw'
          obtain ⟨⟨dq, osq⟩, hw''⟩ := hw'
          subst hw''
          have hbn := below_regrown w1 dq osq
          have HBN := Lib.hid (HB2.out.trans (hbn.mono HB2.out.size))
          clear hbn cN cP cF1 cF2 X0 X1 X2
          generalize Go.Sort.grow (redrawn w1 dq) osq = w3 at *
          go_wp2
          go_ret
          rw [HR.out]
          exact ⟨rfl, HBN.out⟩
    · have HR : Hid (libsOk (ls.map Lb.v) = decide (ls.length ≤ 6)) := libs_allL (fun j h => HA.out j h (by omega))
      go_wp2
      go_ret
      rw [HR.out]
      exact ⟨by simp; omega, hb⟩
end Go.Proofs.Ytbhndkdijbappaa
