/- Contract of l37Same. No condition but the sizes. -/
import Derived.Test.YtmmenedjmdcbcaaRows
import Derived.Test.YtmmenedjmdcbcaaBase
import Derived.Test.YtmmenedjmdcbcaaBase2
import Derived.Test.YtmmenedjmdcbcaaIn
import Derived.Test.YtmmenedjmdcbcaaByteS
import Derived.Test.YtmmenedjmdcbcaaFix
import Derived.Test.YtmmenedjmdcbcaaSec
import Derived.Test.YtmmenedjmdcbcaaEqB
import Derived.Test.YtmmenedjmdcbcaaEqF
import Derived.Test.YtmmenedjmdcbcaaAliI
import Derived.WalkKit
import Derived.WalkSpells
import Derived.WalkLawsBesides
import Derived.Handy
import Derived.BigQuiet
import Derived.Deep.RegionHeld3
import Derived.Deep.DrawnRows
import Derived.Deep.QuietTactic
namespace Go.Proofs.Ytmmenedjmdcbcaa
open Go Go.RowKit

set_option maxRecDepth 100000 in
set_option maxHeartbeats 4000000 in
theorem specAlike_any {B D : Nat} (a b : Sec) (w : World) (ha : a.In w B) (hb : b.In w D) (hB : B ≤ w.heap.size) (hD : D ≤ w.heap.size) (sa : a.small) (sb : b.small) :
    Calls Try.prog 36 #[a.val, b.val] w (Gives w (.bool (alikeV a b))) := by
  have HV : Hid (alikeV a b = (decide (a.kind = b.kind) && (decide (a.align = b.align) && (decide (a.size = b.size) && (decide (a.bytes = b.bytes) && decide (a.fixups = b.fixups)))))) := rfl
  generalize alikeV a b = res at *
  obtain ⟨anm, ak, aal, ab, abA, abc, asz, af, afA, afc⟩ := a
  obtain ⟨bnm, bk, bal, bb, bbA, bbc, bsz, bf, bfA, bfc⟩ := b
  obtain ⟨a1, a2⟩ := ha
  obtain ⟨b1, b2⟩ := hb
  obtain ⟨_, s1, s2⟩ := sa
  obtain ⟨_, r1, r2⟩ := sb
  simp only [Sec.val] at *
  have HBE := Lib.hid (fun w' (q : Below w.heap.size w w') => l7Same_any (c1 := abc) (c2 := bbc) ab bb w' ((a1.more hB).below q) ((b1.more hD).below q) (by unfold maxLen; omega) (by unfold maxLen; omega))
  have HF1 := Lib.hid (fun w' (q : Below w.heap.size w w') => (a2.more hB).below q)
  have HF2 := Lib.hid (fun w' (q : Below w.heap.size w w') => (b2.more hD).below q)
  clear a1 a2 b1 b2 s1 r1
  generalize hq4 : decide (ab = bb) = t4 at *
  clear hq4
  have BB : Hid (Below w.heap.size w ((w.alloc (.cells #[Value.string anm, Value.int .i64 ak, Value.int .i64 aal, Value.slice abA ab.length abc, Value.int .i64 asz, Value.slice afA af.length afc] 52)).alloc (.cells #[Value.string bnm, Value.int .i64 bk, Value.int .i64 bal, Value.slice bbA bb.length bbc, Value.int .i64 bsz, Value.slice bfA bf.length bfc] 52))) := ((Below.refl _ _).alloc (Nat.le_refl _) _).alloc (by simp) _
  have KA := Lib.hid ((Blk.new w 52 #[Value.string anm, Value.int .i64 ak, Value.int .i64 aal, Value.slice abA ab.length abc, Value.int .i64 asz, Value.slice afA af.length afc]).alloc (.cells #[Value.string bnm, Value.int .i64 bk, Value.int .i64 bal, Value.slice bbA bb.length bbc, Value.int .i64 bsz, Value.slice bfA bf.length bfc] 52))
  have KB := Lib.hid (Blk.new (w.alloc (.cells #[Value.string anm, Value.int .i64 ak, Value.int .i64 aal, Value.slice abA ab.length abc, Value.int .i64 asz, Value.slice afA af.length afc] 52)) 52 #[Value.string bnm, Value.int .i64 bk, Value.int .i64 bal, Value.slice bbA bb.length bbc, Value.int .i64 bsz, Value.slice bfA bf.length bfc])
  have zn : (w.alloc (.cells #[Value.string anm, Value.int .i64 ak, Value.int .i64 aal, Value.slice abA ab.length abc, Value.int .i64 asz, Value.slice afA af.length afc] 52)).heap.size = w.heap.size + 1 := World.size_alloc _ _
  rw [zn] at KB
  clear zn
  by_cases c0 : ak = bk
  · have d0 : (ak != bk) = false := by simpa using c0
    by_cases c1 : aal = bal
    · have d1 : (aal != bal) = false := by simpa using c1
      by_cases c2 : asz = bsz
      · have d2 : (asz != bsz) = false := by simpa using c2
        cases t4
        · skip
          have HR : Hid (res = false) := by rw [Hid, HV.out]; simp
          clear c0 c1 c2
          go_enter Try.func36, Try.ntmps36
          go_wp2_with (first | (go_at_call 58; refine (HBE.out _ BB.out).mono ?_; rintro e w2 ⟨rfl, q2⟩))
          go_ret
          rw [HR.out]
          exact ⟨rfl, BB.out.trans (q2.mono BB.out.size)⟩
        · by_cases hl : af.length = bf.length
          · have HL := Lib.hid hl
            have hb : ((af.length : Int) != bf.length) = false := by simp [hl]
            have HV2 : Hid (res = decide (af = bf)) := by rw [Hid, HV.out]; simp [c0, c1, c2]
            clear HV c0 c1 c2 hl
            have x1 := KA.out.cell 5
            go_enter Try.func36, Try.ntmps36
            go_wp2_with fail
            refine (HBE.out _ BB.out).mono ?_
            rintro e w2 ⟨rfl, q2⟩
            have HB := Lib.hid (BB.out.trans (q2.mono BB.out.size))
            have HX := Lib.hid (KA.out.below q2 KA.out.lt)
            have HY := Lib.hid (KB.out.below q2 KB.out.lt)
            have hlt0 : w.heap.size + 1 < w2.heap.size := HY.out.lt
            have x5 := HX.out.cell 5
            have y5 := HY.out.cell 5
            clear BB KA KB q2 x1 HBE
            go_wp2
            clear d0 d1 d2 hb x5 y5
            go_loopw [5] (fun i wr => ∃ k : Nat, k ≤ af.length ∧ i = .int .i64 k ∧ Hid (∀ j < k, af[j]? = bf[j]?) ∧ Hid (Below w.heap.size w wr) ∧ Hid (Blk wr w.heap.size 52 #[Value.string anm, Value.int .i64 ak, Value.int .i64 aal, Value.slice abA ab.length abc, Value.int .i64 asz, Value.slice afA af.length afc]) ∧ Hid (Blk wr (w.heap.size + 1) 52 #[Value.string bnm, Value.int .i64 bk, Value.int .i64 bal, Value.slice bbA bb.length bbc, Value.int .i64 bsz, Value.slice bfA bf.length bfc]) ∧ w.heap.size + 1 < wr.heap.size) (fun i _ => af.length - (intOf i).toNat)
            case atStart => exact ⟨0, Nat.zero_le _, rfl, fun j hj => by omega, HB, HX, HY, hlt0⟩
            case round =>
              clear HB HX HY hlt0
              obtain ⟨k, hk, rfl, HA, HB, HX, HY, hlt0⟩ := hrel
              have x5 := HX.out.cell 5
              have y5 := HY.out.cell 5
              by_cases hlt : k < af.length
              · have hlt2 : k < bf.length := by rw [← HL.out]; exact hlt
                obtain ⟨b, off, hfa, hbl, e0, e1, e2, e3⟩ := Fix.at_ (HF1.out _ HB.out) hlt
                obtain ⟨b', off', hfb, hbl', g0, g1, g2, g3⟩ := Fix.at_ (HF2.out _ HB.out) hlt2
                subst hfa hfb
                have k0 : (0 : Int) ≤ (k : Int) := Int.natCast_nonneg _
                have k1 : (k : Int) < (af.length : Int) := by omega
                have k2 : (k : Int) < (bf.length : Int) := by omega
                have HNE : Hid (af[k] ≠ bf[k] → decide (af = bf) = false) := fun hn => decide_eq_false (fun e => hn (by subst e; rfl))
                have HST : Hid (af[k] = bf[k] → ∀ j < k + 1, af[j]? = bf[j]?) := fun he j hj => by
                  by_cases hjk : j < k
                  · exact HA.out j hjk
                  · obtain rfl : j = k := by omega
                    rw [List.getElem?_eq_getElem hlt, List.getElem?_eq_getElem hlt2, he]
                have HEQ : Hid (∀ a b : Fix, a = b ↔ a.pos = b.pos ∧ a.kind = b.kind ∧ a.to_ = b.to_ ∧ a.add_ = b.add_) := fun a b => ⟨fun h => by subst h; exact ⟨rfl, rfl, rfl, rfl⟩, fun h => by cases a; cases b; simp only at h; obtain ⟨rfl, rfl, rfl, rfl⟩ := h; rfl⟩
                have HST' : Hid (af[k].pos = bf[k].pos ∧ af[k].kind = bf[k].kind ∧ af[k].to_ = bf[k].to_ ∧ af[k].add_ = bf[k].add_ → ∀ j < k + 1, af[j]? = bf[j]?) := fun hq => HST.out ((HEQ.out _ _).2 hq)
                have HNE' : Hid (¬ (af[k].pos = bf[k].pos ∧ af[k].kind = bf[k].kind ∧ af[k].to_ = bf[k].to_ ∧ af[k].add_ = bf[k].add_) → decide (af = bf) = false) := fun hn => HNE.out (fun he => hn ((HEQ.out _ _).1 he))
                clear HNE HEQ HST
                generalize af[k].pos = x0 at *
                generalize af[k].kind = x1 at *
                generalize af[k].to_ = x2 at *
                generalize af[k].add_ = x3 at *
                generalize bf[k].pos = y0 at *
                generalize bf[k].kind = y1 at *
                generalize bf[k].to_ = y2 at *
                generalize bf[k].add_ = y3 at *
                by_cases t0 : x0 = y0
                · subst t0
                  by_cases t1 : x1 = y1
                  · subst t1
                    by_cases t2 : x2 = y2
                    · subst t2
                      by_cases t3 : x3 = y3
                      · subst t3
                        have HN := Lib.hid (HST'.out ⟨rfl, rfl, rfl, rfl⟩)
                        clear HNE' HST' HA
                        go_wp2
                        go_quiet (fail)
                        go_wp2
                        have sq := below_drewN (Below.refl wr.heap.size wr) nq
                        go_roundw
                        case rel => exact ⟨k + 1, by omega, by go_num, HN, Lib.hid (below_drewN HB.out _), Lib.hid (HX.out.below sq HX.out.lt), Lib.hid (HY.out.below sq HY.out.lt), (HY.out.below sq HY.out.lt).lt⟩
                        case measure => simp [intOf]; omega
                      · have HN : Hid (decide (af = bf) = false) := HNE'.out (by rintro ⟨h0, h1, h2, h3⟩; exact t3 h3)
                        clear HNE' HST' HA
                        go_wp2
                        go_quiet (fail)
                        go_wp2
                        go_ret
                        rw [HV2.out, HN.out]
                        exact ⟨rfl, below_drewN HB.out _⟩
                    · have HN : Hid (decide (af = bf) = false) := HNE'.out (by rintro ⟨h0, h1, h2, h3⟩; exact t2 h2)
                      clear HNE' HST' HA
                      go_wp2
                      go_quiet (fail)
                      go_wp2
                      go_ret
                      rw [HV2.out, HN.out]
                      exact ⟨rfl, below_drewN HB.out _⟩
                  · have HN : Hid (decide (af = bf) = false) := HNE'.out (by rintro ⟨h0, h1, h2, h3⟩; exact t1 h1)
                    clear HNE' HST' HA
                    go_wp2
                    go_quiet (fail)
                    go_wp2
                    go_ret
                    rw [HV2.out, HN.out]
                    exact ⟨rfl, below_drewN HB.out _⟩
                · have HN : Hid (decide (af = bf) = false) := HNE'.out (by rintro ⟨h0, h1, h2, h3⟩; exact t0 h0)
                  clear HNE' HST' HA
                  go_wp2
                  go_quiet (fail)
                  go_wp2
                  go_ret
                  rw [HV2.out, HN.out]
                  exact ⟨rfl, below_drewN HB.out _⟩
              · have HN : Hid (decide (af = bf) = true) := decide_eq_true (List.ext_getElem? fun j => by
                  by_cases hj : j < k
                  · exact HA.out j hj
                  · have := HL.out
                    rw [List.getElem?_eq_none (by omega), List.getElem?_eq_none (by omega)])
                go_wp2
                go_ret
                rw [HV2.out, HN.out]
                exact ⟨rfl, HB.out⟩
          · have hb : ((af.length : Int) != bf.length) = true := by simp [bne_iff_ne]; omega
            have hne : ¬ af = bf := fun e => hl (by rw [e])
            have HR : Hid (res = false) := by rw [Hid, HV.out]; simp [hne]
            clear c0 c1 c2 hl hne
            go_enter Try.func36, Try.ntmps36
            go_wp2_with fail
            refine (HBE.out _ BB.out).mono ?_
            rintro e w2 ⟨rfl, q2⟩
            have x5 := (KA.out.below q2 KA.out.lt).cell 5
            have y5 := (KB.out.below q2 KB.out.lt).cell 5
            go_wp2
            go_ret
            rw [HR.out]
            exact ⟨rfl, BB.out.trans (q2.mono BB.out.size)⟩
      · have d2 : (asz != bsz) = true := by simpa using c2
        have HR : Hid (res = false) := by rw [Hid, HV.out]; simp [c2]
        clear c0 c1 c2
        go_enter Try.func36, Try.ntmps36
        go_wp2_with (first | (go_at_call 58; refine (HBE.out _ BB.out).mono ?_; rintro e w2 ⟨rfl, q2⟩))
        go_ret
        rw [HR.out]
        exact ⟨rfl, BB.out⟩
    · have d1 : (aal != bal) = true := by simpa using c1
      have HR : Hid (res = false) := by rw [Hid, HV.out]; simp [c1]
      clear c0 c1
      go_enter Try.func36, Try.ntmps36
      go_wp2_with (first | (go_at_call 58; refine (HBE.out _ BB.out).mono ?_; rintro e w2 ⟨rfl, q2⟩))
      go_ret
      rw [HR.out]
      exact ⟨rfl, BB.out⟩
  · have d0 : (ak != bk) = true := by simpa using c0
    have HR : Hid (res = false) := by rw [Hid, HV.out]; simp [c0]
    clear c0
    go_enter Try.func36, Try.ntmps36
    go_wp2_with (first | (go_at_call 58; refine (HBE.out _ BB.out).mono ?_; rintro e w2 ⟨rfl, q2⟩))
    go_ret
    rw [HR.out]
    exact ⟨rfl, BB.out⟩
end Go.Proofs.Ytmmenedjmdcbcaa
