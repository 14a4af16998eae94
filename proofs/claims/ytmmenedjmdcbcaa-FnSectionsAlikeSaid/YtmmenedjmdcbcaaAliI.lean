/- Contract of alike. Condition: the bytes are bytes. -/
import Derived.Test.YtmmenedjmdcbcaaRows
import Derived.Test.YtmmenedjmdcbcaaBase
import Derived.Test.YtmmenedjmdcbcaaBase2
import Derived.Test.YtmmenedjmdcbcaaIn
import Derived.Test.YtmmenedjmdcbcaaByteS
import Derived.Test.YtmmenedjmdcbcaaFix
import Derived.Test.YtmmenedjmdcbcaaSec
import Derived.Test.YtmmenedjmdcbcaaEqB
import Derived.Test.YtmmenedjmdcbcaaEqF
import Derived.WalkKit
import Derived.WalkSpells
import Derived.WalkLawsBesides
import Derived.Handy
import Derived.BigQuiet
import Derived.Deep.RegionHeld3
import Derived.Deep.DrawnRows
import Derived.Deep.QuietTactic
namespace Go.Proofs.Ytmmenedjmdcbcaa
open Go Go.RowKit

def alikeV (a b : Sec) : Bool := decide (a.kind = b.kind) && (decide (a.align = b.align) && (decide (a.size = b.size) && (decide (a.bytes = b.bytes) && decide (a.fixups = b.fixups))))
set_option maxRecDepth 100000 in
set_option maxHeartbeats 4000000 in
theorem implAlike_any {B D : Nat} (a b : Sec) (w : World) (ha : a.In w B) (hb : b.In w D) (hB : B ≤ w.heap.size) (hD : D ≤ w.heap.size) (sa : a.small) (sb : b.small) (ya : isB a.bytes) (yb : isB b.bytes) :
    Calls Try.prog 33 #[a.val, b.val] w (Gives w (.bool (alikeV a b))) := by
  have HV : Hid (alikeV a b = (decide (a.kind = b.kind) && (decide (a.align = b.align) && (decide (a.size = b.size) && (decide (a.bytes = b.bytes) && decide (a.fixups = b.fixups)))))) := rfl
  generalize alikeV a b = res at *
  obtain ⟨anm, ak, aal, ab, abA, abc, asz, af, afA, afc⟩ := a
  obtain ⟨bnm, bk, bal, bb, bbA, bbc, bsz, bf, bfA, bfc⟩ := b
  obtain ⟨a1, a2⟩ := ha
  obtain ⟨b1, b2⟩ := hb
  obtain ⟨_, s1, s2⟩ := sa
  obtain ⟨_, r1, r2⟩ := sb
  simp only [Sec.val] at *
  have HBE := Lib.hid (fun w' (q : Below w.heap.size w w') => bytesEqual_any (c1 := abc) (c2 := bbc) ab bb w' ((a1.more hB).below q) ((b1.more hD).below q) ya yb)
  have HFE := Lib.hid (fun w' (q : Below w.heap.size w w') => eqFixes_any (c1 := afc) (c2 := bfc) af bf w' ((a2.more hB).below q) ((b2.more hD).below q) s2 r2)
  clear a1 a2 b1 b2 ya yb s1 s2 r1 r2
  generalize hq4 : decide (ab = bb) = t4 at *
  generalize hq5 : decide (af = bf) = t5 at *
  clear hq4 hq5
  have BB : Hid (Below w.heap.size w ((w.alloc (.cells #[Value.string anm, Value.int .i64 ak, Value.int .i64 aal, Value.slice abA ab.length abc, Value.int .i64 asz, Value.slice afA af.length afc] 52)).alloc (.cells #[Value.string bnm, Value.int .i64 bk, Value.int .i64 bal, Value.slice bbA bb.length bbc, Value.int .i64 bsz, Value.slice bfA bf.length bfc] 52))) := ((Below.refl _ _).alloc (Nat.le_refl _) _).alloc (by simp) _
  by_cases c0 : ak = bk
  · have d0 : (ak == bk) = true := by simpa using c0
    by_cases c1 : aal = bal
    · have d1 : (aal == bal) = true := by simpa using c1
      by_cases c2 : asz = bsz
      · have d2 : (asz == bsz) = true := by simpa using c2
        cases t4
        · skip
          have HR : Hid (res = false) := by rw [Hid, HV.out]; simp
          clear c0 c1 c2
          go_enter Try.func33, Try.ntmps33
          go_wp2_with (first | (go_at_call 54; refine (HBE.out _ BB.out).mono ?_; rintro e w' ⟨rfl, rfl⟩) | (go_at_call 55; refine (HFE.out _ BB.out).mono ?_; rintro e w2 ⟨rfl, q2⟩))
          go_ret
          rw [HR.out]
          exact ⟨rfl, BB.out⟩
        · skip
          have HR : Hid (res = t5) := by rw [Hid, HV.out]; simp [c0, c1, c2]
          clear c0 c1 c2
          go_enter Try.func33, Try.ntmps33
          go_wp2_with (first | (go_at_call 54; refine (HBE.out _ BB.out).mono ?_; rintro e w' ⟨rfl, rfl⟩) | (go_at_call 55; refine (HFE.out _ BB.out).mono ?_; rintro e w2 ⟨rfl, q2⟩))
          go_ret
          rw [HR.out]
          exact ⟨rfl, BB.out.trans (q2.mono BB.out.size)⟩
      · have d2 : (asz == bsz) = false := by simpa using c2
        have HR : Hid (res = false) := by rw [Hid, HV.out]; simp [c2]
        clear c0 c1 c2
        go_enter Try.func33, Try.ntmps33
        go_wp2_with (first | (go_at_call 54; refine (HBE.out _ BB.out).mono ?_; rintro e w' ⟨rfl, rfl⟩) | (go_at_call 55; refine (HFE.out _ BB.out).mono ?_; rintro e w2 ⟨rfl, q2⟩))
        go_ret
        rw [HR.out]
        exact ⟨rfl, BB.out⟩
    · have d1 : (aal == bal) = false := by simpa using c1
      have HR : Hid (res = false) := by rw [Hid, HV.out]; simp [c1]
      clear c0 c1
      go_enter Try.func33, Try.ntmps33
      go_wp2_with (first | (go_at_call 54; refine (HBE.out _ BB.out).mono ?_; rintro e w' ⟨rfl, rfl⟩) | (go_at_call 55; refine (HFE.out _ BB.out).mono ?_; rintro e w2 ⟨rfl, q2⟩))
      go_ret
      rw [HR.out]
      exact ⟨rfl, BB.out⟩
  · have d0 : (ak == bk) = false := by simpa using c0
    have HR : Hid (res = false) := by rw [Hid, HV.out]; simp [c0]
    clear c0
    go_enter Try.func33, Try.ntmps33
    go_wp2_with (first | (go_at_call 54; refine (HBE.out _ BB.out).mono ?_; rintro e w' ⟨rfl, rfl⟩) | (go_at_call 55; refine (HFE.out _ BB.out).mono ?_; rintro e w2 ⟨rfl, q2⟩))
    go_ret
    rw [HR.out]
    exact ⟨rfl, BB.out⟩
end Go.Proofs.Ytmmenedjmdcbcaa
