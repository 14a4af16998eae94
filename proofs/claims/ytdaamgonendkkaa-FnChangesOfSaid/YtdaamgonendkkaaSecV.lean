/- Contracts of the two SectionValid. No condition but the sizes. -/
import Derived.Test.YtdaamgonendkkaaRows
import Derived.Test.YtdaamgonendkkaaBase
import Derived.Test.YtdaamgonendkkaaBase2
import Derived.Test.YtdaamgonendkkaaIn
import Derived.Test.YtdaamgonendkkaaName
import Derived.Test.YtdaamgonendkkaaByteS
import Derived.Test.YtdaamgonendkkaaFix
import Derived.Test.YtdaamgonendkkaaSec
import Derived.Test.YtdaamgonendkkaaObjS
import Derived.WalkKit
import Derived.WalkSpells
import Derived.WalkLawsBesides
import Derived.Handy
import Derived.BigQuiet
import Derived.Deep.RegionHeld3
import Derived.Deep.DrawnRows
import Derived.Deep.QuietTactic
namespace Go.Proofs.Ytdaamgonendkkaa
open Go Go.RowKit

theorem gives_same {P : Program} {g : FuncId} {args : Array Value} {w : World} {v : Value} (h : Calls P g args w fun e w' => e = .returned v ∧ w = w') : Calls P g args w (Gives w v) := h.mono fun _ _ ⟨he, hw⟩ => ⟨he, by rw [← hw]; exact Below.refl _ _⟩
theorem size_le {s : ByteArray} (h : s.size ≤ 1048576) : s.size ≤ maxLen := by unfold maxLen; omega
def fixOk (many len e : Int) (f : Fix) : Bool := !(wideOf f.kind == 0) && !decide (f.to_ < 0) && !decide (many ≤ f.to_) && inB f.add_ (-1000) 1000 && inB f.pos e (len - wideOf f.kind)
def fixGo (many len : Int) : Int → List Fix → Bool
  | _, [] => true
  | e, f :: fs => fixOk many len e f && fixGo many len (f.pos + wideOf f.kind) fs
/-- A section is valid in an object with many symbols. -/
def secOk (name : ByteArray) (kind align : Int) (bl : Nat) (size : Int) (fs : List Fix) (many : Int) : Bool :=
  (nameOk name && inB kind 1 3 && alignOk align) && (if kind = 3 then inB size 0 48 && (decide (bl = 0) && decide (fs.length = 0)) else (decide (size = 0) && decide (bl ≤ 48) && decide (fs.length ≤ 6)) && fixGo many bl 0 fs)
theorem sec_no {name : ByteArray} {kind align : Int} {bl : Nat} {size : Int} {fs : List Fix} {many : Int} (h : (nameOk name && inB kind 1 3 && alignOk align) = false) : secOk name kind align bl size fs many = false := by unfold secOk; rw [h, Bool.false_and]
theorem sec_blank {name : ByteArray} {kind align : Int} {bl : Nat} {size : Int} {fs : List Fix} {many : Int} (h : (nameOk name && inB kind 1 3 && alignOk align) = true) (h3 : kind = 3) : secOk name kind align bl size fs many = (inB size 0 48 && (decide (bl = 0) && decide (fs.length = 0))) := by unfold secOk; rw [h, Bool.true_and, if_pos h3]
theorem sec_full {name : ByteArray} {kind align : Int} {bl : Nat} {size : Int} {fs : List Fix} {many : Int} (h : (nameOk name && inB kind 1 3 && alignOk align) = true) (h3 : kind ≠ 3) : secOk name kind align bl size fs many = ((decide (size = 0) && decide (bl ≤ 48) && decide (fs.length ≤ 6)) && fixGo many bl 0 fs) := by unfold secOk; rw [h, Bool.true_and, if_neg h3]
theorem fixGo_at {many len e : Int} {fs : List Fix} {k : Nat} (hk : k < fs.length) : fixGo many len e (fs.drop k) = (fixOk many len e fs[k] && fixGo many len (fs[k].pos + wideOf fs[k].kind) (fs.drop (k + 1))) := by
  rw [List.drop_eq_getElem_cons hk, fixGo]
theorem fixGo_end {many len e : Int} {fs : List Fix} {k : Nat} (hk : fs.length ≤ k) : fixGo many len e (fs.drop k) = true := by rw [List.drop_eq_nil_of_le hk, fixGo]
set_option maxRecDepth 100000 in
set_option maxHeartbeats 8000000 in
theorem implSec_any {B : Nat} (x : Sec) (many : Int) (w : World) (h : x.In w B) (hB : B ≤ w.heap.size) (hs : x.small) :
    Calls Try.prog 52 #[x.val, .int .i64 many] w (Gives w (.bool (secOk x.name x.kind x.align x.bytes.length x.size x.fixups many))) := by
  obtain ⟨name, kind, align, bytes, bA, bc, size, fixups, fA, fc⟩ := x
  obtain ⟨_, hfx⟩ := h
  obtain ⟨z0, z3, z5⟩ := hs
  simp only [Sec.val] at *
  have HFX := Lib.hid (hfx.more hB)
  have HN := Lib.hid (fun w => implName_any name w (size_le z0))
  have HK := Lib.hid (fun w => within_any kind 1 3 w)
  have HA := Lib.hid (fun w => isAlign_any align w)
  have HS := Lib.hid (fun w => within_any size 0 48 w)
  have HNO := Lib.hid (fun h => sec_no (name := name) (kind := kind) (align := align) (bl := bytes.length) (size := size) (fs := fixups) (many := many) h)
  have HBL := Lib.hid (fun h h3 => sec_blank (name := name) (kind := kind) (align := align) (bl := bytes.length) (size := size) (fs := fixups) (many := many) h h3)
  have HFU := Lib.hid (fun h h3 => sec_full (name := name) (kind := kind) (align := align) (bl := bytes.length) (size := size) (fs := fixups) (many := many) h h3)
  have HIK : Hid (∀ h : kind = 3, inB kind 1 3 = true) := fun h => by subst h; decide
  clear hfx
  generalize secOk name kind align bytes.length size fixups many = res at *
  have K := Lib.hid (Blk.new w 80 #[Value.string name, Value.int .i64 kind, Value.int .i64 align, Value.slice bA bytes.length bc, Value.int .i64 size, Value.slice fA fixups.length fc])
  have BB : Hid (Below w.heap.size w (w.alloc (.cells #[Value.string name, Value.int .i64 kind, Value.int .i64 align, Value.slice bA bytes.length bc, Value.int .i64 size, Value.slice fA fixups.length fc] 80))) := (Below.refl _ _).alloc (Nat.le_refl _) _
  generalize hb1 : nameOk name = b1 at *
  generalize hb2 : inB kind 1 3 = b2 at *
  generalize hb3 : alignOk align = b3 at *
  generalize hb4 : inB size 0 48 = b4 at *
  have H4 := Lib.hid hb4
  clear hb1 hb2 hb3 hb4
  cases b1
  · skip
    have HR : Hid (res = false) := HNO.out rfl
    go_enter Try.func52, Try.ntmps52
    go_wp2_with (first | (go_at_call 78; refine (HN.out _).mono ?_; rintro e w' ⟨rfl, rfl⟩) | (go_at_call 65; (with_reducible refine (HK.out _).mono ?_); rintro e w' ⟨rfl, rfl⟩) | (go_at_call 64; refine (HA.out _).mono ?_; rintro e w' ⟨rfl, rfl⟩))
    go_ret
    rw [HR.out]
    exact ⟨rfl, BB.out⟩
  cases b2
  · skip
    have HR : Hid (res = false) := HNO.out rfl
    go_enter Try.func52, Try.ntmps52
    go_wp2_with (first | (go_at_call 78; refine (HN.out _).mono ?_; rintro e w' ⟨rfl, rfl⟩) | (go_at_call 65; (with_reducible refine (HK.out _).mono ?_); rintro e w' ⟨rfl, rfl⟩) | (go_at_call 64; refine (HA.out _).mono ?_; rintro e w' ⟨rfl, rfl⟩))
    go_ret
    rw [HR.out]
    exact ⟨rfl, BB.out⟩
  cases b3
  · skip
    have HR : Hid (res = false) := HNO.out rfl
    go_enter Try.func52, Try.ntmps52
    go_wp2_with (first | (go_at_call 78; refine (HN.out _).mono ?_; rintro e w' ⟨rfl, rfl⟩) | (go_at_call 65; (with_reducible refine (HK.out _).mono ?_); rintro e w' ⟨rfl, rfl⟩) | (go_at_call 64; refine (HA.out _).mono ?_; rintro e w' ⟨rfl, rfl⟩))
    go_ret
    rw [HR.out]
    exact ⟨rfl, BB.out⟩
  by_cases h3 : kind = 3
  · have HR3 := Lib.hid (HBL.out rfl h3)
    have k3 : (kind == 3) = true := by simpa using h3
    clear HNO HBL HFU HIK h3
    cases b4
    · skip
      have HR : Hid (res = false) := HR3.out
      go_enter Try.func52, Try.ntmps52
      go_wp2_with (first | (go_at_call 78; refine (HN.out _).mono ?_; rintro e w' ⟨rfl, rfl⟩) | (go_at_call 65; (with_reducible refine (HK.out _).mono ?_); rintro e w' ⟨rfl, rfl⟩) | (go_at_call 64; refine (HA.out _).mono ?_; rintro e w' ⟨rfl, rfl⟩) | (go_at_call 65; (with_reducible refine (HS.out _).mono ?_); rintro e w' ⟨rfl, rfl⟩))
      go_ret
      rw [HR.out]
      exact ⟨rfl, BB.out⟩
    by_cases q1 : bytes.length = 0
    · by_cases q2 : fixups.length = 0
      · have HR : Hid (res = true) := by rw [Hid, HR3.out]; simp [q1, q2]
        have e1 : ((bytes.length : Int) == 0) = true := by rw [show ((bytes.length : Nat) : Int) = 0 from by omega]; rfl
        have e2 : ((fixups.length : Int) == 0) = true := by rw [show ((fixups.length : Nat) : Int) = 0 from by omega]; rfl
        clear q1 q2
        go_enter Try.func52, Try.ntmps52
        go_wp2_with (first | (go_at_call 78; refine (HN.out _).mono ?_; rintro e w' ⟨rfl, rfl⟩) | (go_at_call 65; (with_reducible refine (HK.out _).mono ?_); rintro e w' ⟨rfl, rfl⟩) | (go_at_call 64; refine (HA.out _).mono ?_; rintro e w' ⟨rfl, rfl⟩) | (go_at_call 65; (with_reducible refine (HS.out _).mono ?_); rintro e w' ⟨rfl, rfl⟩))
        go_ret
        rw [HR.out]
        exact ⟨rfl, BB.out⟩
      · have HR : Hid (res = false) := by rw [Hid, HR3.out]; simp [q1, q2]
        have e1 : ((bytes.length : Int) == 0) = true := by rw [show ((bytes.length : Nat) : Int) = 0 from by omega]; rfl
        have e2 : ((fixups.length : Int) == 0) = false := beq_eq_false_iff_ne.2 (by omega)
        clear q1 q2
        go_enter Try.func52, Try.ntmps52
        go_wp2_with (first | (go_at_call 78; refine (HN.out _).mono ?_; rintro e w' ⟨rfl, rfl⟩) | (go_at_call 65; (with_reducible refine (HK.out _).mono ?_); rintro e w' ⟨rfl, rfl⟩) | (go_at_call 64; refine (HA.out _).mono ?_; rintro e w' ⟨rfl, rfl⟩) | (go_at_call 65; (with_reducible refine (HS.out _).mono ?_); rintro e w' ⟨rfl, rfl⟩))
        go_ret
        rw [HR.out]
        exact ⟨rfl, BB.out⟩
    · have HR : Hid (res = false) := by rw [Hid, HR3.out]; simp [q1]
      have e1 : ((bytes.length : Int) == 0) = false := beq_eq_false_iff_ne.2 (by omega)
      clear q1
      go_enter Try.func52, Try.ntmps52
      go_wp2_with (first | (go_at_call 78; refine (HN.out _).mono ?_; rintro e w' ⟨rfl, rfl⟩) | (go_at_call 65; (with_reducible refine (HK.out _).mono ?_); rintro e w' ⟨rfl, rfl⟩) | (go_at_call 64; refine (HA.out _).mono ?_; rintro e w' ⟨rfl, rfl⟩) | (go_at_call 65; (with_reducible refine (HS.out _).mono ?_); rintro e w' ⟨rfl, rfl⟩))
      go_ret
      rw [HR.out]
      exact ⟨rfl, BB.out⟩
  · have HR3 := Lib.hid (HFU.out rfl h3)
    have k3 : (kind == 3) = false := by simpa using h3
    clear HNO HBL HFU HIK h3
    by_cases qs : size = 0
    · by_cases qb : bytes.length ≤ 48
      · by_cases qf : fixups.length ≤ 6
        · have e0 : (size != 0) = false := by simpa using qs
          have HG0 : Hid (res = fixGo many bytes.length 0 fixups) := by rw [Hid, HR3.out]; simp [qs, qb, qf]
          have d1 : decide ((bytes.length : Int) > 48) = false := decide_eq_false (by omega)
          have d2 : decide ((fixups.length : Int) > 6) = false := decide_eq_false (by omega)
          clear HR3 qs
          go_enter Try.func52, Try.ntmps52
          go_wp2_with (first | (go_at_call 78; refine (HN.out _).mono ?_; rintro e w' ⟨rfl, rfl⟩) | (go_at_call 65; (with_reducible refine (HK.out _).mono ?_); rintro e w' ⟨rfl, rfl⟩) | (go_at_call 64; refine (HA.out _).mono ?_; rintro e w' ⟨rfl, rfl⟩) | (go_at_call 65; (with_reducible refine (HS.out _).mono ?_); rintro e w' ⟨rfl, rfl⟩))
          clear e0 d1 d2
          go_loopw [5, 61] (fun ev iv wr => ∃ (k : Nat) (e : Int), k ≤ fixups.length ∧ iv = .int .i64 k ∧ ev = .int .i64 e ∧ 0 ≤ e ∧ e ≤ 48 ∧ Hid (fixGo many bytes.length 0 fixups = fixGo many bytes.length e (fixups.drop k)) ∧ Hid (Below w.heap.size w wr) ∧ Hid (Blk wr w.heap.size 80 #[Value.string name, Value.int .i64 kind, Value.int .i64 align, Value.slice bA bytes.length bc, Value.int .i64 size, Value.slice fA fixups.length fc]) ∧ w.heap.size < wr.heap.size) (fun _ iv _ => fixups.length - (intOf iv).toNat)
          case atStart => exact ⟨0, 0, Nat.zero_le _, rfl, rfl, by omega, by omega, rfl, BB, K, by simp⟩
          case round =>
            clear BB K HN HK HA HS
            obtain ⟨k, e, hk, rfl, rfl, he0, he1, HG, HB, HX, hlt0⟩ := hrel
            have x3 := HX.out.cell 3
            have x5 := HX.out.cell 5
            by_cases hlt : k < fixups.length
            · obtain ⟨b, off, hfa, hbl, c0, c1, c2, c3⟩ := Fix.at_ (HFX.out.below HB.out) hlt
              subst hfa
              have HGF : Hid (fixGo many bytes.length 0 fixups = (fixOk many bytes.length e fixups[k] && fixGo many bytes.length (fixups[k].pos + wideOf fixups[k].kind) (fixups.drop (k + 1)))) := by rw [Hid, HG.out]; exact fixGo_at hlt
              have hw := wideOf_bd fixups[k].kind
              have HFO : Hid (fixOk many bytes.length e fixups[k] = (!(wideOf fixups[k].kind == 0) && !decide (fixups[k].to_ < 0) && !decide (many ≤ fixups[k].to_) && inB fixups[k].add_ (-1000) 1000 && inB fixups[k].pos e (bytes.length - wideOf fixups[k].kind))) := rfl
              have HW := Lib.hid (fun w => gives_same (implWide_any fixups[k].kind w))
              have HAD := Lib.hid (fun w => isAdd_any fixups[k].add_ w)
              have HPS := Lib.hid (fun w => within_any fixups[k].pos e (bytes.length - wideOf fixups[k].kind) w)
              have HPI : Hid (inB fixups[k].pos e (bytes.length - wideOf fixups[k].kind) = true → e ≤ fixups[k].pos ∧ fixups[k].pos ≤ bytes.length - wideOf fixups[k].kind) := fun h => inB_iff.1 h
              clear HG
              generalize fixups[k].pos = p at *
              generalize fixups[k].kind = kd at *
              generalize fixups[k].to_ = tt at *
              generalize fixups[k].add_ = ad at *
              generalize wideOf kd = wd at *
              generalize inB ad (-1000) 1000 = ba at *
              generalize inB p e (bytes.length - wd) = bp at *
              obtain ⟨hw0, hw4⟩ := hw
              have KF := Lib.hid (Blk.new wr 107 #[Value.int .i64 p, Value.int .i64 kd, Value.int .i64 tt, Value.int .i64 ad])
              have HX2 := Lib.hid (HX.out.alloc (.cells #[Value.int .i64 p, Value.int .i64 kd, Value.int .i64 tt, Value.int .i64 ad] 107))
              have HB2 := Lib.hid (HB.out.alloc HB.out.size (.cells #[Value.int .i64 p, Value.int .i64 kd, Value.int .i64 tt, Value.int .i64 ad] 107))
              go_wp2_with fail
              refine (HW.out _).mono ?_
              rintro e2 w2 ⟨rfl, s2⟩
              have y3 := (HX2.out.below s2 HX2.out.lt).cell 3
              have f0 := (KF.out.below s2 KF.out.lt).cell 0
              have f2 := (KF.out.below s2 KF.out.lt).cell 2
              have f3 := (KF.out.below s2 KF.out.lt).cell 3
              have HX3 := Lib.hid (HX2.out.below s2 HX2.out.lt)
              have HB3 := Lib.hid (HB2.out.trans (s2.mono HB2.out.size))
              have hlt3 : w.heap.size < w2.heap.size := HX3.out.lt
              clear s2 x3 x5 c0 c1 c2 c3 KF HX2 HB2 HX HB HW
              by_cases t0 : wd = 0
              · have u0 : (wd == 0) = true := by simpa using t0
                have HR : Hid (res = false) := by rw [Hid, HG0.out, HGF.out, HFO.out]; simp [t0]
                go_wp2_with (first | (go_at_call 80; (with_reducible refine (HAD.out _).mono ?_); rintro e3 w' ⟨rfl, rfl⟩) | (go_at_call 65; (with_reducible refine (HPS.out _).mono ?_); rintro e3 w' ⟨rfl, rfl⟩))
                go_ret
                rw [HR.out]
                exact ⟨rfl, HB3.out⟩
              · have u0 : (wd == 0) = false := by simpa using t0
                by_cases t1 : tt < 0
                · have HR : Hid (res = false) := by rw [Hid, HG0.out, HGF.out, HFO.out]; simp [t1]
                  go_wp2_with (first | (go_at_call 80; (with_reducible refine (HAD.out _).mono ?_); rintro e3 w' ⟨rfl, rfl⟩) | (go_at_call 65; (with_reducible refine (HPS.out _).mono ?_); rintro e3 w' ⟨rfl, rfl⟩))
                  go_ret
                  rw [HR.out]
                  exact ⟨rfl, HB3.out⟩
                · skip
                  by_cases t2 : many ≤ tt
                  · have HR : Hid (res = false) := by rw [Hid, HG0.out, HGF.out, HFO.out]; simp [t2]
                    go_wp2_with (first | (go_at_call 80; (with_reducible refine (HAD.out _).mono ?_); rintro e3 w' ⟨rfl, rfl⟩) | (go_at_call 65; (with_reducible refine (HPS.out _).mono ?_); rintro e3 w' ⟨rfl, rfl⟩))
                    go_ret
                    rw [HR.out]
                    exact ⟨rfl, HB3.out⟩
                  · skip
                    cases ba
                    · have tx : True := trivial
                      have HR : Hid (res = false) := by rw [Hid, HG0.out, HGF.out, HFO.out]; simp
                      go_wp2_with (first | (go_at_call 80; (with_reducible refine (HAD.out _).mono ?_); rintro e3 w' ⟨rfl, rfl⟩) | (go_at_call 65; (with_reducible refine (HPS.out _).mono ?_); rintro e3 w' ⟨rfl, rfl⟩))
                      go_ret
                      rw [HR.out]
                      exact ⟨rfl, HB3.out⟩
                    · skip
                      cases bp
                      · have tx : True := trivial
                        have HR : Hid (res = false) := by rw [Hid, HG0.out, HGF.out, HFO.out]; simp
                        go_wp2_with (first | (go_at_call 80; (with_reducible refine (HAD.out _).mono ?_); rintro e3 w' ⟨rfl, rfl⟩) | (go_at_call 65; (with_reducible refine (HPS.out _).mono ?_); rintro e3 w' ⟨rfl, rfl⟩))
                        go_ret
                        rw [HR.out]
                        exact ⟨rfl, HB3.out⟩
                      · skip
                        obtain ⟨hp1, hp2⟩ := HPI.out rfl
                        have HN : Hid (fixGo many bytes.length 0 fixups = fixGo many bytes.length (p + wd) (fixups.drop (k + 1))) := by rw [Hid, HGF.out, HFO.out]; simp [t0, t1, t2]
                        go_wp2_with (first | (go_at_call 80; (with_reducible refine (HAD.out _).mono ?_); rintro e3 w' ⟨rfl, rfl⟩) | (go_at_call 65; (with_reducible refine (HPS.out _).mono ?_); rintro e3 w' ⟨rfl, rfl⟩))
                        go_roundw
                        case rel => exact ⟨k + 1, p + wd, by omega, by go_num, rfl, by omega, by omega, HN, HB3, HX3, hlt3⟩
                        case measure => simp [intOf]; omega
            · have HR : Hid (res = true) := by rw [Hid, HG0.out, HG.out, fixGo_end (by omega)]
              go_wp2
              go_ret
              rw [HR.out]
              exact ⟨rfl, HB.out⟩
        · have e0 : (size != 0) = false := by simpa using qs
          have d1 : decide ((bytes.length : Int) > 48) = false := decide_eq_false (by omega)
          have d2 : decide ((fixups.length : Int) > 6) = true := decide_eq_true (by omega)
          have HR : Hid (res = false) := by rw [Hid, HR3.out]; simp [qf]
          try clear qs
          try clear qb
          try clear qf
          go_enter Try.func52, Try.ntmps52
          go_wp2_with (first | (go_at_call 78; refine (HN.out _).mono ?_; rintro e w' ⟨rfl, rfl⟩) | (go_at_call 65; (with_reducible refine (HK.out _).mono ?_); rintro e w' ⟨rfl, rfl⟩) | (go_at_call 64; refine (HA.out _).mono ?_; rintro e w' ⟨rfl, rfl⟩) | (go_at_call 65; (with_reducible refine (HS.out _).mono ?_); rintro e w' ⟨rfl, rfl⟩))
          go_ret
          rw [HR.out]
          exact ⟨rfl, BB.out⟩
      · have e0 : (size != 0) = false := by simpa using qs
        have d1 : decide ((bytes.length : Int) > 48) = true := decide_eq_true (by omega)
        have HR : Hid (res = false) := by rw [Hid, HR3.out]; simp [qb]
        try clear qs
        try clear qb
        try clear qf
        go_enter Try.func52, Try.ntmps52
        go_wp2_with (first | (go_at_call 78; refine (HN.out _).mono ?_; rintro e w' ⟨rfl, rfl⟩) | (go_at_call 65; (with_reducible refine (HK.out _).mono ?_); rintro e w' ⟨rfl, rfl⟩) | (go_at_call 64; refine (HA.out _).mono ?_; rintro e w' ⟨rfl, rfl⟩) | (go_at_call 65; (with_reducible refine (HS.out _).mono ?_); rintro e w' ⟨rfl, rfl⟩))
        go_ret
        rw [HR.out]
        exact ⟨rfl, BB.out⟩
    · have e0 : (size != 0) = true := by simpa using qs
      have HR : Hid (res = false) := by rw [Hid, HR3.out]; simp [qs]
      try clear qs
      try clear qb
      try clear qf
      go_enter Try.func52, Try.ntmps52
      go_wp2_with (first | (go_at_call 78; refine (HN.out _).mono ?_; rintro e w' ⟨rfl, rfl⟩) | (go_at_call 65; (with_reducible refine (HK.out _).mono ?_); rintro e w' ⟨rfl, rfl⟩) | (go_at_call 64; refine (HA.out _).mono ?_; rintro e w' ⟨rfl, rfl⟩) | (go_at_call 65; (with_reducible refine (HS.out _).mono ?_); rintro e w' ⟨rfl, rfl⟩))
      go_ret
      rw [HR.out]
      exact ⟨rfl, BB.out⟩
end Go.Proofs.Ytdaamgonendkkaa
