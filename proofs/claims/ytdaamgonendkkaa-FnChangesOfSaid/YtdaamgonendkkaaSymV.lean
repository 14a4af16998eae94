/- Contracts of the two SymbolValid. No condition but the sizes. -/
import Derived.Test.YtdaamgonendkkaaRows
import Derived.Test.YtdaamgonendkkaaBase
import Derived.Test.YtdaamgonendkkaaBase2
import Derived.Test.YtdaamgonendkkaaIn
import Derived.Test.YtdaamgonendkkaaName
import Derived.Test.YtdaamgonendkkaaByteS
import Derived.Test.YtdaamgonendkkaaFix
import Derived.Test.YtdaamgonendkkaaSec
import Derived.Test.YtdaamgonendkkaaObjS
import Derived.Test.YtdaamgonendkkaaSecV
import Derived.Test.YtdaamgonendkkaaSym
import Derived.WalkKit
import Derived.WalkSpells
import Derived.WalkLawsBesides
import Derived.Handy
import Derived.BigQuiet
import Derived.Deep.RegionHeld3
import Derived.Deep.DrawnRows
import Derived.Deep.QuietTactic
namespace Go.Proofs.Ytdaamgonendkkaa
open Go Go.RowKit

def sizeAt (secs : List Sec) (i : Int) : Int := (secs.map secSize).getD i.toNat 0
def inside (v : Sym) (secs : List Sec) : Bool := inB v.where_ 0 ((secs.length : Int) - 1) && inB v.value 0 (sizeAt secs v.where_)
def symWell (v : Sym) (secs : List Sec) : Bool := if v.where_ = -1 then decide (v.value = 0) && decide (v.bind ≠ 0) else if v.where_ = -2 then inB v.value 0 60000 else inside v secs
/-- A symbol is valid among sections. -/
def symOk (v : Sym) (secs : List Sec) : Bool := (nameOk v.name && inB v.bind 0 2) && symWell v secs
theorem sym_no {v : Sym} {secs : List Sec} (h : (nameOk v.name && inB v.bind 0 2) = false) : symOk v secs = false := by unfold symOk; rw [h, Bool.false_and]
theorem sym_un {v : Sym} {secs : List Sec} (h : (nameOk v.name && inB v.bind 0 2) = true) (h1 : v.where_ = -1) : symOk v secs = (decide (v.value = 0) && decide (v.bind ≠ 0)) := by unfold symOk symWell; rw [h, Bool.true_and, if_pos h1]
theorem sym_abs {v : Sym} {secs : List Sec} (h : (nameOk v.name && inB v.bind 0 2) = true) (h1 : v.where_ ≠ -1) (h2 : v.where_ = -2) : symOk v secs = inB v.value 0 60000 := by unfold symOk symWell; rw [h, Bool.true_and, if_neg h1, if_pos h2]
theorem sym_in {v : Sym} {secs : List Sec} (h : (nameOk v.name && inB v.bind 0 2) = true) (h1 : v.where_ ≠ -1) (h2 : v.where_ ≠ -2) : symOk v secs = inside v secs := by unfold symOk symWell; rw [h, Bool.true_and, if_neg h1, if_neg h2]
theorem sizeAt_at {secs : List Sec} {k : Nat} (h : k < secs.length) : sizeAt secs k = secSize secs[k] := by unfold sizeAt; rw [Int.toNat_natCast, List.getD_eq_getElem?_getD, List.getElem?_map, List.getElem?_eq_getElem h]; rfl
set_option maxRecDepth 100000 in
set_option maxHeartbeats 8000000 in
theorem implSym_any {A : Option Addr} {c B : Nat} (v : Sym) (secs : List Sec) (w : World) (h : Reads w B 6 A secs.length (secs.flatMap Sec.cells)) (hB : B ≤ w.heap.size) (hm : secs.length ≤ 1048576) (hs : v.name.size ≤ 1048576) :
    Calls Try.prog 53 #[v.val, .slice A secs.length c] w (Gives w (.bool (symOk v secs))) := by
  have HNO := Lib.hid (fun h => sym_no (v := v) (secs := secs) h)
  have HUN := Lib.hid (fun h h1 => sym_un (v := v) (secs := secs) h h1)
  have HAB := Lib.hid (fun h h1 h2 => sym_abs (v := v) (secs := secs) h h1 h2)
  have HIN := Lib.hid (fun h h1 h2 => sym_in (v := v) (secs := secs) h h1 h2)
  have HID : Hid (inside v secs = (inB v.where_ 0 ((secs.length : Int) - 1) && inB v.value 0 (sizeAt secs v.where_))) := rfl
  generalize inside v secs = ins at *
  generalize symOk v secs = res at *
  obtain ⟨name, bind, wh, val⟩ := v
  simp only [Sym.val] at *
  have H1 := Lib.hid (h.more hB)
  have HN := Lib.hid (fun w => implName_any name w (size_le hs))
  have HK := Lib.hid (fun w => within_any bind 0 2 w)
  have HV := Lib.hid (fun w => within_any val 0 60000 w)
  have HI := Lib.hid (fun w => within_any wh 0 ((secs.length : Int) - 1) w)
  clear h hs
  have K := Lib.hid (Blk.new w 55 #[Value.string name, Value.int .i64 bind, Value.int .i64 wh, Value.int .i64 val])
  have BB : Hid (Below w.heap.size w (w.alloc (.cells #[Value.string name, Value.int .i64 bind, Value.int .i64 wh, Value.int .i64 val] 55))) := (Below.refl _ _).alloc (Nat.le_refl _) _
  generalize hb1 : nameOk name = b1 at *
  generalize hb2 : inB bind 0 2 = b2 at *
  generalize hb4 : inB val 0 60000 = b4 at *
  clear hb1 hb2 hb4
  cases b1
  · skip
    have HR : Hid (res = false) := HNO.out rfl
    go_enter Try.func53, Try.ntmps53
    go_wp2_with (first | (go_at_call 78; refine (HN.out _).mono ?_; rintro e w' ⟨rfl, rfl⟩) | (go_at_call 65; (with_reducible refine (HK.out _).mono ?_); rintro e w' ⟨rfl, rfl⟩) | (go_at_call 65; (with_reducible refine (HV.out _).mono ?_); rintro e w' ⟨rfl, rfl⟩))
    go_ret
    rw [HR.out]
    exact ⟨rfl, BB.out⟩
  cases b2
  · skip
    have HR : Hid (res = false) := HNO.out rfl
    go_enter Try.func53, Try.ntmps53
    go_wp2_with (first | (go_at_call 78; refine (HN.out _).mono ?_; rintro e w' ⟨rfl, rfl⟩) | (go_at_call 65; (with_reducible refine (HK.out _).mono ?_); rintro e w' ⟨rfl, rfl⟩) | (go_at_call 65; (with_reducible refine (HV.out _).mono ?_); rintro e w' ⟨rfl, rfl⟩))
    go_ret
    rw [HR.out]
    exact ⟨rfl, BB.out⟩
  by_cases h1 : wh = -1
  · have HR3 := Lib.hid (HUN.out rfl h1)
    have u1 : (wh == -1) = true := by simpa using h1
    clear HNO HUN HAB HIN HID HI h1
    by_cases q1 : val = 0
    · by_cases q2 : bind = 0
      · have HR : Hid (res = false) := by rw [Hid, HR3.out]; simp [q1, q2]
        have u2 : (val == 0) = true := by simpa using q1
        have u3 : (bind != 0) = false := by simpa using q2
        clear q1 q2
        go_enter Try.func53, Try.ntmps53
        go_wp2_with (first | (go_at_call 78; refine (HN.out _).mono ?_; rintro e w' ⟨rfl, rfl⟩) | (go_at_call 65; (with_reducible refine (HK.out _).mono ?_); rintro e w' ⟨rfl, rfl⟩) | (go_at_call 65; (with_reducible refine (HV.out _).mono ?_); rintro e w' ⟨rfl, rfl⟩))
        go_ret
        rw [HR.out]
        exact ⟨rfl, BB.out⟩
      · have HR : Hid (res = true) := by rw [Hid, HR3.out]; simp [q1, q2]
        have u2 : (val == 0) = true := by simpa using q1
        have u3 : (bind != 0) = true := by simpa using q2
        clear q1 q2
        go_enter Try.func53, Try.ntmps53
        go_wp2_with (first | (go_at_call 78; refine (HN.out _).mono ?_; rintro e w' ⟨rfl, rfl⟩) | (go_at_call 65; (with_reducible refine (HK.out _).mono ?_); rintro e w' ⟨rfl, rfl⟩) | (go_at_call 65; (with_reducible refine (HV.out _).mono ?_); rintro e w' ⟨rfl, rfl⟩))
        go_ret
        rw [HR.out]
        exact ⟨rfl, BB.out⟩
    · have HR : Hid (res = false) := by rw [Hid, HR3.out]; simp [q1]
      have u2 : (val == 0) = false := by simpa using q1
      clear q1
      go_enter Try.func53, Try.ntmps53
      go_wp2_with (first | (go_at_call 78; refine (HN.out _).mono ?_; rintro e w' ⟨rfl, rfl⟩) | (go_at_call 65; (with_reducible refine (HK.out _).mono ?_); rintro e w' ⟨rfl, rfl⟩) | (go_at_call 65; (with_reducible refine (HV.out _).mono ?_); rintro e w' ⟨rfl, rfl⟩))
      go_ret
      rw [HR.out]
      exact ⟨rfl, BB.out⟩
  have u1 : (wh == -1) = false := by simpa using h1
  by_cases h2 : wh = -2
  · have HR : Hid (res = b4) := HAB.out rfl h1 h2
    have u2 : (wh == -2) = true := by simpa using h2
    clear HNO HUN HAB HIN HID HI h1 h2
    go_enter Try.func53, Try.ntmps53
    go_wp2_with (first | (go_at_call 78; refine (HN.out _).mono ?_; rintro e w' ⟨rfl, rfl⟩) | (go_at_call 65; (with_reducible refine (HK.out _).mono ?_); rintro e w' ⟨rfl, rfl⟩) | (go_at_call 65; (with_reducible refine (HV.out _).mono ?_); rintro e w' ⟨rfl, rfl⟩))
    go_ret
    rw [HR.out]
    exact ⟨rfl, BB.out⟩
  have u2 : (wh == -2) = false := by simpa using h2
  have HR3 := Lib.hid ((HIN.out rfl h1 h2).trans HID.out)
  clear HNO HUN HAB HIN HID h1 h2
  have yw : IntKind.i64.wrap ((secs.length : Int) - 1) = (secs.length : Int) - 1 := IntWalk.i64_in _ (by omega)
  generalize hwi : inB wh 0 ((secs.length : Int) - 1) = bi at *
  cases bi
  · have HR : Hid (res = false) := by rw [Hid, HR3.out]; simp
    clear hwi
    go_enter Try.func53, Try.ntmps53
    go_wp2_with (first | (go_at_call 78; refine (HN.out _).mono ?_; rintro e w' ⟨rfl, rfl⟩) | (go_at_call 65; (with_reducible refine (HK.out _).mono ?_); rintro e w' ⟨rfl, rfl⟩) | (go_at_call 65; (with_reducible refine (HV.out _).mono ?_); rintro e w' ⟨rfl, rfl⟩))
    generalize w.alloc (.cells #[Value.string name, Value.int .i64 bind, Value.int .i64 wh, Value.int .i64 val] 55) = w1 at *
    have X1 := cell_regrown (K.out.cell 1)
    have X2 := cell_regrown (K.out.cell 2)
    have X3 := cell_regrown (K.out.cell 3)
    have cI := fun d os => Calls.regrown_of (w := w1) (d := d) (os := os) (gives_same (HI.out _))
    refine wp_region_quiet_below (by kernel_rfl) (by kernel_rfl) ?_
    repeat (go_big_quiet_step (first | exact cI _ _))
    refine wpQuiet_nil ?_
    intro _ hw'
    obtain ⟨⟨dq, osq⟩, hw''⟩ := hw'
    subst hw''
    have hbn := below_regrown w1 dq osq
    have HBN := Lib.hid (BB.out.trans (hbn.mono BB.out.size))
    go_wp2
    go_ret
    rw [HR.out]
    exact ⟨rfl, HBN.out⟩
  · obtain ⟨p1, p2⟩ := inB_iff.1 hwi
    clear hwi
    obtain ⟨k, rfl⟩ : ∃ k : Nat, wh = k := ⟨wh.toNat, by omega⟩
    have hlt : k < secs.length := by omega
    have HR : Hid (res = inB val 0 (secSize secs[k])) := by rw [Hid, HR3.out, sizeAt_at hlt, Bool.true_and]
    clear HR3 p1 p2
    have HSZ : Hid (∀ w, Calls Try.prog 81 #[.agg #[Value.string secs[k].name, Value.int .i64 secs[k].kind, Value.int .i64 secs[k].align, Value.slice secs[k].bytesA secs[k].bytes.length secs[k].bytesc, Value.int .i64 secs[k].size, Value.slice secs[k].fixupsA secs[k].fixups.length secs[k].fixupsc]] w (Gives w (.int .i64 (secSize secs[k])))) := Lib.hid (fun w => implSize_any secs[k] w)
    have HVS := Lib.hid (fun w => within_any val 0 (secSize secs[k]) w)
    obtain ⟨b, off, hfa, hbl, c0, c1, c2, c3, c4, c5⟩ := Sec.at_ (H1.out.below BB.out) hlt
    subst hfa
    generalize secSize secs[k] = z at *
    have k0 : (0 : Int) ≤ (k : Int) := Int.natCast_nonneg _
    have k2 : (k : Int) < (secs.length : Int) := by omega
    have C0 := Lib.hid c0
    have C1 := Lib.hid c1
    have C2 := Lib.hid c2
    have C3 := Lib.hid c3
    have C4 := Lib.hid c4
    have C5 := Lib.hid c5
    clear c0 c1 c2 c3 c4 c5
    go_enter Try.func53, Try.ntmps53
    go_wp2_with (first | (go_at_call 78; refine (HN.out _).mono ?_; rintro e w' ⟨rfl, rfl⟩) | (go_at_call 65; (with_reducible refine (HK.out _).mono ?_); rintro e w' ⟨rfl, rfl⟩) | (go_at_call 65; (with_reducible refine (HV.out _).mono ?_); rintro e w' ⟨rfl, rfl⟩))
    generalize w.alloc (.cells #[Value.string name, Value.int .i64 bind, Value.int .i64 (k : Int), Value.int .i64 val] 55) = w1 at *
    have X1 := cell_regrown (K.out.cell 1)
    have X2 := cell_regrown (K.out.cell 2)
    have X3 := cell_regrown (K.out.cell 3)
    have Y0 := cell_regrown C0.out
    have Y1 := cell_regrown C1.out
    have Y2 := cell_regrown C2.out
    have Y3 := cell_regrown C3.out
    have Y4 := cell_regrown C4.out
    have Y5 := cell_regrown C5.out
    have cI := fun d os => Calls.regrown_of (w := w1) (d := d) (os := os) (gives_same (HI.out _))
    have cS := fun d os => Calls.regrown_of (w := w1) (d := d) (os := os) (HSZ.out _)
    have cV := fun d os => Calls.regrown_of (w := w1) (d := d) (os := os) (gives_same (HVS.out _))
    refine wp_region_quiet_below (by kernel_rfl) (by kernel_rfl) ?_
    repeat (go_big_quiet_step (first | (with_reducible exact cV _ _) | (with_reducible exact cI _ _) | (with_reducible exact cS _ _)))
    refine wpQuiet_nil ?_
    intro _ hw'
    obtain ⟨⟨dq, osq⟩, hw''⟩ := hw'
    subst hw''
    have hbn := below_regrown w1 dq osq
    have HBN := Lib.hid (BB.out.trans (hbn.mono BB.out.size))
    go_wp2
    go_ret
    rw [HR.out]
    exact ⟨rfl, HBN.out⟩
set_option maxRecDepth 100000 in
set_option maxHeartbeats 8000000 in
theorem specSym_any {A : Option Addr} {c B : Nat} (v : Sym) (secs : List Sec) (w : World) (h : Reads w B 6 A secs.length (secs.flatMap Sec.cells)) (hB : B ≤ w.heap.size) (hm : secs.length ≤ 1048576) (hs : v.name.size ≤ 1048576) :
    Calls Try.prog 70 #[v.val, .slice A secs.length c] w (Gives w (.bool (symOk v secs))) := by
  have HNO := Lib.hid (fun h => sym_no (v := v) (secs := secs) h)
  have HUN := Lib.hid (fun h h1 => sym_un (v := v) (secs := secs) h h1)
  have HAB := Lib.hid (fun h h1 h2 => sym_abs (v := v) (secs := secs) h h1 h2)
  have HIN := Lib.hid (fun h h1 h2 => sym_in (v := v) (secs := secs) h h1 h2)
  have HID : Hid (inside v secs = (inB v.where_ 0 ((secs.length : Int) - 1) && inB v.value 0 (sizeAt secs v.where_))) := rfl
  generalize inside v secs = ins at *
  generalize symOk v secs = res at *
  obtain ⟨name, bind, wh, val⟩ := v
  simp only [Sym.val] at *
  have H1 := Lib.hid (h.more hB)
  have HN := Lib.hid (fun w => specName_any name w (size_le hs))
  have HK := Lib.hid (fun w => l1In_any bind 0 2 w)
  have HV := Lib.hid (fun w => l1In_any val 0 60000 w)
  have HI := Lib.hid (fun w => l1In_any wh 0 ((secs.length : Int) - 1) w)
  clear h hs
  have K := Lib.hid (Blk.new w 55 #[Value.string name, Value.int .i64 bind, Value.int .i64 wh, Value.int .i64 val])
  have BB : Hid (Below w.heap.size w (w.alloc (.cells #[Value.string name, Value.int .i64 bind, Value.int .i64 wh, Value.int .i64 val] 55))) := (Below.refl _ _).alloc (Nat.le_refl _) _
  generalize hb1 : nameOk name = b1 at *
  generalize hb2 : inB bind 0 2 = b2 at *
  generalize hb4 : inB val 0 60000 = b4 at *
  clear hb1 hb2 hb4
  cases b1
  · skip
    have HR : Hid (res = false) := HNO.out rfl
    go_enter Try.func70, Try.ntmps70
    go_wp2_with (first | (go_at_call 89; refine (HN.out _).mono ?_; rintro e w' ⟨rfl, rfl⟩) | (go_at_call 90; (with_reducible refine (HK.out _).mono ?_); rintro e w' ⟨rfl, rfl⟩) | (go_at_call 90; (with_reducible refine (HV.out _).mono ?_); rintro e w' ⟨rfl, rfl⟩))
    go_ret
    rw [HR.out]
    exact ⟨rfl, BB.out⟩
  cases b2
  · skip
    have HR : Hid (res = false) := HNO.out rfl
    go_enter Try.func70, Try.ntmps70
    go_wp2_with (first | (go_at_call 89; refine (HN.out _).mono ?_; rintro e w' ⟨rfl, rfl⟩) | (go_at_call 90; (with_reducible refine (HK.out _).mono ?_); rintro e w' ⟨rfl, rfl⟩) | (go_at_call 90; (with_reducible refine (HV.out _).mono ?_); rintro e w' ⟨rfl, rfl⟩))
    go_ret
    rw [HR.out]
    exact ⟨rfl, BB.out⟩
  by_cases h1 : wh = -1
  · have HR3 := Lib.hid (HUN.out rfl h1)
    have u1 : (wh == -1) = true := by simpa using h1
    clear HNO HUN HAB HIN HID HI h1
    by_cases q1 : val = 0
    · by_cases q2 : bind = 0
      · have HR : Hid (res = false) := by rw [Hid, HR3.out]; simp [q1, q2]
        have u2 : (val == 0) = true := by simpa using q1
        have u3 : (bind != 0) = false := by simpa using q2
        clear q1 q2
        go_enter Try.func70, Try.ntmps70
        go_wp2_with (first | (go_at_call 89; refine (HN.out _).mono ?_; rintro e w' ⟨rfl, rfl⟩) | (go_at_call 90; (with_reducible refine (HK.out _).mono ?_); rintro e w' ⟨rfl, rfl⟩) | (go_at_call 90; (with_reducible refine (HV.out _).mono ?_); rintro e w' ⟨rfl, rfl⟩))
        go_ret
        rw [HR.out]
        exact ⟨rfl, BB.out⟩
      · have HR : Hid (res = true) := by rw [Hid, HR3.out]; simp [q1, q2]
        have u2 : (val == 0) = true := by simpa using q1
        have u3 : (bind != 0) = true := by simpa using q2
        clear q1 q2
        go_enter Try.func70, Try.ntmps70
        go_wp2_with (first | (go_at_call 89; refine (HN.out _).mono ?_; rintro e w' ⟨rfl, rfl⟩) | (go_at_call 90; (with_reducible refine (HK.out _).mono ?_); rintro e w' ⟨rfl, rfl⟩) | (go_at_call 90; (with_reducible refine (HV.out _).mono ?_); rintro e w' ⟨rfl, rfl⟩))
        go_ret
        rw [HR.out]
        exact ⟨rfl, BB.out⟩
    · have HR : Hid (res = false) := by rw [Hid, HR3.out]; simp [q1]
      have u2 : (val == 0) = false := by simpa using q1
      clear q1
      go_enter Try.func70, Try.ntmps70
      go_wp2_with (first | (go_at_call 89; refine (HN.out _).mono ?_; rintro e w' ⟨rfl, rfl⟩) | (go_at_call 90; (with_reducible refine (HK.out _).mono ?_); rintro e w' ⟨rfl, rfl⟩) | (go_at_call 90; (with_reducible refine (HV.out _).mono ?_); rintro e w' ⟨rfl, rfl⟩))
      go_ret
      rw [HR.out]
      exact ⟨rfl, BB.out⟩
  have u1 : (wh == -1) = false := by simpa using h1
  by_cases h2 : wh = -2
  · have HR : Hid (res = b4) := HAB.out rfl h1 h2
    have u2 : (wh == -2) = true := by simpa using h2
    clear HNO HUN HAB HIN HID HI h1 h2
    go_enter Try.func70, Try.ntmps70
    go_wp2_with (first | (go_at_call 89; refine (HN.out _).mono ?_; rintro e w' ⟨rfl, rfl⟩) | (go_at_call 90; (with_reducible refine (HK.out _).mono ?_); rintro e w' ⟨rfl, rfl⟩) | (go_at_call 90; (with_reducible refine (HV.out _).mono ?_); rintro e w' ⟨rfl, rfl⟩))
    go_ret
    rw [HR.out]
    exact ⟨rfl, BB.out⟩
  have u2 : (wh == -2) = false := by simpa using h2
  have HR3 := Lib.hid ((HIN.out rfl h1 h2).trans HID.out)
  clear HNO HUN HAB HIN HID h1 h2
  have yw : IntKind.i64.wrap ((secs.length : Int) - 1) = (secs.length : Int) - 1 := IntWalk.i64_in _ (by omega)
  generalize hwi : inB wh 0 ((secs.length : Int) - 1) = bi at *
  cases bi
  · have HR : Hid (res = false) := by rw [Hid, HR3.out]; simp
    clear hwi
    go_enter Try.func70, Try.ntmps70
    go_wp2_with (first | (go_at_call 89; refine (HN.out _).mono ?_; rintro e w' ⟨rfl, rfl⟩) | (go_at_call 90; (with_reducible refine (HK.out _).mono ?_); rintro e w' ⟨rfl, rfl⟩) | (go_at_call 90; (with_reducible refine (HV.out _).mono ?_); rintro e w' ⟨rfl, rfl⟩))
    generalize w.alloc (.cells #[Value.string name, Value.int .i64 bind, Value.int .i64 wh, Value.int .i64 val] 55) = w1 at *
    have X1 := cell_regrown (K.out.cell 1)
    have X2 := cell_regrown (K.out.cell 2)
    have X3 := cell_regrown (K.out.cell 3)
    have cI := fun d os => Calls.regrown_of (w := w1) (d := d) (os := os) (gives_same (HI.out _))
    refine wp_region_quiet_below (by kernel_rfl) (by kernel_rfl) ?_
    repeat (go_big_quiet_step (first | exact cI _ _))
    refine wpQuiet_nil ?_
    intro _ hw'
    obtain ⟨⟨dq, osq⟩, hw''⟩ := hw'
    subst hw''
    have hbn := below_regrown w1 dq osq
    have HBN := Lib.hid (BB.out.trans (hbn.mono BB.out.size))
    go_wp2
    go_ret
    rw [HR.out]
    exact ⟨rfl, HBN.out⟩
  · obtain ⟨p1, p2⟩ := inB_iff.1 hwi
    clear hwi
    obtain ⟨k, rfl⟩ : ∃ k : Nat, wh = k := ⟨wh.toNat, by omega⟩
    have hlt : k < secs.length := by omega
    have HR : Hid (res = inB val 0 (secSize secs[k])) := by rw [Hid, HR3.out, sizeAt_at hlt, Bool.true_and]
    clear HR3 p1 p2
    have HSZ : Hid (∀ w, Calls Try.prog 93 #[.agg #[Value.string secs[k].name, Value.int .i64 secs[k].kind, Value.int .i64 secs[k].align, Value.slice secs[k].bytesA secs[k].bytes.length secs[k].bytesc, Value.int .i64 secs[k].size, Value.slice secs[k].fixupsA secs[k].fixups.length secs[k].fixupsc]] w (Gives w (.int .i64 (secSize secs[k])))) := Lib.hid (fun w => specSize_any secs[k] w)
    have HVS := Lib.hid (fun w => l1In_any val 0 (secSize secs[k]) w)
    obtain ⟨b, off, hfa, hbl, c0, c1, c2, c3, c4, c5⟩ := Sec.at_ (H1.out.below BB.out) hlt
    subst hfa
    generalize secSize secs[k] = z at *
    have k0 : (0 : Int) ≤ (k : Int) := Int.natCast_nonneg _
    have k2 : (k : Int) < (secs.length : Int) := by omega
    have C0 := Lib.hid c0
    have C1 := Lib.hid c1
    have C2 := Lib.hid c2
    have C3 := Lib.hid c3
    have C4 := Lib.hid c4
    have C5 := Lib.hid c5
    clear c0 c1 c2 c3 c4 c5
    go_enter Try.func70, Try.ntmps70
    go_wp2_with (first | (go_at_call 89; refine (HN.out _).mono ?_; rintro e w' ⟨rfl, rfl⟩) | (go_at_call 90; (with_reducible refine (HK.out _).mono ?_); rintro e w' ⟨rfl, rfl⟩) | (go_at_call 90; (with_reducible refine (HV.out _).mono ?_); rintro e w' ⟨rfl, rfl⟩))
    generalize w.alloc (.cells #[Value.string name, Value.int .i64 bind, Value.int .i64 (k : Int), Value.int .i64 val] 55) = w1 at *
    have X1 := cell_regrown (K.out.cell 1)
    have X2 := cell_regrown (K.out.cell 2)
    have X3 := cell_regrown (K.out.cell 3)
    have Y0 := cell_regrown C0.out
    have Y1 := cell_regrown C1.out
    have Y2 := cell_regrown C2.out
    have Y3 := cell_regrown C3.out
    have Y4 := cell_regrown C4.out
    have Y5 := cell_regrown C5.out
    have cI := fun d os => Calls.regrown_of (w := w1) (d := d) (os := os) (gives_same (HI.out _))
    have cS := fun d os => Calls.regrown_of (w := w1) (d := d) (os := os) (HSZ.out _)
    have cV := fun d os => Calls.regrown_of (w := w1) (d := d) (os := os) (gives_same (HVS.out _))
    refine wp_region_quiet_below (by kernel_rfl) (by kernel_rfl) ?_
    repeat (go_big_quiet_step (first | (with_reducible exact cV _ _) | (with_reducible exact cI _ _) | (with_reducible exact cS _ _)))
    refine wpQuiet_nil ?_
    intro _ hw'
    obtain ⟨⟨dq, osq⟩, hw''⟩ := hw'
    subst hw''
    have hbn := below_regrown w1 dq osq
    have HBN := Lib.hid (BB.out.trans (hbn.mono BB.out.size))
    go_wp2
    go_ret
    rw [HR.out]
    exact ⟨rfl, HBN.out⟩
end Go.Proofs.Ytdaamgonendkkaa
