/- Contract of the drawing of an object. Condition: not too many draws. -/
import Derived.Test.YtdaamgonendkkaaRows
import Derived.Test.YtdaamgonendkkaaBase
import Derived.Test.YtdaamgonendkkaaBase2
import Derived.Test.YtdaamgonendkkaaBase3
import Derived.Test.YtdaamgonendkkaaOnly
import Derived.Test.YtdaamgonendkkaaIn
import Derived.Test.YtdaamgonendkkaaName
import Derived.Test.YtdaamgonendkkaaEqB
import Derived.Test.YtdaamgonendkkaaFix
import Derived.Test.YtdaamgonendkkaaSec
import Derived.Test.YtdaamgonendkkaaObjS
import Derived.Test.YtdaamgonendkkaaSym
import Derived.Test.YtdaamgonendkkaaObj
import Derived.Test.YtdaamgonendkkaaMarkT
import Derived.Test.YtdaamgonendkkaaPick
import Derived.Test.YtdaamgonendkkaaPick2
import Derived.Test.YtdaamgonendkkaaReg
import Derived.Test.YtdaamgonendkkaaRegS
import Derived.Test.YtdaamgonendkkaaDrawN
import Derived.Test.YtdaamgonendkkaaRegK
import Derived.Test.YtdaamgonendkkaaKT
import Derived.Test.YtdaamgonendkkaaDby
import Derived.Test.YtdaamgonendkkaaDsec
import Derived.Test.YtdaamgonendkkaaDsym
import Derived.WalkKit
import Derived.WalkSpells
import Derived.WalkLawsBesides
import Derived.Handy
import Derived.BigQuiet
import Derived.Deep.RegionHeld3
import Derived.Deep.DrawnRows
import Derived.Deep.QuietTactic
import Derived.Deep.CutBlock
import Derived.Laws.BytesArg
namespace Go.Proofs.Ytdaamgonendkkaa
open Go Go.RowKit

theorem sec_info : (Try.prog.info? 80).map (fun i => (i.zero, i.size, i.bytes)) = some (some (.agg #[.string ByteArray.empty, .int .i64 0, .int .i64 0, .slice none 0 0, .int .i64 0, .slice none 0 0]), 6, 88) := by kernel_rfl
theorem sym_info : (Try.prog.info? 55).map (fun i => (i.zero, i.size, i.bytes)) = some (some (.agg #[.string ByteArray.empty, .int .i64 0, .int .i64 0, .int .i64 0]), 4, 40) := by kernel_rfl
theorem TS_o : ¬ TS 47 := by unfold TS; decide
theorem TS_y : ¬ TS 55 := by unfold TS; decide
/-- The types that an object's parts have. -/
def TO (t : TypeId) : Prop := t = 5 ∨ t = 107 ∨ t = 80 ∨ t = 55
theorem TO_o : ¬ TO 47 := by unfold TO; decide
theorem TO_r : ¬ TO 90 := by unfold TO; decide
def Obj.oc (x : Obj) : List Value := [.slice x.sA x.secs.length x.sc, .slice x.yA x.syms.length x.yc]
def zObj : Obj := ⟨[], none, 0, [], none, 0⟩
/-- An object's parts, in memory behind H. -/
structure ObjRows (H : Nat) (x : Obj) (wq : World) : Prop where
  os : wq.ownsRow H 80 6 (.slice x.sA x.secs.length x.sc) x.secs.length (x.secs.flatMap Sec.cells)
  oy : wq.ownsRow H 55 4 (.slice x.yA x.syms.length x.yc) x.syms.length (x.syms.flatMap Sym.cells)
  ow : ∀ s ∈ x.secs, s.Own wq H
theorem ObjRows.keep {H : Nat} {x : Obj} {w w' : World} (h : ObjRows H x w) (k : KeepT TO w w') : ObjRows H x w' :=
  ⟨k.own h.os (.inr (.inr (.inl rfl))), k.own h.oy (.inr (.inr (.inr rfl))), fun s hs => (h.ow s hs).keepT k (.inl rfl) (.inr (.inl rfl))⟩
theorem ObjRows.below {H : Nat} {x : Obj} {w w' : World} (h : ObjRows H x w) (hb : Below w.heap.size w w') : ObjRows H x w' := h.keep (.of_below hb)
theorem ObjRows.at_ {H : Nat} {x : Obj} {w : World} (h : ObjRows H x w) : x.At w w.heap.size := ⟨⟨Reads.of_own h.os, fun s hs => (h.ow s hs).in_⟩, Reads.of_own h.oy⟩
theorem ObjRows.base {H H' : Nat} {x : Obj} {w : World} (h : ObjRows H x w) (hb : H' ≤ H) : ObjRows H' x w := ⟨own_base h.os hb, own_base h.oy hb, fun s hs => (h.ow s hs).base hb⟩
theorem own_capO {w : World} {base size n c : Nat} {t : TypeId} {A : Option Addr} {xs : List Value} (h : w.ownsRow base t size (.slice A n c) n xs) : n ≤ c := by
  rcases h.2 with ⟨hv, h0⟩ | ⟨g', cap, cur, hv, _, _, hnc, hcm, _⟩
  · omega
  · injection hv with h1 h2 h3
    omega
/-- While an object is drawn. -/
structure ObjMem (w : World) (r q g4 g5 : Nat) (zc oc : List Value) (x : Obj) (wq : World) : Prop where
  z4 : Blk wq g4 47 zc.toArray
  b5 : Blk wq g5 47 oc.toArray
  rows : ObjRows w.heap.size x wq
  rd : Rdr wq r q
  gr : w.grownBy wq (some r)
  hr : r < w.heap.size
  h4 : w.heap.size ≤ g4
  h45 : g4 < g5
section
variable {w wq w' : World} {r q g4 g5 : Nat} {zc oc : List Value} {x : Obj}
theorem ObjMem.alloc (h : ObjMem w r q g4 g5 zc oc x wq) (o : Go.Obj) : ObjMem w r q g4 g5 zc oc x (wq.alloc o) :=
  ⟨h.z4.alloc _, h.b5.alloc _, h.rows.keep (.of_alloc _ _ _), h.rd.alloc _, gr_alloc h.gr _, h.hr, h.h4, h.h45⟩
theorem ObjMem.drewN (h : ObjMem w r q g4 g5 zc oc x wq) (n : Nat) : ObjMem w r q g4 g5 zc oc x (wq.drewN n) :=
  ⟨h.z4.drewN n, h.b5.drewN n, ⟨h.rows.os, h.rows.oy, h.rows.ow⟩, h.rd, gr_drewN h.gr n, h.hr, h.h4, h.h45⟩
theorem ObjMem.moreq {q' : Nat} (h : ObjMem w r q g4 g5 zc oc x wq) (hq : q ≤ q') : ObjMem w r q' g4 g5 zc oc x wq := ⟨h.z4, h.b5, h.rows, h.rd.more hq, h.gr, h.hr, h.h4, h.h45⟩
theorem ObjMem.pick {q' : Nat} (h : ObjMem w r q g4 g5 zc oc x wq) (hr' : Rdr w' r q') (hg : wq.grownBy w' (some r)) : ObjMem w r q' g4 g5 zc oc x w' :=
  ⟨h.z4.grown hg (by have := h.hr; have := h.h4; simp; omega), h.b5.grown hg (by have := h.hr; have := h.h4; have := h.h45; simp; omega), h.rows.keep (.of_pick h.rd hg TO_r), hr', gr_trans h.gr hg, h.hr, h.h4, h.h45⟩
theorem ObjMem.put (h : ObjMem w r q g4 g5 zc oc x wq) (i : Nat) (u : Value) : ObjMem w r q g4 g5 zc (oc.set i u) x (wq.setCell ⟨g5, i, none⟩ u) :=
  ⟨h.z4.far (by have := h.h45; simp only [ne_eq]; omega) _, by have := h.b5.set_ i u; simpa using this, h.rows.keep (.of_set h.b5 TO_o i u), h.rd.setCell (by have := h.hr; have := h.h4; have := h.h45; simp only; omega) _, gr_setCell h.gr (by have := h.h4; have := h.h45; simp only; omega) _, h.hr, h.h4, h.h45⟩
theorem ObjMem.put4 (h : ObjMem w r q g4 g5 zc oc x wq) (i : Nat) (u : Value) : ObjMem w r q g4 g5 (zc.set i u) oc x (wq.setCell ⟨g4, i, none⟩ u) :=
  ⟨by have := h.z4.set_ i u; simpa using this, h.b5.far (by have := h.h45; simp only [ne_eq]; omega) _, h.rows.keep (.of_set h.z4 TO_o i u), h.rd.setCell (by have := h.hr; have := h.h4; simp only; omega) _, gr_setCell h.gr (by have := h.h4; simp only; omega) _, h.hr, h.h4, h.h45⟩
theorem ObjMem.pushS {A' : Option Addr} {c' : Nat} {s : Sec} (h : ObjMem w r q g4 g5 zc oc x wq) (hs : s.Own wq w.heap.size) (ho : w'.ownsRow w.heap.size 80 6 (.slice A' (x.secs.length + 1) c') (x.secs.length + 1) (x.secs.flatMap Sec.cells ++ s.cells)) (hg : wq.grownBy w' (x.sA.map (·.block))) :
    ObjMem w r q g4 g5 zc oc { x with secs := x.secs ++ [s], sA := A', sc := c' } w' :=
  ⟨h.z4.grown hg (blk_row_ne h.z4 h.rows.os (by decide)), h.b5.grown hg (blk_row_ne h.b5 h.rows.os (by decide)),
    ⟨by simpa using ho, own_other h.rows.oy hg (own_types_ne2 h.rows.oy h.rows.os (by decide)), fun t ht => by
      rcases List.mem_append.1 ht with ht | ht
      · exact (h.rows.ow t ht).keepT (T := TS) (.of_row h.rows.os hg TS_s) TS_b TS_f
      · rw [List.mem_singleton.1 ht]; exact hs.keepT (T := TS) (.of_row h.rows.os hg TS_s) TS_b TS_f⟩,
    h.rd.row hg h.rows.os h.hr, gr_row h.gr hg h.rows.os (Nat.le_refl _), h.hr, h.h4, h.h45⟩
theorem ObjMem.pushY {A' : Option Addr} {c' : Nat} {us : List Sym} (h : ObjMem w r q g4 g5 zc oc x wq) (ho : w'.ownsRow w.heap.size 55 4 (.slice A' (x.syms.length + us.length) c') (x.syms.length + us.length) (x.syms.flatMap Sym.cells ++ us.flatMap Sym.cells)) (hg : wq.grownBy w' (x.yA.map (·.block))) :
    ObjMem w r q g4 g5 zc oc { x with syms := x.syms ++ us, yA := A', yc := c' } w' :=
  ⟨h.z4.grown hg (blk_row_ne h.z4 h.rows.oy (by decide)), h.b5.grown hg (blk_row_ne h.b5 h.rows.oy (by decide)),
    ⟨own_other h.rows.os hg (own_types_ne2 h.rows.os h.rows.oy (by decide)), by simpa using ho, fun t ht => (h.rows.ow t ht).keepT (T := TS) (.of_row h.rows.oy hg TS_y) TS_b TS_f⟩,
    h.rd.row hg h.rows.oy h.hr, gr_row h.gr hg h.rows.oy (Nat.le_refl _), h.hr, h.h4, h.h45⟩
theorem ObjMem.newY {A' : Option Addr} {c' : Nat} {us : List Sym} (h : ObjMem w r q g4 g5 zc oc x wq) (ho : wq.ownsRow w.heap.size 55 4 (.slice A' us.length c') us.length (us.flatMap Sym.cells)) : ObjMem w r q g4 g5 zc oc { x with syms := us, yA := A', yc := c' } wq :=
  ⟨h.z4, h.b5, ⟨h.rows.os, ho, h.rows.ow⟩, h.rd, h.gr, h.hr, h.h4, h.h45⟩
theorem ObjMem.newS {A' : Option Addr} {c' : Nat} {us : List Sec} (h : ObjMem w r q g4 g5 zc oc x wq) (ho : wq.ownsRow w.heap.size 80 6 (.slice A' us.length c') us.length (us.flatMap Sec.cells)) (hw : ∀ s ∈ us, s.Own wq w.heap.size) : ObjMem w r q g4 g5 zc oc { x with secs := us, sA := A', sc := c' } wq :=
  ⟨h.z4, h.b5, ⟨ho, h.rows.oy, hw⟩, h.rd, h.gr, h.hr, h.h4, h.h45⟩
theorem ObjMem.far {g : Nat} {cs : Array Value} (h : ObjMem w r q g4 g5 zc oc x wq) (hb : Blk wq g 55 cs) (hya : ∀ a, x.yA = some a → a.block ≠ g) (hg : w.heap.size ≤ g) (i : Nat) (u : Value) : ObjMem w r q g4 g5 zc oc x (wq.setCell ⟨g, i, none⟩ u) := by
  have hgr : wq.grownBy (wq.setCell ⟨g, i, none⟩ u) ((some (⟨g, 0, none⟩ : Addr)).map (·.block)) := ⟨rfl, rfl, rfl, by simp [World.setCell], fun k _ hne => Below.heap_setCell wq _ u k (fun e => hne (by rw [e]; rfl))⟩
  exact ⟨h.z4.far (by exact Blk.ne_ h.z4 hb (by decide)) _, h.b5.far (by exact Blk.ne_ h.b5 hb (by decide)) _, ⟨(KeepT.of_set (T := fun t => t = 80) hb (by decide) i u).own h.rows.os rfl, own_other (A2 := some ⟨g, 0, none⟩) h.rows.oy hgr (fun a a2 h1 h2 => by injection h2 with h2; subst h2; exact hya a h1), fun s hs => (h.rows.ow s hs).keepT (T := TS) (.of_set hb TS_y i u) TS_b TS_f⟩,
    h.rd.setCell (by have := h.hr; simp only; omega) _, gr_setCell h.gr hg _, h.hr, h.h4, h.h45⟩
theorem ObjMem.cells (h : ObjMem w r q g4 g5 zc oc x wq) (i : Nat) : wq.cell? ⟨g5, i, none⟩ = oc.toArray[i]? := h.b5.cell i
theorem ObjMem.free (h : ObjMem w r q g4 g5 zc oc x wq) (i : Nat) : wq.frozen? ⟨g5, i, none⟩ = false := h.b5.frozen i
theorem ObjMem.size (h : ObjMem w r q g4 g5 zc oc x wq) : w.heap.size ≤ wq.heap.size ∧ r < wq.heap.size ∧ g5 < wq.heap.size ∧ g4 < wq.heap.size := ⟨h.gr.size, by have := h.gr.size; have := h.hr; omega, h.b5.lt, h.z4.lt⟩
end
theorem blk_reads {w : World} {g m size : Nat} {t : TypeId} {us : List Value} (h : Blk w g t us.toArray) (hl : us.length = m * size) : Reads w w.heap.size size (some ⟨g, 0, none⟩) m us :=
  ⟨hl, fun _ => ⟨_, rfl, h.lt, fun j u hu => by
    have h2 := h.cell j
    have e : (⟨g, 0, none⟩ : Addr).add j = ⟨g, j, none⟩ := by rw [Addr.add_lit]; simp
    rw [e, h2]
    simpa using hu⟩⟩
theorem op_pushB {P : Program} {o : Oper} {a : Act} {w : World} {K : Act → World → Prop} {Q : Exit → Act → World → Prop} (s x : Operand) (t : TypeId)
    (ho : o.op = .call { callee := .builtin .append, args := #[s, x], argTypes := #[t, t] })
    (base : Nat) (e : TypeId) (i : TypeInfo) (z : Value) (size bytes : Nat) (ht : P.underlying t = some (.slice e)) (hi : P.info? e = some i) (hz : i.zero = some z)
    (hsize : i.size = size) (hby : i.bytes = bytes) (hzs : z.cells.size = size) (hsz : 0 < size)
    (A : Option Addr) (n c m c2 : Nat) (xs us : List Value) (hown : w.ownsRow base e size (.slice A n c) n xs) (hs : a.eval s = .slice A n c)
    (B : Nat) (AX : Option Addr) (hx : a.eval x = .slice AX m c2) (hr : Reads w B size AX m us) (h1 : ∀ u ∈ us, u.oneCell' = true) (hm : 0 < n + m) (hnm : n + m ≤ 1048576) (hbb : bytes ≤ 100) (hbase : base ≤ w.heap.size)
    (h : ∀ A' c' w', w'.ownsRow base e size (.slice A' (n + m) c') (n + m) (xs ++ us) → w.grownBy w' (A.map (·.block)) → K (a.put o.dst (.slice A' (n + m) c')) w') : o.wp P a w K Q := by
  have hbytes : (n + m) * bytes ≤ 140737488355328 := by
    have : (n + m) * bytes ≤ 1048576 * 100 := Nat.mul_le_mul hnm hbb
    omega
  refine wp_append_any w s x t ho base e i z size bytes ht hi hz hsize hby hzs hsz (.slice A n c) n xs hs hown B AX m c2 us hx hr h1 (by unfold maxLen; omega) hbytes hbase ?_
  intro v' w' ho hg hat
  obtain ⟨A', c', hv⟩ : ∃ A' c', v' = .slice A' (n + m) c' := by
    rcases ho.2 with ⟨_, h0⟩ | ⟨g, cap, cur, hv, _⟩
    · omega
    · exact ⟨_, _, hv⟩
  subst hv
  have hob : Value.ownBlock (.slice A n c) = A.map (·.block) := by cases A <;> rfl
  rw [hob] at hg
  exact h A' c' w' ho hg
def SecFit (s : Sec) : Prop := s.name.size ≤ 9 ∧ s.bytes.length ≤ 49 ∧ isB s.bytes ∧ s.fixups.length ≤ 5
/-- How large a drawn object may be. -/
structure ObjFit (x : Obj) : Prop where
  ls : x.secs.length ≤ 4
  fs : ∀ s ∈ x.secs, SecFit s
  ly : x.syms.length ≤ 13
  fy : ∀ y ∈ x.syms, y.name.size ≤ 9
/-- An object was drawn. -/
def DrewObj (w : World) (r P : Nat) (e : Ending) (w' : World) : Prop := ∃ x : Obj, e = .returned x.val ∧ ObjRows w.heap.size x w' ∧ ObjFit x ∧ Rdr w' r (P + 800) ∧ w.grownBy w' (some r)
theorem SecEnd.fit {n : Int} {s : Sec} (h : SecEnd n s) : SecFit s := ⟨h.1, h.2.1, h.2.2.1, h.2.2.2.1⟩
set_option maxRecDepth 100000 in
set_option maxHeartbeats 16000000 in
theorem l20Object_any (r P : Nat) (n : Int) (w : World) (hr : Rdr w r P) (hP : P ≤ 1000) (hn0 : 0 ≤ n) (hn1 : n ≤ 1000) : Calls Try.prog 49 #[.pointer (some ⟨r, 0, none⟩), .int .i64 n] w (DrewObj w r P) := by
  obtain ⟨i0, hi0, hz0, hz1, hz2⟩ := info_parts sec_info
  obtain ⟨k0, hk0, kz0, kz1, kz2⟩ := info_parts sym_info
  have hrl := hr.lt
  have HM0 : Hid (ObjMem w r P w.heap.size (w.heap.size + 1) zObj.oc zObj.oc zObj ((w.alloc (.cells #[.slice none 0 0, .slice none 0 0] 47)).alloc (.cells #[.slice none 0 0, .slice none 0 0] 47))) := by
    have hb := Blk.new (w.alloc (.cells #[.slice none 0 0, .slice none 0 0] 47)) 47 #[.slice none 0 0, .slice none 0 0]
    rw [World.size_alloc] at hb
    exact ⟨(Blk.new w 47 #[.slice none 0 0, .slice none 0 0]).alloc _, hb, ⟨⟨rfl, .inl ⟨rfl, rfl⟩⟩, ⟨rfl, .inl ⟨rfl, rfl⟩⟩, fun s hs => by simp [zObj] at hs⟩, (hr.alloc _).alloc _, gr_alloc (gr_alloc (grown_refl w (some r)) _) _, hrl, Nat.le_refl _, by omega⟩
  clear hr
  go_enter Try.func49, Try.ntmps49
  go_wp2_with fail
  refine (pick_any r _ 6 _ HM0.out.rd (by omega) (by omega) (by omega)).mono ?_
  rintro e w1 ⟨many, rfl, ⟨hm0, hmb⟩, hr1, hg1⟩
  have HM1 := Lib.hid (HM0.out.pick hr1 hg1)
  have hm1 : many ≤ 1000 := by omega
  clear HM0 hr1 hg1
  go_wp2_with fail
  refine (pick_any r _ 4 _ HM1.out.rd (by omega) (by omega) (by omega)).mono ?_
  rintro e w2 ⟨v2, rfl, ⟨v2a, v2b⟩, hr2, hg2⟩
  have HM2 := Lib.hid (HM1.out.pick hr2 hg2)
  clear HM1 hr2 hg2
  obtain ⟨m1, hmm⟩ : ∃ m : Nat, v2 = m := ⟨v2.toNat, by omega⟩
  subst hmm
  obtain ⟨g5, hg5⟩ : ∃ g5, g5 = w.heap.size + 1 := ⟨_, rfl⟩
  rw [← hg5] at HM2 ⊢
  clear hg5
  go_wp2
  go_loopw [7] (fun kv wr => ∃ (j q : Nat) (x : Obj), kv = .int .i64 j ∧ q + 100 * j ≤ P + 302 ∧ x.secs.length + j ≤ 3 ∧ Hid (ObjMem w r q w.heap.size g5 zObj.oc x.oc x wr) ∧ Hid (x.syms = []) ∧ Hid (∀ s ∈ x.secs, SecEnd 0 s)) (fun kv _ => (intOf kv).toNat)
  case atStart => exact ⟨m1, P + 1 + 1, zObj, rfl, by omega, by show 0 + m1 ≤ 3; omega, HM2, rfl, Lib.hid (fun s hs => by simp [zObj] at hs)⟩
  case round =>
    obtain ⟨j, q, x, rfl, hqj, hxj, HMS, HYE, HSG⟩ := hrel
    clear HM2
    have hz5 := HMS.out.size
    have HLS := Lib.hid hxj
    by_cases hj : 0 < j
    · have hj3 : j ≤ 3 := by omega
      obtain ⟨wr0, hw0⟩ : ∃ wr0, wr0 = wr := ⟨_, rfl⟩
      rw [← hw0] at HMS hz5 ⊢
      clear hw0
      go_wp2
      have HFA : Hid (∀ a, x.sA = some a → a.block < wr0.heap.size) := fun a ha => (own_up HMS.out.rows.os a ha).2
      have HL4 : Hid (x.secs.length ≤ 100) := by have := HLS.out; rw [Hid]; omega
      refine wp_region_facts (fun i v wf => match i with
          | 0 => v = .pointer (some ⟨g5, 0, none⟩)
          | 1 => v = .slice x.sA x.secs.length x.sc
          | 2 => v = .pointer (some ⟨r, 0, none⟩)
          | 3 => v = .int .i64 many
          | 4 => (∃ s : Sec, v = s.val ∧ s.Own wf w.heap.size ∧ SecEnd 0 s)
          | 5 => (∃ (gl : Nat) (s : Sec), v = .slice (some ⟨gl, 0, none⟩) 1 1 ∧ (fun b => b ≠ r ∧ b ≠ g5 ∧ some b ≠ x.sA.map (·.block)) gl ∧ Blk wf gl 80 s.cells.toArray ∧ s.Own wf w.heap.size ∧ SecEnd 0 s)
          | 6 => True
          | 7 => v = .pointer (some ⟨g5, 0, none⟩)
          | _ => True)
        (fun fl vs wq => wr0.heap.size ≤ wq.heap.size ∧ ∃ (oc : List Value) (y : Obj), ObjMem w r (q + (b1 (fl 4) 100)) w.heap.size g5 zObj.oc oc y wq ∧ (fl 6 = false → oc = x.oc ∧ y = x) ∧ (fl 6 = true → ∃ (A' : Option Addr) (c' : Nat) (s : Sec), vs 6 = .slice A' (x.secs.length + 1) c' ∧ y = { x with secs := x.secs ++ [s], sA := A', sc := c' } ∧ SecEnd 0 s ∧ (fl 8 = false → oc = x.oc) ∧ (fl 8 = true → oc = y.oc))) (fun u u2 => KeepT TS u u2 ∧ Keeps (fun b => b ≠ r ∧ b ≠ g5 ∧ some b ≠ x.sA.map (·.block)) u u2) (by kernel_rfl) (by kernel_rfl) ?_ ?_ ?_ ?_
      · intro i v u u2 hk h
        match i, h with
        | 0, h => exact h
        | 1, h => exact h
        | 2, h => exact h
        | 3, h => exact h
        | 4, h => exact let ⟨s, h1, h2, h3⟩ := h; ⟨s, h1, h2.keepT hk.1 TS_b TS_f, h3⟩
        | 5, h => exact let ⟨gl, s, h1, h2, h3, h4, h5⟩ := h; ⟨gl, s, h1, h2, h3.keeps hk.2 h2, h4.keepT hk.1 TS_b TS_f, h5⟩
        | 6, h => trivial
        | 7, h => exact h
        | _ + 8, h => trivial
      · intro fl vs hfl
        have hG0 : ObjMem w r q w.heap.size g5 zObj.oc x.oc x wr0.drew := HMS.out.drewN 1
        have hf6 : fl 6 = false := hfl 6 (by simp)
        exact ⟨Nat.le_refl _, x.oc, x, by simpa [hfl, b1_false] using hG0, fun _ => ⟨rfl, rfl⟩, fun h => by rw [hf6] at h; cases h⟩
      · refine ⟨?_, ?_, ?_, ?_, ?_, ?_, ?_, ?_, ?_, trivial⟩
        all_goals intro fl vs wr a1 hc hG hfi hcl hp K hK
        · obtain ⟨hZ, oc, y, hS, hA, hB⟩ := hG
          have e1 : a1.eval (.tmp 5) = .pointer (some ⟨g5, 0, none⟩) := hc.ev0 5 rfl
          unfold Oper.wp execOp
          simp only [e1]
          go_simp
          exact hK _ _ ⟨KeepT.refl _ _, Keeps.refl _ _⟩ rfl ⟨hZ, oc, y, by simpa [upd] using hS, by simpa [upd] using hA, by simpa [upd] using hB⟩
        · obtain ⟨hZ, oc, y, hS, hA, hB⟩ := hG
          have n6 : fl 6 = false := by cases h : fl 6 with
            | false => rfl
            | true => have := hcl 6 1 (by kernel_rfl) h; rw [show fl 1 = false from hfi] at this; cases this
          obtain ⟨hx1, hx2⟩ := hA n6
          have e1 := hc.ev 20 0 rfl
          rw [show vs 0 = _ from (hp 0 (by kernel_rfl)).2] at e1
          have ec : wr.cell? ⟨g5, 0, none⟩ = some (.slice x.sA x.secs.length x.sc) := by have := hS.cells 0; rw [hx1] at this; exact this
          clear hx1 hx2
          unfold Oper.wp execOp
          simp only [e1]
          go_simp
          exact hK _ _ ⟨KeepT.refl _ _, Keeps.refl _ _⟩ rfl ⟨hZ, oc, y, by simpa [upd] using hS, by simpa [upd] using hA, by simpa [upd] using hB⟩
        · obtain ⟨hZ, oc, y, hS, hA, hB⟩ := hG
          refine op_move rfl ?_
          rw [hc.ev0 _ rfl]
          exact hK _ _ ⟨KeepT.refl _ _, Keeps.refl _ _⟩ rfl ⟨hZ, oc, y, by simpa [upd] using hS, by simpa [upd] using hA, by simpa [upd] using hB⟩
        · obtain ⟨hZ, oc, y, hS, hA, hB⟩ := hG
          refine op_move rfl ?_
          rw [hc.ev0 _ rfl]
          exact hK _ _ ⟨KeepT.refl _ _, Keeps.refl _ _⟩ rfl ⟨hZ, oc, y, by simpa [upd] using hS, by simpa [upd] using hA, by simpa [upd] using hB⟩
        · obtain ⟨hZ, oc, y, hS, hA, hB⟩ := hG
          have hfi2 : fl 4 = false := hfi
          have hcnt0 := b1_le (fl 4) 100
          have e1 := hc.ev 22 2 rfl
          rw [show vs 2 = _ from (hp 2 (by kernel_rfl)).2] at e1
          have e2 := hc.ev 23 3 rfl
          rw [show vs 3 = _ from (hp 3 (by kernel_rfl)).2] at e2
          refine op_call rfl (vs := #[.pointer (some ⟨r, 0, none⟩), .int .i64 many, .int .i64 0]) (by simp only [List.map_toArray, List.map_cons, List.map_nil, e1, e2]; rfl) (by kernel_rfl) (l20Section_any r _ many 0 wr hS.rd (by omega) hm0 hm1 (by omega)) ?_
          rintro e w9 ⟨s, rfl, hso, ⟨t1, t2, t3, t4, t5⟩, hr9, hg9⟩
          exact ⟨_, rfl, hK _ _ ⟨KeepT.of_pick hS.rd hg9 TS_r, Keeps.grown hg9 (by simp)⟩ ⟨s, rfl, hso.base hS.size.1, ⟨t1, t2, t3, t4, t5⟩⟩ ⟨Nat.le_trans hZ hg9.size, oc, y, (hS.pick hr9 hg9).moreq (by simp [upd, b1_true, b1_false, hfi2] <;> omega), by simpa [upd] using hA, by simpa [upd] using hB⟩⟩
        · obtain ⟨hZ, oc, y, hS, hA, hB⟩ := hG
          obtain ⟨s, hs1, hs2, hs3⟩ := (hp 4 (by kernel_rfl)).2
          have e1 := hc.ev 24 4 rfl
          rw [hs1] at e1
          unfold Oper.wp execOp
          simp only [e1, List.map_toArray, List.map_cons, List.map_nil, Sec.val]
          go_simp
          exact hK _ _ ⟨KeepT.of_alloc _ _ _, Keeps.alloc _ _ _⟩ ⟨_, s, rfl, ⟨by omega, by omega, fun e => by cases hA2 : x.sA with | none => rw [hA2] at e; cases e | some a => rw [hA2] at e; have := HFA.out a hA2; simp at e; omega⟩, Blk.new _ _ _, hs2.keepT (T := TS) (.of_alloc _ _ _) TS_b TS_f, hs3⟩ ⟨by simp; omega, oc, y, by simpa [upd] using hS.alloc _, by simpa [upd] using hA, by simpa [upd] using hB⟩
        · obtain ⟨hZ, oc, y, hS, hA, hB⟩ := hG
          have hfi2 : fl 6 = false := hfi
          have n8 : fl 8 = false := by cases h : fl 8 with
            | false => rfl
            | true => have := hcl 8 6 (by kernel_rfl) h; rw [hfi2] at this; cases this
          have hls := HL4.out
          obtain ⟨hx1, hx2⟩ := hA hfi2
          subst hx2
          obtain ⟨gl, s, hu, hok, hbl, hso, hse⟩ := (hp 5 (by kernel_rfl)).2
          have e1 := hc.ev 21 1 rfl
          rw [show vs 1 = _ from (hp 1 (by kernel_rfl)).2] at e1
          have e2 := hc.ev 25 5 rfl
          rw [hu] at e2
          refine op_pushB (.tmp 21) (.tmp 25) _ rfl w.heap.size 80 i0 _ 6 88 Try.underlying44 hi0 hz0 hz1 hz2 rfl (by omega) y.sA y.secs.length y.sc 1 1 (y.secs.flatMap Sec.cells) s.cells hS.rows.os e1 _ _ e2 (blk_reads (m := 1) hbl rfl) (by simp [Value.oneCell', Sec.cells]) (by omega) (by omega) (by omega) hS.size.1 ?_
          intro A' c' w6 ho hg
          refine hK _ _ ⟨KeepT.of_row hS.rows.os hg TS_s, Keeps.grown hg (fun k hk2 hok2 => hok2.2.2 hk2.symm)⟩ trivial ⟨Nat.le_trans hZ hg.size, oc, _, by simpa [upd] using hS.pushS hso ho hg, fun h => by simp [upd] at h, fun _ => ⟨A', c', s, by simp [upd], rfl, hse, fun _ => hx1, fun h => by simp [upd, n8] at h⟩⟩
        · obtain ⟨hZ, oc, y, hS, hA, hB⟩ := hG
          have e1 : a1.eval (.tmp 5) = .pointer (some ⟨g5, 0, none⟩) := hc.ev0 5 rfl
          unfold Oper.wp execOp
          simp only [e1]
          go_simp
          exact hK _ _ ⟨KeepT.refl _ _, Keeps.refl _ _⟩ rfl ⟨hZ, oc, y, by simpa [upd] using hS, by simpa [upd] using hA, by simpa [upd] using hB⟩
        · obtain ⟨hZ, oc, y, hS, hA, hB⟩ := hG
          have hfi2 : fl 8 = false := hfi
          obtain ⟨A', c', s, hv, hy, hse, hx1, _⟩ := hB (hp 6 (by kernel_rfl)).1
          have hx2 := hx1 hfi2
          subst hx2
          have e1 := hc.ev 27 7 rfl
          rw [show vs 7 = _ from (hp 7 (by kernel_rfl)).2] at e1
          have e2 := hc.ev 26 6 rfl
          rw [hv] at e2
          have ec : wr.cell? ⟨g5, 0, none⟩ = some (.slice x.sA x.secs.length x.sc) := hS.cells 0
          have ef : wr.frozen? ⟨g5, 0, none⟩ = false := hS.free 0
          have HP := Lib.hid (hS.put 0 (.slice A' (x.secs.length + 1) c'))
          have he : x.oc.set 0 (.slice A' (x.secs.length + 1) c') = y.oc := by rw [hy]; simp [Obj.oc]
          rw [he] at HP
          unfold Oper.wp execOp
          simp only [e1, e2]
          go_simp
          exact hK undef _ ⟨KeepT.of_set hS.b5 TS_o _ _, Keeps.set_ (fun h => h.2.1 rfl) _⟩ trivial ⟨by simp; omega, y.oc, y, by simpa [upd] using HP.out, fun h => by simp [upd, (hp 6 (by kernel_rfl)).1] at h, fun _ => ⟨A', c', s, by simpa [upd] using hv, hy, hse, fun h => by simp [upd] at h, fun _ => rfl⟩⟩
      · intro fl vs w9 hfl hG hF
        obtain ⟨hZ, oc, y, hS, hA, hB⟩ := hG
        obtain ⟨A', c', s, hv, hy, hse, _, hx1⟩ := hB (hfl 6 (by simp))
        have hx2 := hx1 (hfl 8 (by simp))
        subst hx2
        have hq9 : q + (b1 (fl 4) 100) ≤ q + 100 := by
          have hc0 := b1_le (fl 4) 100
          omega
        have HS9 := Lib.hid (hS.moreq hq9)
        have HSE := Lib.hid hse
        have hyl : y.secs.length = x.secs.length + 1 := by rw [hy]; simp
        have HYS : Hid (y.secs = x.secs ++ [s] ∧ y.syms = x.syms) := by rw [hy]; exact ⟨rfl, rfl⟩
        have HYL := Lib.hid hyl
        clear hS hA hB hv hy hF hfl hZ hx1 hq9 hse hyl
        simp only [fill]
        go_simp
        go_wp2
        go_roundw
        case rel => exact ⟨j - 1, q + 100, y, by go_num, by omega, by have := HYL.out; omega, HS9, Lib.hid (HYS.out.2.trans HYE.out), Lib.hid (fun t ht => by
          rw [HYS.out.1] at ht
          rcases List.mem_append.1 ht with ht | ht
          · exact HSG.out t ht
          · rw [List.mem_singleton.1 ht]; exact HSE.out)⟩
        case measure => simp [intOf]; omega
    · obtain rfl : j = 0 := by omega
      obtain ⟨mn, rfl⟩ := Int.eq_ofNat_of_zero_le hm0
      have hmn : mn ≤ 5 := by omega
      have HL0 : Hid (x.secs.length ≤ 3) := by have := HLS.out; exact this
      have HY0 : Hid (x.syms.length = 0) := by rw [HYE.out]; rfl
      have HN0 : Hid (∀ y ∈ x.syms, y.name.size ≤ 9) := fun y hy => by rw [HYE.out] at hy; cases hy
      clear HLS HYE hxj hz5
      obtain ⟨wq1, hw1⟩ : ∃ wq1, wq1 = wr := ⟨_, rfl⟩
      rw [← hw1] at HMS ⊢
      clear hw1
      go_wp2
      go_loopw [8] (fun kv wr => ∃ (k q : Nat) (x : Obj), kv = .int .i64 k ∧ k ≤ mn ∧ q + 30 * (mn - k) ≤ P + 460 ∧ Hid (x.syms.length = k) ∧ Hid (x.secs.length ≤ 3) ∧ Hid (ObjMem w r q w.heap.size g5 zObj.oc x.oc x wr) ∧ Hid (∀ s ∈ x.secs, SecEnd 0 s) ∧ Hid (∀ y ∈ x.syms, y.name.size ≤ 9)) (fun kv _ => mn - (intOf kv).toNat)
      case atStart => exact ⟨0, q, x, rfl, Nat.zero_le _, by omega, HY0, HL0, HMS, HSG, HN0⟩
      case round =>
        clear HMS HSG HL0 HY0 HN0
        obtain ⟨k, q, x, rfl, hk, hqk, HYL, HLS, HMS, HSG, HYN9⟩ := hrel
        have HSZ : Hid (∀ s ∈ x.secs, 0 ≤ secSize s ∧ secSize s ≤ 48) := fun s hs => (HSG.out s hs).2.2.2.2 rfl
        by_cases hkm : k < mn
        · have hki : (k : Int) < (mn : Int) := by omega
          have e0 : wr.cell? ⟨g5, 0, none⟩ = some (.slice x.sA x.secs.length x.sc) := HMS.out.cells 0
          have HC := Lib.hid (l20Symbol_any r q x.secs 0 wr HMS.out.rd (by omega) HMS.out.rows.os (by have := HLS.out; omega) HSZ.out (.inl rfl))
          go_wp2_with fail
          refine HC.out.mono ?_
          rintro e w3 ⟨s0, rfl, hs0, hr3, hg3⟩
          have HM3 := Lib.hid (HMS.out.pick hr3 hg3)
          clear hr3 hg3 HC e0
          have HM4 := Lib.hid (HM3.out.alloc (.cells #[.string s0.name, .int .i64 s0.bind, .int .i64 s0.where_, .int .i64 s0.value] 55))
          have HB9 : Hid (Blk (w3.alloc (.cells #[.string s0.name, .int .i64 s0.bind, .int .i64 s0.where_, .int .i64 s0.value] 55)) w3.heap.size 55 s0.cells.toArray) := Blk.new _ _ _
          have HYN : Hid (∀ a, x.yA = some a → a.block ≠ w3.heap.size) := fun a ha => by have := (own_up HM3.out.rows.oy a ha).2; omega
          have h9 : w.heap.size ≤ w3.heap.size := HM3.out.size.1
          clear HMS HM3
          simp only [Sym.val]
          obtain ⟨q0, hq0⟩ : ∃ q0, q0 = q + 30 := ⟨_, rfl⟩
          rw [← hq0] at HM4
          have hq1 : q0 + 30 * (mn - (k + 1)) ≤ P + 460 := by omega
          clear hq0
          go_upto_region 11 with fail
          obtain ⟨g9, hg9⟩ : ∃ g9, g9 = w3.heap.size := ⟨_, rfl⟩
          rw [← hg9] at HB9 HYN h9 ⊢
          generalize w3.alloc _ = w4 at HM4 HB9 ⊢
          clear hg9
          go_wp2
          go_loopw [10] (fun jv wr => ∃ (j : Nat) (s : Sym), jv = .int .i64 j ∧ j ≤ x.syms.length ∧ s.name.size ≤ 9 ∧ Hid (ObjMem w r q0 w.heap.size g5 zObj.oc x.oc x wr) ∧ Hid (Blk wr g9 55 s.cells.toArray)) (fun jv _ => x.syms.length - (intOf jv).toNat)
          case atStart => exact ⟨0, s0, rfl, Nat.zero_le _, hs0, HM4, HB9⟩
          case round =>
            clear HB9 HM4
            obtain ⟨j, s, rfl, hjl, hs9, HMI, HBI⟩ := hrel
            have e1 : wr.cell? ⟨g5, 1, none⟩ = some (.slice x.yA x.syms.length x.yc) := HMI.out.cells 1
            have hxl : x.syms.length ≤ 5 := by have := HYL.out; omega
            by_cases hjlt : j < x.syms.length
            · have hji : (j : Int) < (x.syms.length : Int) := by omega
              have hj0 : (0 : Int) ≤ (j : Int) := Int.natCast_nonneg _
              obtain ⟨gy, hyA, _, _⟩ := own_addrS HMI.out.rows.oy (by omega)
              have c0 : wr.cell? ⟨gy, j * 4, none⟩ = some (.string x.syms[j].name) := by
                have h1 := HMI.out.rows.oy
                rw [hyA] at h1
                exact (h1.cellAt (j * 4 + 0) (by omega)).trans (flat_get Sym.cells 4 Sym.cells_len x.syms j 0 hjlt (by omega))
              have c1 : wr.cell? ⟨gy, j * 4 + 1, none⟩ = some (.int .i64 x.syms[j].bind) := by
                have h1 := HMI.out.rows.oy
                rw [hyA] at h1
                exact (h1.cellAt (j * 4 + 1) (by omega)).trans (flat_get Sym.cells 4 Sym.cells_len x.syms j 1 hjlt (by omega))
              rw [hyA] at e1
              have d0 : wr.cell? ⟨g9, 0, none⟩ = some (.string s.name) := HBI.out.cell 0
              have d1 : wr.cell? ⟨g9, 1, none⟩ = some (.int .i64 s.bind) := HBI.out.cell 1
              have d2 : wr.cell? ⟨g9, 2, none⟩ = some (.int .i64 s.where_) := HBI.out.cell 2
              have d3 : wr.cell? ⟨g9, 3, none⟩ = some (.int .i64 s.value) := HBI.out.cell 3
              have f0 : wr.frozen? ⟨g9, 0, none⟩ = false := HBI.out.frozen 0
              have f1 : wr.frozen? ⟨g9, 1, none⟩ = false := HBI.out.frozen 1
              have f2 : wr.frozen? ⟨g9, 2, none⟩ = false := HBI.out.frozen 2
              have f3 : wr.frozen? ⟨g9, 3, none⟩ = false := HBI.out.frozen 3
              have hlt9 : g9 < wr.heap.size := HBI.out.lt
              generalize x.syms[j].name = nj at *
              generalize x.syms[j].bind = bj at *
              have key : (nj.toList == s.name.toList) = false ∨ ((nj.toList == s.name.toList) = true ∧ s.bind = 0) ∨ ((nj.toList == s.name.toList) = true ∧ (s.bind == 0) = false ∧ ¬ s.bind = 0 ∧ bj = 0) ∨ ((nj.toList == s.name.toList) = true ∧ (s.bind == 0) = false ∧ ¬ s.bind = 0 ∧ (bj == 0) = false ∧ ¬ bj = 0) := by
                cases h : (nj.toList == s.name.toList)
                · exact .inl rfl
                · by_cases hb : s.bind = 0
                  · exact .inr (.inl ⟨rfl, hb⟩)
                  · have hb' : (s.bind == 0) = false := by rw [beq_eq_false_iff_ne]; exact hb
                    by_cases hbj : bj = 0
                    · exact .inr (.inr (.inl ⟨rfl, hb', hb, hbj⟩))
                    · exact .inr (.inr (.inr ⟨rfl, hb', hb, by rw [beq_eq_false_iff_ne]; exact hbj, hbj⟩))
              have HFA : Hid (∀ n : Nat, ObjMem w r _ w.heap.size g5 zObj.oc x.oc x (wr.drewN n)) := fun n => HMI.out.drewN n
              have HFB : Hid (∀ n : Nat, Blk (wr.drewN n) g9 55 s.cells.toArray) := fun n => HBI.out.drewN n
              have hnm : s.name.size ≤ 9 := hs9
              rcases key with k1 | ⟨k1, k2⟩ | ⟨k1, k2, k3, k4⟩ | ⟨k1, k2, k3, k4, k5⟩
              · generalize s.bind = bs at *
                go_wp2
                go_quiet (fail)
                go_wp2
                go_roundw
                case rel => exact ⟨j + 1, s, by go_num, by omega, hs9, HFA.out _, HFB.out _⟩
                case measure => simp [intOf]; omega
              · rw [k2] at d1
                clear k2
                go_wp2
                go_quiet (fail)
                go_wp2
                go_roundw
                case rel => exact ⟨j + 1, s, by go_num, by omega, hs9, HFA.out _, HFB.out _⟩
                case measure => simp [intOf]; omega
              · rw [k4] at c1
                clear k4
                go_wp2
                go_quiet (fail)
                go_wp2
                refine ⟨?_, ?measure⟩
                (repeat apply Exists.intro)
                refine ⟨?rel, rfl⟩
                case rel => exact ⟨j + 1, s, by go_num, by omega, hs9, HFA.out _, HFB.out _⟩
                case measure => simp [intOf]; omega
              · have k6 : (s.bind != 0) = true := by show (!(s.bind == 0)) = true; rw [k2]; rfl
                have k7 : (bj != 0) = true := by show (!(bj == 0)) = true; rw [k4]; rfl
                clear k2 k3 k4 k5
                have y1 : IntKind.i64.wrap (48 + (k : Int)) = 48 + (k : Int) := IntWalk.i64_in _ (by omega)
                have y2 : IntKind.u8.wrap (48 + (k : Int)) = 48 + (k : Int) := IntWalk.u8_in _ (by omega)
                have y3 : IntKind.i64.wrap (7 * (k : Int)) = 7 * (k : Int) := IntWalk.i64_in _ (by omega)
                have hzt : (strOfNums [48 + (k : Int)]).size = 1 := by rw [strOfNums_size]; rfl
                have HNZ : Hid (((⟨#[115]⟩ : ByteArray) ++ strOfNums [48 + (k : Int)]).size ≤ 9) := by rw [Hid, ByteArray.size_append, hzt]; decide
                clear hs9 hnm
                go_wp2
                go_quiet (fail)
                have HXA := Lib.hid (HFA.out nq)
                have HXB := Lib.hid (HFB.out nq)
                generalize wr.drewN nq = wx at HXA HXB ⊢
                clear d0 d1 d2 d3 f0 f1 f2 f3 HFA HFB c0 c1 e1 hlt9 HMI HBI
                obtain ⟨wz, hwz⟩ : ∃ wz, wz = wx.alloc (.cells #[.int .u8 (48 + (k : Int))] 5) := ⟨_, rfl⟩
                have kc : (convert 22 9 (.slice (some ⟨wx.heap.size, 0, none⟩) 1 1)).run Try.prog (wx.alloc (.cells #[.int .u8 (48 + (k : Int))] 5)) = .ok (.string (strOfNums [48 + (k : Int)])) wz := by rw [hwz]; exact mk_conv wx (48 + (k : Int))
                have HZA : Hid (ObjMem w r q0 w.heap.size g5 zObj.oc x.oc x wz) := by rw [hwz]; exact HXA.out.alloc _
                have HZB : Hid (Blk wz g9 55 s.cells.toArray) := by rw [hwz]; exact HXB.out.alloc _
                clear hwz HXA HXB
                have HNB : Hid (∀ s' : Sym, Blk (((((wz.setCell ⟨g9, 0, none⟩ (.string s'.name)).setCell ⟨g9, 1, none⟩ (.int .i64 s'.bind)).setCell ⟨g9, 2, none⟩ (.int .i64 s'.where_)).setCell ⟨g9, 3, none⟩ (.int .i64 s'.value))) g9 55 s'.cells.toArray ∧ ObjMem w r q0 w.heap.size g5 zObj.oc x.oc x (((((wz.setCell ⟨g9, 0, none⟩ (.string s'.name)).setCell ⟨g9, 1, none⟩ (.int .i64 s'.bind)).setCell ⟨g9, 2, none⟩ (.int .i64 s'.where_)).setCell ⟨g9, 3, none⟩ (.int .i64 s'.value)))) := fun s' => by
                  have b0 := HZB.out
                  have b1 := b0.set_ 0 (.string s'.name)
                  have b2 := b1.set_ 1 (.int .i64 s'.bind)
                  have b3 := b2.set_ 2 (.int .i64 s'.where_)
                  exact ⟨by have b4 := b3.set_ 3 (.int .i64 s'.value); exact b4, (((HZA.out.far b0 HYN.out h9 0 _).far b1 HYN.out h9 1 _).far b2 HYN.out h9 2 _).far b3 HYN.out h9 3 _⟩
                have e10 : wz.cell? ⟨g9, 0, none⟩ = some (.string s.name) := HZB.out.cell 0
                have g10 : wz.frozen? ⟨g9, 0, none⟩ = false := HZB.out.frozen 0
                have e11 : wz.cell? ⟨g9, 1, none⟩ = some (.int .i64 s.bind) := HZB.out.cell 1
                have g11 : wz.frozen? ⟨g9, 1, none⟩ = false := HZB.out.frozen 1
                have e12 : wz.cell? ⟨g9, 2, none⟩ = some (.int .i64 s.where_) := HZB.out.cell 2
                have g12 : wz.frozen? ⟨g9, 2, none⟩ = false := HZB.out.frozen 2
                have e13 : wz.cell? ⟨g9, 3, none⟩ = some (.int .i64 s.value) := HZB.out.cell 3
                have g13 : wz.frozen? ⟨g9, 3, none⟩ = false := HZB.out.frozen 3
                have HNC := Lib.hid (HNB.out ⟨(⟨#[115]⟩ : ByteArray) ++ strOfNums [48 + (k : Int)], 1, -2, 7 * (k : Int)⟩)
                simp only at HNC
                clear HNB HZA HZB
                go_wp2
                go_roundw
                case rel => exact ⟨j + 1, ⟨(⟨#[115]⟩ : ByteArray) ++ strOfNums [48 + (k : Int)], 1, -2, 7 * (k : Int)⟩, by go_num, by omega, HNZ.out, Lib.hid HNC.out.2, Lib.hid HNC.out.1⟩
                case measure => simp [intOf]; omega
            · obtain rfl : j = x.syms.length := by omega
              have d0 : wr.cell? ⟨g9, 0, none⟩ = some (.string s.name) := HBI.out.cell 0
              have d1 : wr.cell? ⟨g9, 1, none⟩ = some (.int .i64 s.bind) := HBI.out.cell 1
              have d2 : wr.cell? ⟨g9, 2, none⟩ = some (.int .i64 s.where_) := HBI.out.cell 2
              have d3 : wr.cell? ⟨g9, 3, none⟩ = some (.int .i64 s.value) := HBI.out.cell 3
              have hwz := HMI.out.size.1
              obtain ⟨wi, hwi⟩ : ∃ wi, wi = wr := ⟨_, rfl⟩
              rw [← hwi] at HMI hwz d0 d1 d2 d3 e1 ⊢
              clear hwi HBI
              go_wp2_with (at_builtin; refine wpList_push _ rfl (.tmp 77) (.tmp 79) _ rfl w.heap.size 55 k0 _ 4 40 Try.underlying45 hk0 kz0 kz1 kz2 rfl (by omega) (by omega) x.yA x.syms.length x.yc 1 1 (x.syms.flatMap Sym.cells) s.cells (by exact HMI.out.rows.oy.alloc _) rfl ⟨wi.heap.size, 0, none⟩ rfl rfl (World.news_of_block (cs := s.cells.toArray) (t := 55) (fr := (0, 0)) (by exact heap_alloc_new wi _)) (by simp [Value.oneCell', Sym.cells]) (by omega) (by omega) (by simp; omega) ?_; intro A' c' w5 hown hgrow hat hkeep; have HP := Lib.hid ((HMI.out.alloc _).pushY (us := [s]) (by simpa using hown) hgrow); have e51 : w5.cell? ⟨g5, 1, none⟩ = some (.slice x.yA x.syms.length x.yc) := HP.out.cells 1; have f51 : w5.frozen? ⟨g5, 1, none⟩ = false := HP.out.free 1; clear hown hgrow hat hkeep)
              obtain ⟨x2, hx2⟩ : ∃ x2 : Obj, x2 = { x with syms := x.syms ++ [s], yA := A', yc := c' } := ⟨_, rfl⟩
              have HF : Hid (ObjMem w r q0 w.heap.size g5 zObj.oc x2.oc x2 (w5.setCell ⟨g5, 1, none⟩ (.slice A' (x.syms.length + 1) c'))) := by
                have h := HP.out.put 1 (.slice A' (x.syms.length + 1) c')
                have he : x.oc.set 1 (.slice A' (x.syms.length + 1) c') = x2.oc := by rw [hx2]; simp [Obj.oc]
                rw [he] at h
                rw [hx2] at h ⊢
                exact h
              have HYS : Hid (x2.secs = x.secs ∧ x2.syms = x.syms ++ [s]) := by rw [hx2]; exact ⟨rfl, rfl⟩
              clear HP e51 f51 d0 d1 d2 d3 e1 HMI hx2
              go_wp2
              refine ⟨?_, ?measure⟩
              (repeat apply Exists.intro)
              refine ⟨?rel, rfl⟩
              case rel => exact ⟨k + 1, q0, x2, by go_num, by omega, by omega, Lib.hid (by have h1 := HYS.out.2; have h2 := HYL.out; rw [h1]; simp; omega), Lib.hid (by have h1 := HYS.out.1; rw [h1]; exact HLS.out), HF, Lib.hid (by rw [HYS.out.1]; exact HSG.out), Lib.hid (fun y hy => by
                rw [HYS.out.2] at hy
                rcases List.mem_append.1 hy with hy | hy
                · exact HYN9.out y hy
                · rw [List.mem_singleton.1 hy]; exact hs9)⟩
              case measure => simp [intOf]; omega
        · obtain rfl : k = mn := by omega
          have HLY : Hid (x.syms.length ≤ 5) := by have h1 := HYL.out; rw [Hid]; omega
          obtain ⟨wq1, hw1⟩ : ∃ wq1, wq1 = wr := ⟨_, rfl⟩
          rw [← hw1] at HMS ⊢
          clear hw1
          go_wp2_with fail
          refine (odd_any r q n wq1 HMS.out.rd (by omega) hn0 (by omega)).mono ?_
          rintro e w4 ⟨b, rfl, hr4, hg4⟩
          have HM4 := Lib.hid (HMS.out.pick hr4 hg4)
          clear HMS hr4 hg4
          go_upto_if 84 with fail
          go_cut [] from 11 (fun wc => ∃ (x : Obj) (q : Nat), Hid (ObjMem w r q w.heap.size g5 zObj.oc x.oc x wc) ∧ q ≤ P + 700 ∧ Hid (ObjFit x))
          case first =>
            cases b
            · go_wp2
              go_meet
              case rel => exact ⟨x, _, HM4, by omega, Lib.hid ⟨by have h2 := HLS.out; exact Nat.le_trans h2 (by omega), fun t ht => (HSG.out t ht).fit, by have h2 := HLY.out; omega, HYN9.out⟩⟩
            · go_wp2_with fail
              refine (pick_any r _ 4 _ HM4.out.rd (by omega) (by omega) (by omega)).mono ?_
              rintro e w5 ⟨v, rfl, ⟨va, vb⟩, hr5, hg5⟩
              have HMS' := Lib.hid (HM4.out.pick hr5 hg5)
              obtain ⟨q9, hq9⟩ : ∃ q9, q9 = q + 1 + 1 := ⟨_, rfl⟩
              rw [← hq9] at HMS'
              have HMS := Lib.hid HMS'.out
              have hq9b : q9 ≤ P + 462 := by omega
              have hz5 := HMS.out.size
              clear HM4 HMS' hr5 hg5 hq9
              have hvs : v = 0 ∨ v = 1 ∨ v = 2 ∨ v = 3 := by omega
              rcases hvs with rfl | rfl | rfl | rfl
              · go_wp2
                have HFA : Hid (∀ a, x.sA = some a → a.block < w5.heap.size) := fun a ha => (own_up HMS.out.rows.os a ha).2
                have HL4 : Hid (x.secs.length ≤ 100) := by have := HLS.out; rw [Hid]; omega
                refine wp_region_facts (fun i v wf => match i with
                    | 0 => v = .pointer (some ⟨g5, 0, none⟩)
                    | 1 => v = .slice x.sA x.secs.length x.sc
                    | 2 => v = .pointer (some ⟨r, 0, none⟩)
                    | 3 => v = .int .i64 (k : Int)
                    | 4 => (∃ s : Sec, v = s.val ∧ s.Own wf w.heap.size ∧ SecEnd 1 s)
                    | 5 => (∃ (gl : Nat) (s : Sec), v = .slice (some ⟨gl, 0, none⟩) 1 1 ∧ (fun b => b ≠ r ∧ b ≠ g5 ∧ some b ≠ x.sA.map (·.block)) gl ∧ Blk wf gl 80 s.cells.toArray ∧ s.Own wf w.heap.size ∧ SecEnd 1 s)
                    | 6 => True
                    | 7 => v = .pointer (some ⟨g5, 0, none⟩)
                    | _ => True)
                  (fun fl vs wq => w5.heap.size ≤ wq.heap.size ∧ ∃ (oc : List Value) (y : Obj), ObjMem w r (q9 + (b1 (fl 4) 100)) w.heap.size g5 zObj.oc oc y wq ∧ (fl 6 = false → oc = x.oc ∧ y = x) ∧ (fl 6 = true → ∃ (A' : Option Addr) (c' : Nat) (s : Sec), vs 6 = .slice A' (x.secs.length + 1) c' ∧ y = { x with secs := x.secs ++ [s], sA := A', sc := c' } ∧ SecEnd 1 s ∧ (fl 8 = false → oc = x.oc) ∧ (fl 8 = true → oc = y.oc))) (fun u u2 => KeepT TS u u2 ∧ Keeps (fun b => b ≠ r ∧ b ≠ g5 ∧ some b ≠ x.sA.map (·.block)) u u2) (by kernel_rfl) (by kernel_rfl) ?_ ?_ ?_ ?_
                · intro i v u u2 hk h
                  match i, h with
                  | 0, h => exact h
                  | 1, h => exact h
                  | 2, h => exact h
                  | 3, h => exact h
                  | 4, h => exact let ⟨s, h1, h2, h3⟩ := h; ⟨s, h1, h2.keepT hk.1 TS_b TS_f, h3⟩
                  | 5, h => exact let ⟨gl, s, h1, h2, h3, h4, h5⟩ := h; ⟨gl, s, h1, h2, h3.keeps hk.2 h2, h4.keepT hk.1 TS_b TS_f, h5⟩
                  | 6, h => trivial
                  | 7, h => exact h
                  | _ + 8, h => trivial
                · intro fl vs hfl
                  have hG0 : ObjMem w r q9 w.heap.size g5 zObj.oc x.oc x w5.drew := HMS.out.drewN 1
                  have hf6 : fl 6 = false := hfl 6 (by simp)
                  exact ⟨Nat.le_refl _, x.oc, x, by simpa [hfl, b1_false] using hG0, fun _ => ⟨rfl, rfl⟩, fun h => by rw [hf6] at h; cases h⟩
                · refine ⟨?_, ?_, ?_, ?_, ?_, ?_, ?_, ?_, ?_, trivial⟩
                  all_goals intro fl vs wr a1 hc hG hfi hcl hp K hK
                  · obtain ⟨hZ, oc, y, hS, hA, hB⟩ := hG
                    have e1 : a1.eval (.tmp 5) = .pointer (some ⟨g5, 0, none⟩) := hc.ev0 5 rfl
                    unfold Oper.wp execOp
                    simp only [e1]
                    go_simp
                    exact hK _ _ ⟨KeepT.refl _ _, Keeps.refl _ _⟩ rfl ⟨hZ, oc, y, by simpa [upd] using hS, by simpa [upd] using hA, by simpa [upd] using hB⟩
                  · obtain ⟨hZ, oc, y, hS, hA, hB⟩ := hG
                    have n6 : fl 6 = false := by cases h : fl 6 with
                      | false => rfl
                      | true => have := hcl 6 1 (by kernel_rfl) h; rw [show fl 1 = false from hfi] at this; cases this
                    obtain ⟨hx1, hx2⟩ := hA n6
                    have e1 := hc.ev 91 0 rfl
                    rw [show vs 0 = _ from (hp 0 (by kernel_rfl)).2] at e1
                    have ec : wr.cell? ⟨g5, 0, none⟩ = some (.slice x.sA x.secs.length x.sc) := by have := hS.cells 0; rw [hx1] at this; exact this
                    clear hx1 hx2
                    unfold Oper.wp execOp
                    simp only [e1]
                    go_simp
                    exact hK _ _ ⟨KeepT.refl _ _, Keeps.refl _ _⟩ rfl ⟨hZ, oc, y, by simpa [upd] using hS, by simpa [upd] using hA, by simpa [upd] using hB⟩
                  · obtain ⟨hZ, oc, y, hS, hA, hB⟩ := hG
                    refine op_move rfl ?_
                    rw [hc.ev0 _ rfl]
                    exact hK _ _ ⟨KeepT.refl _ _, Keeps.refl _ _⟩ rfl ⟨hZ, oc, y, by simpa [upd] using hS, by simpa [upd] using hA, by simpa [upd] using hB⟩
                  · obtain ⟨hZ, oc, y, hS, hA, hB⟩ := hG
                    refine op_move rfl ?_
                    rw [hc.ev0 _ rfl]
                    exact hK _ _ ⟨KeepT.refl _ _, Keeps.refl _ _⟩ rfl ⟨hZ, oc, y, by simpa [upd] using hS, by simpa [upd] using hA, by simpa [upd] using hB⟩
                  · obtain ⟨hZ, oc, y, hS, hA, hB⟩ := hG
                    have hfi2 : fl 4 = false := hfi
                    have hcnt0 := b1_le (fl 4) 100
                    have e1 := hc.ev 93 2 rfl
                    rw [show vs 2 = _ from (hp 2 (by kernel_rfl)).2] at e1
                    have e2 := hc.ev 94 3 rfl
                    rw [show vs 3 = _ from (hp 3 (by kernel_rfl)).2] at e2
                    refine op_call rfl (vs := #[.pointer (some ⟨r, 0, none⟩), .int .i64 (k : Int), .int .i64 1]) (by simp only [List.map_toArray, List.map_cons, List.map_nil, e1, e2]; rfl) (by kernel_rfl) (l20Section_any r _ (k : Int) 1 wr hS.rd (by omega) (by omega) (by omega) (by omega)) ?_
                    rintro e w9 ⟨s, rfl, hso, ⟨t1, t2, t3, t4, t5⟩, hr9, hg9⟩
                    exact ⟨_, rfl, hK _ _ ⟨KeepT.of_pick hS.rd hg9 TS_r, Keeps.grown hg9 (by simp)⟩ ⟨s, rfl, hso.base hS.size.1, ⟨t1, t2, t3, t4, t5⟩⟩ ⟨Nat.le_trans hZ hg9.size, oc, y, (hS.pick hr9 hg9).moreq (by simp [upd, b1_true, b1_false, hfi2] <;> omega), by simpa [upd] using hA, by simpa [upd] using hB⟩⟩
                  · obtain ⟨hZ, oc, y, hS, hA, hB⟩ := hG
                    obtain ⟨s, hs1, hs2, hs3⟩ := (hp 4 (by kernel_rfl)).2
                    have e1 := hc.ev 95 4 rfl
                    rw [hs1] at e1
                    unfold Oper.wp execOp
                    simp only [e1, List.map_toArray, List.map_cons, List.map_nil, Sec.val]
                    go_simp
                    exact hK _ _ ⟨KeepT.of_alloc _ _ _, Keeps.alloc _ _ _⟩ ⟨_, s, rfl, ⟨by omega, by omega, fun e => by cases hA2 : x.sA with | none => rw [hA2] at e; cases e | some a => rw [hA2] at e; have := HFA.out a hA2; simp at e; omega⟩, Blk.new _ _ _, hs2.keepT (T := TS) (.of_alloc _ _ _) TS_b TS_f, hs3⟩ ⟨by simp; omega, oc, y, by simpa [upd] using hS.alloc _, by simpa [upd] using hA, by simpa [upd] using hB⟩
                  · obtain ⟨hZ, oc, y, hS, hA, hB⟩ := hG
                    have hfi2 : fl 6 = false := hfi
                    have n8 : fl 8 = false := by cases h : fl 8 with
                      | false => rfl
                      | true => have := hcl 8 6 (by kernel_rfl) h; rw [hfi2] at this; cases this
                    have hls := HL4.out
                    obtain ⟨hx1, hx2⟩ := hA hfi2
                    subst hx2
                    obtain ⟨gl, s, hu, hok, hbl, hso, hse⟩ := (hp 5 (by kernel_rfl)).2
                    have e1 := hc.ev 92 1 rfl
                    rw [show vs 1 = _ from (hp 1 (by kernel_rfl)).2] at e1
                    have e2 := hc.ev 96 5 rfl
                    rw [hu] at e2
                    refine op_pushB (.tmp 92) (.tmp 96) _ rfl w.heap.size 80 i0 _ 6 88 Try.underlying44 hi0 hz0 hz1 hz2 rfl (by omega) y.sA y.secs.length y.sc 1 1 (y.secs.flatMap Sec.cells) s.cells hS.rows.os e1 _ _ e2 (blk_reads (m := 1) hbl rfl) (by simp [Value.oneCell', Sec.cells]) (by omega) (by omega) (by omega) hS.size.1 ?_
                    intro A' c' w6 ho hg
                    refine hK _ _ ⟨KeepT.of_row hS.rows.os hg TS_s, Keeps.grown hg (fun k hk2 hok2 => hok2.2.2 hk2.symm)⟩ trivial ⟨Nat.le_trans hZ hg.size, oc, _, by simpa [upd] using hS.pushS hso ho hg, fun h => by simp [upd] at h, fun _ => ⟨A', c', s, by simp [upd], rfl, hse, fun _ => hx1, fun h => by simp [upd, n8] at h⟩⟩
                  · obtain ⟨hZ, oc, y, hS, hA, hB⟩ := hG
                    have e1 : a1.eval (.tmp 5) = .pointer (some ⟨g5, 0, none⟩) := hc.ev0 5 rfl
                    unfold Oper.wp execOp
                    simp only [e1]
                    go_simp
                    exact hK _ _ ⟨KeepT.refl _ _, Keeps.refl _ _⟩ rfl ⟨hZ, oc, y, by simpa [upd] using hS, by simpa [upd] using hA, by simpa [upd] using hB⟩
                  · obtain ⟨hZ, oc, y, hS, hA, hB⟩ := hG
                    have hfi2 : fl 8 = false := hfi
                    obtain ⟨A', c', s, hv, hy, hse, hx1, _⟩ := hB (hp 6 (by kernel_rfl)).1
                    have hx2 := hx1 hfi2
                    subst hx2
                    have e1 := hc.ev 98 7 rfl
                    rw [show vs 7 = _ from (hp 7 (by kernel_rfl)).2] at e1
                    have e2 := hc.ev 97 6 rfl
                    rw [hv] at e2
                    have ec : wr.cell? ⟨g5, 0, none⟩ = some (.slice x.sA x.secs.length x.sc) := hS.cells 0
                    have ef : wr.frozen? ⟨g5, 0, none⟩ = false := hS.free 0
                    have HP := Lib.hid (hS.put 0 (.slice A' (x.secs.length + 1) c'))
                    have he : x.oc.set 0 (.slice A' (x.secs.length + 1) c') = y.oc := by rw [hy]; simp [Obj.oc]
                    rw [he] at HP
                    unfold Oper.wp execOp
                    simp only [e1, e2]
                    go_simp
                    exact hK undef _ ⟨KeepT.of_set hS.b5 TS_o _ _, Keeps.set_ (fun h => h.2.1 rfl) _⟩ trivial ⟨by simp; omega, y.oc, y, by simpa [upd] using HP.out, fun h => by simp [upd, (hp 6 (by kernel_rfl)).1] at h, fun _ => ⟨A', c', s, by simpa [upd] using hv, hy, hse, fun h => by simp [upd] at h, fun _ => rfl⟩⟩
                · intro fl vs w9 hfl hG hF
                  obtain ⟨hZ, oc, y, hS, hA, hB⟩ := hG
                  obtain ⟨A', c', s, hv, hy, hse, _, hx1⟩ := hB (hfl 6 (by simp))
                  have hx2 := hx1 (hfl 8 (by simp))
                  subst hx2
                  have hq9 : q9 + (b1 (fl 4) 100) ≤ q9 + 100 := by
                    have hc0 := b1_le (fl 4) 100
                    omega
                  have HS9 := Lib.hid (hS.moreq hq9)
                  have HSE := Lib.hid hse
                  have hyl : y.secs.length = x.secs.length + 1 := by rw [hy]; simp
                  have HYS : Hid (y.secs = x.secs ++ [s] ∧ y.syms = x.syms) := by rw [hy]; exact ⟨rfl, rfl⟩
                  have HYL := Lib.hid hyl
                  clear hS hA hB hv hy hF hfl hZ hx1 hq9 hse hyl
                  simp only [fill]
                  go_simp
                  go_wp2
                  go_meet
                  case rel => exact ⟨y, _, HS9, by omega, Lib.hid ⟨by have h1 := HYS.out.1; have h2 := HLS.out; rw [h1]; simp; omega, fun t ht => by
                    rw [HYS.out.1] at ht
                    rcases List.mem_append.1 ht with ht | ht
                    · exact (HSG.out t ht).fit
                    · rw [List.mem_singleton.1 ht]; exact HSE.out.fit, by have h1 := HYS.out.2; have h2 := HLY.out; rw [h1]; omega, fun z hz => by rw [HYS.out.2] at hz; exact HYN9.out z hz⟩⟩
              · go_wp2
                have HFA : Hid (∀ a, x.yA = some a → a.block < w5.heap.size) := fun a ha => (own_up HMS.out.rows.oy a ha).2
                refine wp_region_facts (fun i v wf => match i with
                    | 0 => v = .pointer (some ⟨g5, 1, none⟩)
                    | 1 => v = .slice x.yA x.syms.length x.yc
                    | 2 => v = .pointer (some ⟨r, 0, none⟩)
                    | 3 => v = .pointer (some ⟨g5, 0, none⟩)
                    | 4 => v = .slice x.sA x.secs.length x.sc
                    | 5 => (∃ s : Sym, v = s.val ∧ s.name.size ≤ 9)
                    | 6 => (∃ (gl : Nat) (s : Sym), v = .slice (some ⟨gl, 0, none⟩) 1 1 ∧ (fun b => b ≠ r ∧ b ≠ g5 ∧ some b ≠ x.yA.map (·.block)) gl ∧ Blk wf gl 55 s.cells.toArray ∧ s.name.size ≤ 9)
                    | 7 => True
                    | 8 => v = .pointer (some ⟨g5, 1, none⟩)
                    | _ => True)
                  (fun fl vs wq => w5.heap.size ≤ wq.heap.size ∧ ∃ (oc : List Value) (y : Obj), ObjMem w r (q9 + (b1 (fl 5) 30)) w.heap.size g5 zObj.oc oc y wq ∧ (fl 7 = false → oc = x.oc ∧ y = x) ∧ (fl 7 = true → ∃ (A' : Option Addr) (c' : Nat) (s : Sym), vs 7 = .slice A' (x.syms.length + 1) c' ∧ y = { x with syms := x.syms ++ [s], yA := A', yc := c' } ∧ s.name.size ≤ 9 ∧ (fl 9 = false → oc = x.oc) ∧ (fl 9 = true → oc = y.oc))) (Keeps (fun b => b ≠ r ∧ b ≠ g5 ∧ some b ≠ x.yA.map (·.block))) (by kernel_rfl) (by kernel_rfl) ?_ ?_ ?_ ?_
                · intro i v u u2 hk h
                  match i, h with
                  | 0, h => exact h
                  | 1, h => exact h
                  | 2, h => exact h
                  | 3, h => exact h
                  | 4, h => exact h
                  | 5, h => exact h
                  | 6, h => exact let ⟨gl, s, h1, h2, h3, h4⟩ := h; ⟨gl, s, h1, h2, h3.keeps hk h2, h4⟩
                  | 7, h => trivial
                  | 8, h => exact h
                  | _ + 9, h => trivial
                · intro fl vs hfl
                  have hG0 : ObjMem w r q9 w.heap.size g5 zObj.oc x.oc x w5.drew := HMS.out.drewN 1
                  have hf6 : fl 7 = false := hfl 7 (by simp)
                  exact ⟨Nat.le_refl _, x.oc, x, by simpa [hfl, b1_false] using hG0, fun _ => ⟨rfl, rfl⟩, fun h => by rw [hf6] at h; cases h⟩
                · refine ⟨?_, ?_, ?_, ?_, ?_, ?_, ?_, ?_, ?_, ?_, trivial⟩
                  all_goals intro fl vs wr a1 hc hG hfi hcl hp K hK
                  · obtain ⟨hZ, oc, y, hS, hA, hB⟩ := hG
                    have e1 : a1.eval (.tmp 5) = .pointer (some ⟨g5, 0, none⟩) := hc.ev0 5 rfl
                    unfold Oper.wp execOp
                    simp only [e1]
                    go_simp
                    exact hK _ _ (Keeps.refl _ _) rfl ⟨hZ, oc, y, by simpa [upd] using hS, by simpa [upd] using hA, by simpa [upd] using hB⟩
                  · obtain ⟨hZ, oc, y, hS, hA, hB⟩ := hG
                    have n1 : fl 1 = false := hfi
                    have n7 : fl 7 = false := by cases h : fl 7 with
                      | false => rfl
                      | true => have := hcl 7 1 (by kernel_rfl) h; rw [n1] at this; cases this
                    obtain ⟨hx1, hx2⟩ := hA n7
                    have e1 := hc.ev 101 0 rfl
                    rw [show vs 0 = _ from (hp 0 (by kernel_rfl)).2] at e1
                    have ec : wr.cell? ⟨g5, 1, none⟩ = some (.slice x.yA x.syms.length x.yc) := by have := hS.cells 1; rw [hx1] at this; exact this
                    clear hx1 hx2
                    unfold Oper.wp execOp
                    simp only [e1]
                    go_simp
                    exact hK _ _ (Keeps.refl _ _) rfl ⟨hZ, oc, y, by simpa [upd] using hS, by simpa [upd] using hA, by simpa [upd] using hB⟩
                  · obtain ⟨hZ, oc, y, hS, hA, hB⟩ := hG
                    refine op_move rfl ?_
                    rw [hc.ev0 _ rfl]
                    exact hK _ _ (Keeps.refl _ _) rfl ⟨hZ, oc, y, by simpa [upd] using hS, by simpa [upd] using hA, by simpa [upd] using hB⟩
                  · obtain ⟨hZ, oc, y, hS, hA, hB⟩ := hG
                    have e1 : a1.eval (.tmp 5) = .pointer (some ⟨g5, 0, none⟩) := hc.ev0 5 rfl
                    unfold Oper.wp execOp
                    simp only [e1]
                    go_simp
                    exact hK _ _ (Keeps.refl _ _) rfl ⟨hZ, oc, y, by simpa [upd] using hS, by simpa [upd] using hA, by simpa [upd] using hB⟩
                  · obtain ⟨hZ, oc, y, hS, hA, hB⟩ := hG
                    have n4 : fl 4 = false := hfi
                    have n5 : fl 5 = false := by cases h : fl 5 with
                      | false => rfl
                      | true => have := hcl 5 4 (by kernel_rfl) h; rw [n4] at this; cases this
                    have n6 : fl 6 = false := by cases h : fl 6 with
                      | false => rfl
                      | true => have := hcl 6 5 (by kernel_rfl) h; rw [n5] at this; cases this
                    have n7 : fl 7 = false := by cases h : fl 7 with
                      | false => rfl
                      | true => have := hcl 7 6 (by kernel_rfl) h; rw [n6] at this; cases this
                    obtain ⟨hx1, hx2⟩ := hA n7
                    have e1 := hc.ev 104 3 rfl
                    rw [show vs 3 = _ from (hp 3 (by kernel_rfl)).2] at e1
                    have ec : wr.cell? ⟨g5, 0, none⟩ = some (.slice x.sA x.secs.length x.sc) := by have := hS.cells 0; rw [hx1] at this; exact this
                    clear hx1 hx2
                    unfold Oper.wp execOp
                    simp only [e1]
                    go_simp
                    exact hK _ _ (Keeps.refl _ _) rfl ⟨hZ, oc, y, by simpa [upd] using hS, by simpa [upd] using hA, by simpa [upd] using hB⟩
                  · obtain ⟨hZ, oc, y, hS, hA, hB⟩ := hG
                    have n5 : fl 5 = false := hfi
                    have n6 : fl 6 = false := by cases h : fl 6 with
                      | false => rfl
                      | true => have := hcl 6 5 (by kernel_rfl) h; rw [n5] at this; cases this
                    have n7 : fl 7 = false := by cases h : fl 7 with
                      | false => rfl
                      | true => have := hcl 7 6 (by kernel_rfl) h; rw [n6] at this; cases this
                    obtain ⟨hx1, hx2⟩ := hA n7
                    have hfi2 : fl 5 = false := hfi
                    have hcnt0 := b1_le (fl 5) 30
                    have e1 := hc.ev 103 2 rfl
                    rw [show vs 2 = _ from (hp 2 (by kernel_rfl)).2] at e1
                    have e2 := hc.ev 105 4 rfl
                    rw [show vs 4 = _ from (hp 4 (by kernel_rfl)).2] at e2
                    have hos := hS.rows.os
                    rw [hx2] at hos
                    refine op_call rfl (vs := #[.pointer (some ⟨r, 0, none⟩), .slice x.sA x.secs.length x.sc, .int .i64 1]) (by simp only [List.map_toArray, List.map_cons, List.map_nil, e1, e2]; rfl) (by kernel_rfl) (l20Symbol_any r _ x.secs 1 wr hS.rd (by omega) hos (by have := HLS.out; omega) HSZ.out (.inr rfl)) ?_
                    rintro e w9 ⟨s, rfl, hs9, hr9, hg9⟩
                    exact ⟨_, rfl, hK _ _ (Keeps.grown hg9 (by simp)) ⟨s, rfl, hs9⟩ ⟨Nat.le_trans hZ hg9.size, oc, y, (hS.pick hr9 hg9).moreq (by simp [upd, b1_true, b1_false, hfi2] <;> omega), by simpa [upd] using hA, by simpa [upd] using hB⟩⟩
                  · obtain ⟨hZ, oc, y, hS, hA, hB⟩ := hG
                    obtain ⟨s, hs1, hs2⟩ := (hp 5 (by kernel_rfl)).2
                    have e1 := hc.ev 106 5 rfl
                    rw [hs1] at e1
                    unfold Oper.wp execOp
                    simp only [e1, List.map_toArray, List.map_cons, List.map_nil, Sym.val]
                    go_simp
                    exact hK _ _ (Keeps.alloc _ _ _) ⟨_, s, rfl, ⟨by omega, by omega, fun e => by cases hA2 : x.yA with | none => rw [hA2] at e; cases e | some a => rw [hA2] at e; have := HFA.out a hA2; simp at e; omega⟩, Blk.new _ _ _, hs2⟩ ⟨by simp; omega, oc, y, by simpa [upd] using hS.alloc _, by simpa [upd] using hA, by simpa [upd] using hB⟩
                  · obtain ⟨hZ, oc, y, hS, hA, hB⟩ := hG
                    have hfi2 : fl 7 = false := hfi
                    have n9 : fl 9 = false := by cases h : fl 9 with
                      | false => rfl
                      | true => have := hcl 9 7 (by kernel_rfl) h; rw [hfi2] at this; cases this
                    have hly := HLY.out
                    obtain ⟨hx1, hx2⟩ := hA hfi2
                    subst hx2
                    obtain ⟨gl, s, hu, hok, hbl, hs9⟩ := (hp 6 (by kernel_rfl)).2
                    have e1 := hc.ev 102 1 rfl
                    rw [show vs 1 = _ from (hp 1 (by kernel_rfl)).2] at e1
                    have e2 := hc.ev 107 6 rfl
                    rw [hu] at e2
                    refine op_pushB (.tmp 102) (.tmp 107) _ rfl w.heap.size 55 k0 _ 4 40 Try.underlying45 hk0 kz0 kz1 kz2 rfl (by omega) y.yA y.syms.length y.yc 1 1 (y.syms.flatMap Sym.cells) s.cells hS.rows.oy e1 _ _ e2 (blk_reads (m := 1) hbl rfl) (by simp [Value.oneCell', Sym.cells]) (by omega) (by omega) (by omega) hS.size.1 ?_
                    intro A' c' w6 ho hg
                    refine hK _ _ (Keeps.grown hg (fun k hk2 hok2 => hok2.2.2 hk2.symm)) trivial ⟨Nat.le_trans hZ hg.size, oc, _, by simpa [upd] using hS.pushY (us := [s]) (by simpa using ho) hg, fun h => by simp [upd] at h, fun _ => ⟨A', c', s, by simp [upd], rfl, hs9, fun _ => hx1, fun h => by simp [upd, n9] at h⟩⟩
                  · obtain ⟨hZ, oc, y, hS, hA, hB⟩ := hG
                    have e1 : a1.eval (.tmp 5) = .pointer (some ⟨g5, 0, none⟩) := hc.ev0 5 rfl
                    unfold Oper.wp execOp
                    simp only [e1]
                    go_simp
                    exact hK _ _ (Keeps.refl _ _) rfl ⟨hZ, oc, y, by simpa [upd] using hS, by simpa [upd] using hA, by simpa [upd] using hB⟩
                  · obtain ⟨hZ, oc, y, hS, hA, hB⟩ := hG
                    have hfi2 : fl 9 = false := hfi
                    obtain ⟨A', c', s, hv, hy, hs9, hx1, _⟩ := hB (hp 7 (by kernel_rfl)).1
                    have hx2 := hx1 hfi2
                    subst hx2
                    have e1 := hc.ev 109 8 rfl
                    rw [show vs 8 = _ from (hp 8 (by kernel_rfl)).2] at e1
                    have e2 := hc.ev 108 7 rfl
                    rw [hv] at e2
                    have ec : wr.cell? ⟨g5, 1, none⟩ = some (.slice x.yA x.syms.length x.yc) := hS.cells 1
                    have ef : wr.frozen? ⟨g5, 1, none⟩ = false := hS.free 1
                    have HP := Lib.hid (hS.put 1 (.slice A' (x.syms.length + 1) c'))
                    have he : x.oc.set 1 (.slice A' (x.syms.length + 1) c') = y.oc := by rw [hy]; simp [Obj.oc]
                    rw [he] at HP
                    unfold Oper.wp execOp
                    simp only [e1, e2]
                    go_simp
                    exact hK undef _ (Keeps.set_ (fun h => h.2.1 rfl) _) trivial ⟨by simp; omega, y.oc, y, by simpa [upd] using HP.out, fun h => by simp [upd, (hp 7 (by kernel_rfl)).1] at h, fun _ => ⟨A', c', s, by simpa [upd] using hv, hy, hs9, fun h => by simp [upd] at h, fun _ => rfl⟩⟩
                · intro fl vs w9 hfl hG hF
                  obtain ⟨hZ, oc, y, hS, hA, hB⟩ := hG
                  obtain ⟨A', c', s, hv, hy, hs9, _, hx1⟩ := hB (hfl 7 (by simp))
                  have hx2 := hx1 (hfl 9 (by simp))
                  subst hx2
                  have hq9 : q9 + (b1 (fl 5) 30) ≤ q9 + 30 := by
                    have hc0 := b1_le (fl 5) 30
                    omega
                  have HS9 := Lib.hid (hS.moreq hq9)
                  have HYS : Hid (y.secs = x.secs ∧ y.syms = x.syms ++ [s]) := by rw [hy]; exact ⟨rfl, rfl⟩
                  clear hS hA hB hv hy hF hfl hZ hx1 hq9
                  simp only [fill]
                  go_simp
                  go_wp2
                  go_meet
                  case rel => exact ⟨y, _, HS9, by omega, Lib.hid ⟨by have h1 := HYS.out.1; have h2 := HLS.out; rw [h1]; omega, fun t ht => by rw [HYS.out.1] at ht; exact (HSG.out t ht).fit, by have h1 := HYS.out.2; have h2 := HLY.out; rw [h1]; simp; omega, fun z hz => by
                    rw [HYS.out.2] at hz
                    rcases List.mem_append.1 hz with hz | hz
                    · exact HYN9.out z hz
                    · rw [List.mem_singleton.1 hz]; exact hs9⟩⟩
              · have e1 : w5.cell? ⟨g5, 1, none⟩ = some (.slice x.yA x.syms.length x.yc) := HMS.out.cells 1
                have hly := HLY.out
                have hwz := HMS.out.size.1
                go_wp2_with (at_builtin; refine wpList_push _ rfl (.tmp 113) (.tmp 116) _ rfl w.heap.size 55 k0 _ 4 40 Try.underlying45 hk0 kz0 kz1 kz2 rfl (by omega) (by omega) x.yA x.syms.length x.yc 2 2 (x.syms.flatMap Sym.cells) [.string ⟨#[116, 119, 111]⟩, .int .i64 1, .int .i64 (-2), .int .i64 0, .string ⟨#[116, 119, 111]⟩, .int .i64 2, .int .i64 (-2), .int .i64 0] (by exact HMS.out.rows.oy.alloc _) rfl ⟨w5.heap.size, 0, none⟩ rfl rfl (World.news_of_block (cs := #[.string ⟨#[116, 119, 111]⟩, .int .i64 1, .int .i64 (-2), .int .i64 0, .string ⟨#[116, 119, 111]⟩, .int .i64 2, .int .i64 (-2), .int .i64 0]) (t := 55) (fr := (0, 0)) (by exact heap_alloc_new w5 _)) (by simp [Value.oneCell']) (by omega) (by omega) (by simp; omega) ?_; intro A' c' w6 hown hgrow hat hkeep; have HP := Lib.hid ((HMS.out.alloc _).pushY (us := [⟨⟨#[116, 119, 111]⟩, 1, -2, 0⟩, ⟨⟨#[116, 119, 111]⟩, 2, -2, 0⟩]) (by simpa [Sym.cells] using hown) hgrow); have e61 : w6.cell? ⟨g5, 1, none⟩ = some (.slice x.yA x.syms.length x.yc) := HP.out.cells 1; have f61 : w6.frozen? ⟨g5, 1, none⟩ = false := HP.out.free 1; clear hown hgrow hat hkeep)
                have HF : Hid (ObjMem w r q9 w.heap.size g5 zObj.oc ({ x with syms := x.syms ++ [⟨⟨#[116, 119, 111]⟩, 1, -2, 0⟩, ⟨⟨#[116, 119, 111]⟩, 2, -2, 0⟩], yA := A', yc := c' } : Obj).oc { x with syms := x.syms ++ [⟨⟨#[116, 119, 111]⟩, 1, -2, 0⟩, ⟨⟨#[116, 119, 111]⟩, 2, -2, 0⟩], yA := A', yc := c' } (w6.setCell ⟨g5, 1, none⟩ (.slice A' (x.syms.length + 2) c'))) := by
                  have h := HP.out.put 1 (.slice A' (x.syms.length + 2) c')
                  have he : x.oc.set 1 (.slice A' (x.syms.length + 2) c') = ({ x with syms := x.syms ++ [⟨⟨#[116, 119, 111]⟩, 1, -2, 0⟩, ⟨⟨#[116, 119, 111]⟩, 2, -2, 0⟩], yA := A', yc := c' } : Obj).oc := by simp [Obj.oc]
                  rw [he] at h
                  exact h
                clear HP e61 f61 e1 HMS
                go_meet
                case rel => exact ⟨{ x with syms := x.syms ++ [⟨⟨#[116, 119, 111]⟩, 1, -2, 0⟩, ⟨⟨#[116, 119, 111]⟩, 2, -2, 0⟩], yA := A', yc := c' }, q9, HF, by omega, Lib.hid ⟨by have h2 := HLS.out; exact Nat.le_trans h2 (by omega), fun t ht => (HSG.out t ht).fit, by simp; omega, fun z hz => by
                  rcases List.mem_append.1 hz with hz | hz
                  · exact HYN9.out z hz
                  · simp only [List.mem_cons, List.not_mem_nil, or_false] at hz
                    rcases hz with rfl | rfl <;> decide⟩⟩
              · have hmk : ∀ w : World, (Instr.makeSlice 45 (.int .i64 13) (.int .i64 13)).run Try.prog w = .ok (.slice (some ⟨w.heap.size, 0, none⟩) 13 13) (w.alloc (.cells ((List.replicate 13 zSym).flatMap Sym.cells).toArray 55)) := fun _ => by kernel_rfl
                have HOB : Hid ((w5.alloc (.cells ((List.replicate 13 zSym).flatMap Sym.cells).toArray 55)).ownsRow w.heap.size 55 4 (.slice (some ⟨w5.heap.size, 0, none⟩) 13 13) 13 ((List.replicate 13 zSym).flatMap Sym.cells)) := World.ownsRow_lit (base := w.heap.size) (e := 55) (size := 4) w5 ((List.replicate 13 zSym).flatMap Sym.cells).toArray 13 HMS.out.size.1 (by unfold maxLen; omega) (by decide)
                have HM6 := Lib.hid (HMS.out.alloc (.cells ((List.replicate 13 zSym).flatMap Sym.cells).toArray 55))
                obtain ⟨bz, hbz⟩ : ∃ bz : List Sym, bz = List.replicate 13 zSym := ⟨_, rfl⟩
                have HBZ : Hid (bz.length = 13 ∧ ∀ z ∈ bz, z.name.size ≤ 9) := by
                  rw [hbz]
                  exact ⟨by simp, fun z hz => by rw [List.eq_of_mem_replicate hz]; decide⟩
                rw [← hbz] at hmk HOB HM6
                clear hbz
                have hg5 := HMS.out.size.2.2.1
                have HF : Hid (ObjMem w r q9 w.heap.size g5 zObj.oc ({ x with syms := bz, yA := some ⟨w5.heap.size, 0, none⟩, yc := 13 } : Obj).oc { x with syms := bz, yA := some ⟨w5.heap.size, 0, none⟩, yc := 13 } ((w5.alloc (.cells (bz.flatMap Sym.cells).toArray 55)).setCell ⟨g5, 1, none⟩ (.slice (some ⟨w5.heap.size, 0, none⟩) 13 13))) := by
                  have h := (HM6.out.newY (us := bz) (A' := some ⟨w5.heap.size, 0, none⟩) (c' := 13) (by rw [HBZ.out.1]; exact HOB.out)).put 1 (.slice (some ⟨w5.heap.size, 0, none⟩) 13 13)
                  have he : x.oc.set 1 (.slice (some ⟨w5.heap.size, 0, none⟩) 13 13) = ({ x with syms := bz, yA := some ⟨w5.heap.size, 0, none⟩, yc := 13 } : Obj).oc := by simp [Obj.oc, HBZ.out.1]
                  rw [he] at h
                  exact h
                rw [World.setCell_alloc_past _ _ _ _ hg5] at HF
                obtain ⟨ei, fi⟩ : (w5.alloc (.cells (bz.flatMap Sym.cells).toArray 55)).cell? ⟨g5, 1, none⟩ = some (.slice x.yA x.syms.length x.yc) ∧ (w5.alloc (.cells (bz.flatMap Sym.cells).toArray 55)).frozen? ⟨g5, 1, none⟩ = false := ⟨HM6.out.cells 1, HM6.out.free 1⟩
                clear HOB HM6 HMS
                go_wp2
                go_meet
                case rel => exact ⟨_, q9, HF, by omega, Lib.hid ⟨by have h2 := HLS.out; exact Nat.le_trans h2 (by omega), fun t ht => (HSG.out t ht).fit, by show bz.length ≤ 13; have := HBZ.out.1; omega, HBZ.out.2⟩⟩
          case rest =>
            clear HM4
            obtain ⟨y, q, HM, hq, HFT⟩ := hcut
            have e0 : wc.cell? ⟨g5, 0, none⟩ = some (.slice y.sA y.secs.length y.sc) := HM.out.cells 0
            have e1 : wc.cell? ⟨g5, 1, none⟩ = some (.slice y.yA y.syms.length y.yc) := HM.out.cells 1
            have z0 : wc.cell? ⟨w.heap.size, 0, none⟩ = some (.slice none 0 0) := HM.out.z4.cell 0
            have z1 : wc.cell? ⟨w.heap.size, 1, none⟩ = some (.slice none 0 0) := HM.out.z4.cell 1
            have f0 : wc.frozen? ⟨w.heap.size, 0, none⟩ = false := HM.out.z4.frozen 0
            have f1 : wc.frozen? ⟨w.heap.size, 1, none⟩ = false := HM.out.z4.frozen 1
            have HRES : Hid (ObjMem w r q w.heap.size g5 y.oc y.oc y ((wc.setCell ⟨w.heap.size, 0, none⟩ (.slice y.sA y.secs.length y.sc)).setCell ⟨w.heap.size, 1, none⟩ (.slice y.yA y.syms.length y.yc))) :=
              (HM.out.put4 0 (.slice y.sA y.secs.length y.sc)).put4 1 (.slice y.yA y.syms.length y.yc)
            clear HM
            go_wp2
            generalize World.setCell _ ⟨w.heap.size, 1, none⟩ _ = WF at HRES ⊢
            have y0 : WF.cell? ⟨w.heap.size, 0, none⟩ = some (.slice y.sA y.secs.length y.sc) := HRES.out.z4.cell 0
            have y1 : WF.cell? ⟨w.heap.size, 1, none⟩ = some (.slice y.yA y.syms.length y.yc) := HRES.out.z4.cell 1
            refine bodyPost_ret (v := y.val) (by simp [results, Try.results49, go_sem, y0, y1, Obj.val]) rfl ?_
            exact ⟨y, rfl, HRES.out.rows, HFT.out, HRES.out.rd.more (by omega), HRES.out.gr⟩
end Go.Proofs.Ytdaamgonendkkaa
