/- Contract of the drawing of twins. Condition: not too many draws. -/
import Derived.Test.YtmmenedjmdcbcaaRows
import Derived.Test.YtmmenedjmdcbcaaBase
import Derived.Test.YtmmenedjmdcbcaaBase2
import Derived.Test.YtmmenedjmdcbcaaBase3
import Derived.Test.YtmmenedjmdcbcaaOnly
import Derived.Test.YtmmenedjmdcbcaaIn
import Derived.Test.YtmmenedjmdcbcaaName
import Derived.Test.YtmmenedjmdcbcaaEqB
import Derived.Test.YtmmenedjmdcbcaaFix
import Derived.Test.YtmmenedjmdcbcaaSec
import Derived.Test.YtmmenedjmdcbcaaObjS
import Derived.Test.YtmmenedjmdcbcaaSym
import Derived.Test.YtmmenedjmdcbcaaObj
import Derived.Test.YtmmenedjmdcbcaaMarkT
import Derived.Test.YtmmenedjmdcbcaaPick
import Derived.Test.YtmmenedjmdcbcaaPick2
import Derived.Test.YtmmenedjmdcbcaaReg
import Derived.Test.YtmmenedjmdcbcaaRegS
import Derived.Test.YtmmenedjmdcbcaaDrawN
import Derived.Test.YtmmenedjmdcbcaaRegK
import Derived.Test.YtmmenedjmdcbcaaKT
import Derived.Test.YtmmenedjmdcbcaaDby
import Derived.Test.YtmmenedjmdcbcaaDsec
import Derived.Test.YtmmenedjmdcbcaaDsym
import Derived.Test.YtmmenedjmdcbcaaDobj
import Derived.Test.YtmmenedjmdcbcaaDme
import Derived.WalkKit
import Derived.WalkSpells
import Derived.WalkLawsBesides
import Derived.Handy
import Derived.BigQuiet
import Derived.Deep.RegionHeld3
import Derived.Deep.DrawnRows
import Derived.Deep.QuietTactic
import Derived.Deep.CutBlock
namespace Go.Proofs.Ytmmenedjmdcbcaa
open Go Go.RowKit

structure ObjFitT (x : Obj) : Prop where
  ls : x.secs.length ≤ 5
  fs : ∀ s ∈ x.secs, SecFit s
  ly : x.syms.length ≤ 13
  fy : ∀ y ∈ x.syms, y.name.size ≤ 9
theorem ObjFit.t {x : Obj} (h : ObjFit x) : ObjFitT x := ⟨Nat.le_trans h.ls (by omega), h.fs, h.ly, h.fy⟩
def DrewTw (w : World) (r P : Nat) (e : Ending) (w' : World) : Prop := ∃ x : Obj, e = .returned x.val ∧ ObjRows w.heap.size x w' ∧ ObjFitT x ∧ Rdr w' r (P + 810) ∧ w.grownBy w' (some r)
theorem op_pushC {P : Program} {o : Oper} {a : Act} {w : World} {K : Act → World → Prop} {Q : Exit → Act → World → Prop} (s x : Operand) (t : TypeId)
    (ho : o.op = .call { callee := .builtin .append, args := #[s, x], argTypes := #[t, t] })
    (base : Nat) (e : TypeId) (i : TypeInfo) (z : Value) (size bytes : Nat) (ht : P.underlying t = some (.slice e)) (hi : P.info? e = some i) (hz : i.zero = some z)
    (hsize : i.size = size) (hby : i.bytes = bytes) (hzs : z.cells.size = size) (hsz : 0 < size)
    (A : Option Addr) (n c m c2 : Nat) (xs us : List Value) (hown : w.ownsRow base e size (.slice A n c) n xs) (hs : a.eval s = .slice A n c)
    {B : Nat} {AX : Option Addr} (hx : a.eval x = .slice AX m c2) (hr : Reads w B size AX m us) (h1 : ∀ u ∈ us, u.oneCell' = true) (hm : 0 < n + m) (hnm : n + m ≤ 1048576) (hbb : bytes ≤ 100) (hbase : base ≤ w.heap.size)
    (h : ∀ A' c' w', w'.ownsRow base e size (.slice A' (n + m) c') (n + m) (xs ++ us) → w.grownBy w' (A.map (·.block)) → (∀ b, A' = some b → (∃ b0, A = some b0 ∧ b0.block = b.block) ∨ w.heap.size ≤ b.block) → K (a.put o.dst (.slice A' (n + m) c')) w') : o.wp P a w K Q := by
  have hbytes : (n + m) * bytes ≤ 140737488355328 := by
    have : (n + m) * bytes ≤ 1048576 * 100 := Nat.mul_le_mul hnm hbb
    omega
  refine wp_append_any w s x t ho base e i z size bytes ht hi hz hsize hby hzs hsz (.slice A n c) n xs hs hown B AX m c2 us hx hr h1 (by unfold maxLen; omega) hbytes hbase ?_
  intro v' w' ho hg hat
  obtain ⟨A', c', hv⟩ : ∃ A' c', v' = .slice A' (n + m) c' := by
    rcases ho.2 with ⟨_, h0⟩ | ⟨g, cap, cur, hv, _⟩
    · omega
    · exact ⟨_, _, hv⟩
  subst hv
  have hob : Value.ownBlock (.slice A n c) = A.map (·.block) := by cases A <;> rfl
  rw [hob] at hg hat
  refine h A' c' w' ho hg (fun b hb => ?_)
  subst hb
  rcases hat with hat | hat
  · cases A with
    | none => cases hat
    | some b0 => exact .inl ⟨b0, rfl, by simpa [Value.ownBlock] using hat.symm⟩
  · exact .inr (by have : b.block = w.heap.size := by simpa [Value.ownBlock] using hat
                   omega)
theorem secs_one (l : List Sec) : ∀ u ∈ l.flatMap Sec.cells, u.oneCell' = true := by
  intro u hu
  rw [List.mem_flatMap] at hu
  obtain ⟨x, _, hx⟩ := hu
  simp only [Sec.cells, List.mem_cons, List.not_mem_nil, or_false] at hx
  rcases hx with rfl | rfl | rfl | rfl | rfl | rfl <;> rfl
section
variable {w wq w' : World} {r q g4 g5 : Nat} {zc oc : List Value} {x : Obj}
theorem ObjMem.farS {g : Nat} {cs : Array Value} (h : ObjMem w r q g4 g5 zc oc x wq) (hb : Blk wq g 52 cs) (hya : ∀ a, x.sA = some a → a.block ≠ g) (hg : w.heap.size ≤ g) (i : Nat) (u : Value) : ObjMem w r q g4 g5 zc oc x (wq.setCell ⟨g, i, none⟩ u) := by
  have hgr : wq.grownBy (wq.setCell ⟨g, i, none⟩ u) ((some (⟨g, 0, none⟩ : Addr)).map (·.block)) := ⟨rfl, rfl, rfl, by simp [World.setCell], fun k _ hne => Below.heap_setCell wq _ u k (fun e => hne (by rw [e]; rfl))⟩
  exact ⟨h.z4.far (by exact Blk.ne_ h.z4 hb (by decide)) _, h.b5.far (by exact Blk.ne_ h.b5 hb (by decide)) _, ⟨own_other (A2 := some ⟨g, 0, none⟩) h.rows.os hgr (fun a a2 h1 h2 => by injection h2 with h2; subst h2; exact hya a h1), (KeepT.of_set (T := fun t => t = 61) hb (by decide) i u).own h.rows.oy rfl, fun s hs => (h.rows.ow s hs).keepT (T := TS) (.of_set hb TS_s i u) TS_b TS_f⟩,
    h.rd.setCell (by have := h.hr; simp only; omega) _, gr_setCell h.gr hg _, h.hr, h.h4, h.h45⟩
theorem ObjMem.rowZ {Z n c : Nat} {A : Option Addr} {ys : List Value} (h : ObjMem w r q g4 g5 zc oc x wq) (o : wq.ownsRow Z 52 6 (.slice A n c) n ys) (hx : ∀ a, x.sA = some a → a.block < Z) (hZ : w.heap.size ≤ Z) (hg : wq.grownBy w' (A.map (·.block))) : ObjMem w r q g4 g5 zc oc x w' :=
  ⟨h.z4.grown hg (blk_row_ne h.z4 o (by decide)), h.b5.grown hg (blk_row_ne h.b5 o (by decide)),
    ⟨own_other h.rows.os hg (fun a a2 h1 h2 => by have := hx a h1; have := (own_up o a2 h2).1; omega), own_other h.rows.oy hg (own_types_ne2 h.rows.oy o (by decide)), fun t ht => (h.rows.ow t ht).keepT (T := TS) (.of_row o hg TS_s) TS_b TS_f⟩,
    h.rd.row hg o (by have := h.hr; omega), gr_row h.gr hg o hZ, h.hr, h.h4, h.h45⟩
end
set_option maxRecDepth 100000 in
set_option maxHeartbeats 8000000 in
theorem l20Twins_any (r P : Nat) (w : World) (hr : Rdr w r P) (hP : P ≤ 100) : Calls Try.prog 30 #[.pointer (some ⟨r, 0, none⟩), .int .i64 9] w (DrewTw w r P) := by
  obtain ⟨i0, hi0, hz0, hz1, hz2⟩ := info_parts sec_info
  have hrl := hr.lt
  have HR := Lib.hid hr
  clear hr
  go_enter Try.func30, Try.ntmps30
  go_wp2_with fail
  refine (l20Object_any r P 9 _ (HR.out.alloc _) (by omega) (by omega) (by omega)).mono ?_
  rintro e w2 ⟨x, rfl, hrows, hft, hr2, hg2⟩
  have HFT := Lib.hid hft
  have HM0 : Hid (ObjMem w r (P + 800) w.heap.size w2.heap.size zObj.oc x.oc x (w2.alloc (.cells #[.slice x.sA x.secs.length x.sc, .slice x.yA x.syms.length x.yc] 26))) := by
    have zz : Blk w2 w.heap.size 26 zObj.oc.toArray := (Blk.new w 26 zObj.oc.toArray).grown hg2 (by simp; omega)
    have h2 := hg2.size
    rw [World.size_alloc] at h2 hrows
    exact ⟨zz.alloc _, Blk.new w2 26 _, (hrows.base (by omega)).keep (.of_alloc _ _ _), hr2.alloc _, gr_alloc (gr_trans (gr_alloc (grown_refl w (some r)) _) hg2) _, hrl, Nat.le_refl _, by omega⟩
  clear hrows hft hr2 hg2 HR
  simp only [Obj.val]
  go_upto_region 2 with fail
  obtain ⟨g5, hg5⟩ : ∃ g5, g5 = w2.heap.size := ⟨_, rfl⟩
  rw [← hg5] at HM0 ⊢
  generalize w2.alloc _ = w3 at HM0 ⊢
  clear hg5
  have e0 : w3.cell? ⟨g5, 0, none⟩ = some (.slice x.sA x.secs.length x.sc) := HM0.out.cells 0
  have hl4 : x.secs.length ≤ 4 := HFT.out.ls
  by_cases hl0 : x.secs.length = 0
  · have hb0 : decide ((0 : Int) < (x.secs.length : Int)) = false := decide_eq_false (by omega)
    have hlq : ¬ (0 : Int) < (x.secs.length : Int) := by omega
    have hlz : x.secs.length = 0 := hl0
    clear e0 hl4
    have HM := HM0
    have HFTT := Lib.hid HFT.out.t
    clear HM0 hl0 hlz
    have e0 : w3.cell? ⟨g5, 0, none⟩ = some (.slice x.sA x.secs.length x.sc) := HM.out.cells 0
    have e1 : w3.cell? ⟨g5, 1, none⟩ = some (.slice x.yA x.syms.length x.yc) := HM.out.cells 1
    have z0 : w3.cell? ⟨w.heap.size, 0, none⟩ = some (.slice none 0 0) := HM.out.z4.cell 0
    have z1 : w3.cell? ⟨w.heap.size, 1, none⟩ = some (.slice none 0 0) := HM.out.z4.cell 1
    have f0 : w3.frozen? ⟨w.heap.size, 0, none⟩ = false := HM.out.z4.frozen 0
    have f1 : w3.frozen? ⟨w.heap.size, 1, none⟩ = false := HM.out.z4.frozen 1
    have HRES : Hid (ObjMem w r (P + 800) w.heap.size g5 x.oc x.oc x ((w3.setCell ⟨w.heap.size, 0, none⟩ (.slice x.sA x.secs.length x.sc)).setCell ⟨w.heap.size, 1, none⟩ (.slice x.yA x.syms.length x.yc))) :=
      (HM.out.put4 0 (.slice x.sA x.secs.length x.sc)).put4 1 (.slice x.yA x.syms.length x.yc)
    clear HM
    go_wp2
    generalize World.setCell _ ⟨w.heap.size, 1, none⟩ _ = WF at HRES ⊢
    have y0 : WF.cell? ⟨w.heap.size, 0, none⟩ = some (.slice x.sA x.secs.length x.sc) := HRES.out.z4.cell 0
    have y1 : WF.cell? ⟨w.heap.size, 1, none⟩ = some (.slice x.yA x.syms.length x.yc) := HRES.out.z4.cell 1
    refine bodyPost_ret (v := x.val) (by simp [results, Try.results30, go_sem, y0, y1, Obj.val]) rfl ?_
    exact ⟨x, rfl, HRES.out.rows, HFTT.out, HRES.out.rd.more (by omega), HRES.out.gr⟩
  · have hb0 : decide ((0 : Int) < (x.secs.length : Int)) = true := decide_eq_true (by omega)
    have hb8 : decide ((x.secs.length : Int) < 8) = true := decide_eq_true (by omega)
    have hlp : 0 < x.secs.length := by omega
    have hlq : (0 : Int) < (x.secs.length : Int) := by omega
    have hlr : (x.secs.length : Int) < 8 := by omega
    clear hl0 e0
    have HMS := Lib.hid HM0.out
    have hz3 := HMS.out.size
    have HFA : Hid (∀ a, x.sA = some a → a.block < w3.heap.size) := fun a ha => (own_up HMS.out.rows.os a ha).2
    have ex0 : w3.cell? ⟨g5, 0, none⟩ = some (.slice x.sA x.secs.length x.sc) := HMS.out.cells 0
    clear HM0
    obtain ⟨q, hq⟩ : ∃ q, q = P + 800 := ⟨_, rfl⟩
    rw [← hq] at HMS
    have hqb : q ≤ P + 800 := by omega
    clear hq
    go_wp2
    clear ex0
    refine wp_region_facts (fun i v wf => match i with
        | 0 => v = .pointer (some ⟨g5, 0, none⟩)
        | 1 => v = .slice x.sA x.secs.length x.sc
        | 2 => v = .pointer (some ⟨r, 0, none⟩)
        | 3 => v = .pointer (some ⟨g5, 0, none⟩)
        | 4 => v = .slice x.sA x.secs.length x.sc
        | 5 => v = .int .i64 (x.secs.length)
        | 6 => IsInt 0 ((x.secs.length : Int) - 1) v
        | 7 => (∃ (gs k : Nat), v = .pointer (some ⟨gs, k * 6, none⟩) ∧ k < x.secs.length ∧ x.sA = some ⟨gs, 0, none⟩)
        | 8 => (∃ t ∈ x.secs, v = t.val)
        | 9 => True
        | _ => True)
      (fun fl vs wq => w3.heap.size ≤ wq.heap.size ∧ ObjMem w r (q + (b1 (fl 6) 1)) w.heap.size g5 zObj.oc x.oc x wq ∧ (fl 9 = true → ∃ gl : Nat, vs 9 = .pointer (some ⟨gl, 0, none⟩) ∧ w3.heap.size ≤ gl ∧ (fl 10 = false → Blk wq gl 52 zSec.cells.toArray) ∧ (fl 10 = true → ∃ t ∈ x.secs, Blk wq gl 52 t.cells.toArray))) (fun _ _ => True) (by kernel_rfl) (by kernel_rfl) ?_ ?_ ?_ ?_
    · intro i v u u2 hk h
      match i, h with
      | 0, h => exact h
      | 1, h => exact h
      | 2, h => exact h
      | 3, h => exact h
      | 4, h => exact h
      | 5, h => exact h
      | 6, h => exact h
      | 7, h => exact h
      | 8, h => exact h
      | 9, h => trivial
      | _ + 10, h => trivial
    · intro fl vs hfl
      exact ⟨Nat.le_refl _, by simpa [hfl, b1_false] using (show ObjMem w r q w.heap.size g5 zObj.oc x.oc x w3.drew from HMS.out.drewN 1), fun h => by rw [hfl 9 (by simp)] at h; cases h⟩
    · refine ⟨?_, ?_, ?_, ?_, ?_, ?_, ?_, ?_, ?_, ?_, ?_, trivial⟩
      all_goals intro fl vs wr a1 hc hG hfi hcl hp K hK
      · obtain ⟨hZ, hS, hA⟩ := hG
        have e1 : a1.eval (.tmp 5) = .pointer (some ⟨g5, 0, none⟩) := hc.ev0 5 rfl
        unfold Oper.wp execOp
        simp only [e1]
        go_simp
        exact hK _ _ trivial rfl ⟨hZ, by simpa [upd] using hS, by simpa [upd] using hA⟩
      · obtain ⟨hZ, hS, hA⟩ := hG
        have e1 := hc.ev 20 0 rfl
        rw [show vs 0 = _ from (hp 0 (by kernel_rfl)).2] at e1
        have ec : wr.cell? ⟨g5, 0, none⟩ = some (.slice x.sA x.secs.length x.sc) := hS.cells 0
        unfold Oper.wp execOp
        simp only [e1]
        go_simp
        exact hK _ _ trivial rfl ⟨hZ, by simpa [upd] using hS, by simpa [upd] using hA⟩
      · obtain ⟨hZ, hS, hA⟩ := hG
        refine op_move rfl ?_
        rw [hc.ev0 _ rfl]
        exact hK _ _ trivial rfl ⟨hZ, by simpa [upd] using hS, by simpa [upd] using hA⟩
      · obtain ⟨hZ, hS, hA⟩ := hG
        have e1 : a1.eval (.tmp 5) = .pointer (some ⟨g5, 0, none⟩) := hc.ev0 5 rfl
        unfold Oper.wp execOp
        simp only [e1]
        go_simp
        exact hK _ _ trivial rfl ⟨hZ, by simpa [upd] using hS, by simpa [upd] using hA⟩
      · obtain ⟨hZ, hS, hA⟩ := hG
        have e1 := hc.ev 23 3 rfl
        rw [show vs 3 = _ from (hp 3 (by kernel_rfl)).2] at e1
        have ec : wr.cell? ⟨g5, 0, none⟩ = some (.slice x.sA x.secs.length x.sc) := hS.cells 0
        unfold Oper.wp execOp
        simp only [e1]
        go_simp
        exact hK _ _ trivial rfl ⟨hZ, by simpa [upd] using hS, by simpa [upd] using hA⟩
      · obtain ⟨hZ, hS, hA⟩ := hG
        have e1 := hc.ev 24 4 rfl
        rw [show vs 4 = _ from (hp 4 (by kernel_rfl)).2] at e1
        unfold Oper.wp execOp
        simp only [resolve, invoke, builtin, Sem.run_bind, Sem.run_pure, Result.andThen_ok, List.map_toArray, List.map_cons, List.map_nil, e1]
        go_simp
        exact hK _ _ trivial rfl ⟨hZ, by simpa [upd] using hS, by simpa [upd] using hA⟩
      · obtain ⟨hZ, hS, hA⟩ := hG
        have hfi2 : fl 6 = false := hfi
        have hcnt0 := b1_le (fl 6) 1
        have e1 := hc.ev 22 2 rfl
        rw [show vs 2 = _ from (hp 2 (by kernel_rfl)).2] at e1
        have e2 := hc.ev 25 5 rfl
        rw [show vs 5 = _ from (hp 5 (by kernel_rfl)).2] at e2
        refine op_pick rfl e1 e2 hS.rd (by omega) (by omega) (by omega) ?_
        intro v w9 va vb hr9 hg9
        refine hK _ _ trivial ⟨v, rfl, va, vb⟩ ⟨Nat.le_trans hZ hg9.size, (hS.pick hr9 hg9).moreq (by simp [upd, b1_true, b1_false, hfi2] <;> omega), fun h9 => ?_⟩
        obtain ⟨gl, k1, k2, k3, k4⟩ := hA (by simpa [upd] using h9)
        exact ⟨gl, by simpa [upd] using k1, k2, fun h => (k3 (by simpa [upd] using h)).grown hg9 (by simp; omega), fun h => by
          obtain ⟨t, t1, t2⟩ := k4 (by simpa [upd] using h)
          exact ⟨t, t1, t2.grown hg9 (by simp; omega)⟩⟩
      · obtain ⟨hZ, hS, hA⟩ := hG
        obtain ⟨u, hu, ua, ub⟩ := (hp 6 (by kernel_rfl)).2
        have e1 := hc.ev 21 1 rfl
        rw [show vs 1 = _ from (hp 1 (by kernel_rfl)).2] at e1
        have e2 := hc.ev 26 6 rfl
        rw [hu] at e2
        obtain ⟨gs, hsA, _, _⟩ := own_addrS hS.rows.os hlp
        rw [hsA] at e1
        obtain ⟨k, rfl⟩ := Int.eq_ofNat_of_zero_le ua
        have hk : (k : Int) < (x.secs.length : Int) := by omega
        unfold Oper.wp execOp
        simp only [e1, e2]
        go_simp
        exact hK _ _ trivial ⟨gs, k, rfl, by omega, hsA⟩ ⟨hZ, by simpa [upd] using hS, by simpa [upd] using hA⟩
      · obtain ⟨hZ, hS, hA⟩ := hG
        obtain ⟨gs, k, hu, hk, hsA⟩ := (hp 7 (by kernel_rfl)).2
        have e1 := hc.ev 27 7 rfl
        rw [hu] at e1
        have c0 : wr.cell? ⟨gs, k * 6, none⟩ = some (.string x.secs[k].name) := by
          have h1 := hS.rows.os
          rw [hsA] at h1
          exact (h1.cellAt (k * 6 + 0) (by omega)).trans (flat_get Sec.cells 6 Sec.cells_len x.secs k 0 hk (by omega))
        have c1 : wr.cell? ⟨gs, k * 6 + 1, none⟩ = some (.int .i64 x.secs[k].kind) := by
          have h1 := hS.rows.os
          rw [hsA] at h1
          exact (h1.cellAt (k * 6 + 1) (by omega)).trans (flat_get Sec.cells 6 Sec.cells_len x.secs k 1 hk (by omega))
        have c2 : wr.cell? ⟨gs, k * 6 + 2, none⟩ = some (.int .i64 x.secs[k].align) := by
          have h1 := hS.rows.os
          rw [hsA] at h1
          exact (h1.cellAt (k * 6 + 2) (by omega)).trans (flat_get Sec.cells 6 Sec.cells_len x.secs k 2 hk (by omega))
        have c3 : wr.cell? ⟨gs, k * 6 + 3, none⟩ = some (.slice x.secs[k].bytesA x.secs[k].bytes.length x.secs[k].bytesc) := by
          have h1 := hS.rows.os
          rw [hsA] at h1
          exact (h1.cellAt (k * 6 + 3) (by omega)).trans (flat_get Sec.cells 6 Sec.cells_len x.secs k 3 hk (by omega))
        have c4 : wr.cell? ⟨gs, k * 6 + 4, none⟩ = some (.int .i64 x.secs[k].size) := by
          have h1 := hS.rows.os
          rw [hsA] at h1
          exact (h1.cellAt (k * 6 + 4) (by omega)).trans (flat_get Sec.cells 6 Sec.cells_len x.secs k 4 hk (by omega))
        have c5 : wr.cell? ⟨gs, k * 6 + 5, none⟩ = some (.slice x.secs[k].fixupsA x.secs[k].fixups.length x.secs[k].fixupsc) := by
          have h1 := hS.rows.os
          rw [hsA] at h1
          exact (h1.cellAt (k * 6 + 5) (by omega)).trans (flat_get Sec.cells 6 Sec.cells_len x.secs k 5 hk (by omega))
        have hmem := List.getElem_mem hk
        generalize x.secs[k] = sk at *
        unfold Oper.wp execOp
        simp only [e1]
        go_simp
        exact hK _ _ trivial ⟨sk, hmem, rfl⟩ ⟨hZ, by simpa [upd] using hS, by simpa [upd] using hA⟩
      · obtain ⟨hZ, hS, hA⟩ := hG
        have hfi2 : fl 9 = false := hfi
        have n10 : fl 10 = false := by cases h : fl 10 with
          | false => rfl
          | true => have := hcl 10 9 (by kernel_rfl) h; rw [hfi2] at this; cases this
        unfold Oper.wp execOp
        go_simp
        exact hK _ _ trivial trivial ⟨by simp; omega, by simpa [upd] using hS.alloc _, fun _ => ⟨wr.heap.size, by simp [upd], hZ, fun _ => Blk.new wr 52 zSec.cells.toArray, fun h => by simp [upd, n10] at h⟩⟩
      · obtain ⟨hZ, hS, hA⟩ := hG
        have hfi2 : fl 10 = false := hfi
        obtain ⟨gl, k1, k2, k3, _⟩ := hA (hp 9 (by kernel_rfl)).1
        have hbl := k3 hfi2
        obtain ⟨t, ht, hv⟩ := (hp 8 (by kernel_rfl)).2
        have e1 := hc.ev 6 9 rfl
        rw [k1] at e1
        have e2 := hc.ev 28 8 rfl
        rw [hv] at e2
        have hne : ∀ a, x.sA = some a → a.block ≠ gl := fun a ha => by have := HFA.out a ha; omega
        have c0 : wr.cell? ⟨gl, 0, none⟩ = some (.string ByteArray.empty) := hbl.cell 0
        have f0 : wr.frozen? ⟨gl, 0, none⟩ = false := hbl.frozen 0
        have c1 : wr.cell? ⟨gl, 1, none⟩ = some (.int .i64 0) := hbl.cell 1
        have f1 : wr.frozen? ⟨gl, 1, none⟩ = false := hbl.frozen 1
        have c2 : wr.cell? ⟨gl, 2, none⟩ = some (.int .i64 0) := hbl.cell 2
        have f2 : wr.frozen? ⟨gl, 2, none⟩ = false := hbl.frozen 2
        have c3 : wr.cell? ⟨gl, 3, none⟩ = some (.slice none 0 0) := hbl.cell 3
        have f3 : wr.frozen? ⟨gl, 3, none⟩ = false := hbl.frozen 3
        have c4 : wr.cell? ⟨gl, 4, none⟩ = some (.int .i64 0) := hbl.cell 4
        have f4 : wr.frozen? ⟨gl, 4, none⟩ = false := hbl.frozen 4
        have c5 : wr.cell? ⟨gl, 5, none⟩ = some (.slice none 0 0) := hbl.cell 5
        have f5 : wr.frozen? ⟨gl, 5, none⟩ = false := hbl.frozen 5
        have b0 := hbl
        have m0 := hS
        have b1 := b0.set_ 0 (.string t.name)
        have m1 := m0.farS b0 hne (by omega) 0 (.string t.name)
        have b2 := b1.set_ 1 (.int .i64 t.kind)
        have m2 := m1.farS b1 hne (by omega) 1 (.int .i64 t.kind)
        have b3 := b2.set_ 2 (.int .i64 t.align)
        have m3 := m2.farS b2 hne (by omega) 2 (.int .i64 t.align)
        have b4 := b3.set_ 3 (.slice t.bytesA t.bytes.length t.bytesc)
        have m4 := m3.farS b3 hne (by omega) 3 (.slice t.bytesA t.bytes.length t.bytesc)
        have b5 := b4.set_ 4 (.int .i64 t.size)
        have m5 := m4.farS b4 hne (by omega) 4 (.int .i64 t.size)
        have b6 := b5.set_ 5 (.slice t.fixupsA t.fixups.length t.fixupsc)
        have m6 := m5.farS b5 hne (by omega) 5 (.slice t.fixupsA t.fixups.length t.fixupsc)
        have HMF := Lib.hid m6
        have HBF : Hid (Blk _ gl 52 t.cells.toArray) := b6
        clear b0 b1 b2 b3 b4 b5 b6 m0 m1 m2 m3 m4 m5 m6
        unfold Oper.wp execOp
        simp only [e1, e2, Sec.val]
        go_simp
        exact hK undef _ trivial trivial ⟨by simp; omega, by simpa [upd] using HMF.out, fun _ => ⟨gl, by simpa [upd] using k1, k2, fun h => by simp [upd] at h, fun _ => ⟨t, ht, HBF.out⟩⟩⟩
    · intro fl vs w9 hfl hG hF
      obtain ⟨hZ, hS, hA⟩ := hG
      obtain ⟨gl, k1, k2, _, k4⟩ := hA (hfl 9 (by simp))
      obtain ⟨t, ht, hbl⟩ := k4 (hfl 10 (by simp))
      have hq9 : q + (b1 (fl 6) 1) ≤ q + 1 := by
        have hc0 := b1_le (fl 6) 1
        omega
      have HM9 := Lib.hid (hS.moreq hq9)
      have HBL := Lib.hid hbl
      have HMEM := Lib.hid ht
      have h9 : vs 9 = .pointer (some ⟨gl, 0, none⟩) := k1
      have hwz := hS.size
      clear hS hA hF hfl k4 hbl hq9 k1 ht
      simp only [fill]
      go_simp
      clear h9
      go_wp2_with fail
      refine (l20Name_any r _ 0 _ HM9.out.rd (by omega) (by omega) (by omega)).mono ?_
      rintro e w10 ⟨nm, rfl, ⟨hn9, _⟩, hr10, hg10⟩
      have HM10 := Lib.hid (HM9.out.pick hr10 hg10)
      have HBL10 : Hid (Blk w10 gl 52 t.cells.toArray) := HBL.out.grown hg10 (by simp; omega)
      have hz10 := hg10.size
      obtain ⟨ei, fi⟩ : w10.cell? ⟨gl, 0, none⟩ = some (.string t.name) ∧ w10.frozen? ⟨gl, 0, none⟩ = false := ⟨HBL10.out.cell 0, HBL10.out.frozen 0⟩
      have hne : ∀ a, x.sA = some a → a.block ≠ gl := fun a ha => by have := HFA.out a ha; omega
      have HM11 := Lib.hid (HM10.out.farS HBL10.out hne (by omega) 0 (.string nm))
      obtain ⟨s', hs'⟩ : ∃ s' : Sec, s' = { t with name := nm } := ⟨_, rfl⟩
      have HBL11 : Hid (Blk (w10.setCell ⟨gl, 0, none⟩ (.string nm)) gl 52 s'.cells.toArray) := by rw [hs']; exact HBL10.out.set_ 0 (.string nm)
      have HSO : Hid (∀ wz, t.Own wz w.heap.size → s'.Own wz w.heap.size) := fun wz h => by rw [hs']; exact h
      have HSF : Hid (SecFit s') := by
        rw [hs']
        have h1 := HFT.out.fs t HMEM.out
        exact ⟨hn9, h1.2.1, h1.2.2.1, h1.2.2.2⟩
      clear HM9 HM10 HBL HBL10 hr10 hg10 hs' hne
      go_wp2
      generalize hW11 : w10.setCell _ _ = w11 at HM11 HBL11 ⊢
      have hz11 : w3.heap.size ≤ w11.heap.size ∧ gl < w11.heap.size := ⟨by rw [← hW11]; simp; omega, HBL11.out.lt⟩
      have hz12 := HM11.out.size
      clear hW11 ei fi
      have HMS := HM11
      clear HM11
      obtain ⟨Z, hZZ⟩ : ∃ Z, Z = w11.heap.size := ⟨_, rfl⟩
      have hZ1 : Z ≤ w11.heap.size := by omega
      have hglZ : gl < Z := by omega
      have hwZ : w.heap.size ≤ Z := by omega
      have HXZ : Hid (∀ a, x.sA = some a → a.block < Z) := fun a ha => by have := HFA.out a ha; omega
      clear hZZ
      obtain ⟨q5, hq5⟩ : ∃ q5, q5 = q + 1 + 2 := ⟨_, rfl⟩
      rw [← hq5] at HMS
      have hq5b : q5 ≤ P + 810 := by omega
      clear hq5
      refine wp_region_facts (fun i v wf => match i with
          | 0 => True
          | 1 => v = .pointer (some ⟨g5, 0, none⟩)
          | 2 => v = .slice x.sA x.secs.length x.sc
          | 3 => True
          | 4 => v = s'.val
          | 5 => True
          | 6 => True
          | 7 => v = .pointer (some ⟨g5, 0, none⟩)
          | _ => True)
        (fun fl vs wq => Z ≤ wq.heap.size ∧ Blk wq gl 52 s'.cells.toArray ∧ ∃ (oc : List Value) (y : Obj), ObjMem w r q5 w.heap.size g5 zObj.oc oc y wq ∧ ∃ (A : Option Addr) (n c : Nat) (ys : List Sec), wq.ownsRow Z 52 6 (.slice A n c) n (ys.flatMap Sec.cells) ∧ n = ys.length ∧ (fl 0 = true → fl 3 = false → vs 0 = .slice A n c ∧ ys = []) ∧ (fl 3 = true → fl 6 = false → vs 3 = .slice A n c ∧ ys = x.secs) ∧ (fl 6 = true → vs 6 = .slice A n c ∧ ys = x.secs ++ [s']) ∧ (fl 5 = true → ∃ g : Nat, vs 5 = .slice (some ⟨g, 0, none⟩) 1 1 ∧ Blk wq g 52 s'.cells.toArray ∧ ∀ a, A = some a → a.block ≠ g) ∧ (fl 8 = false → oc = x.oc ∧ y = x) ∧ (fl 8 = true → y = { x with secs := x.secs ++ [s'], sA := A, sc := c } ∧ oc = y.oc)) (fun _ _ => True) (by kernel_rfl) (by kernel_rfl) ?_ ?_ ?_ ?_
      · intro i v u u2 hk h
        match i, h with
        | 0, h => trivial
        | 1, h => exact h
        | 2, h => exact h
        | 3, h => trivial
        | 4, h => exact h
        | 5, h => trivial
        | 6, h => trivial
        | 7, h => exact h
        | _ + 8, h => trivial
      · intro fl vs hfl
        have n8 : fl 8 = false := hfl 8 (by simp)
        have n0 : fl 0 = false := hfl 0 (by simp)
        have n3 : fl 3 = false := hfl 3 (by simp)
        have n6 : fl 6 = false := hfl 6 (by simp)
        have n5 : fl 5 = false := hfl 5 (by simp)
        exact ⟨hZ1, HBL11.out, x.oc, x, HMS.out.drewN 1, none, 0, 0, [], ⟨rfl, .inl ⟨rfl, rfl⟩⟩, rfl, fun h => absurd h (by rw [n0]; simp), fun h => absurd h (by rw [n3]; simp), fun h => absurd h (by rw [n6]; simp), fun h => absurd h (by rw [n5]; simp), fun _ => ⟨rfl, rfl⟩, fun h => absurd h (by rw [n8]; simp)⟩
      · refine ⟨?_, ?_, ?_, ?_, ?_, ?_, ?_, ?_, ?_, trivial⟩
        all_goals intro fl vs wr a1 hc hG hfi hcl hp K hK
        · obtain ⟨hZ, hB, oc, y, hS, A, n, c, ys, hown, hn, g0, g3, g6, g5c, g8, g9⟩ := hG
          have n0 : fl 0 = false := hfi
          have n3 : fl 3 = false := by cases h : fl 3 with
            | false => rfl
            | true => have := hcl 3 0 (by kernel_rfl) h; rw [n0] at this; cases this
          have n6 : fl 6 = false := by cases h : fl 6 with
            | false => rfl
            | true => have := hcl 6 3 (by kernel_rfl) h; rw [n3] at this; cases this
          have n8 : fl 8 = false := by cases h : fl 8 with
            | false => rfl
            | true => have := hcl 8 6 (by kernel_rfl) h; rw [n6] at this; cases this
          obtain ⟨hx1, hx2⟩ := g8 n8
          unfold Oper.wp execOp
          go_simp
          refine hK _ _ trivial trivial ⟨by simp; omega, hB.alloc _, oc, y, hS.alloc _, some ⟨wr.heap.size, 0, none⟩, 0, 0, [], World.ownsRow_lit (base := Z) (e := 52) (size := 6) wr #[] 0 hZ (by unfold maxLen; omega) rfl, rfl, fun _ _ => ⟨by simp [upd], rfl⟩, fun h => by simp [upd, n3] at h, fun h => by simp [upd, n6] at h, fun h => ?_, by simpa [upd] using g8, fun h => by simp [upd, n8] at h⟩
          obtain ⟨gg, k1, k2, k3⟩ := g5c (by simpa [upd] using h)
          exact ⟨gg, by simpa [upd] using k1, k2.alloc _, fun a ha e => by injection ha with ha; subst ha; have := k2.lt; simp at e; omega⟩
        · obtain ⟨hZ, hB, oc, y, hS, A, n, c, ys, hown, hn, g0, g3, g6, g5c, g8, g9⟩ := hG
          have e1 : a1.eval (.tmp 5) = .pointer (some ⟨g5, 0, none⟩) := hc.ev0 5 rfl
          unfold Oper.wp execOp
          simp only [e1]
          go_simp
          exact hK _ _ trivial rfl ⟨hZ, hB, oc, y, hS, A, n, c, ys, hown, hn, by simpa [upd] using g0, by simpa [upd] using g3, by simpa [upd] using g6, by simpa [upd] using g5c, by simpa [upd] using g8, by simpa [upd] using g9⟩
        · obtain ⟨hZ, hB, oc, y, hS, A, n, c, ys, hown, hn, g0, g3, g6, g5c, g8, g9⟩ := hG
          have n2 : fl 2 = false := hfi
          have n3 : fl 3 = false := by cases h : fl 3 with
            | false => rfl
            | true => have := hcl 3 2 (by kernel_rfl) h; rw [n2] at this; cases this
          have n6 : fl 6 = false := by cases h : fl 6 with
            | false => rfl
            | true => have := hcl 6 3 (by kernel_rfl) h; rw [n3] at this; cases this
          have n8 : fl 8 = false := by cases h : fl 8 with
            | false => rfl
            | true => have := hcl 8 6 (by kernel_rfl) h; rw [n6] at this; cases this
          obtain ⟨hx1, hx2⟩ := g8 n8
          have e1 := hc.ev 33 1 rfl
          rw [show vs 1 = _ from (hp 1 (by kernel_rfl)).2] at e1
          have ec : wr.cell? ⟨g5, 0, none⟩ = some (.slice x.sA x.secs.length x.sc) := by have := hS.cells 0; rw [hx1] at this; exact this
          clear hx1 hx2
          unfold Oper.wp execOp
          simp only [e1]
          go_simp
          exact hK _ _ trivial rfl ⟨hZ, hB, oc, y, hS, A, n, c, ys, hown, hn, by simpa [upd] using g0, by simpa [upd] using g3, by simpa [upd] using g6, by simpa [upd] using g5c, by simpa [upd] using g8, by simpa [upd] using g9⟩
        · obtain ⟨hZ, hB, oc, y, hS, A, n, c, ys, hown, hn, g0, g3, g6, g5c, g8, g9⟩ := hG
          have n3 : fl 3 = false := hfi
          have n6 : fl 6 = false := by cases h : fl 6 with
            | false => rfl
            | true => have := hcl 6 3 (by kernel_rfl) h; rw [n3] at this; cases this
          have n8 : fl 8 = false := by cases h : fl 8 with
            | false => rfl
            | true => have := hcl 8 6 (by kernel_rfl) h; rw [n6] at this; cases this
          obtain ⟨hx1, hx2⟩ := g8 n8
          subst hx2
          obtain ⟨hv, hys⟩ := g0 (hp 0 (by kernel_rfl)).1 n3
          have e1 := hc.ev 32 0 rfl
          rw [hv] at e1
          have e2 := hc.ev 34 2 rfl
          rw [show vs 2 = _ from (hp 2 (by kernel_rfl)).2] at e2
          have hR := Reads.of_own hS.rows.os
          have hl4' := HFT.out.ls
          have hnb : n ≤ 10 := by rw [hn, hys]; first | (simp; done) | omega | (simp; omega)
          refine op_pushC (.tmp 32) (.tmp 34) _ rfl Z 52 i0 _ 6 88 Try.underlying23 hi0 hz0 hz1 hz2 rfl (by omega) A n c y.secs.length _ (ys.flatMap Sec.cells) (y.secs.flatMap Sec.cells) hown e1 e2 hR (secs_one _) (by omega) (by omega) (by omega) hZ ?_
          intro A' c' w6 ho hg hat
          rw [← List.flatMap_append] at ho
          have hAZ : ∀ a, A = some a → Z ≤ a.block ∧ a.block < wr.heap.size := fun a ha => own_up hown a ha
          refine hK _ _ trivial trivial ⟨Nat.le_trans hZ hg.size, hB.grown hg (fun e => by cases hA : A with
            | none => rw [hA] at e; cases e
            | some a => rw [hA] at e; have := hAZ a hA; simp at e; omega), oc, y, hS.rowZ hown HXZ.out hwZ hg, A', n + y.secs.length, c', ys ++ y.secs, ho, by rw [List.length_append]; omega, fun _ h => by simp [upd] at h, fun _ _ => ⟨by simp [upd], by rw [hys]; rfl⟩, fun h => by simp [upd, n6] at h, fun h5 => ?_, fun _ => ⟨hx1, rfl⟩, fun h => by simp [upd, n8] at h⟩
          obtain ⟨gg, k1, k2, k3⟩ := g5c (by simpa [upd] using h5)
          exact ⟨gg, by simpa [upd] using k1, k2.grown hg (fun e => by cases hA : A with
            | none => rw [hA] at e; cases e
            | some a => rw [hA] at e; exact k3 a hA (by simpa using e.symm)), fun a ha e => by
              have h1 := hat a ha
              rcases h1 with h1 | h1
              · obtain ⟨a0, ha0, hb0⟩ := h1
                exact k3 a0 ha0 (by omega)
              · have := k2.lt
                omega⟩
        · obtain ⟨hZ, hB, oc, y, hS, A, n, c, ys, hown, hn, g0, g3, g6, g5c, g8, g9⟩ := hG
          have e1 : a1.eval (.tmp 6) = .pointer (some ⟨gl, 0, none⟩) := hc.ev0 6 rfl
          have c0 : wr.cell? ⟨gl, 0, none⟩ = some (.string s'.name) := hB.cell 0
          have c1 : wr.cell? ⟨gl, 1, none⟩ = some (.int .i64 s'.kind) := hB.cell 1
          have c2 : wr.cell? ⟨gl, 2, none⟩ = some (.int .i64 s'.align) := hB.cell 2
          have c3 : wr.cell? ⟨gl, 3, none⟩ = some (.slice s'.bytesA s'.bytes.length s'.bytesc) := hB.cell 3
          have c4 : wr.cell? ⟨gl, 4, none⟩ = some (.int .i64 s'.size) := hB.cell 4
          have c5 : wr.cell? ⟨gl, 5, none⟩ = some (.slice s'.fixupsA s'.fixups.length s'.fixupsc) := hB.cell 5
          unfold Oper.wp execOp
          simp only [e1]
          go_simp
          exact hK _ _ trivial rfl ⟨hZ, hB, oc, y, hS, A, n, c, ys, hown, hn, by simpa [upd] using g0, by simpa [upd] using g3, by simpa [upd] using g6, by simpa [upd] using g5c, by simpa [upd] using g8, by simpa [upd] using g9⟩
        · obtain ⟨hZ, hB, oc, y, hS, A, n, c, ys, hown, hn, g0, g3, g6, g5c, g8, g9⟩ := hG
          have e1 := hc.ev 36 4 rfl
          rw [show vs 4 = _ from (hp 4 (by kernel_rfl)).2] at e1
          unfold Oper.wp execOp
          simp only [e1, List.map_toArray, List.map_cons, List.map_nil, Sec.val]
          go_simp
          exact hK _ _ trivial trivial ⟨by simp; omega, hB.alloc _, oc, y, hS.alloc _, A, n, c, ys, hown.alloc _, hn, by simpa [upd] using g0, by simpa [upd] using g3, by simpa [upd] using g6, fun _ => ⟨wr.heap.size, by simp [upd], Blk.new wr 52 s'.cells.toArray, fun a ha => by have := (own_up hown a ha).2; omega⟩, by simpa [upd] using g8, by simpa [upd] using g9⟩
        · obtain ⟨hZ, hB, oc, y, hS, A, n, c, ys, hown, hn, g0, g3, g6, g5c, g8, g9⟩ := hG
          have n6 : fl 6 = false := hfi
          have n8 : fl 8 = false := by cases h : fl 8 with
            | false => rfl
            | true => have := hcl 8 6 (by kernel_rfl) h; rw [n6] at this; cases this
          obtain ⟨hx1, hx2⟩ := g8 n8
          subst hx2
          obtain ⟨hv, hys⟩ := g3 (hp 3 (by kernel_rfl)).1 n6
          have e1 := hc.ev 35 3 rfl
          rw [hv] at e1
          obtain ⟨gg, k1, k2, k3⟩ := g5c (hp 5 (by kernel_rfl)).1
          have e2 := hc.ev 37 5 rfl
          rw [k1] at e2
          have hR : Reads wr wr.heap.size 6 (some ⟨gg, 0, none⟩) 1 ([s'].flatMap Sec.cells) := blk_reads (m := 1) (by simpa using k2) (by simp [Sec.cells])
          have hl4' := HFT.out.ls
          have hnb : n ≤ 10 := by rw [hn, hys]; first | (simp; done) | omega | (simp; omega)
          refine op_pushC (.tmp 35) (.tmp 37) _ rfl Z 52 i0 _ 6 88 Try.underlying23 hi0 hz0 hz1 hz2 rfl (by omega) A n c 1 _ (ys.flatMap Sec.cells) ([s'].flatMap Sec.cells) hown e1 e2 hR (secs_one _) (by omega) (by omega) (by omega) hZ ?_
          intro A' c' w6 ho hg hat
          rw [← List.flatMap_append] at ho
          have hAZ : ∀ a, A = some a → Z ≤ a.block ∧ a.block < wr.heap.size := fun a ha => own_up hown a ha
          refine hK _ _ trivial trivial ⟨Nat.le_trans hZ hg.size, hB.grown hg (fun e => by cases hA : A with
            | none => rw [hA] at e; cases e
            | some a => rw [hA] at e; have := hAZ a hA; simp at e; omega), oc, y, hS.rowZ hown HXZ.out hwZ hg, A', n + 1, c', ys ++ [s'], ho, by rw [List.length_append]; simp; omega, fun _ h => absurd (hcl 6 3 (by kernel_rfl)) (fun _ => by have := (hp 3 (by kernel_rfl)).1; simp [upd, this] at h), fun _ h => by simp [upd] at h, fun _ => ⟨by simp [upd], by rw [hys]⟩, fun h5 => ?_, fun _ => ⟨hx1, rfl⟩, fun h => by simp [upd, n8] at h⟩
          exact ⟨gg, by simpa [upd] using k1, k2.grown hg (fun e => by cases hA : A with
            | none => rw [hA] at e; cases e
            | some a => rw [hA] at e; exact k3 a hA (by simpa using e.symm)), fun a ha e => by
              have h1 := hat a ha
              rcases h1 with h1 | h1
              · obtain ⟨a0, ha0, hb0⟩ := h1
                exact k3 a0 ha0 (by omega)
              · have := k2.lt
                omega⟩
        · obtain ⟨hZ, hB, oc, y, hS, A, n, c, ys, hown, hn, g0, g3, g6, g5c, g8, g9⟩ := hG
          have e1 : a1.eval (.tmp 5) = .pointer (some ⟨g5, 0, none⟩) := hc.ev0 5 rfl
          unfold Oper.wp execOp
          simp only [e1]
          go_simp
          exact hK _ _ trivial rfl ⟨hZ, hB, oc, y, hS, A, n, c, ys, hown, hn, by simpa [upd] using g0, by simpa [upd] using g3, by simpa [upd] using g6, by simpa [upd] using g5c, by simpa [upd] using g8, by simpa [upd] using g9⟩
        · obtain ⟨hZ, hB, oc, y, hS, A, n, c, ys, hown, hn, g0, g3, g6, g5c, g8, g9⟩ := hG
          have hfi2 : fl 8 = false := hfi
          obtain ⟨hx1, hx2⟩ := g8 hfi2
          obtain ⟨hv, hys⟩ := g6 (hp 6 (by kernel_rfl)).1
          have e1 := hc.ev 39 7 rfl
          rw [show vs 7 = _ from (hp 7 (by kernel_rfl)).2] at e1
          have e2 := hc.ev 38 6 rfl
          rw [hv] at e2
          subst hx1 hx2
          have ec : wr.cell? ⟨g5, 0, none⟩ = some (.slice y.sA y.secs.length y.sc) := hS.cells 0
          have ef : wr.frozen? ⟨g5, 0, none⟩ = false := hS.free 0
          have hYO : ∀ u ∈ ys, u.Own wr w.heap.size := fun u hu => by
            rw [hys] at hu
            rcases List.mem_append.1 hu with hu | hu
            · exact hS.rows.ow u hu
            · rw [List.mem_singleton.1 hu]; exact HSO.out _ (hS.rows.ow t HMEM.out)
          have HP := Lib.hid ((hS.newS (us := ys) (A' := A) (c' := c) (by rw [← hn]; exact own_base hown hwZ) hYO).put 0 (.slice A n c))
          have he : y.oc.set 0 (.slice A n c) = ({ y with secs := ys, sA := A, sc := c } : Obj).oc := by simp [Obj.oc, hn]
          rw [he] at HP
          have HN := Lib.hid hn
          have HYS := Lib.hid hys
          clear hn hys he hYO
          unfold Oper.wp execOp
          simp only [e1, e2]
          go_simp
          have hn := HN.out
          have hys := HYS.out
          refine hK undef _ trivial trivial ⟨by simp; omega, hB.far (fun e => by have := hB; exact Blk.ne_ hB hS.b5 (by decide) e) _, _, _, HP.out, A, n, c, ys, (KeepT.of_set (T := fun t => t = 52) hS.b5 (by decide) _ _).own hown rfl, hn, by simpa [upd] using g0, by simpa [upd] using g3, by simpa [upd] using g6, fun h5 => ?_, fun h => by simp [upd] at h, fun _ => ⟨by rw [hys], rfl⟩⟩
          obtain ⟨gg, k1, k2, k3⟩ := g5c (by simpa [upd] using h5)
          exact ⟨gg, by simpa [upd] using k1, k2.far (by exact Blk.ne_ k2 hS.b5 (by decide)) _, k3⟩
      · intro fl vs w9 hfl hG hF
        obtain ⟨hZ, hB, oc, y, hS, A, n, c, ys, hown, hn, g0, g3, g6, g5c, g8, g9⟩ := hG
        obtain ⟨hy, ho⟩ := g9 (hfl 8 (by simp))
        subst ho
        have HF := Lib.hid hS
        have HFF : Hid (ObjFitT y) := by
          subst hy
          have h1 := HFT.out
          exact ⟨by have := h1.ls; simp; omega, fun u hu => by
            rcases List.mem_append.1 hu with hu | hu
            · exact h1.fs u hu
            · rw [List.mem_singleton.1 hu]; exact HSF.out, h1.ly, h1.fy⟩
        clear hZ hB hS hown hn g0 g3 g6 g5c g8 g9 hy hF hfl
        have HM := HF
        have HFTT := HFF
        clear HF HFF
        simp only [fill]
        go_simp
        have e0 : w9.cell? ⟨g5, 0, none⟩ = some (.slice y.sA y.secs.length y.sc) := HM.out.cells 0
        have e1 : w9.cell? ⟨g5, 1, none⟩ = some (.slice y.yA y.syms.length y.yc) := HM.out.cells 1
        have z0 : w9.cell? ⟨w.heap.size, 0, none⟩ = some (.slice none 0 0) := HM.out.z4.cell 0
        have z1 : w9.cell? ⟨w.heap.size, 1, none⟩ = some (.slice none 0 0) := HM.out.z4.cell 1
        have f0 : w9.frozen? ⟨w.heap.size, 0, none⟩ = false := HM.out.z4.frozen 0
        have f1 : w9.frozen? ⟨w.heap.size, 1, none⟩ = false := HM.out.z4.frozen 1
        have HRES : Hid (ObjMem w r q5 w.heap.size g5 y.oc y.oc y ((w9.setCell ⟨w.heap.size, 0, none⟩ (.slice y.sA y.secs.length y.sc)).setCell ⟨w.heap.size, 1, none⟩ (.slice y.yA y.syms.length y.yc))) :=
          (HM.out.put4 0 (.slice y.sA y.secs.length y.sc)).put4 1 (.slice y.yA y.syms.length y.yc)
        clear HM
        go_wp2
        generalize World.setCell _ ⟨w.heap.size, 1, none⟩ _ = WF at HRES ⊢
        have y0 : WF.cell? ⟨w.heap.size, 0, none⟩ = some (.slice y.sA y.secs.length y.sc) := HRES.out.z4.cell 0
        have y1 : WF.cell? ⟨w.heap.size, 1, none⟩ = some (.slice y.yA y.syms.length y.yc) := HRES.out.z4.cell 1
        refine bodyPost_ret (v := y.val) (by simp [results, Try.results30, go_sem, y0, y1, Obj.val]) rfl ?_
        exact ⟨y, rfl, HRES.out.rows, HFTT.out, HRES.out.rd.more (by omega), HRES.out.gr⟩
end Go.Proofs.Ytmmenedjmdcbcaa
