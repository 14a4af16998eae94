/- Contract of namesOf. Condition: the size. Contracts of the closures of ChangesOf. Condition: the sizes. Contract of the last closure of ChangesOf. Condition: the sizes. Contract of impl.ChangesOf. Condition: the sizes. -/
import Derived.Test.YtdaamgonendkkaaRows
import Derived.Test.YtdaamgonendkkaaBase
import Derived.Test.YtdaamgonendkkaaBase2
import Derived.Test.YtdaamgonendkkaaBase3
import Derived.Test.YtdaamgonendkkaaName
import Derived.Test.YtdaamgonendkkaaSym
import Derived.Test.YtdaamgonendkkaaFindSym
import Derived.Test.YtdaamgonendkkaaSlt
import Derived.Test.YtdaamgonendkkaaSorted
import Derived.Test.YtdaamgonendkkaaOnly
import Derived.Test.YtdaamgonendkkaaIn
import Derived.Test.YtdaamgonendkkaaSec
import Derived.Test.YtdaamgonendkkaaObj
import Derived.Test.YtdaamgonendkkaaObjI
import Derived.Test.YtdaamgonendkkaaSymO
import Derived.Test.YtdaamgonendkkaaReg
import Derived.Test.YtdaamgonendkkaaRegS
import Derived.WalkKit
import Derived.WalkSpells
import Derived.WalkLawsBesides
import Derived.Handy
import Derived.BigQuiet
import Derived.Deep.RegionHeld3
import Derived.Deep.DrawnRows
import Derived.Deep.QuietTactic
import Derived.Lib.QuietBelow
namespace Go.Proofs.Ytdaamgonendkkaa
open Go Go.RowKit

theorem nmst_info : (Try.prog.info? 9).map (fun i => (i.zero, i.size, i.bytes)) = some (some (.string ByteArray.empty), 1, 16) := by kernel_rfl
/-- The names of the symbols that fulfil something. -/
def kept (p : Sym → Bool) (xs : List Sym) : List ByteArray := (xs.filter p).map Sym.name
theorem kept_step {p : Sym → Bool} {xs : List Sym} {k : Nat} (h : k < xs.length) : kept p (xs.take (k + 1)) = kept p (xs.take k) ++ (if p xs[k] = true then [xs[k].name] else []) := by
  unfold kept
  rw [List.take_succ_eq_append_getElem h, List.filter_append, List.map_append]
  congr 1
  by_cases hp : p xs[k] = true
  · rw [if_pos hp, List.filter_cons_of_pos hp]; rfl
  · rw [if_neg hp, List.filter_cons_of_neg hp]; rfl
theorem kept_len (p : Sym → Bool) (xs : List Sym) : (kept p xs).length ≤ xs.length := by
  unfold kept
  rw [List.length_map]
  exact List.length_filter_le p xs
set_option maxRecDepth 100000 in
set_option maxHeartbeats 4000000 in
theorem namesOf_any (A : Option Addr) (c B f : Nat) (cap : Array Value) (p : Sym → Bool) (xs : List Sym) (w : World) (h1 : Reads w B 4 A xs.length (xs.flatMap Sym.cells)) (hB : B ≤ w.heap.size) (hm : xs.length ≤ 40)
    (hcall : ∀ args w, (callFunc f args).run Try.prog w = .ok (.enter f args) w) (hf : ∀ x ∈ xs, ∀ w', Below w.heap.size w w' → Calls Try.prog f (#[x.val] ++ cap) w' (Gives w' (.bool (p x)))) :
    Calls Try.prog 57 #[.slice A xs.length c, .func (.func f) #[] cap] w (Fresh 9 1 w (sortL (kept p xs)).length (texts ((sortL (kept p xs)).map mk8))) := by
  obtain ⟨i0, hi0, hz0, hz1, hz2⟩ := info_parts nmst_info
  have HF := Lib.hid hf
  have H1 := Lib.hid (h1.more hB)
  clear hf h1
  have o0 : Hid ((w.alloc (.cells #[] 9)).ownsRow w.heap.size 9 1 (.slice (some ⟨w.heap.size, 0, none⟩) 0 0) 0 (texts [])) := World.ownsRow_lit (base := w.heap.size) (e := 9) (size := 1) w #[] 0 (Nat.le_refl _) (by unfold maxLen; omega) rfl
  have b0 : Hid (Below w.heap.size w (w.alloc (.cells #[] 9))) := (Below.refl _ _).alloc (Nat.le_refl _) _
  go_enter Try.func57, Try.ntmps57
  go_wp2
  go_loopw [5, 11] (fun v iv wr => ∃ (k : Nat) (A1 : Option Addr) (c1 : Nat) (ns : List ByteArray), k ≤ xs.length ∧ iv = .int .i64 k ∧ v = .slice A1 ns.length c1 ∧ Hid (ns = kept p (xs.take k)) ∧ Hid (wr.ownsRow w.heap.size 9 1 (.slice A1 ns.length c1) ns.length (texts ns)) ∧ Hid (Below w.heap.size w wr)) (fun _ iv _ => xs.length - (intOf iv).toNat)
  case atStart => exact ⟨0, _, _, [], Nat.zero_le _, rfl, rfl, Lib.hid (by simp [kept]), o0, b0⟩
  case round =>
    clear o0 b0
    obtain ⟨k, A1, c1, ns, hk, rfl, rfl, HN, HO, HB⟩ := hrel
    have hnl : ns.length ≤ 40 := by
      have h1 := kept_len p (xs.take k)
      rw [← HN.out, List.length_take] at h1
      omega
    have zz := HB.out.size
    by_cases hlt : k < xs.length
    · have i1 : (k : Int) < (xs.length : Int) := by omega
      have i0' : (0 : Int) ≤ (k : Int) := Int.natCast_nonneg _
      have HC := Lib.hid (HF.out xs[k] (List.getElem_mem hlt))
      have HKS := Lib.hid (kept_step (p := p) hlt)
      rw [← HN.out] at HKS
      obtain ⟨b, off, hA, hbl, e0, e1, e2, e3⟩ := Sym.at_ (H1.out.below HB.out) hlt
      simp only [Sym.val] at HC
      subst hA
      have hpp : p xs[k] = true ∨ p xs[k] = false := by cases p xs[k] <;> simp
      have HPP := Lib.hid hpp
      clear hpp HN
      obtain ⟨pk, hpk⟩ : ∃ pk, pk = p xs[k] := ⟨_, rfl⟩
      rw [← hpk] at HC HKS HPP
      clear hpk HPP
      generalize xs[k].name = nm at *
      generalize xs[k].bind = bd at *
      generalize xs[k].where_ = wh at *
      generalize xs[k].value = vl at *
      go_wp2_with fail
      refine (HC.out _ (HB.out.alloc zz (.cells #[.string nm, .int .i64 bd, .int .i64 wh, .int .i64 vl] 55))).mono ?_
      rintro e w2 ⟨rfl, s2⟩
      have hc0 : w2.cell? ⟨wr.heap.size, 0, none⟩ = some (.string nm) := ((Blk.new wr 55 #[.string nm, .int .i64 bd, .int .i64 wh, .int .i64 vl]).below s2 (by simp)).cell 0
      have HO2 := Lib.hid (own_below (HO.out.alloc (.cells #[.string nm, .int .i64 bd, .int .i64 wh, .int .i64 vl] 55)) s2)
      have HB2 := Lib.hid ((HB.out.alloc zz (.cells #[.string nm, .int .i64 bd, .int .i64 wh, .int .i64 vl] 55)).trans (s2.mono (by simp; omega)))
      have zz2 := HB2.out.size
      clear s2 HO HB HC e0 e1 e2 e3
      cases pk
      · have HN2 : Hid (ns = kept p (xs.take (k + 1))) := by rw [Hid, HKS.out, if_neg (by simp), List.append_nil]
        clear HKS hc0
        go_wp2
        go_roundw
        case rel => exact ⟨k + 1, A1, c1, ns, by omega, by go_num, rfl, HN2, HO2, HB2⟩
        case measure => simp [intOf]; omega
      · have HN2 : Hid (ns ++ [nm] = kept p (xs.take (k + 1))) := by rw [Hid, HKS.out, if_pos rfl]
        clear HKS
        go_wp2_with (at_builtin; refine wpList_push _ rfl (.tmp 18) (.tmp 21) _ rfl w.heap.size 9 i0 _ 1 16 Try.underlying23 hi0 hz0 hz1 hz2 rfl (by omega) (by omega) A1 ns.length c1 1 1 (texts ns) [.string nm] (by exact HO2.out.alloc _) rfl ⟨w2.heap.size, 0, none⟩ rfl rfl (World.news_of_block (cs := #[.string nm]) (t := 9) (fr := (0, 0)) (by exact heap_alloc_new w2 _)) (by simp [Value.oneCell']) (by omega) (by omega) (by simp; omega) ?_; intro A' c' w5 hown hgrow hat hkeep)
        have HO5 : Hid (w5.ownsRow w.heap.size 9 1 (.slice A' (ns ++ [nm]).length c') (ns ++ [nm]).length (texts (ns ++ [nm]))) := by
          have e : texts (ns ++ [nm]) = texts ns ++ [.string nm] := by simp [texts]
          rw [Hid, e]
          simpa using hown
        have HB5 := Lib.hid (below_push (HB2.out.alloc zz2 _) (HO2.out.alloc _) (Nat.le_refl _) (by simp; omega) hgrow)
        clear hown hgrow hat hkeep HO2 HB2 hc0
        go_roundw
        case rel => exact ⟨k + 1, A', c', ns ++ [nm], by omega, by go_num, by simp, HN2, HO5, HB5⟩
        case measure => simp [intOf]; omega
    · obtain rfl : k = xs.length := by omega
      have hkn : ns = kept p xs := by have := HN.out; rw [List.take_length] at this; exact this
      subst hkn
      have HS := Lib.hid (sorted_any (c := c1) (kept p xs) wr (Reads.of_own HO.out) hnl)
      generalize kept p xs = ks at *
      go_wp2_with fail
      refine HS.out.mono ?_
      rintro e w2 ⟨A2, c2, rfl, o2, s2⟩
      have HO2 := Lib.hid (own_base o2 zz)
      have HB2 := Lib.hid (HB.out.trans (s2.mono zz))
      clear o2 s2 HS
      go_wp2
      go_ret
      exact ⟨A2, c2, rfl, HO2.out, HB2.out⟩
end Go.Proofs.Ytdaamgonendkkaa
namespace Go.Proofs.Ytdaamgonendkkaa
open Go Go.RowKit

def Obj.two (x : Obj) : List Value := [.slice x.sA x.secs.length x.sc, .slice x.yA x.syms.length x.yc]
theorem sPlace_bd (ys : List Sym) (nm : ByteArray) : -1 ≤ sPlace ys nm ∧ sPlace ys nm < ys.length := idxOf_lt _ _
set_option maxHeartbeats 1000000 in
theorem chg1_any (x : Obj) (s : Sym) (g : Nat) (w : World) (hg : Blk w g 47 x.two.toArray) (h : x.At w w.heap.size) (hs : x.small) (hc : x.syms.length ≤ x.yc) :
    Calls Try.prog 58 #[s.val, .pointer (some ⟨g, 0, none⟩)] w (Gives w (.bool (decide (symOf x.secs x.syms s.name < 0)))) := by
  have hA := (h.below ((Below.refl _ _).alloc (Nat.le_refl _) (.cells #[Value.string s.name, Value.int .i64 s.bind, Value.int .i64 s.where_, Value.int .i64 s.value] 55))).more (B' := (w.alloc (.cells #[Value.string s.name, Value.int .i64 s.bind, Value.int .i64 s.where_, Value.int .i64 s.value] 55)).heap.size) (by simp)
  have HC := Lib.hid (implSymOf_any x s.name _ hA (Nat.le_refl _) hs hc)
  have e0 : (w.alloc (.cells #[Value.string s.name, Value.int .i64 s.bind, Value.int .i64 s.where_, Value.int .i64 s.value] 55)).cell? ⟨g, 0, none⟩ = some (.slice x.sA x.secs.length x.sc) := (hg.alloc _).cell 0
  have e1 : (w.alloc (.cells #[Value.string s.name, Value.int .i64 s.bind, Value.int .i64 s.where_, Value.int .i64 s.value] 55)).cell? ⟨g, 1, none⟩ = some (.slice x.yA x.syms.length x.yc) := (hg.alloc _).cell 1
  have d0 : w.cell? ⟨g, 0, none⟩ = some (.slice x.sA x.secs.length x.sc) := hg.cell 0
  have d1 : w.cell? ⟨g, 1, none⟩ = some (.slice x.yA x.syms.length x.yc) := hg.cell 1
  have hgl := hg.lt
  have HB : Hid (Below w.heap.size w (w.alloc (.cells #[Value.string s.name, Value.int .i64 s.bind, Value.int .i64 s.where_, Value.int .i64 s.value] 55))) := (Below.refl _ _).alloc (Nat.le_refl _) _
  clear hg h hs hc hA
  generalize symOf x.secs x.syms s.name = z at *
  obtain ⟨nm, bd, wh, vl⟩ := s
  simp only [Sym.val, Obj.val] at *
  go_enter Try.func58, Try.ntmps58
  go_wp2_with fail
  refine HC.out.mono ?_
  rintro e w2 ⟨rfl, s2⟩
  have HB2 := Lib.hid (HB.out.trans (s2.mono HB.out.size))
  clear s2 HC HB
  go_wp2
  go_ret
  exact ⟨rfl, HB2.out⟩
set_option maxHeartbeats 1000000 in
theorem chg2_any (x : Obj) (s : Sym) (g : Nat) (w : World) (hg : Blk w g 47 x.two.toArray) (h : x.At w w.heap.size) (hs : x.small) (hc : x.syms.length ≤ x.yc) :
    Calls Try.prog 59 #[s.val, .pointer (some ⟨g, 0, none⟩)] w (Gives w (.bool (decide (symOf x.secs x.syms s.name < 0)))) := by
  have hA := (h.below ((Below.refl _ _).alloc (Nat.le_refl _) (.cells #[Value.string s.name, Value.int .i64 s.bind, Value.int .i64 s.where_, Value.int .i64 s.value] 55))).more (B' := (w.alloc (.cells #[Value.string s.name, Value.int .i64 s.bind, Value.int .i64 s.where_, Value.int .i64 s.value] 55)).heap.size) (by simp)
  have HC := Lib.hid (implSymOf_any x s.name _ hA (Nat.le_refl _) hs hc)
  have e0 : (w.alloc (.cells #[Value.string s.name, Value.int .i64 s.bind, Value.int .i64 s.where_, Value.int .i64 s.value] 55)).cell? ⟨g, 0, none⟩ = some (.slice x.sA x.secs.length x.sc) := (hg.alloc _).cell 0
  have e1 : (w.alloc (.cells #[Value.string s.name, Value.int .i64 s.bind, Value.int .i64 s.where_, Value.int .i64 s.value] 55)).cell? ⟨g, 1, none⟩ = some (.slice x.yA x.syms.length x.yc) := (hg.alloc _).cell 1
  have d0 : w.cell? ⟨g, 0, none⟩ = some (.slice x.sA x.secs.length x.sc) := hg.cell 0
  have d1 : w.cell? ⟨g, 1, none⟩ = some (.slice x.yA x.syms.length x.yc) := hg.cell 1
  have hgl := hg.lt
  have HB : Hid (Below w.heap.size w (w.alloc (.cells #[Value.string s.name, Value.int .i64 s.bind, Value.int .i64 s.where_, Value.int .i64 s.value] 55))) := (Below.refl _ _).alloc (Nat.le_refl _) _
  clear hg h hs hc hA
  generalize symOf x.secs x.syms s.name = z at *
  obtain ⟨nm, bd, wh, vl⟩ := s
  simp only [Sym.val, Obj.val] at *
  go_enter Try.func59, Try.ntmps59
  go_wp2_with fail
  refine HC.out.mono ?_
  rintro e w2 ⟨rfl, s2⟩
  have HB2 := Lib.hid (HB.out.trans (s2.mono HB.out.size))
  clear s2 HC HB
  go_wp2
  go_ret
  exact ⟨rfl, HB2.out⟩
end Go.Proofs.Ytdaamgonendkkaa
namespace Go.Proofs.Ytdaamgonendkkaa
open Go Go.RowKit

/-- What the program's last closure answers of a name. -/
noncomputable def pOther (xs ys : List Sym) (nm : ByteArray) : Bool := decide (0 ≤ sPlace ys nm) && !decide (xs[(sPlace xs nm).toNat]? = ys[(sPlace ys nm).toNat]?)
set_option maxRecDepth 100000 in
set_option maxHeartbeats 4000000 in
theorem chg3_any (x y : Obj) (s : Sym) (ga gb : Nat) (w : World) (hga : Blk w ga 47 x.two.toArray) (hgb : Blk w gb 47 y.two.toArray) (hx : x.At w w.heap.size) (hy : y.At w w.heap.size) (hsx : x.small) (hsy : y.small) (hcx : x.syms.length ≤ x.yc) (hcy : y.syms.length ≤ y.yc)
    (hox : objOk x.secs x.syms = true) (hoy : objOk y.secs y.syms = true) (h0 : 0 ≤ sPlace x.syms s.name) :
    Calls Try.prog 60 #[s.val, .pointer (some ⟨ga, 0, none⟩), .pointer (some ⟨gb, 0, none⟩)] w (Gives w (.bool (pOther x.syms y.syms s.name))) := by
  obtain ⟨nm, bd, wh, vl⟩ := s
  simp only at h0
  have hzx : symOf x.secs x.syms nm = sPlace x.syms nm := symOf_yes hox
  have hzy : symOf y.secs y.syms nm = sPlace y.syms nm := symOf_yes hoy
  obtain ⟨wS, hwS⟩ : ∃ wS, wS = w.alloc (.cells #[Value.string nm, Value.int .i64 bd, Value.int .i64 wh, Value.int .i64 vl] 55) := ⟨_, rfl⟩
  have HWS : Hid (Below w.heap.size w wS) := by rw [hwS]; exact (Below.refl _ _).alloc (Nat.le_refl _) _
  have HA : Hid (Blk wS ga 47 x.two.toArray) := by rw [hwS]; exact hga.alloc _
  have HB : Hid (Blk wS gb 47 y.two.toArray) := by rw [hwS]; exact hgb.alloc _
  have HXA : Hid (x.At wS wS.heap.size) := (hx.below HWS.out).more HWS.out.size
  have HYA : Hid (y.At wS wS.heap.size) := (hy.below HWS.out).more HWS.out.size
  obtain ⟨gs, hgs⟩ : ∃ gs, gs = w.heap.size := ⟨_, rfl⟩
  have HS0 : Hid (Blk wS gs 55 #[Value.string nm, Value.int .i64 bd, Value.int .i64 wh, Value.int .i64 vl]) := by rw [hwS, hgs]; exact Blk.new _ _ _
  have HX : Hid (∀ wr, Below wS.heap.size wS wr → Calls Try.prog 24 #[x.val, .string nm] wr (Gives wr (.int .i64 (sPlace x.syms nm)))) := fun wr hb => by
    have h := implSymOf_any x nm wr ((HXA.out.below hb).more hb.size) (Nat.le_refl _) hsx hcx
    rw [hzx] at h
    exact h
  have HY : Hid (∀ wr, Below wS.heap.size wS wr → Calls Try.prog 24 #[y.val, .string nm] wr (Gives wr (.int .i64 (sPlace y.syms nm)))) := fun wr hb => by
    have h := implSymOf_any y nm wr ((HYA.out.below hb).more hb.size) (Nat.le_refl _) hsy hcy
    rw [hzy] at h
    exact h
  obtain ⟨res, hres⟩ : ∃ res, res = pOther x.syms y.syms nm := ⟨_, rfl⟩
  have HV : Hid (res = (decide (0 ≤ sPlace y.syms nm) && !decide (x.syms[(sPlace x.syms nm).toNat]? = y.syms[(sPlace y.syms nm).toNat]?))) := hres
  have hi1 := (sPlace_bd x.syms nm).2
  have hk1 := (sPlace_bd y.syms nm).2
  show Calls Try.prog 60 #[.agg #[Value.string nm, Value.int .i64 bd, Value.int .i64 wh, Value.int .i64 vl], .pointer (some ⟨ga, 0, none⟩), .pointer (some ⟨gb, 0, none⟩)] w (Gives w (.bool (pOther x.syms y.syms nm)))
  rw [← hres]
  have hi0 := h0
  have HLM : Hid (∀ wZ, wZ = w → True) := fun _ _ => trivial
  clear hga hgb hx hy hsx hsy hcx hcy hox hoy hzx hzy h0 hres HLM
  generalize sPlace x.syms nm = zi at *
  generalize sPlace y.syms nm = zk at *
  go_enter Try.func60, Try.ntmps60
  go_wp2
  rw [← hwS, ← hgs]
  clear hwS hgs
  refine wp_region_facts (fun i v _ => match i with
      | 0 => v = x.val
      | 1 => v = .pointer (some ⟨gs, 0, none⟩)
      | 2 => v = .string nm
      | 3 => v = .int .i64 zi
      | 4 => v = y.val
      | 5 => v = .pointer (some ⟨gs, 0, none⟩)
      | 6 => v = .string nm
      | 7 => v = .int .i64 zk
      | 8 => v = .int .i64 zi
      | _ => v = .int .i64 zk)
    (fun _ _ wq => Below wS.heap.size wS wq) (fun _ _ => True) (by kernel_rfl) (by kernel_rfl) ?_ ?_ ?_ ?_
  · intro i v u u2 _ h
    exact h
  · intro fl _ _
    exact below_drewN (Below.refl _ _) 1
  · refine ⟨?_, ?_, ?_, ?_, ?_, ?_, ?_, ?_, ?_, ?_, trivial⟩
    all_goals intro fl vs wr a1 hc hG hfi hcl hp K hK
    · have e1 : a1.eval (.tmp 1) = .pointer (some ⟨ga, 0, none⟩) := hc.ev0 1 rfl
      have c0 : wr.cell? ⟨ga, 0, none⟩ = some (.slice x.sA x.secs.length x.sc) := (hG.cell HA.out.lt).trans (HA.out.cell 0)
      have c1 : wr.cell? ⟨ga, 1, none⟩ = some (.slice x.yA x.syms.length x.yc) := (hG.cell HA.out.lt).trans (HA.out.cell 1)
      unfold Oper.wp execOp
      simp only [e1]
      go_simp
      exact hK _ _ trivial rfl hG
    · have e1 : a1.eval (.tmp 3) = .pointer (some ⟨gs, 0, none⟩) := hc.ev0 3 rfl
      unfold Oper.wp execOp
      simp only [e1]
      go_simp
      exact hK _ _ trivial rfl hG
    · have e1 := hc.ev 8 1 rfl
      rw [show vs 1 = _ from (hp 1 (by kernel_rfl)).2] at e1
      have c0 : wr.cell? ⟨gs, 0, none⟩ = some (.string nm) := (hG.cell HS0.out.lt).trans (HS0.out.cell 0)
      unfold Oper.wp execOp
      simp only [e1]
      go_simp
      exact hK _ _ trivial rfl hG
    · have e1 := hc.ev 7 0 rfl
      rw [show vs 0 = _ from (hp 0 (by kernel_rfl)).2] at e1
      have e2 := hc.ev 9 2 rfl
      rw [show vs 2 = _ from (hp 2 (by kernel_rfl)).2] at e2
      refine op_call rfl (vs := #[x.val, .string nm]) (by simp only [List.map_toArray, List.map_cons, List.map_nil, e1, e2]) (by kernel_rfl) (HX.out wr hG) ?_
      rintro e w' ⟨rfl, hb⟩
      exact ⟨_, rfl, hK _ _ trivial rfl (hG.trans (hb.mono hG.size))⟩
    · have e1 : a1.eval (.tmp 2) = .pointer (some ⟨gb, 0, none⟩) := hc.ev0 2 rfl
      have c0 : wr.cell? ⟨gb, 0, none⟩ = some (.slice y.sA y.secs.length y.sc) := (hG.cell HB.out.lt).trans (HB.out.cell 0)
      have c1 : wr.cell? ⟨gb, 1, none⟩ = some (.slice y.yA y.syms.length y.yc) := (hG.cell HB.out.lt).trans (HB.out.cell 1)
      unfold Oper.wp execOp
      simp only [e1]
      go_simp
      exact hK _ _ trivial rfl hG
    · have e1 : a1.eval (.tmp 3) = .pointer (some ⟨gs, 0, none⟩) := hc.ev0 3 rfl
      unfold Oper.wp execOp
      simp only [e1]
      go_simp
      exact hK _ _ trivial rfl hG
    · have e1 := hc.ev 12 5 rfl
      rw [show vs 5 = _ from (hp 5 (by kernel_rfl)).2] at e1
      have c0 : wr.cell? ⟨gs, 0, none⟩ = some (.string nm) := (hG.cell HS0.out.lt).trans (HS0.out.cell 0)
      unfold Oper.wp execOp
      simp only [e1]
      go_simp
      exact hK _ _ trivial rfl hG
    · have e1 := hc.ev 11 4 rfl
      rw [show vs 4 = _ from (hp 4 (by kernel_rfl)).2] at e1
      have e2 := hc.ev 13 6 rfl
      rw [show vs 6 = _ from (hp 6 (by kernel_rfl)).2] at e2
      refine op_call rfl (vs := #[y.val, .string nm]) (by simp only [List.map_toArray, List.map_cons, List.map_nil, e1, e2]) (by kernel_rfl) (HY.out wr hG) ?_
      rintro e w' ⟨rfl, hb⟩
      exact ⟨_, rfl, hK _ _ trivial rfl (hG.trans (hb.mono hG.size))⟩
    · refine op_assign rfl ?_
      rw [hc.ev 10 3 rfl]
      exact hK _ _ trivial (hp 3 (by kernel_rfl)).2 hG
    · refine op_assign rfl ?_
      rw [hc.ev 14 7 rfl]
      exact hK _ _ trivial (hp 7 (by kernel_rfl)).2 hG
  · intro fl vs w9 hfl hG hF
    have h8 : vs 8 = .int .i64 zi := hF 8 (by simp)
    have h9 : vs 9 = .int .i64 zk := hF 9 (by simp)
    have HB9 := Lib.hid hG
    have HBW := Lib.hid (HWS.out.trans (hG.mono HWS.out.size))
    clear hG hF hfl HX HY
    have ca1 : w9.cell? ⟨ga, 1, none⟩ = some (.slice x.yA x.syms.length x.yc) := (HB9.out.cell HA.out.lt).trans (HA.out.cell 1)
    have cb1 : w9.cell? ⟨gb, 1, none⟩ = some (.slice y.yA y.syms.length y.yc) := (HB9.out.cell HB.out.lt).trans (HB.out.cell 1)
    simp only [fill]
    go_simp
    clear h8 h9
    by_cases hk : zk < 0
    · have hd : decide (0 ≤ zk) = false := decide_eq_false (by omega)
      have hn : ¬ 0 ≤ zk := by omega
      have HR : Hid (res = false) := by rw [Hid, HV.out, hd, Bool.false_and]
      clear hk HV
      go_wp2
      go_quiet (fail)
      go_wp2
      go_ret
      rw [HR.out]
      exact ⟨rfl, below_drewN HBW.out _⟩
    · have hd : decide (0 ≤ zk) = true := decide_eq_true (by omega)
      have hn : 0 ≤ zk := by omega
      obtain ⟨i, rfl⟩ := Int.eq_ofNat_of_zero_le hi0
      obtain ⟨k, rfl⟩ := Int.eq_ofNat_of_zero_le hn
      have hil : i < x.syms.length := by omega
      have hkl : k < y.syms.length := by omega
      have hil' : (i : Int) < (x.syms.length : Int) := by omega
      have hkl' : (k : Int) < (y.syms.length : Int) := by omega
      have HV2 : Hid (res = !decide (x.syms[i] = y.syms[k])) := by
        rw [Hid, HV.out, hd, Bool.true_and, Int.toNat_natCast, Int.toNat_natCast, List.getElem?_eq_getElem hil, List.getElem?_eq_getElem hkl]
        simp
      obtain ⟨b, off, hA1, _, a0, a1, a2, a3⟩ := Sym.at_ ((HXA.out.2).below HB9.out) hil
      obtain ⟨b', off', hB1, _, b0, b1, b2, b3⟩ := Sym.at_ ((HYA.out.2).below HB9.out) hkl
      rw [hA1] at ca1
      rw [hB1] at cb1
      have HEQ : Hid (∀ p q : Sym, p = q ↔ p.name = q.name ∧ p.bind = q.bind ∧ p.where_ = q.where_ ∧ p.value = q.value) := fun p q => ⟨fun h => by subst h; exact ⟨rfl, rfl, rfl, rfl⟩, fun h => by
        cases p; cases q; simp only [Sym.mk.injEq]; exact h⟩
      have HT : Hid (x.syms[i].name = y.syms[k].name ∧ x.syms[i].bind = y.syms[k].bind ∧ x.syms[i].where_ = y.syms[k].where_ ∧ x.syms[i].value = y.syms[k].value → res = false) := fun h => by rw [HV2.out, decide_eq_true ((HEQ.out _ _).2 h)]; rfl
      have HN : Hid (¬ (x.syms[i].name = y.syms[k].name ∧ x.syms[i].bind = y.syms[k].bind ∧ x.syms[i].where_ = y.syms[k].where_ ∧ x.syms[i].value = y.syms[k].value) → res = true) := fun h => by rw [HV2.out, decide_eq_false (fun e => h ((HEQ.out _ _).1 e))]; rfl
      clear HV HV2 HEQ hA1 hB1 hi0 hn hi1 hk1 HXA HYA
      generalize x.syms[i].name = x0 at *
      generalize x.syms[i].bind = x1 at *
      generalize x.syms[i].where_ = x2 at *
      generalize x.syms[i].value = x3 at *
      generalize y.syms[k].name = y0 at *
      generalize y.syms[k].bind = y1 at *
      generalize y.syms[k].where_ = y2 at *
      generalize y.syms[k].value = y3 at *
      have hi9 : (0 : Int) ≤ (i : Int) := Int.natCast_nonneg _
      have hk9 : (0 : Int) ≤ (k : Int) := Int.natCast_nonneg _
      by_cases t0 : x0 = y0
      · subst t0
        by_cases t1 : x1 = y1
        · subst t1
          by_cases t2 : x2 = y2
          · subst t2
            by_cases t3 : x3 = y3
            · subst t3
              have HR := Lib.hid (HT.out ⟨rfl, rfl, rfl, rfl⟩)
              clear HT HN
              go_wp2
              go_quiet (fail)
              go_wp2
              go_ret
              rw [HR.out]
              exact ⟨rfl, below_drewN HBW.out _⟩
            · have HR := Lib.hid (HN.out (fun h => t3 h.2.2.2))
              have hne : (x3 == y3) = false := by rw [beq_eq_false_iff_ne]; exact t3
              clear HT HN
              go_wp2
              go_quiet (fail)
              go_wp2
              go_ret
              rw [HR.out]
              exact ⟨rfl, below_drewN HBW.out _⟩
          · have HR := Lib.hid (HN.out (fun h => t2 h.2.2.1))
            have hne : (x2 == y2) = false := by rw [beq_eq_false_iff_ne]; exact t2
            clear HT HN
            go_wp2
            go_quiet (fail)
            go_wp2
            go_ret
            rw [HR.out]
            exact ⟨rfl, below_drewN HBW.out _⟩
        · have HR := Lib.hid (HN.out (fun h => t1 h.2.1))
          have hne : (x1 == y1) = false := by rw [beq_eq_false_iff_ne]; exact t1
          clear HT HN
          go_wp2
          go_quiet (fail)
          go_wp2
          go_ret
          rw [HR.out]
          exact ⟨rfl, below_drewN HBW.out _⟩
      · have HR := Lib.hid (HN.out (fun h => t0 h.1))
        have hne : (x0.toList == y0.toList) = false := by rw [beq_eq_false_iff_ne]; exact fun h => t0 (toList_inj h)
        clear HT HN t0
        go_wp2
        go_quiet (fail)
        go_wp2
        go_ret
        rw [HR.out]
        exact ⟨rfl, below_drewN HBW.out _⟩
end Go.Proofs.Ytdaamgonendkkaa
namespace Go.Proofs.Ytdaamgonendkkaa
open Go Go.RowKit

/-- What the program finds: more, less, otherwise. -/
noncomputable def moreI (x y : Obj) : List ByteArray := (sortL (kept (fun s => decide (symOf x.secs x.syms s.name < 0)) y.syms)).map mk8
noncomputable def otherI (x y : Obj) : List ByteArray := (sortL (kept (fun s => pOther x.syms y.syms s.name) x.syms)).map mk8
noncomputable def bothOk (x y : Obj) : Bool := objOk x.secs x.syms && objOk y.secs y.syms
noncomputable def chMore (x y : Obj) : List ByteArray := if bothOk x y = true then moreI x y else []
noncomputable def chOther (x y : Obj) : List ByteArray := if bothOk x y = true then otherI x y else []
/-- Three lists of names in rows of their own. -/
def GaveChg (l1 l2 l3 : List ByteArray) (w : World) (e : Ending) (w' : World) : Prop := ∃ (A1 : Option Addr) (c1 : Nat) (A2 : Option Addr) (c2 : Nat) (A3 : Option Addr) (c3 : Nat), e = .returned (.agg #[.slice A1 l1.length c1, .slice A2 l2.length c2, .slice A3 l3.length c3]) ∧ w'.ownsRow w.heap.size 9 1 (.slice A1 l1.length c1) l1.length (texts l1) ∧ w'.ownsRow w.heap.size 9 1 (.slice A2 l2.length c2) l2.length (texts l2) ∧ w'.ownsRow w.heap.size 9 1 (.slice A3 l3.length c3) l3.length (texts l3) ∧
    (∀ a b, A1 = some a → A2 = some b → a.block ≠ b.block) ∧ (∀ a b, A1 = some a → A3 = some b → a.block ≠ b.block) ∧ (∀ a b, A2 = some a → A3 = some b → a.block ≠ b.block) ∧ Below w.heap.size w w'
theorem objOk_len {secs : List Sec} {ys : List Sym} (h : objOk secs ys = true) : ys.length ≤ 12 := (@of_decide_eq_true _ (Classical.propDecidable _) h : ObjGood secs ys).2.1
theorem sPlace_mem {ys : List Sym} {s : Sym} (h : s ∈ ys) : 0 ≤ sPlace ys s.name := by
  have h2 := idxOf_any (fun t : Sym => decide (t.name = s.name)) ys
  have h3 : ys.any (fun t : Sym => decide (t.name = s.name)) = true := List.any_eq_true.2 ⟨s, h, by simp⟩
  rw [h3] at h2
  exact of_decide_eq_true h2
theorem own_blk2 {w : World} {base size n c : Nat} {t : TypeId} {A : Option Addr} {xs : List Value} (q : w.ownsRow base t size (.slice A n c) n xs) : ∀ g, (Value.slice A n c).ownBlock = some g → base ≤ g ∧ g < w.heap.size := fun g hg => by
  cases A with
  | none => cases hg
  | some a =>
    have h1 : a.block = g := by simpa [Value.ownBlock] using hg
    have := own_up q a rfl
    omega
def ApV (u v : Value) : Prop := ∀ g, u.ownBlock = some g → v.ownBlock ≠ some g
theorem ApV.apart {A B : Option Addr} {n m c d : Nat} (h : ApV (.slice A n c) (.slice B m d)) : ∀ a b, A = some a → B = some b → a.block ≠ b.block := fun a b ha hb e => by
  subst ha hb
  exact h a.block (by simp [Value.ownBlock]) (by simp [Value.ownBlock, e])
set_option maxRecDepth 100000 in
set_option maxHeartbeats 8000000 in
theorem implChanges_any (x y : Obj) (w : World) (hx : x.At w w.heap.size) (hy : y.At w w.heap.size) (hsx : x.small) (hsy : y.small) (hcx : x.syms.length ≤ x.yc) (hcy : y.syms.length ≤ y.yc) :
    Calls Try.prog 29 #[x.val, y.val] w (GaveChg (chMore x y) (chMore y x) (chOther x y) w) := by
  obtain ⟨wA, hwA⟩ : ∃ wA, wA = ((w.alloc (.cells #[.slice x.sA x.secs.length x.sc, .slice x.yA x.syms.length x.yc] 47)).alloc (.cells #[.slice y.sA y.secs.length y.sc, .slice y.yA y.syms.length y.yc] 47)).alloc (.cells #[.slice none 0 0, .slice none 0 0, .slice none 0 0] 25) := ⟨_, rfl⟩
  obtain ⟨ga, hga⟩ : ∃ ga, ga = w.heap.size := ⟨_, rfl⟩
  obtain ⟨gb, hgb⟩ : ∃ gb, gb = w.heap.size + 1 := ⟨_, rfl⟩
  obtain ⟨g4, hg4⟩ : ∃ g4, g4 = w.heap.size + 1 + 1 := ⟨_, rfl⟩
  have HWA : Hid (Below w.heap.size w wA) := by rw [hwA]; exact below_new3 w _ _ _
  have HA : Hid (Blk wA ga 47 x.two.toArray) := by rw [hwA, hga]; exact blk_new1 w 47 x.two.toArray _ _
  have HB : Hid (Blk wA gb 47 y.two.toArray) := by rw [hwA, hgb]; exact blk_new2 w 47 y.two.toArray _ _
  have H4 : Hid (Blk wA g4 25 #[.slice none 0 0, .slice none 0 0, .slice none 0 0]) := by rw [hwA, hg4]; exact blk_new3 w 25 #[.slice none 0 0, .slice none 0 0, .slice none 0 0] _ _
  have hgs : w.heap.size ≤ ga ∧ ga < g4 ∧ gb < g4 ∧ w.heap.size ≤ gb := by omega
  have HGS := Lib.hid hgs
  clear hgs
  have HXA : Hid (∀ w', Below w.heap.size w w' → x.At w' w'.heap.size) := fun w' hb => (hx.below hb).more hb.size
  have HYA : Hid (∀ w', Below w.heap.size w w' → y.At w' w'.heap.size) := fun w' hb => (hy.below hb).more hb.size
  have HVX := Lib.hid (fun w' (hb : Below w.heap.size w w') => implObj_any x w' (HXA.out w' hb) (Nat.le_refl _) hsx hcx)
  have HVY := Lib.hid (fun w' (hb : Below w.heap.size w w') => implObj_any y w' (HYA.out w' hb) (Nat.le_refl _) hsy hcy)
  have HSX := Lib.hid hsx
  have HSY := Lib.hid hsy
  clear hx hy hsx hsy
  simp only [Obj.val] at HVX HVY ⊢
  go_enter Try.func29, Try.ntmps29
  have ea0 : wA.cell? ⟨ga, 0, none⟩ = some (.slice x.sA x.secs.length x.sc) := HA.out.cell 0
  have ea1 : wA.cell? ⟨ga, 1, none⟩ = some (.slice x.yA x.syms.length x.yc) := HA.out.cell 1
  go_upto_region 1 with fail
  rw [← hwA, ← hg4, ← hgb, ← hga]
  clear hwA hga hgb hg4
  go_wp2_with fail
  refine (HVX.out wA HWA.out).mono ?_
  rintro e w1 ⟨rfl, s1⟩
  have HW1 := Lib.hid (HWA.out.trans (s1.mono HWA.out.size))
  have HA1 := Lib.hid (HA.out.below s1 HA.out.lt)
  have HB1 := Lib.hid (HB.out.below s1 HB.out.lt)
  have H41 := Lib.hid (H4.out.below s1 H4.out.lt)
  clear s1 HWA HA HB H4 ea0 ea1 HVX
  have eb0 : w1.cell? ⟨gb, 0, none⟩ = some (.slice y.sA y.secs.length y.sc) := HB1.out.cell 0
  have eb1 : w1.cell? ⟨gb, 1, none⟩ = some (.slice y.yA y.syms.length y.yc) := HB1.out.cell 1
  cases hox : objOk x.secs x.syms
  · have HR1 : Hid (chMore x y = []) := if_neg (by unfold bothOk; rw [hox]; simp)
    have HR2 : Hid (chMore y x = []) := if_neg (by unfold bothOk; rw [hox]; simp)
    have HR3 : Hid (chOther x y = []) := if_neg (by unfold bothOk; rw [hox]; simp)
    clear hox
    have z0 : w1.cell? ⟨g4, 0, none⟩ = some (.slice none 0 0) := H41.out.cell 0
    have z1 : w1.cell? ⟨g4, 1, none⟩ = some (.slice none 0 0) := H41.out.cell 1
    have z2 : w1.cell? ⟨g4, 2, none⟩ = some (.slice none 0 0) := H41.out.cell 2
    have f0 : w1.frozen? ⟨g4, 0, none⟩ = false := H41.out.frozen 0
    have f1 : w1.frozen? ⟨g4, 1, none⟩ = false := H41.out.frozen 1
    have f2 : w1.frozen? ⟨g4, 2, none⟩ = false := H41.out.frozen 2
    have q1 := (((H41.out.set_ 0 (.slice none 0 0)).set_ 1 (.slice none 0 0)).set_ 2 (.slice none 0 0))
    have HQ := Lib.hid q1
    have HBF := Lib.hid (((HW1.out.setCell (p := ⟨g4, 0, none⟩) (by have hh := HGS.out; simp only; omega) (.slice none 0 0)).setCell (p := ⟨g4, 1, none⟩) (by have hh := HGS.out; simp only; omega) (.slice none 0 0)).setCell (p := ⟨g4, 2, none⟩) (by have hh := HGS.out; simp only; omega) (.slice none 0 0))
    clear q1
    go_wp2
    generalize World.setCell _ ⟨g4, 2, none⟩ _ = WF at HQ HBF ⊢
    have y0 : WF.cell? ⟨g4, 0, none⟩ = some (.slice none 0 0) := HQ.out.cell 0
    have y1 : WF.cell? ⟨g4, 1, none⟩ = some (.slice none 0 0) := HQ.out.cell 1
    have y2 : WF.cell? ⟨g4, 2, none⟩ = some (.slice none 0 0) := HQ.out.cell 2
    refine bodyPost_ret (v := .agg #[.slice none 0 0, .slice none 0 0, .slice none 0 0]) (by simp [results, Try.results29, go_sem, y0, y1, y2]) rfl ?_
    have HG0 : GaveChg (chMore x y) (chMore y x) (chOther x y) w (.returned (.agg #[.slice none 0 0, .slice none 0 0, .slice none 0 0])) WF := by
      rw [HR1.out, HR2.out, HR3.out]
      exact ⟨none, 0, none, 0, none, 0, rfl, ⟨rfl, .inl ⟨rfl, rfl⟩⟩, ⟨rfl, .inl ⟨rfl, rfl⟩⟩, ⟨rfl, .inl ⟨rfl, rfl⟩⟩, (fun a b h => by cases h), (fun a b h => by cases h), (fun a b h => by cases h), HBF.out⟩
    exact HG0
  · have HOX := Lib.hid hox
    clear hox
    go_wp2_with fail
    refine (HVY.out w1 HW1.out).mono ?_
    rintro e w2 ⟨rfl, s2⟩
    have HW2 := Lib.hid (HW1.out.trans (s2.mono HW1.out.size))
    have HA2 := Lib.hid (HA1.out.below s2 HA1.out.lt)
    have HB2 := Lib.hid (HB1.out.below s2 HB1.out.lt)
    have H42 := Lib.hid (H41.out.below s2 H41.out.lt)
    clear s2 HW1 HA1 HB1 H41 eb0 eb1 HVY
    cases hoy : objOk y.secs y.syms
    · have HR1 : Hid (chMore x y = []) := if_neg (by unfold bothOk; rw [hoy]; simp)
      have HR2 : Hid (chMore y x = []) := if_neg (by unfold bothOk; rw [hoy]; simp)
      have HR3 : Hid (chOther x y = []) := if_neg (by unfold bothOk; rw [hoy]; simp)
      clear hoy
      have z0 : w2.cell? ⟨g4, 0, none⟩ = some (.slice none 0 0) := H42.out.cell 0
      have z1 : w2.cell? ⟨g4, 1, none⟩ = some (.slice none 0 0) := H42.out.cell 1
      have z2 : w2.cell? ⟨g4, 2, none⟩ = some (.slice none 0 0) := H42.out.cell 2
      have f0 : w2.frozen? ⟨g4, 0, none⟩ = false := H42.out.frozen 0
      have f1 : w2.frozen? ⟨g4, 1, none⟩ = false := H42.out.frozen 1
      have f2 : w2.frozen? ⟨g4, 2, none⟩ = false := H42.out.frozen 2
      have q1 := (((H42.out.set_ 0 (.slice none 0 0)).set_ 1 (.slice none 0 0)).set_ 2 (.slice none 0 0))
      have HQ := Lib.hid q1
      have HBF := Lib.hid (((HW2.out.setCell (p := ⟨g4, 0, none⟩) (by have hh := HGS.out; simp only; omega) (.slice none 0 0)).setCell (p := ⟨g4, 1, none⟩) (by have hh := HGS.out; simp only; omega) (.slice none 0 0)).setCell (p := ⟨g4, 2, none⟩) (by have hh := HGS.out; simp only; omega) (.slice none 0 0))
      clear q1
      go_wp2
      generalize World.setCell _ ⟨g4, 2, none⟩ _ = WF at HQ HBF ⊢
      have y0 : WF.cell? ⟨g4, 0, none⟩ = some (.slice none 0 0) := HQ.out.cell 0
      have y1 : WF.cell? ⟨g4, 1, none⟩ = some (.slice none 0 0) := HQ.out.cell 1
      have y2 : WF.cell? ⟨g4, 2, none⟩ = some (.slice none 0 0) := HQ.out.cell 2
      refine bodyPost_ret (v := .agg #[.slice none 0 0, .slice none 0 0, .slice none 0 0]) (by simp [results, Try.results29, go_sem, y0, y1, y2]) rfl ?_
      have HG0 : GaveChg (chMore x y) (chMore y x) (chOther x y) w (.returned (.agg #[.slice none 0 0, .slice none 0 0, .slice none 0 0])) WF := by
        rw [HR1.out, HR2.out, HR3.out]
        exact ⟨none, 0, none, 0, none, 0, rfl, ⟨rfl, .inl ⟨rfl, rfl⟩⟩, ⟨rfl, .inl ⟨rfl, rfl⟩⟩, ⟨rfl, .inl ⟨rfl, rfl⟩⟩, (fun a b h => by cases h), (fun a b h => by cases h), (fun a b h => by cases h), HBF.out⟩
      exact HG0
    · have HOY := Lib.hid hoy
      have HR1 : Hid (chMore x y = moreI x y) := if_pos (by unfold bothOk; rw [hoy, HOX.out]; rfl)
      have HR2 : Hid (chMore y x = moreI y x) := if_pos (by unfold bothOk; rw [hoy, HOX.out]; rfl)
      have HR3 : Hid (chOther x y = otherI x y) := if_pos (by unfold bothOk; rw [hoy, HOX.out]; rfl)
      have HLX := Lib.hid (objOk_len HOX.out)
      have HLY := Lib.hid (objOk_len hoy)
      clear hoy
      go_wp2
      refine wp_region_facts (fun i v u => match i with
          | 0 => v = .pointer (some ⟨gb, 1, none⟩)
          | 1 => v = .slice y.yA y.syms.length y.yc
          | 2 => v = .func (.func 58) #[] #[.pointer (some ⟨ga, 0, none⟩)]
          | 3 => (∃ (A : Option Addr) (c : Nat), v = .slice A (moreI x y).length c ∧ u.ownsRow w2.heap.size 9 1 (.slice A (moreI x y).length c) (moreI x y).length (texts (moreI x y)))
          | 4 => v = .pointer (some ⟨ga, 1, none⟩)
          | 5 => v = .slice x.yA x.syms.length x.yc
          | 6 => v = .func (.func 59) #[] #[.pointer (some ⟨gb, 0, none⟩)]
          | 7 => (∃ (A : Option Addr) (c : Nat), v = .slice A (moreI y x).length c ∧ u.ownsRow w2.heap.size 9 1 (.slice A (moreI y x).length c) (moreI y x).length (texts (moreI y x)))
          | 8 => v = .pointer (some ⟨ga, 1, none⟩)
          | 9 => v = .slice x.yA x.syms.length x.yc
          | 10 => v = .func (.func 60) #[] #[.pointer (some ⟨ga, 0, none⟩), .pointer (some ⟨gb, 0, none⟩)]
          | 11 => (∃ (A : Option Addr) (c : Nat), v = .slice A (otherI x y).length c ∧ u.ownsRow w2.heap.size 9 1 (.slice A (otherI x y).length c) (otherI x y).length (texts (otherI x y)))
          | 12 => True
          | _ => True)
        (fun fl vs wq => Keeps (fun b => b ≠ g4) w2 wq ∧ Below w.heap.size w wq ∧ (fl 3 = true → (∃ (A : Option Addr) (c : Nat), vs 3 = .slice A (moreI x y).length c) ∧ ∀ g, (vs 3).ownBlock = some g → g < wq.heap.size) ∧ (fl 7 = true → (∃ (A : Option Addr) (c : Nat), vs 7 = .slice A (moreI y x).length c) ∧ ∀ g, (vs 7).ownBlock = some g → g < wq.heap.size) ∧ (fl 11 = true → (∃ (A : Option Addr) (c : Nat), vs 11 = .slice A (otherI x y).length c) ∧ ∀ g, (vs 11).ownBlock = some g → g < wq.heap.size) ∧ (fl 3 = true → fl 7 = true → ApV (vs 3) (vs 7)) ∧ (fl 3 = true → fl 11 = true → ApV (vs 3) (vs 11)) ∧ (fl 7 = true → fl 11 = true → ApV (vs 7) (vs 11)) ∧ (fl 12 = true → vs 12 = .agg #[vs 3, vs 7, vs 11]) ∧ (fl 13 = false → Blk wq g4 25 #[.slice none 0 0, .slice none 0 0, .slice none 0 0]) ∧ (fl 13 = true → Blk wq g4 25 #[vs 3, vs 7, vs 11])) (Keeps (fun b => b ≠ g4)) (by kernel_rfl) (by kernel_rfl) ?_ ?_ ?_ ?_
      · intro i v u u2 hk h
        match i, h with
        | 0, h => exact h
        | 1, h => exact h
        | 2, h => exact h
        | 3, h => exact let ⟨A, c, h1, h2⟩ := h; ⟨A, c, h1, hk.own h2 (fun g hg => by have h3 := (own_blk2 h2 g hg).1; have h4 := H42.out.lt; simp only [ne_eq]; omega)⟩
        | 4, h => exact h
        | 5, h => exact h
        | 6, h => exact h
        | 7, h => exact let ⟨A, c, h1, h2⟩ := h; ⟨A, c, h1, hk.own h2 (fun g hg => by have h3 := (own_blk2 h2 g hg).1; have h4 := H42.out.lt; simp only [ne_eq]; omega)⟩
        | 8, h => exact h
        | 9, h => exact h
        | 10, h => exact h
        | 11, h => exact let ⟨A, c, h1, h2⟩ := h; ⟨A, c, h1, hk.own h2 (fun g hg => by have h3 := (own_blk2 h2 g hg).1; have h4 := H42.out.lt; simp only [ne_eq]; omega)⟩
        | 12, h => exact h
        | _ + 13, h => exact h
      · intro fl vs hfl
        have n3 := hfl 3 (by simp)
        have n7 := hfl 7 (by simp)
        have n11 := hfl 11 (by simp)
        have n12 := hfl 12 (by simp)
        have n13 := hfl 13 (by simp)
        exact ⟨⟨Nat.le_refl _, fun _ _ _ => rfl⟩, below_drewN HW2.out 1, fun h => by simp [n3] at h, fun h => by simp [n7] at h, fun h => by simp [n11] at h, fun h => by simp [n3] at h, fun h => by simp [n3] at h, fun h => by simp [n7] at h, fun h => by simp [n12] at h, fun _ => H42.out, fun h => by simp [n13] at h⟩
      · refine ⟨?_, ?_, ?_, ?_, ?_, ?_, ?_, ?_, ?_, ?_, ?_, ?_, ?_, ?_, trivial⟩
        all_goals intro fl vs wr a1 hc hG hfi hcl hp K hK
        · have e1 : a1.eval (.tmp 3) = .pointer (some ⟨gb, 0, none⟩) := hc.ev0 3 rfl
          unfold Oper.wp execOp
          simp only [e1]
          go_simp
          exact hK _ _ (Keeps.refl _ _) rfl (by simpa [upd] using hG)
        · have e1 := hc.ev 14 0 rfl
          rw [show vs 0 = _ from (hp 0 (by kernel_rfl)).2] at e1
          have c1 : wr.cell? ⟨gb, 1, none⟩ = some (.slice y.yA y.syms.length y.yc) := (HB2.out.keeps hG.1 (by have hh := HGS.out; simp only [ne_eq]; omega)).cell 1
          unfold Oper.wp execOp
          simp only [e1]
          go_simp
          exact hK _ _ (Keeps.refl _ _) rfl (by simpa [upd] using hG)
        · have e0 : a1.eval (.tmp 2) = .pointer (some ⟨ga, 0, none⟩) := hc.ev0 2 rfl
          unfold Oper.wp execOp
          simp only [e0, List.map_toArray, List.map_cons, List.map_nil]
          go_simp
          exact hK _ _ (Keeps.refl _ _) rfl (by simpa [upd] using hG)
        · have hfi2 : fl 3 = false := hfi
          have n12 : fl 12 = false := by cases h : fl 12 with
            | false => rfl
            | true => have := hcl 12 3 (by kernel_rfl) h; rw [hfi2] at this; cases this
          have n13 : fl 13 = false := by cases h : fl 13 with
            | false => rfl
            | true => have := hcl 13 12 (by kernel_rfl) h; rw [n12] at this; cases this
          obtain ⟨hKP, hBW, k3, k7, k11, a37, a311, a711, g12, hz, hfin⟩ := hG
          have e1 := hc.ev 15 1 rfl
          rw [show vs 1 = _ from (hp 1 (by kernel_rfl)).2] at e1
          have e2 := hc.ev 16 2 rfl
          rw [show vs 2 = _ from (hp 2 (by kernel_rfl)).2] at e2
          refine op_call rfl (vs := #[.slice y.yA y.syms.length y.yc, .func (.func 58) #[] #[.pointer (some ⟨ga, 0, none⟩)]]) (by simp only [List.map_toArray, List.map_cons, List.map_nil, e1, e2]) (by kernel_rfl) (namesOf_any y.yA y.yc _ 58 #[.pointer (some ⟨ga, 0, none⟩)] (fun s => decide (symOf x.secs x.syms s.name < 0)) y.syms wr ((HYA.out wr hBW).2) (Nat.le_refl _) (by have := HLY.out; omega) (fun args w => by kernel_rfl) (fun s hs w' hb' => ?_)) ?_
          · have hbw' := hBW.trans (hb'.mono hBW.size)
            have qa := (HA2.out.keeps hKP (by have hh := HGS.out; simp only [ne_eq]; omega)).below hb' (HA2.out.keeps hKP (by have hh := HGS.out; simp only [ne_eq]; omega)).lt
            have qb := (HB2.out.keeps hKP (by have hh := HGS.out; simp only [ne_eq]; omega)).below hb' (HB2.out.keeps hKP (by have hh := HGS.out; simp only [ne_eq]; omega)).lt
            exact chg1_any x s ga w' qa (HXA.out w' hbw') HSX.out hcx
          rintro e w9 ⟨A9, c9, rfl, o9, s9⟩
          rw [show (sortL (kept (fun s => decide (symOf x.secs x.syms s.name < 0)) y.syms)).length = (moreI x y).length from (List.length_map _).symm] at o9 ⊢
          exact ⟨_, rfl, hK _ _ (Keeps.below s9) ⟨A9, c9, rfl, own_base o9 hKP.1⟩ ⟨hKP.trans (Keeps.below s9), hBW.trans (s9.mono hBW.size), fun _ => ⟨⟨A9, c9, by rw [upd_at]⟩, fun g hg => by rw [upd_at] at hg; exact (own_blk2 o9 g hg).2⟩, fun h => ⟨by simpa [upd] using (k7 (by simpa [upd] using h)).1, fun g hg => Nat.lt_of_lt_of_le ((k7 (by simpa [upd] using h)).2 g (by simpa [upd] using hg)) s9.size⟩, fun h => ⟨by simpa [upd] using (k11 (by simpa [upd] using h)).1, fun g hg => Nat.lt_of_lt_of_le ((k11 (by simpa [upd] using h)).2 g (by simpa [upd] using hg)) s9.size⟩, fun _ h2 g hg hg2 => by rw [upd_at] at hg; have h3 := (own_blk2 o9 g hg).1; have h4 := (k7 (by simpa [upd] using h2)).2 g (by simpa [upd] using hg2); omega, fun _ h2 g hg hg2 => by rw [upd_at] at hg; have h3 := (own_blk2 o9 g hg).1; have h4 := (k11 (by simpa [upd] using h2)).2 g (by simpa [upd] using hg2); omega, fun h1 h2 => by have := a711 (by simpa [upd] using h1) (by simpa [upd] using h2); simpa [upd] using this, fun h => by simp [upd, n12] at h, fun _ => (hz n13).below s9 (hz n13).lt, fun h => by simp [upd, n13] at h⟩⟩
        · have e1 : a1.eval (.tmp 2) = .pointer (some ⟨ga, 0, none⟩) := hc.ev0 2 rfl
          unfold Oper.wp execOp
          simp only [e1]
          go_simp
          exact hK _ _ (Keeps.refl _ _) rfl (by simpa [upd] using hG)
        · have e1 := hc.ev 18 4 rfl
          rw [show vs 4 = _ from (hp 4 (by kernel_rfl)).2] at e1
          have c1 : wr.cell? ⟨ga, 1, none⟩ = some (.slice x.yA x.syms.length x.yc) := (HA2.out.keeps hG.1 (by have hh := HGS.out; simp only [ne_eq]; omega)).cell 1
          unfold Oper.wp execOp
          simp only [e1]
          go_simp
          exact hK _ _ (Keeps.refl _ _) rfl (by simpa [upd] using hG)
        · have e0 : a1.eval (.tmp 3) = .pointer (some ⟨gb, 0, none⟩) := hc.ev0 3 rfl
          unfold Oper.wp execOp
          simp only [e0, List.map_toArray, List.map_cons, List.map_nil]
          go_simp
          exact hK _ _ (Keeps.refl _ _) rfl (by simpa [upd] using hG)
        · have hfi2 : fl 7 = false := hfi
          have n12 : fl 12 = false := by cases h : fl 12 with
            | false => rfl
            | true => have := hcl 12 7 (by kernel_rfl) h; rw [hfi2] at this; cases this
          have n13 : fl 13 = false := by cases h : fl 13 with
            | false => rfl
            | true => have := hcl 13 12 (by kernel_rfl) h; rw [n12] at this; cases this
          obtain ⟨hKP, hBW, k3, k7, k11, a37, a311, a711, g12, hz, hfin⟩ := hG
          have e1 := hc.ev 19 5 rfl
          rw [show vs 5 = _ from (hp 5 (by kernel_rfl)).2] at e1
          have e2 := hc.ev 20 6 rfl
          rw [show vs 6 = _ from (hp 6 (by kernel_rfl)).2] at e2
          refine op_call rfl (vs := #[.slice x.yA x.syms.length x.yc, .func (.func 59) #[] #[.pointer (some ⟨gb, 0, none⟩)]]) (by simp only [List.map_toArray, List.map_cons, List.map_nil, e1, e2]) (by kernel_rfl) (namesOf_any x.yA x.yc _ 59 #[.pointer (some ⟨gb, 0, none⟩)] (fun s => decide (symOf y.secs y.syms s.name < 0)) x.syms wr ((HXA.out wr hBW).2) (Nat.le_refl _) (by have := HLX.out; omega) (fun args w => by kernel_rfl) (fun s hs w' hb' => ?_)) ?_
          · have hbw' := hBW.trans (hb'.mono hBW.size)
            have qa := (HA2.out.keeps hKP (by have hh := HGS.out; simp only [ne_eq]; omega)).below hb' (HA2.out.keeps hKP (by have hh := HGS.out; simp only [ne_eq]; omega)).lt
            have qb := (HB2.out.keeps hKP (by have hh := HGS.out; simp only [ne_eq]; omega)).below hb' (HB2.out.keeps hKP (by have hh := HGS.out; simp only [ne_eq]; omega)).lt
            exact chg2_any y s gb w' qb (HYA.out w' hbw') HSY.out hcy
          rintro e w9 ⟨A9, c9, rfl, o9, s9⟩
          rw [show (sortL (kept (fun s => decide (symOf y.secs y.syms s.name < 0)) x.syms)).length = (moreI y x).length from (List.length_map _).symm] at o9 ⊢
          exact ⟨_, rfl, hK _ _ (Keeps.below s9) ⟨A9, c9, rfl, own_base o9 hKP.1⟩ ⟨hKP.trans (Keeps.below s9), hBW.trans (s9.mono hBW.size), fun h => ⟨by simpa [upd] using (k3 (by simpa [upd] using h)).1, fun g hg => Nat.lt_of_lt_of_le ((k3 (by simpa [upd] using h)).2 g (by simpa [upd] using hg)) s9.size⟩, fun _ => ⟨⟨A9, c9, by rw [upd_at]⟩, fun g hg => by rw [upd_at] at hg; exact (own_blk2 o9 g hg).2⟩, fun h => ⟨by simpa [upd] using (k11 (by simpa [upd] using h)).1, fun g hg => Nat.lt_of_lt_of_le ((k11 (by simpa [upd] using h)).2 g (by simpa [upd] using hg)) s9.size⟩, fun h1 _ g hg hg2 => by rw [upd_at] at hg2; have h3 := (own_blk2 o9 g hg2).1; have h4 := (k3 (by simpa [upd] using h1)).2 g (by simpa [upd] using hg); omega, fun h1 h2 => by have := a311 (by simpa [upd] using h1) (by simpa [upd] using h2); simpa [upd] using this, fun _ h2 g hg hg2 => by rw [upd_at] at hg; have h3 := (own_blk2 o9 g hg).1; have h4 := (k11 (by simpa [upd] using h2)).2 g (by simpa [upd] using hg2); omega, fun h => by simp [upd, n12] at h, fun _ => (hz n13).below s9 (hz n13).lt, fun h => by simp [upd, n13] at h⟩⟩
        · have e1 : a1.eval (.tmp 2) = .pointer (some ⟨ga, 0, none⟩) := hc.ev0 2 rfl
          unfold Oper.wp execOp
          simp only [e1]
          go_simp
          exact hK _ _ (Keeps.refl _ _) rfl (by simpa [upd] using hG)
        · have e1 := hc.ev 22 8 rfl
          rw [show vs 8 = _ from (hp 8 (by kernel_rfl)).2] at e1
          have c1 : wr.cell? ⟨ga, 1, none⟩ = some (.slice x.yA x.syms.length x.yc) := (HA2.out.keeps hG.1 (by have hh := HGS.out; simp only [ne_eq]; omega)).cell 1
          unfold Oper.wp execOp
          simp only [e1]
          go_simp
          exact hK _ _ (Keeps.refl _ _) rfl (by simpa [upd] using hG)
        · have e0 : a1.eval (.tmp 2) = .pointer (some ⟨ga, 0, none⟩) := hc.ev0 2 rfl
          have e1 : a1.eval (.tmp 3) = .pointer (some ⟨gb, 0, none⟩) := hc.ev0 3 rfl
          unfold Oper.wp execOp
          simp only [e0, e1, List.map_toArray, List.map_cons, List.map_nil]
          go_simp
          exact hK _ _ (Keeps.refl _ _) rfl (by simpa [upd] using hG)
        · have hfi2 : fl 11 = false := hfi
          have n12 : fl 12 = false := by cases h : fl 12 with
            | false => rfl
            | true => have := hcl 12 11 (by kernel_rfl) h; rw [hfi2] at this; cases this
          have n13 : fl 13 = false := by cases h : fl 13 with
            | false => rfl
            | true => have := hcl 13 12 (by kernel_rfl) h; rw [n12] at this; cases this
          obtain ⟨hKP, hBW, k3, k7, k11, a37, a311, a711, g12, hz, hfin⟩ := hG
          have e1 := hc.ev 23 9 rfl
          rw [show vs 9 = _ from (hp 9 (by kernel_rfl)).2] at e1
          have e2 := hc.ev 24 10 rfl
          rw [show vs 10 = _ from (hp 10 (by kernel_rfl)).2] at e2
          refine op_call rfl (vs := #[.slice x.yA x.syms.length x.yc, .func (.func 60) #[] #[.pointer (some ⟨ga, 0, none⟩), .pointer (some ⟨gb, 0, none⟩)]]) (by simp only [List.map_toArray, List.map_cons, List.map_nil, e1, e2]) (by kernel_rfl) (namesOf_any x.yA x.yc _ 60 #[.pointer (some ⟨ga, 0, none⟩), .pointer (some ⟨gb, 0, none⟩)] (fun s => pOther x.syms y.syms s.name) x.syms wr ((HXA.out wr hBW).2) (Nat.le_refl _) (by have := HLX.out; omega) (fun args w => by kernel_rfl) (fun s hs w' hb' => ?_)) ?_
          · have hbw' := hBW.trans (hb'.mono hBW.size)
            have qa := (HA2.out.keeps hKP (by have hh := HGS.out; simp only [ne_eq]; omega)).below hb' (HA2.out.keeps hKP (by have hh := HGS.out; simp only [ne_eq]; omega)).lt
            have qb := (HB2.out.keeps hKP (by have hh := HGS.out; simp only [ne_eq]; omega)).below hb' (HB2.out.keeps hKP (by have hh := HGS.out; simp only [ne_eq]; omega)).lt
            exact chg3_any x y s ga gb w' qa qb (HXA.out w' hbw') (HYA.out w' hbw') HSX.out HSY.out hcx hcy HOX.out HOY.out (sPlace_mem hs)
          rintro e w9 ⟨A9, c9, rfl, o9, s9⟩
          rw [show (sortL (kept (fun s => pOther x.syms y.syms s.name) x.syms)).length = (otherI x y).length from (List.length_map _).symm] at o9 ⊢
          exact ⟨_, rfl, hK _ _ (Keeps.below s9) ⟨A9, c9, rfl, own_base o9 hKP.1⟩ ⟨hKP.trans (Keeps.below s9), hBW.trans (s9.mono hBW.size), fun h => ⟨by simpa [upd] using (k3 (by simpa [upd] using h)).1, fun g hg => Nat.lt_of_lt_of_le ((k3 (by simpa [upd] using h)).2 g (by simpa [upd] using hg)) s9.size⟩, fun h => ⟨by simpa [upd] using (k7 (by simpa [upd] using h)).1, fun g hg => Nat.lt_of_lt_of_le ((k7 (by simpa [upd] using h)).2 g (by simpa [upd] using hg)) s9.size⟩, fun _ => ⟨⟨A9, c9, by rw [upd_at]⟩, fun g hg => by rw [upd_at] at hg; exact (own_blk2 o9 g hg).2⟩, fun h1 h2 => by have := a37 (by simpa [upd] using h1) (by simpa [upd] using h2); simpa [upd] using this, fun h1 _ g hg hg2 => by rw [upd_at] at hg2; have h3 := (own_blk2 o9 g hg2).1; have h4 := (k3 (by simpa [upd] using h1)).2 g (by simpa [upd] using hg); omega, fun h1 _ g hg hg2 => by rw [upd_at] at hg2; have h3 := (own_blk2 o9 g hg2).1; have h4 := (k7 (by simpa [upd] using h1)).2 g (by simpa [upd] using hg); omega, fun h => by simp [upd, n12] at h, fun _ => (hz n13).below s9 (hz n13).lt, fun h => by simp [upd, n13] at h⟩⟩
        · obtain ⟨A1, c1, h1, _⟩ := (hp 3 (by kernel_rfl)).2
          obtain ⟨A2, c2, h2, _⟩ := (hp 7 (by kernel_rfl)).2
          obtain ⟨A3, c3, h3, _⟩ := (hp 11 (by kernel_rfl)).2
          have e1 := hc.ev 17 3 rfl
          have e2 := hc.ev 21 7 rfl
          have e3 := hc.ev 25 11 rfl
          have n13 : fl 13 = false := by cases h : fl 13 with
            | false => rfl
            | true => have := hcl 13 12 (by kernel_rfl) h; rw [show fl 12 = false from hfi] at this; cases this
          obtain ⟨hKP, hBW, k3, k7, k11, a37, a311, a711, g12, hz, hfin⟩ := hG
          unfold Oper.wp execOp
          rw [h1] at e1
          rw [h2] at e2
          rw [h3] at e3
          have HV : Hid (vs 3 = _ ∧ vs 7 = _ ∧ vs 11 = _) := Lib.hid ⟨h1, h2, h3⟩
          simp only [e1, e2, e3, List.map_toArray, List.map_cons, List.map_nil]
          clear h1 h2 h3
          go_simp
          exact hK _ _ (Keeps.refl _ _) trivial ⟨hKP, hBW, by simpa [upd] using k3, by simpa [upd] using k7, by simpa [upd] using k11, by simpa [upd] using a37, by simpa [upd] using a311, by simpa [upd] using a711, fun _ => by simp [upd, HV.out.1, HV.out.2.1, HV.out.2.2], by simpa [upd] using hz, fun h => by simp [upd, n13] at h⟩
        · have n13 : fl 13 = false := hfi
          obtain ⟨hKP, hBW, k3, k7, k11, a37, a311, a711, g12, hz, hfin⟩ := hG
          have f12 := (hp 12 (by kernel_rfl)).1
          obtain ⟨⟨A1, c1, h1⟩, _⟩ := k3 (hcl 12 3 (by kernel_rfl) f12)
          obtain ⟨⟨A2, c2, h2⟩, _⟩ := k7 (hcl 12 7 (by kernel_rfl) f12)
          obtain ⟨⟨A3, c3, h3⟩, _⟩ := k11 (hcl 12 11 (by kernel_rfl) f12)
          have hv := g12 f12
          have e1 : a1.eval (.tmp 4) = .pointer (some ⟨g4, 0, none⟩) := hc.ev0 4 rfl
          have e2 := hc.ev 26 12 rfl
          have hv2 : vs 12 = .agg #[.slice A1 (moreI x y).length c1, .slice A2 (moreI y x).length c2, .slice A3 (otherI x y).length c3] := by rw [hv, h1, h2, h3]
          rw [hv2] at e2
          have hz0 := hz n13
          have c0 : wr.cell? ⟨g4, 0, none⟩ = some (.slice none 0 0) := hz0.cell 0
          have c1' : wr.cell? ⟨g4, 1, none⟩ = some (.slice none 0 0) := hz0.cell 1
          have c2' : wr.cell? ⟨g4, 2, none⟩ = some (.slice none 0 0) := hz0.cell 2
          have f0 : wr.frozen? ⟨g4, 0, none⟩ = false := hz0.frozen 0
          have f1 : wr.frozen? ⟨g4, 1, none⟩ = false := hz0.frozen 1
          have f2 : wr.frozen? ⟨g4, 2, none⟩ = false := hz0.frozen 2
          have HQ : Hid (Blk (((wr.setCell ⟨g4, 0, none⟩ (.slice A1 (moreI x y).length c1)).setCell ⟨g4, 1, none⟩ (.slice A2 (moreI y x).length c2)).setCell ⟨g4, 2, none⟩ (.slice A3 (otherI x y).length c3)) g4 25 #[vs 3, vs 7, vs 11]) := by
            rw [h1, h2, h3]
            exact ((hz0.set_ 0 _).set_ 1 _).set_ 2 _
          have HBF := Lib.hid (((hBW.setCell (p := ⟨g4, 0, none⟩) (by have hh := HGS.out; simp only; omega) (.slice A1 (moreI x y).length c1)).setCell (p := ⟨g4, 1, none⟩) (by have hh := HGS.out; simp only; omega) (.slice A2 (moreI y x).length c2)).setCell (p := ⟨g4, 2, none⟩) (by have hh := HGS.out; simp only; omega) (.slice A3 (otherI x y).length c3))
          have HKS : Hid (Keeps (fun b => b ≠ g4) wr (((wr.setCell ⟨g4, 0, none⟩ (.slice A1 (moreI x y).length c1)).setCell ⟨g4, 1, none⟩ (.slice A2 (moreI y x).length c2)).setCell ⟨g4, 2, none⟩ (.slice A3 (otherI x y).length c3))) := ((Keeps.set_ (fun h => h rfl) _).trans (Keeps.set_ (fun h => h rfl) _)).trans (Keeps.set_ (fun h => h rfl) _)
          clear h1 h2 h3 hv hv2
          unfold Oper.wp execOp
          simp only [e1, e2]
          go_simp
          exact hK undef _ HKS.out trivial ⟨hKP.trans HKS.out, HBF.out, by simpa [upd] using k3, by simpa [upd] using k7, by simpa [upd] using k11, by simpa [upd] using a37, by simpa [upd] using a311, by simpa [upd] using a711, by simpa [upd] using g12, fun h => by simp [upd] at h, fun _ => by simpa [upd] using HQ.out⟩
      · intro fl vs w9 hfl hG hF
        obtain ⟨A1, c1, h1, o1⟩ := hF 3 (by simp)
        obtain ⟨A2, c2, h2, o2⟩ := hF 7 (by simp)
        obtain ⟨A3, c3, h3, o3⟩ := hF 11 (by simp)
        obtain ⟨hKP, hBW, k3, k7, k11, a37, a311, a711, g12, hz, hfin⟩ := hG
        have HQ := Lib.hid (hfin (hfl 13 (by simp)))
        have p1 := a37 (hfl 3 (by simp)) (hfl 7 (by simp))
        have p2 := a311 (hfl 3 (by simp)) (hfl 11 (by simp))
        have p3 := a711 (hfl 7 (by simp)) (hfl 11 (by simp))
        rw [h1, h2, h3] at HQ
        rw [h1, h2] at p1
        rw [h1, h3] at p2
        rw [h2, h3] at p3
        have HE : Hid ((w9.ownsRow w.heap.size 9 1 (.slice A1 (moreI x y).length c1) (moreI x y).length (texts (moreI x y))) ∧ (w9.ownsRow w.heap.size 9 1 (.slice A2 (moreI y x).length c2) (moreI y x).length (texts (moreI y x))) ∧ (w9.ownsRow w.heap.size 9 1 (.slice A3 (otherI x y).length c3) (otherI x y).length (texts (otherI x y))) ∧ (∀ a b, A1 = some a → A2 = some b → a.block ≠ b.block) ∧ (∀ a b, A1 = some a → A3 = some b → a.block ≠ b.block) ∧ (∀ a b, A2 = some a → A3 = some b → a.block ≠ b.block) ∧ Below w.heap.size w w9) := ⟨own_base o1 HW2.out.size, own_base o2 HW2.out.size, own_base o3 HW2.out.size, p1.apart, p2.apart, p3.apart, hBW⟩
        clear hKP hBW k3 k7 k11 a37 a311 a711 g12 hz hfin hF hfl h1 h2 h3 o1 o2 o3 p1 p2 p3
        simp only [fill]
        go_simp
        go_wp2
        have y0 : w9.cell? ⟨g4, 0, none⟩ = some (.slice A1 (moreI x y).length c1) := HQ.out.cell 0
        have y1 : w9.cell? ⟨g4, 1, none⟩ = some (.slice A2 (moreI y x).length c2) := HQ.out.cell 1
        have y2 : w9.cell? ⟨g4, 2, none⟩ = some (.slice A3 (otherI x y).length c3) := HQ.out.cell 2
        refine bodyPost_ret (v := .agg #[.slice A1 (moreI x y).length c1, .slice A2 (moreI y x).length c2, .slice A3 (otherI x y).length c3]) (by simp [results, Try.results29, go_sem, y0, y1, y2]) rfl ?_
        have HG0 : GaveChg (chMore x y) (chMore y x) (chOther x y) w (.returned (.agg #[.slice A1 (moreI x y).length c1, .slice A2 (moreI y x).length c2, .slice A3 (otherI x y).length c3])) w9 := by
          rw [HR1.out, HR2.out, HR3.out]
          exact ⟨A1, c1, A2, c2, A3, c3, rfl, HE.out⟩
        exact HG0
end Go.Proofs.Ytdaamgonendkkaa
