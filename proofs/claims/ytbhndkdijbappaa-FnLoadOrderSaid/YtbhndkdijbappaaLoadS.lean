/- Contract of the reference's LoadOrder. No condition but the sizes. -/
import Derived.Test.YtbhndkdijbappaaRows
import Derived.Test.YtbhndkdijbappaaBase
import Derived.Test.YtbhndkdijbappaaBase2
import Derived.Test.YtbhndkdijbappaaOnly
import Derived.Test.YtbhndkdijbappaaIn
import Derived.Test.YtbhndkdijbappaaName
import Derived.Test.YtbhndkdijbappaaFindS
import Derived.Test.YtbhndkdijbappaaIdxI
import Derived.Test.YtbhndkdijbappaaIdxS
import Derived.Test.YtbhndkdijbappaaLb
import Derived.Test.YtbhndkdijbappaaFindLb
import Derived.Test.YtbhndkdijbappaaLibs
import Derived.Test.YtbhndkdijbappaaLibV
import Derived.Test.YtbhndkdijbappaaLibW
import Derived.Test.YtbhndkdijbappaaLoadP
import Derived.Test.YtbhndkdijbappaaLoadI
import Derived.WalkKit
import Derived.WalkSpells
import Derived.WalkLawsBesides
import Derived.Handy
import Derived.BigQuiet
import Derived.Deep.RegionHeld3
import Derived.Deep.DrawnRows
import Derived.Deep.QuietTactic
namespace Go.Proofs.Ytbhndkdijbappaa
open Go Go.RowKit

theorem heap_set_new (w : World) (p : Addr) (u : Value) (cs : Array Value) (t : TypeId) : ((w.setCell p u).alloc (.cells cs t)).heap[w.heap.size]? = some (.cells cs t (0, 0)) := by
  have h := heap_alloc_new (w.setCell p u) (.cells cs t)
  have e : (w.setCell p u).heap.size = w.heap.size := by simp
  rwa [e] at h
theorem own_types_ne {w : World} {b1 b2 : Nat} {e1 e2 : TypeId} {s1 s2 : Nat} {A1 A2 : Option Addr} {n1 c1 n2 c2 : Nat} {xs ys : List Value} (h1 : w.ownsRow b1 e1 s1 (.slice A1 n1 c1) n1 xs) (h2 : w.ownsRow b2 e2 s2 (.slice A2 n2 c2) n2 ys) (hne : e1 ≠ e2) : ∀ a1 a2, A1 = some a1 → A2 = some a2 → a1.block ≠ a2.block := by
  rintro a1 a2 rfl rfl heq
  rcases h1.2 with ⟨hv, _⟩ | ⟨g1, cap1, cur1, hv1, _, hg1, _⟩
  · cases hv
  · rcases h2.2 with ⟨hv, _⟩ | ⟨g2, cap2, cur2, hv2, _, hg2, _⟩
    · cases hv
    · injection hv1 with q1
      injection q1 with q1
      injection hv2 with q2
      injection q2 with q2
      subst q1 q2
      simp only at heq
      subst heq
      rw [hg1] at hg2
      injection hg2 with hg2
      injection hg2 with _ ht
      exact hne ht
/-- Which libraries are loaded. -/
def lB (n : Nat) (out : List Int) : List Value := (List.range n).map fun (k : Nat) => .bool (decide ((k : Int) ∈ out))
theorem lB_len (n : Nat) (out : List Int) : (lB n out).length = n := by simp [lB]
theorem lB_get {n : Nat} (out : List Int) {k : Nat} (h : k < n) : (lB n out)[k]? = some (.bool (decide ((k : Int) ∈ out))) := by simp [lB, h]
theorem lB_nil (n : Nat) : lB n [] = List.replicate n (.bool false) := by
  apply List.ext_getElem
  · simp [lB]
  · intro i h1 h2
    simp [lB]
theorem lB_set {n : Nat} (out : List Int) (k : Nat) : (lB n out).set k (.bool true) = lB n (out ++ [(k : Int)]) := by
  apply List.ext_getElem
  · simp [lB]
  · intro i h1 h2
    rw [List.getElem_set]
    by_cases e : k = i
    · subst e; simp [lB]
    · have e2 : ¬ ((i : Int) = (k : Int)) := by omega
      simp [lB, e, e2]
theorem lbool_info : (Try.prog.info? 4).map (fun i => (i.zero, i.size, i.bytes)) = some (some (.bool false), 1, 1) := by kernel_rfl
set_option maxRecDepth 100000 in
set_option maxHeartbeats 8000000 in
theorem specLoad_any {A : Option Addr} {c B : Nat} (ls : List Lb) (nm : ByteArray) (w : World) (h1 : LbAt w B A ls) (hB : B ≤ w.heap.size) (hm : ls.length ≤ 1048576) (hc : ls.length ≤ c) (hs : ∀ l ∈ ls, l.small) :
    Calls Try.prog 21 #[.slice A ls.length c, .string nm] w (Fresh 3 1 w (loadL (ls.map Lb.v) nm).length (nums .i64 (loadL (ls.map Lb.v) nm))) := by
  obtain ⟨i0, hi0, hz0, hz1, hz2⟩ := info_parts lint_info
  obtain ⟨j0, gi0, gz0, gz1, gz2⟩ := info_parts lbool_info
  have H1 := Lib.hid (h1.more hB)
  have HS := Lib.hid hs
  have HP := Lib.hid (fun w' (hb : Below w.heap.size w w') nm => specPlace_any (c := c) ls nm w' (H1.out.below hb).1 (by unfold maxLen; omega))
  have HV := Lib.hid (fun w' (hb : Below w.heap.size w w') => specLibs_any (c := c) ls w' (H1.out.below hb) hb.size hm hc hs)
  have HND := Lib.hid (fun q (h : q < ls.length) => lNeeds_at (ls := ls) h)
  have HLL : Hid ((ls.map Lb.v).length = ls.length) := List.length_map _
  clear h1 hs
  generalize ls.map Lb.v = vs at *
  have hb0 : Below w.heap.size w (w.alloc (.cells #[] 3)) := (Below.refl _ _).alloc (Nat.le_refl _) _
  have o0 : (w.alloc (.cells #[] 3)).ownsRow w.heap.size 3 1 (.slice (some ⟨w.heap.size, 0, none⟩) 0 0) 0 (nums .i64 []) := World.ownsRow_lit (base := w.heap.size) (e := 3) (size := 1) w #[] 0 (Nat.le_refl _) (by unfold maxLen; omega) rfl
  have hlt0 := lPlace_lt vs nm
  have HO0 := Lib.hid o0
  have HB0 := Lib.hid hb0
  clear o0 hb0
  have HRES1 := Lib.hid (fun h => load_no1 (vs := vs) nm h)
  have HRES2 : Hid (lPlace vs nm < 0 → loadL vs nm = []) := fun h => load_no2 (by omega)
  have HRES3 := Lib.hid (fun h h2 => load_yes (vs := vs) (nm := nm) h h2)
  have HG0 := Lib.hid (fun h : 0 ≤ lPlace vs nm => (⟨by simp, fun x hx => by rw [List.mem_singleton.1 hx]; exact ⟨h, hlt0.2⟩⟩ : GoodL vs.length [lPlace vs nm]))
  have HLEN := Lib.hid (fun h => libs_len (vs := vs) h)
  have HP0 := Lib.hid (HP.out _ HB0.out nm)
  rw [HLL.out] at hlt0
  generalize lPlace vs nm = z at *
  obtain ⟨hz1', hz2'⟩ := hlt0
  go_enter Try.func21, Try.ntmps21
  go_wp2_with fail
  refine HP0.out.mono ?_
  rintro e w' ⟨rfl, rfl⟩
  clear HP0
  by_cases hz : 0 ≤ z
  · have hzz : decide (z < 0) = false := decide_eq_false (by omega)
    have HV1 := Lib.hid (HV.out _ HB0.out)
    clear HV
    cases hv : libsOk vs
    · rw [hv] at HV1
      have HR := Lib.hid (HRES1.out hv)
      clear hv
      go_wp2_with fail
      refine HV1.out.mono ?_
      rintro e w2 ⟨rfl, s2⟩
      go_wp2
      go_ret
      rw [HR.out]
      exact ⟨_, _, rfl, own_below HO0.out s2, HB0.out.trans (s2.mono HB0.out.size)⟩
    · rw [hv] at HV1
      have HVT := Lib.hid hv
      clear hv
      go_wp2_with fail
      refine HV1.out.mono ?_
      rintro e w2 ⟨rfl, s2⟩
      have HB2 := Lib.hid (HB0.out.trans (s2.mono HB0.out.size))
      have HO2 := Lib.hid (own_below HO0.out s2)
      have h02 : w.heap.size + 1 ≤ w2.heap.size := by have := s2.size; simp at this; omega
      clear s2 HO0 HB0 HV1
      have HR := Lib.hid (HRES3.out HVT.out hz)
      have HG := Lib.hid (HG0.out hz)
      have hvl : ls.length ≤ 6 := by have := HLEN.out HVT.out; have := HLL.out; omega
      clear HRES1 HRES2 HRES3 HG0 HLEN
      obtain ⟨zn, rfl⟩ := Int.eq_ofNat_of_zero_le hz
      have hznl : zn < ls.length := by omega
      obtain ⟨w3, hmk, ho3, hg3⟩ := run_make_full (P := Try.prog) w2 w2.heap.size 41 4 j0 _ 1 Try.underlying41 gi0 gz0 gz1 .i64 .i64 ls.length (by rw [gz2]; omega) (by unfold maxLen; omega) (Nat.le_refl _)
      have e3 : (madeCells (Value.bool false).cells (ls.length * 1)).toList = lB ls.length [] := by
        have := toList_madeCells_one (.bool false) (ls.length * 1)
        rw [lB_nil]
        simpa [Value.cells] using this
      rw [e3] at ho3
      have s3 : Below w2.heap.size w2 w3 := (Below.refl _ _).grown hg3 (Nat.le_refl _) (by simp)
      have hsz : w2.heap.size < w3.heap.size := (ho3.lt _ rfl).2
      have HB3 := Lib.hid (HB2.out.trans (s3.mono HB2.out.size))
      have HO3 := Lib.hid (own_below HO2.out s3)
      have HL3 := Lib.hid ho3
      have hmk' := hmk
      clear hmk ho3 hg3 s3 e3 HB2 HO2
      have ek : w3.cell? ⟨w2.heap.size, zn, none⟩ = some (.bool false) := (HL3.out.cellAt zn (by omega)).trans (by rw [lB_get _ hznl]; simp)
      have fk : w3.frozen? ⟨w2.heap.size, zn, none⟩ = false := HL3.out.frozenAt zn
      have HL4 : Hid ((w3.setCell ⟨w2.heap.size, zn, none⟩ (.bool true)).ownsRow w2.heap.size 4 1 (.slice (some ⟨w2.heap.size, 0, none⟩) ls.length ls.length) ls.length (lB ls.length [(zn : Int)])) := by
        have h := (HL3.out.stored zn (.bool true)).1
        rw [lB_set] at h
        exact h
      have HO4 : Hid ((w3.setCell ⟨w2.heap.size, zn, none⟩ (.bool true)).ownsRow w.heap.size 3 1 (.slice (some ⟨w.heap.size, 0, none⟩) 0 0) 0 (nums .i64 [])) := own_other (A2 := some ⟨w2.heap.size, 0, none⟩) HO3.out (HL3.out.stored zn (.bool true)).2 (own_types_ne HO3.out HL3.out (by decide))
      have HB4 : Hid (Below w.heap.size w (w3.setCell ⟨w2.heap.size, zn, none⟩ (.bool true))) := HB3.out.setCell (by simp; omega) _
      clear HO3 HL3 HB3
      have hznl' : (zn : Int) < (ls.length : Int) := by omega
      have hz4 : w.heap.size ≤ w3.heap.size := by omega
      go_wp2_with (at_builtin; refine wpList_push _ rfl (.tmp 30) (.tmp 32) _ rfl w.heap.size 3 i0 _ 1 8 Try.underlying38 hi0 hz0 hz1 hz2 rfl (by omega) (by omega) (some ⟨w.heap.size, 0, none⟩) 0 0 1 1 (nums .i64 []) [.int .i64 (zn : Int)] (by exact HO4.out.alloc _) rfl ⟨w3.heap.size, 0, none⟩ rfl rfl (World.news_of_block (cs := #[.int .i64 (zn : Int)]) (t := 3) (fr := (0, 0)) (by exact heap_set_new w3 _ _ _ _)) (by simp [Value.oneCell']) (by omega) (by omega) (by simp; omega) ?_; intro A' c' w5 hown hgrow hat hkeep; have HB5 := Lib.hid (below_push (HB4.out.alloc (by simp; omega) _) (HO4.out.alloc _) (Nat.le_refl _) (by simp; omega) hgrow); have HL5 := Lib.hid (own_other (HL4.out.alloc _) hgrow (own_types_ne HL4.out HO4.out (by decide))); have HO5 : Hid (w5.ownsRow w.heap.size 3 1 (.slice A' 1 c') 1 (nums .i64 [(zn : Int)])) := hown; clear hown hgrow hat hkeep HO4 HB4 HL4)
      clear hmk' ek fk
      obtain ⟨g, hgw, hgg⟩ : ∃ g, w.heap.size ≤ g ∧ g = w2.heap.size := ⟨_, by omega, rfl⟩
      rw [← hgg] at HL5 ⊢
      clear hgg hsz h02
      go_loopw [5, 8] (fun v iv wr => ∃ (i n : Nat) (A : Option Addr) (c : Nat) (out : List Int), i ≤ n ∧ n ≤ 6 ∧ iv = .int .i64 i ∧ v = .slice A n c ∧ Hid (out.length = n ∧ GoodL vs.length out ∧ loadL vs nm = lRun vs (vs.length - i) i out) ∧ Hid (Below w.heap.size w wr) ∧ Hid (wr.ownsRow w.heap.size 3 1 (.slice A n c) n (nums .i64 out)) ∧ Hid (wr.ownsRow g 4 1 (.slice (some ⟨g, 0, none⟩) ls.length ls.length) ls.length (lB ls.length out))) (fun _ iv _ => 7 - (intOf iv).toNat)
      case atStart => exact ⟨0, 1, A', c', [(zn : Int)], by omega, by omega, rfl, rfl, Lib.hid ⟨rfl, HG.out, HR.out⟩, HB5, HO5, HL5⟩
      case round =>
        clear HB5 HO5 HR HG HL5
        obtain ⟨i, n, A2, c2, out, hin, hn6, rfl, rfl, HX, HB, HO, HLB⟩ := hrel
        by_cases hlt : i < n
        · have hlo : i < out.length := by have := HX.out.1; omega
          have HX2 : Hid (GoodL vs.length out ∧ loadL vs nm = lRun vs (vs.length - (i + 1)) (i + 1) (lStep vs out out[i])) := ⟨HX.out.2.1, by rw [HX.out.2.2]; exact lRun_step HX.out.2.1 hlo⟩
          have hgb := HX.out.2.1.bd _ (List.getElem_mem hlo)
          have HLo := Lib.hid HX.out.1
          obtain ⟨q, hq⟩ : ∃ q : Nat, out[i] = (q : Int) := ⟨out[i].toNat, by omega⟩
          have hql : q < ls.length := by have := HLL.out; omega
          obtain ⟨ad, u1, rfl, hbl, hx1, hc1⟩ := (Reads.of_own HO.out).at_ hlt
          rw [nums_get _ _ hlo] at hx1
          injection hx1 with hx1
          subst hx1
          rw [hq] at hc1 HX2
          unfold lStep at HX2
          rw [HND.out q hql] at HX2
          obtain ⟨b, off, rfl, e0, e1, e2⟩ := need_at (H1.out.below HB.out) hql
          have HIN := Lib.hid (H1.out.2 _ (List.getElem_mem hql))
          obtain ⟨_, hsl, _, _, _⟩ := HS.out _ (List.getElem_mem hql)
          have HNr := Lib.hid HIN.out.1
          clear HIN hq hgb HX e0 e2
          generalize ls[q].needsA = NA at *
          generalize ls[q].needsc = nc at *
          generalize ls[q].needs = ns at *
          have hql' : (q : Int) < (ls.length : Int) := by omega
          go_wp2
          clear hc1 e1
          obtain ⟨wo, hwo⟩ : ∃ wo : World, wo = wr := ⟨_, rfl⟩
          subst hwo
          go_loopw [5, 10] (fun v jv wr => ∃ (j n : Nat) (A : Option Addr) (c : Nat) (o2 : List Int), j ≤ ns.length ∧ i < n ∧ n ≤ 6 ∧ jv = .int .i64 j ∧ v = .slice A n c ∧ Hid (o2.length = n ∧ GoodL vs.length o2 ∧ o2 = (ns.take j).foldl (lPut vs) out) ∧ Hid (Below w.heap.size w wr) ∧ Hid (wr.ownsRow w.heap.size 3 1 (.slice A n c) n (nums .i64 o2)) ∧ Hid (wr.ownsRow g 4 1 (.slice (some ⟨g, 0, none⟩) ls.length ls.length) ls.length (lB ls.length o2))) (fun _ jv _ => ns.length - (intOf jv).toNat)
          case atStart => exact ⟨0, n, _, c2, out, Nat.zero_le _, hlt, hn6, rfl, rfl, Lib.hid ⟨HLo.out, HX2.out.1, rfl⟩, HB, HO, HLB⟩
          case round =>
            clear HB HO HLB
            obtain ⟨j, n2, A3, c3, o2, hj, hin2, hn62, rfl, rfl, HY, HB, HO, HLB⟩ := hrel
            by_cases hjl : j < ns.length
            · obtain ⟨ad2, u2, rfl, hbl2, hx2, hc2⟩ := (HNr.out.below HB.out).at_ hjl
              rw [texts_get _ _ hjl] at hx2
              injection hx2 with hx2
              subst hx2
              have HT := Lib.hid (lFold_take vs ns out hjl)
              have HPU1 : Hid (lPlace vs ns[j] < 0 → lPut vs o2 ns[j] = o2) := fun h => lPut_no1 (by omega)
              have HPU2 : Hid (lPlace vs ns[j] ∈ o2 → lPut vs o2 ns[j] = o2) := fun h' => lPut_no2 h'
              have HPU3 : Hid (0 ≤ lPlace vs ns[j] → lPlace vs ns[j] ∉ o2 → lPut vs o2 ns[j] = o2 ++ [lPlace vs ns[j]]) := fun h' h2 => lPut_yes h' h2
              have HGP := Lib.hid (HY.out.2.1.put ns[j])
              have HPC := Lib.hid (HP.out _ HB.out ns[j])
              have HYE : Hid ((ns.take (j + 1)).foldl (lPut vs) out = lPut vs o2 ns[j]) := by have h := HT.out; rw [← HY.out.2.2] at h; exact h
              have HYL := Lib.hid HY.out.1
              have HGL := Lib.hid HGP.out.len
              have hbd := lPlace_lt vs ns[j]
              rw [HLL.out] at hbd
              clear HT HY
              generalize lPlace vs ns[j] = y at *
              generalize ns[j] = need at *
              obtain ⟨hy1, hy2⟩ := hbd
              go_wp2_with fail
              refine HPC.out.mono ?_
              rintro e w' ⟨rfl, rfl⟩
              clear HPC hc2
              by_cases hy : 0 ≤ y
              · obtain ⟨yn, rfl⟩ := Int.eq_ofNat_of_zero_le hy
                have hyl : yn < ls.length := by omega
                have fy : wr.frozen? ⟨g, yn, none⟩ = false := HLB.out.frozenAt yn
                have ey := (HLB.out.cellAt yn (by omega)).trans (lB_get o2 hyl)
                by_cases hmem : (yn : Int) ∈ o2
                · rw [decide_eq_true hmem] at ey
                  have HPE := Lib.hid (HPU2.out hmem)
                  clear hmem
                  go_wp2
                  go_roundw
                  case rel => exact ⟨j + 1, n2, A3, c3, o2, by omega, hin2, hn62, by go_num, rfl, Lib.hid ⟨HYL.out, by have h := HGP.out; rw [HPE.out] at h; exact h, by rw [HYE.out, HPE.out]⟩, HB, HO, HLB⟩
                  case measure => simp [intOf]; omega
                · rw [decide_eq_false hmem] at ey
                  have HPE := Lib.hid (HPU3.out hy hmem)
                  clear hmem
                  have hn5 : n2 + 1 ≤ 6 := by have h := HGL.out; rw [HPE.out] at h; simp at h; have := HYL.out; have := HLL.out; omega
                  have hbz4 := HB.out.size
                  have HL4 : Hid ((wr.setCell ⟨g, yn, none⟩ (.bool true)).ownsRow g 4 1 (.slice (some ⟨g, 0, none⟩) ls.length ls.length) ls.length (lB ls.length (o2 ++ [(yn : Int)]))) := by
                    have h := (HLB.out.stored yn (.bool true)).1
                    rw [lB_set] at h
                    exact h
                  have HO4 := Lib.hid (own_other (A2 := some ⟨g, 0, none⟩) HO.out (HLB.out.stored yn (.bool true)).2 (own_types_ne HO.out HLB.out (by decide)))
                  have HB4 : Hid (Below w.heap.size w (wr.setCell ⟨g, yn, none⟩ (.bool true))) := HB.out.setCell hgw _
                  go_wp2_with (at_builtin; refine wpList_push _ rfl (.tmp 72) (.tmp 74) _ rfl w.heap.size 3 i0 _ 1 8 Try.underlying38 hi0 hz0 hz1 hz2 rfl (by omega) (by omega) A3 n2 c3 1 1 (nums .i64 o2) [.int .i64 (yn : Int)] (by exact HO4.out.alloc _) rfl ⟨wr.heap.size, 0, none⟩ rfl rfl (World.news_of_block (cs := #[.int .i64 (yn : Int)]) (t := 3) (fr := (0, 0)) (by exact heap_set_new wr _ _ _ _)) (by simp [Value.oneCell']) (by omega) (by omega) (by simp; omega) ?_; intro A5 c5 w5 hown hgrow hat hkeep; have HB5 := Lib.hid (below_push (HB4.out.alloc (by simp; omega) _) (HO4.out.alloc _) (Nat.le_refl _) (by simp; omega) hgrow); have HL5 := Lib.hid (own_other (HL4.out.alloc _) hgrow (own_types_ne HL4.out HO4.out (by decide))); have HO5 := Lib.hid hown; clear hown hgrow hat hkeep)
                  go_roundw
                  case rel =>
                    refine ⟨j + 1, n2 + 1, A5, c5, o2 ++ [(yn : Int)], by omega, by omega, hn5, by go_num, rfl, Lib.hid ⟨by have := HYL.out; simp; omega, by have h := HGP.out; rw [HPE.out] at h; exact h, by rw [HYE.out, HPE.out]⟩, HB5, ?_, HL5⟩
                    have e : nums .i64 (o2 ++ [(yn : Int)]) = nums .i64 o2 ++ [.int .i64 (yn : Int)] := by simp [nums]
                    rw [e]
                    exact HO5
                  case measure => simp [intOf]; omega
              · have hyy : decide (0 ≤ y) = false := decide_eq_false hy
                have HPE := Lib.hid (HPU1.out (by omega))
                go_wp2
                go_roundw
                case rel => exact ⟨j + 1, n2, A3, c3, o2, by omega, hin2, hn62, by go_num, rfl, Lib.hid ⟨HYL.out, by have h := HGP.out; rw [HPE.out] at h; exact h, by rw [HYE.out, HPE.out]⟩, HB, HO, HLB⟩
                case measure => simp [intOf]; omega
            · have HYF : Hid (o2 = ns.foldl (lPut vs) out) := by have h := HY.out.2.2; rw [List.take_of_length_le (by omega)] at h; exact h
              go_wp2
              go_roundw
              case rel => exact ⟨i + 1, n2, A3, c3, o2, by omega, hn62, by go_num, rfl, Lib.hid ⟨HY.out.1, HY.out.2.1, by rw [HX2.out.2, HYF.out]⟩, HB, HO, HLB⟩
              case measure => simp [intOf]; omega
        · have HF : Hid (loadL vs nm = out) := by rw [Hid, HX.out.2.2, lRun_end _ _ _ _ (by have := HX.out.1; omega)]
          go_wp2
          go_ret
          rw [HF.out, HX.out.1]
          exact ⟨A2, c2, rfl, HO.out, HB.out⟩
  · have hzz : decide (z < 0) = true := decide_eq_true (by omega)
    have HR := Lib.hid (HRES2.out (by omega))
    go_wp2
    go_ret
    rw [HR.out]
    exact ⟨_, _, rfl, HO0.out, HB0.out⟩
end Go.Proofs.Ytbhndkdijbappaa
