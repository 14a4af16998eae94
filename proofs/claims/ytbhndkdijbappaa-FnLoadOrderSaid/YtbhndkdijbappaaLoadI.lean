/- Contract of the program's LoadOrder. No condition but the sizes. -/
import Derived.Test.YtbhndkdijbappaaRows
import Derived.Test.YtbhndkdijbappaaBase
import Derived.Test.YtbhndkdijbappaaBase2
import Derived.Test.YtbhndkdijbappaaOnly
import Derived.Test.YtbhndkdijbappaaIn
import Derived.Test.YtbhndkdijbappaaName
import Derived.Test.YtbhndkdijbappaaFindS
import Derived.Test.YtbhndkdijbappaaIdxI
import Derived.Test.YtbhndkdijbappaaIdxS
import Derived.Test.YtbhndkdijbappaaLb
import Derived.Test.YtbhndkdijbappaaFindLb
import Derived.Test.YtbhndkdijbappaaLibs
import Derived.Test.YtbhndkdijbappaaLibV
import Derived.Test.YtbhndkdijbappaaLibW
import Derived.Test.YtbhndkdijbappaaLoadP
import Derived.WalkKit
import Derived.WalkSpells
import Derived.WalkLawsBesides
import Derived.Handy
import Derived.BigQuiet
import Derived.Deep.RegionHeld3
import Derived.Deep.DrawnRows
import Derived.Deep.QuietTactic
namespace Go.Proofs.Ytbhndkdijbappaa
open Go Go.RowKit

theorem any_mem (z : Int) (out : List Int) : (out.any fun x => decide (x = z)) = decide (z ∈ out) := by
  rw [Bool.eq_iff_iff]
  simp
theorem lint_info : (Try.prog.info? 3).map (fun i => (i.zero, i.size, i.bytes)) = some (some (.int .i64 0), 1, 8) := by kernel_rfl
/-- What a row of libraries in memory gives to the walks. -/
theorem need_at {w : World} {B : Nat} {A : Option Addr} {ls : List Lb} (h : LbAt w B A ls) {q : Nat} (hq : q < ls.length) :
    ∃ b off, A = some ⟨b, off, none⟩ ∧ w.cell? ⟨b, off + q * 3, none⟩ = some (.string ls[q].name) ∧ w.cell? ⟨b, off + q * 3 + 1, none⟩ = some (.slice ls[q].needsA ls[q].needs.length ls[q].needsc) ∧ w.cell? ⟨b, off + q * 3 + 2, none⟩ = some (.slice ls[q].givesA ls[q].gives.length ls[q].givesc) := by
  obtain ⟨b, off, e, _, e0, e1, e2⟩ := Lb.at_ h.1 hq
  exact ⟨b, off, e, e0, e1, e2⟩
set_option maxRecDepth 100000 in
set_option maxHeartbeats 8000000 in
theorem implLoad_any {A : Option Addr} {c B : Nat} (ls : List Lb) (nm : ByteArray) (w : World) (h1 : LbAt w B A ls) (hB : B ≤ w.heap.size) (hm : ls.length ≤ 1048576) (hc : ls.length ≤ c) (hs : ∀ l ∈ ls, l.small) :
    Calls Try.prog 19 #[.slice A ls.length c, .string nm] w (Fresh 3 1 w (loadL (ls.map Lb.v) nm).length (nums .i64 (loadL (ls.map Lb.v) nm))) := by
  obtain ⟨i0, hi0, hz0, hz1, hz2⟩ := info_parts lint_info
  have H1 := Lib.hid (h1.more hB)
  have HS := Lib.hid hs
  have HP := Lib.hid (fun w' (hb : Below w.heap.size w w') nm => implPlace_any (c := c) ls nm w' (H1.out.below hb).1 hb.size (by unfold maxLen; omega))
  have HV := Lib.hid (fun w' (hb : Below w.heap.size w w') => implLibs_any (c := c) ls w' (H1.out.below hb) hb.size hm hc hs)
  have HND := Lib.hid (fun q (h : q < ls.length) => lNeeds_at (ls := ls) h)
  have HLL : Hid ((ls.map Lb.v).length = ls.length) := List.length_map _
  clear h1 hs
  generalize ls.map Lb.v = vs at *
  have hb0 : Below w.heap.size w (w.alloc (.cells #[] 3)) := (Below.refl _ _).alloc (Nat.le_refl _) _
  have o0 : (w.alloc (.cells #[] 3)).ownsRow w.heap.size 3 1 (.slice (some ⟨w.heap.size, 0, none⟩) 0 0) 0 (nums .i64 []) := World.ownsRow_lit (base := w.heap.size) (e := 3) (size := 1) w #[] 0 (Nat.le_refl _) (by unfold maxLen; omega) rfl
  have hlt0 := lPlace_lt vs nm
  have HO0 := Lib.hid o0
  have HB0 := Lib.hid hb0
  clear o0 hb0
  have HRES1 := Lib.hid (fun h => load_no1 (vs := vs) nm h)
  have HRES2 : Hid (lPlace vs nm < 0 → loadL vs nm = []) := fun h => load_no2 (by omega)
  have HRES3 := Lib.hid (fun h h2 => load_yes (vs := vs) (nm := nm) h h2)
  have HG0 := Lib.hid (fun h : 0 ≤ lPlace vs nm => (⟨by simp, fun x hx => by rw [List.mem_singleton.1 hx]; exact ⟨h, hlt0.2⟩⟩ : GoodL vs.length [lPlace vs nm]))
  have HLEN := Lib.hid (fun h => libs_len (vs := vs) h)
  have HP0 := Lib.hid (HP.out _ HB0.out nm)
  rw [HLL.out] at hlt0
  generalize lPlace vs nm = z at *
  obtain ⟨hz1', hz2'⟩ := hlt0
  go_enter Try.func19, Try.ntmps19
  go_wp2_with fail
  refine HP0.out.mono ?_
  rintro e w1 ⟨rfl, s1⟩
  have HB1 := Lib.hid (HB0.out.trans (s1.mono HB0.out.size))
  have HO1 := Lib.hid (own_below HO0.out s1)
  clear s1 HO0 HB0 HP0
  have HV1 := Lib.hid (HV.out _ HB1.out)
  clear HV
  cases hv : libsOk vs
  · rw [hv] at HV1
    have HR := Lib.hid (HRES1.out hv)
    clear hv
    go_wp2_with fail
    refine HV1.out.mono ?_
    rintro e w2 ⟨rfl, s2⟩
    go_wp2
    go_ret
    rw [HR.out]
    exact ⟨_, _, rfl, own_below HO1.out s2, HB1.out.trans (s2.mono HB1.out.size)⟩
  · rw [hv] at HV1
    have HVT := Lib.hid hv
    clear hv
    go_wp2_with fail
    refine HV1.out.mono ?_
    rintro e w2 ⟨rfl, s2⟩
    have HB2 := Lib.hid (HB1.out.trans (s2.mono HB1.out.size))
    have HO2 := Lib.hid (own_below HO1.out s2)
    clear s2 HO1 HB1 HV1
    by_cases hz : 0 ≤ z
    · have hzz : decide (z < 0) = false := decide_eq_false (by omega)
      have HR := Lib.hid (HRES3.out HVT.out hz)
      have HG := Lib.hid (HG0.out hz)
      have hvl : ls.length ≤ 6 := by have := HLEN.out HVT.out; have := HLL.out; omega
      have hbz := HB2.out.size
      clear HRES1 HRES2 HRES3 HG0 HLEN
      go_wp2_with (at_builtin; refine wpList_push _ rfl (.tmp 23) (.tmp 25) _ rfl w.heap.size 3 i0 _ 1 8 Try.underlying38 hi0 hz0 hz1 hz2 rfl (by omega) (by omega) (some ⟨w.heap.size, 0, none⟩) 0 0 1 1 (nums .i64 []) [.int .i64 z] (by exact HO2.out.alloc _) rfl ⟨w2.heap.size, 0, none⟩ rfl rfl (World.news_of_block (cs := #[.int .i64 z]) (t := 3) (fr := (0, 0)) (by exact heap_alloc_new w2 _)) (by simp [Value.oneCell']) (by omega) (by omega) (by simp; omega) ?_; intro A' c' w3 hown hgrow hat hkeep; have HB3 := Lib.hid (below_push (HB2.out.alloc hbz _) (HO2.out.alloc _) (Nat.le_refl _) (by simp; omega) hgrow); have HO3 : Hid (w3.ownsRow w.heap.size 3 1 (.slice A' 1 c') 1 (nums .i64 [z])) := hown; clear hown hgrow hat hkeep HO2 HB2)
      clear hbz
      go_loopw [5, 7] (fun v iv wr => ∃ (i n : Nat) (A : Option Addr) (c : Nat) (out : List Int), i ≤ n ∧ n ≤ 6 ∧ iv = .int .i64 i ∧ v = .slice A n c ∧ Hid (out.length = n ∧ GoodL vs.length out ∧ loadL vs nm = lRun vs (vs.length - i) i out) ∧ Hid (Below w.heap.size w wr) ∧ Hid (wr.ownsRow w.heap.size 3 1 (.slice A n c) n (nums .i64 out))) (fun _ iv _ => 7 - (intOf iv).toNat)
      case atStart => exact ⟨0, 1, A', c', [z], by omega, by omega, rfl, rfl, Lib.hid ⟨rfl, HG.out, HR.out⟩, HB3, HO3⟩
      case round =>
        clear HB3 HO3 HR HG
        obtain ⟨i, n, A2, c2, out, hin, hn6, rfl, rfl, HX, HB, HO⟩ := hrel
        by_cases hlt : i < n
        · have hlo : i < out.length := by have := HX.out.1; omega
          have HX2 : Hid (GoodL vs.length out ∧ loadL vs nm = lRun vs (vs.length - (i + 1)) (i + 1) (lStep vs out out[i])) := ⟨HX.out.2.1, by rw [HX.out.2.2]; exact lRun_step HX.out.2.1 hlo⟩
          have hgb := HX.out.2.1.bd _ (List.getElem_mem hlo)
          have HLo := Lib.hid HX.out.1
          obtain ⟨q, hq⟩ : ∃ q : Nat, out[i] = (q : Int) := ⟨out[i].toNat, by omega⟩
          have hql : q < ls.length := by have := HLL.out; omega
          obtain ⟨ad, u1, rfl, hbl, hx1, hc1⟩ := (Reads.of_own HO.out).at_ hlt
          rw [nums_get _ _ hlo] at hx1
          injection hx1 with hx1
          subst hx1
          rw [hq] at hc1 HX2
          unfold lStep at HX2
          rw [HND.out q hql] at HX2
          obtain ⟨b, off, rfl, e0, e1, e2⟩ := need_at (H1.out.below HB.out) hql
          have HIN := Lib.hid (H1.out.2 _ (List.getElem_mem hql))
          obtain ⟨_, hsl, _, _, _⟩ := HS.out _ (List.getElem_mem hql)
          have HNr := Lib.hid HIN.out.1
          clear HIN hq hgb HX e0 e2
          generalize ls[q].needsA = NA at *
          generalize ls[q].needsc = nc at *
          generalize ls[q].needs = ns at *
          have hql' : (q : Int) < (ls.length : Int) := by omega
          go_wp2
          clear hc1 e1
          obtain ⟨wo, hwo⟩ : ∃ wo : World, wo = wr := ⟨_, rfl⟩
          subst hwo
          go_loopw [5, 42] (fun v jv wr => ∃ (j n : Nat) (A : Option Addr) (c : Nat) (o2 : List Int), j ≤ ns.length ∧ i < n ∧ n ≤ 6 ∧ jv = .int .i64 j ∧ v = .slice A n c ∧ Hid (o2.length = n ∧ GoodL vs.length o2 ∧ o2 = (ns.take j).foldl (lPut vs) out) ∧ Hid (Below w.heap.size w wr) ∧ Hid (wr.ownsRow w.heap.size 3 1 (.slice A n c) n (nums .i64 o2))) (fun _ jv _ => ns.length - (intOf jv).toNat)
          case atStart => exact ⟨0, n, _, c2, out, Nat.zero_le _, hlt, hn6, rfl, rfl, Lib.hid ⟨HLo.out, HX2.out.1, rfl⟩, HB, HO⟩
          case round =>
            clear HB HO
            obtain ⟨j, n2, A3, c3, o2, hj, hin2, hn62, rfl, rfl, HY, HB, HO⟩ := hrel
            by_cases hjl : j < ns.length
            · obtain ⟨ad2, u2, rfl, hbl2, hx2, hc2⟩ := (HNr.out.below HB.out).at_ hjl
              rw [texts_get _ _ hjl] at hx2
              injection hx2 with hx2
              subst hx2
              have HT := Lib.hid (lFold_take vs ns out hjl)
              have HPU1 : Hid (lPlace vs ns[j] < 0 → lPut vs o2 ns[j] = o2) := fun h => lPut_no1 (by omega)
              have HPU2 : Hid (lPlace vs ns[j] ∈ o2 → lPut vs o2 ns[j] = o2) := fun h' => lPut_no2 h'
              have HPU3 : Hid (0 ≤ lPlace vs ns[j] → lPlace vs ns[j] ∉ o2 → lPut vs o2 ns[j] = o2 ++ [lPlace vs ns[j]]) := fun h' h2 => lPut_yes h' h2
              have HGP := Lib.hid (HY.out.2.1.put ns[j])
              have HPC := Lib.hid (HP.out _ HB.out ns[j])
              have HYE : Hid ((ns.take (j + 1)).foldl (lPut vs) out = lPut vs o2 ns[j]) := by have h := HT.out; rw [← HY.out.2.2] at h; exact h
              have HYL := Lib.hid HY.out.1
              have HGL := Lib.hid HGP.out.len
              have hbd := lPlace_lt vs ns[j]
              clear HT HY
              generalize lPlace vs ns[j] = y at *
              generalize ns[j] = need at *
              obtain ⟨hy1, hy2⟩ := hbd
              go_wp2_with fail
              refine HPC.out.mono ?_
              rintro e w4 ⟨rfl, s4⟩
              have HB4 := Lib.hid (HB.out.trans (s4.mono HB.out.size))
              have HO4 := Lib.hid (own_below HO.out s4)
              clear s4 HB HO HPC hc2
              by_cases hy : 0 ≤ y
              · have HRo : Hid (Reads w4 w4.heap.size 1 A3 o2.length (nums .i64 o2)) := by rw [HYL.out]; exact Reads.of_own HO4.out
                have HCo := Lib.hid (containsInt_any (c := c3) y o2 w4 HRo.out (by have := HYL.out; unfold maxLen; omega))
                rw [any_mem, HYL.out] at HCo
                by_cases hmem : y ∈ o2
                · rw [decide_eq_true hmem] at HCo
                  have HPE := Lib.hid (HPU2.out hmem)
                  clear hmem
                  go_wp2_with fail
                  refine HCo.out.mono ?_
                  rintro e w' ⟨rfl, rfl⟩
                  go_wp2
                  go_roundw
                  case rel => exact ⟨j + 1, n2, A3, c3, o2, by omega, hin2, hn62, by go_num, rfl, Lib.hid ⟨HYL.out, by have h := HGP.out; rw [HPE.out] at h; exact h, by rw [HYE.out, HPE.out]⟩, HB4, HO4⟩
                  case measure => simp [intOf]; omega
                · rw [decide_eq_false hmem] at HCo
                  have HPE := Lib.hid (HPU3.out hy hmem)
                  clear hmem
                  have hn5 : n2 + 1 ≤ 6 := by have h := HGL.out; rw [HPE.out] at h; simp at h; have := HYL.out; have := HLL.out; omega
                  have hbz4 := HB4.out.size
                  go_wp2_with fail
                  refine HCo.out.mono ?_
                  rintro e w' ⟨rfl, rfl⟩
                  go_wp2_with (at_builtin; refine wpList_push _ rfl (.tmp 57) (.tmp 59) _ rfl w.heap.size 3 i0 _ 1 8 Try.underlying38 hi0 hz0 hz1 hz2 rfl (by omega) (by omega) A3 n2 c3 1 1 (nums .i64 o2) [.int .i64 y] (by exact HO4.out.alloc _) rfl ⟨w4.heap.size, 0, none⟩ rfl rfl (World.news_of_block (cs := #[.int .i64 y]) (t := 3) (fr := (0, 0)) (by exact heap_alloc_new w4 _)) (by simp [Value.oneCell']) (by omega) (by omega) (by simp; omega) ?_; intro A5 c5 w5 hown hgrow hat hkeep; have HB5 := Lib.hid (below_push (HB4.out.alloc hbz4 _) (HO4.out.alloc _) (Nat.le_refl _) (by simp; omega) hgrow); have HO5 := Lib.hid hown; clear hown hgrow hat hkeep)
                  go_roundw
                  case rel =>
                    refine ⟨j + 1, n2 + 1, A5, c5, o2 ++ [y], by omega, by omega, hn5, by go_num, rfl, Lib.hid ⟨by have := HYL.out; simp; omega, by have h := HGP.out; rw [HPE.out] at h; exact h, by rw [HYE.out, HPE.out]⟩, HB5, ?_⟩
                    have e : nums .i64 (o2 ++ [y]) = nums .i64 o2 ++ [.int .i64 y] := by simp [nums]
                    rw [e]
                    exact HO5
                  case measure => simp [intOf]; omega
              · have hyy : decide (0 ≤ y) = false := decide_eq_false hy
                have HPE := Lib.hid (HPU1.out (by omega))
                go_wp2
                go_roundw
                case rel => exact ⟨j + 1, n2, A3, c3, o2, by omega, hin2, hn62, by go_num, rfl, Lib.hid ⟨HYL.out, by have h := HGP.out; rw [HPE.out] at h; exact h, by rw [HYE.out, HPE.out]⟩, HB4, HO4⟩
                case measure => simp [intOf]; omega
            · have HYF : Hid (o2 = ns.foldl (lPut vs) out) := by have h := HY.out.2.2; rw [List.take_of_length_le (by omega)] at h; exact h
              go_wp2
              go_roundw
              case rel => exact ⟨i + 1, n2, A3, c3, o2, by omega, hn62, by go_num, rfl, Lib.hid ⟨HY.out.1, HY.out.2.1, by rw [HX2.out.2, HYF.out]⟩, HB, HO⟩
              case measure => simp [intOf]; omega
        · have HF : Hid (loadL vs nm = out) := by rw [Hid, HX.out.2.2, lRun_end _ _ _ _ (by have := HX.out.1; omega)]
          go_wp2
          go_ret
          rw [HF.out, HX.out.1]
          exact ⟨A2, c2, rfl, HO.out, HB.out⟩
    · have hzz : decide (z < 0) = true := decide_eq_true (by omega)
      have HR := Lib.hid (HRES2.out (by omega))
      go_wp2
      go_ret
      rw [HR.out]
      exact ⟨_, _, rfl, HO2.out, HB2.out⟩
end Go.Proofs.Ytbhndkdijbappaa
