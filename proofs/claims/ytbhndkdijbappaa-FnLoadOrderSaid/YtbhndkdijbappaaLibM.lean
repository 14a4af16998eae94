/- Contract of the reference's LibrariesMissing. No condition but the sizes. -/
import Derived.Test.YtbhndkdijbappaaRows
import Derived.Test.YtbhndkdijbappaaBase
import Derived.Test.YtbhndkdijbappaaBase2
import Derived.Test.YtbhndkdijbappaaOnly
import Derived.Test.YtbhndkdijbappaaIn
import Derived.Test.YtbhndkdijbappaaName
import Derived.Test.YtbhndkdijbappaaFindS
import Derived.Test.YtbhndkdijbappaaIdxI
import Derived.Test.YtbhndkdijbappaaIdxS
import Derived.Test.YtbhndkdijbappaaLb
import Derived.Test.YtbhndkdijbappaaFindLb
import Derived.Test.YtbhndkdijbappaaLibs
import Derived.Test.YtbhndkdijbappaaLibV
import Derived.Test.YtbhndkdijbappaaLibW
import Derived.Test.YtbhndkdijbappaaLoadP
import Derived.Test.YtbhndkdijbappaaLoadI
import Derived.Test.YtbhndkdijbappaaLoadS
import Derived.Test.YtbhndkdijbappaaLibG
import Derived.Test.YtbhndkdijbappaaLibN
import Derived.WalkKit
import Derived.WalkSpells
import Derived.WalkLawsBesides
import Derived.Handy
import Derived.BigQuiet
import Derived.Deep.RegionHeld3
import Derived.Deep.DrawnRows
import Derived.Deep.QuietTactic
namespace Go.Proofs.Ytbhndkdijbappaa
open Go Go.RowKit

theorem hasS_take {xs : List ByteArray} {z : ByteArray} {k : Nat} (hk : k < xs.length) : hasS (xs.take (k + 1)) z = (hasS (xs.take k) z || decide (xs[k] = z)) := by
  unfold hasS
  rw [List.take_succ_eq_append_getElem hk, List.any_append]
  simp
theorem own_drewN {w : World} {base : Nat} {t : TypeId} {size : Nat} {v : Value} {n : Nat} {xs : List Value} (h : w.ownsRow base t size v n xs) (d : Nat) : (w.drewN d).ownsRow base t size v n xs := h
set_option maxRecDepth 100000 in
set_option maxHeartbeats 8000000 in
theorem specMiss_any {A : Option Addr} {c B : Nat} (ls : List Lb) (nm : ByteArray) (w : World) (h1 : LbAt w B A ls) (hB : B ≤ w.heap.size) (hm : ls.length ≤ 1048576) (hc : ls.length ≤ c) (hs : ∀ l ∈ ls, l.small) :
    Calls Try.prog 32 #[.slice A ls.length c, .string nm] w (Fresh 9 1 w (missL (ls.map Lb.v) nm).length (texts (missL (ls.map Lb.v) nm))) := by
  obtain ⟨i0, hi0, hz0, hz1, hz2⟩ := info_parts ltext_info
  have H1 := Lib.hid (h1.more hB)
  have HS := Lib.hid hs
  have HND := Lib.hid (fun q (h : q < ls.length) => lNeeds_at (ls := ls) h)
  have HLL : Hid ((ls.map Lb.v).length = ls.length) := List.length_map _
  have HGD := Lib.hid (loadL_good (ls.map Lb.v) nm)
  have hln := loadL_len (ls.map Lb.v) nm
  have HML : Hid (missL (ls.map Lb.v) nm = (loadL (ls.map Lb.v) nm).foldl (mStep (ls.map Lb.v)) []) := rfl
  have hb0 : Below w.heap.size w (w.alloc (.cells #[] 9)) := (Below.refl _ _).alloc (Nat.le_refl _) _
  have o0 : (w.alloc (.cells #[] 9)).ownsRow w.heap.size 9 1 (.slice (some ⟨w.heap.size, 0, none⟩) 0 0) 0 (texts []) := World.ownsRow_lit (base := w.heap.size) (e := 9) (size := 1) w #[] 0 (Nat.le_refl _) (by unfold maxLen; omega) rfl
  have HB0 := Lib.hid hb0
  have HO0 := Lib.hid o0
  have HP := Lib.hid (fun w' (hb : Below w.heap.size w w') nm => specPlace_any (c := c) ls nm w' (H1.out.below hb).1 (by unfold maxLen; omega))
  have HLD := Lib.hid (specLoad_any (c := c) ls nm (w.alloc (.cells #[] 9)) (H1.out.below HB0.out) HB0.out.size hm hc hs)
  have HFW := Lib.hid (fun h => need_few (ls := ls) (nm := nm) h)
  clear h1 hs hb0 o0
  generalize loadL (ls.map Lb.v) nm = ord at *
  generalize missL (ls.map Lb.v) nm = res at *
  generalize ls.map Lb.v = vs at *
  go_enter Try.func32, Try.ntmps32
  go_wp2_with fail
  refine HLD.out.mono ?_
  rintro e w1 ⟨A1, c1, rfl, o1, s1⟩
  have HR1 := Lib.hid (own_base (base' := w.heap.size) o1 HB0.out.size)
  have HB1 := Lib.hid (HB0.out.trans (s1.mono HB0.out.size))
  have HO1 := Lib.hid (own_below HO0.out s1)
  clear o1 s1 HB0 HO0 HLD
  go_wp2
  go_loopw [5, 7] (fun v iv wr => ∃ (k n : Nat) (A : Option Addr) (c : Nat) (o2 : List ByteArray), k ≤ ord.length ∧ n ≤ 6 * k ∧ iv = .int .i64 k ∧ v = .slice A n c ∧ Hid (o2.length = n ∧ o2 = (ord.take k).foldl (mStep vs) []) ∧ Hid (Below w.heap.size w wr) ∧ Hid (wr.ownsRow w.heap.size 3 1 (.slice A1 ord.length c1) ord.length (nums .i64 ord)) ∧ Hid (wr.ownsRow w.heap.size 9 1 (.slice A n c) n (texts o2))) (fun _ iv _ => ord.length - (intOf iv).toNat)
  case atStart => exact ⟨0, 0, _, _, [], Nat.zero_le _, by omega, rfl, rfl, Lib.hid ⟨rfl, rfl⟩, HB1, HR1, HO1⟩
  case round =>
    clear HB1 HR1 HO1
    obtain ⟨k, n, A2, c2, o2, hk, hn, rfl, rfl, HX, HB, HR, HO⟩ := hrel
    by_cases hlt : k < ord.length
    · skip
      have hgb := HGD.out.bd _ (List.getElem_mem hlt)
      have HFK := Lib.hid (HFW.out ord[k] (List.getElem_mem hlt))
      obtain ⟨q, hq⟩ : ∃ q : Nat, ord[k] = (q : Int) := ⟨ord[k].toNat, by omega⟩
      have hql : q < ls.length := by have := HLL.out; omega
      have HST := Lib.hid (mFold_take2 vs ord (k := k) hlt)
      rw [hq] at HFK HST
      rw [HND.out q hql] at HFK HST
      obtain ⟨ad, u1, rfl, hbl, hx1, hc1⟩ := (Reads.of_own HR.out).at_ hlt
      rw [nums_get _ _ hlt] at hx1
      injection hx1 with hx1
      subst hx1
      rw [hq] at hc1
      obtain ⟨b, off, rfl, e0, e1, e2⟩ := need_at (H1.out.below HB.out) hql
      have HIN := Lib.hid ((H1.out.2 _ (List.getElem_mem hql)).1)
      have hql' : (q : Int) < (ls.length : Int) := by omega
      have hnf := HFK.out
      clear e0 e2 hgb hq HFK
      generalize ls[q].needsA = NA at *
      generalize ls[q].needsc = nc at *
      generalize ls[q].needs = ns at *
      rw [← HX.out.2] at HST
      have HXL := Lib.hid HX.out.1
      clear HX
      go_wp2
      clear hc1 e1
      obtain ⟨wo, hwo⟩ : ∃ wo : World, wo = wr := ⟨_, rfl⟩
      subst hwo
      go_loopw [5, 9] (fun v jv wr => ∃ (j n2 : Nat) (A : Option Addr) (c : Nat) (o3 : List ByteArray), j ≤ ns.length ∧ n2 ≤ n + j ∧ jv = .int .i64 j ∧ v = .slice A n2 c ∧ Hid (o3.length = n2 ∧ o3 = (ns.take j).foldl (mPut vs) o2) ∧ Hid (Below w.heap.size w wr) ∧ Hid (wr.ownsRow w.heap.size 3 1 (.slice _ ord.length c1) ord.length (nums .i64 ord)) ∧ Hid (wr.ownsRow w.heap.size 9 1 (.slice A n2 c) n2 (texts o3))) (fun _ jv _ => ns.length - (intOf jv).toNat)
      case atStart => exact ⟨0, n, _, c2, o2, Nat.zero_le _, by omega, rfl, rfl, Lib.hid ⟨HXL.out, rfl⟩, HB, HR, HO⟩
      case round =>
        clear HB HO HR
        obtain ⟨j, n2, A3, c3, o3, hj, hn2, rfl, rfl, HY, HB, HR, HO⟩ := hrel
        by_cases hjl : j < ns.length
        · obtain ⟨ad2, u2, rfl, hbl2, hx2, hc2⟩ := (HIN.out.below HB.out).at_ hjl
          rw [texts_get _ _ hjl] at hx2
          injection hx2 with hx2
          subst hx2
          have HT := Lib.hid (mNeed_take vs ns o2 hjl)
          have HYE : Hid ((ns.take (j + 1)).foldl (mPut vs) o2 = mPut vs o3 ns[j]) := by have h := HT.out; rw [← HY.out.2] at h; exact h
          have HYL := Lib.hid HY.out.1
          have HPC := Lib.hid (HP.out _ HB.out ns[j])
          have HPU1 : Hid (0 ≤ lPlace vs ns[j] → mPut vs o3 ns[j] = o3) := fun h' => mPut_no1 h'
          have HPU2 : Hid (hasS o3 ns[j] = true → mPut vs o3 ns[j] = o3) := fun h' => mPut_no2 h'
          have HPU3 : Hid (lPlace vs ns[j] < 0 → hasS o3 ns[j] = false → mPut vs o3 ns[j] = o3 ++ [ns[j]]) := fun h' h2 => mPut_yes h' h2
          have hbd := lPlace_lt vs ns[j]
          rw [HLL.out] at hbd
          clear HT HY
          generalize lPlace vs ns[j] = y at *
          generalize ns[j] = need at *
          obtain ⟨hy1, hy2⟩ := hbd
          go_wp2_with fail
          refine HPC.out.mono ?_
          rintro e w' ⟨rfl, rfl⟩
          have hj0 : (0 : Int) ≤ (j : Int) := Int.natCast_nonneg _
          have hj1 : (j : Int) < (ns.length : Int) := by omega
          have HC2 := Lib.hid hc2
          obtain ⟨b0, hb0⟩ : ∃ b0, b0 = decide (0 ≤ y) := ⟨_, rfl⟩
          have HB0' := Lib.hid hb0
          clear hb0 HPC
          go_wp2
          rw [show (decide (0 ≤ y)) = b0 from HB0'.out.symm]
          obtain ⟨wp, hwp⟩ : ∃ wp : World, wp = wr := ⟨_, rfl⟩
          subst hwp
          go_loopw [10, 11] (fun kv iv wr => ∃ (i : Nat) (b : Bool), i ≤ n2 ∧ iv = .int .i64 i ∧ kv = .bool b ∧ Hid (b = (b0 || hasS (o3.take i) need)) ∧ ∃ d, wr = wp.drewN d) (fun _ iv _ => n2 - (intOf iv).toNat)
          case atStart => exact ⟨0, b0, Nat.zero_le _, rfl, rfl, Lib.hid (by simp [hasS]), 0, rfl⟩
          case round =>
            obtain ⟨i, b, hi, rfl, rfl, HBB, d, rfl⟩ := hrel
            by_cases hil : i < n2
            · have hio : i < o3.length := by have := HYL.out; omega
              have HTK := Lib.hid (hasS_take (z := need) hio)
              obtain ⟨ad3, u3, rfl, hbl3, hx3, hc3⟩ := (Reads.of_own HO.out).at_ hil
              rw [texts_get _ _ hio] at hx3
              injection hx3 with hx3
              subst hx3
              have i0' : (0 : Int) ≤ (i : Int) := Int.natCast_nonneg _
              have i1 : (i : Int) < (n2 : Int) := by omega
              have hc2' := HC2.out
              cases b
              · by_cases he : o3[i] = need
                · have ht : (o3[i].toList == need.toList) = true := by simp [he]
                  have HN : Hid (true = (b0 || hasS (o3.take (i + 1)) need)) := by rw [Hid, HTK.out, decide_eq_true he]; simp
                  clear he
                  go_wp2
                  go_quiet (fail)
                  go_wp2
                  go_roundw
                  case rel => exact ⟨i + 1, true, by omega, by go_num, rfl, HN, _, rfl⟩
                  case measure => simp [intOf]; omega
                · have ht : (o3[i].toList == need.toList) = false := by simpa using fun h => he (toList_inj h)
                  have HN : Hid (false = (b0 || hasS (o3.take (i + 1)) need)) := by rw [Hid, HTK.out, decide_eq_false he, Bool.or_false]; exact HBB.out
                  clear he
                  go_wp2
                  go_quiet (fail)
                  go_wp2
                  go_roundw
                  case rel => exact ⟨i + 1, false, by omega, by go_num, rfl, HN, _, rfl⟩
                  case measure => simp [intOf]; omega
              · have HN : Hid (true = (b0 || hasS (o3.take (i + 1)) need)) := by rw [Hid, HTK.out, ← Bool.or_assoc, ← HBB.out]; rfl
                go_wp2
                go_quiet (fail)
                go_wp2
                go_roundw
                case rel => exact ⟨i + 1, true, by omega, by go_num, rfl, HN, _, rfl⟩
                case measure => simp [intOf]; omega
            · have HF : Hid (b = (b0 || hasS o3 need)) := by have h := HBB.out; rw [List.take_of_length_le (by have := HYL.out; omega)] at h; exact h
              have HB4 := Lib.hid (below_drewN HB.out d)
              have HO4 := Lib.hid (own_drewN HO.out d)
              have HR4 := Lib.hid (own_drewN HR.out d)
              have hc2' := HC2.out
              clear HB HO HR HC2
              cases b
              · have hbz4 : w.heap.size ≤ wp.heap.size := HB4.out.size
                have h2 := HF.out
                have hy : y < 0 := by
                  have h3 := HB0'.out
                  cases b0
                  · have := of_decide_eq_false h3.symm; omega
                  · simp at h2
                have hno : hasS o3 need = false := by
                  cases hq : hasS o3 need
                  · rfl
                  · rw [hq] at h2; simp at h2
                have HPE := Lib.hid (HPU3.out hy hno)
                clear h2 hno
                go_wp2_with (at_builtin; refine wpList_push _ rfl (.tmp 63) (.tmp 68) _ rfl w.heap.size 9 i0 _ 1 16 Try.underlying27 hi0 hz0 hz1 hz2 rfl (by omega) (by omega) A3 n2 c3 1 1 (texts o3) [.string need] (by exact HO4.out.alloc _) rfl ⟨(wp.drewN d).heap.size, 0, none⟩ rfl rfl (World.news_of_block (cs := #[.string need]) (t := 9) (fr := (0, 0)) (by exact heap_alloc_new (wp.drewN d) _)) (by simp [Value.oneCell']) (by omega) (by omega) (by simp; omega) ?_; intro A5 c5 w5 hown hgrow hat hkeep; have HB5 := Lib.hid (below_push (HB4.out.alloc hbz4 _) (HO4.out.alloc _) (Nat.le_refl _) (by simp; omega) hgrow); have HR5 := Lib.hid (own_other (HR4.out.alloc _) hgrow (own_types_ne HR4.out HO4.out (by decide))); have HO5 := Lib.hid hown; clear hown hgrow hat hkeep)
                go_roundw
                case rel =>
                  refine ⟨j + 1, n2 + 1, A5, c5, o3 ++ [need], by omega, by omega, by go_num, rfl, Lib.hid ⟨by have := HYL.out; simp; omega, by rw [HYE.out, HPE.out]⟩, HB5, HR5, ?_⟩
                  have e : texts (o3 ++ [need]) = texts o3 ++ [.string need] := by simp [texts]
                  rw [e]
                  exact HO5
                case measure => simp [intOf]; omega
              · have HPE : Hid (mPut vs o3 need = o3) := by
                  have h2 := HF.out
                  by_cases hy : 0 ≤ y
                  · exact HPU1.out hy
                  · have h3 := HB0'.out
                    rw [decide_eq_false hy] at h3
                    subst h3
                    exact HPU2.out (by simpa using h2.symm)
                go_wp2
                go_roundw
                case rel => exact ⟨j + 1, n2, A3, c3, o3, by omega, by omega, by go_num, rfl, Lib.hid ⟨HYL.out, by rw [HYE.out, HPE.out]⟩, HB4, HR4, HO4⟩
                case measure => simp [intOf]; omega
        · have HYF : Hid (o3 = (ord.take (k + 1)).foldl (mStep vs) []) := by have h := HY.out.2; rw [List.take_of_length_le (by omega)] at h; rw [HST.out]; exact h
          go_wp2
          go_roundw
          case rel => exact ⟨k + 1, n2, A3, c3, o3, by omega, by omega, by go_num, rfl, Lib.hid ⟨HY.out.1, HYF.out⟩, HB, HR, HO⟩
          case measure => simp [intOf]; omega
    · have HF : Hid (res = o2) := by have h := HX.out.2; rw [List.take_of_length_le (by omega)] at h; rw [Hid, HML.out, h]
      go_wp2
      go_ret
      rw [HF.out, HX.out.1]
      exact ⟨A2, c2, rfl, HO.out, HB.out⟩
end Go.Proofs.Ytbhndkdijbappaa
