/- Contracts of the two LibrariesMissing. No condition but the sizes. -/
import Derived.Test.YtbhndkdijbappaaRows
import Derived.Test.YtbhndkdijbappaaBase
import Derived.Test.YtbhndkdijbappaaBase2
import Derived.Test.YtbhndkdijbappaaOnly
import Derived.Test.YtbhndkdijbappaaIn
import Derived.Test.YtbhndkdijbappaaName
import Derived.Test.YtbhndkdijbappaaFindS
import Derived.Test.YtbhndkdijbappaaIdxI
import Derived.Test.YtbhndkdijbappaaIdxS
import Derived.Test.YtbhndkdijbappaaLb
import Derived.Test.YtbhndkdijbappaaFindLb
import Derived.Test.YtbhndkdijbappaaLibs
import Derived.Test.YtbhndkdijbappaaLibV
import Derived.Test.YtbhndkdijbappaaLibW
import Derived.Test.YtbhndkdijbappaaLoadP
import Derived.Test.YtbhndkdijbappaaLoadI
import Derived.Test.YtbhndkdijbappaaLoadS
import Derived.Test.YtbhndkdijbappaaLibG
import Derived.WalkKit
import Derived.WalkSpells
import Derived.WalkLawsBesides
import Derived.Handy
import Derived.BigQuiet
import Derived.Deep.RegionHeld3
import Derived.Deep.DrawnRows
import Derived.Deep.QuietTactic
namespace Go.Proofs.Ytbhndkdijbappaa
open Go Go.RowKit

theorem ltext_info : (Try.prog.info? 9).map (fun i => (i.zero, i.size, i.bytes)) = some (some (.string ByteArray.empty), 1, 16) := by kernel_rfl
def mPut (vs : List LbV) (out : List ByteArray) (nm : ByteArray) : List ByteArray := if (decide (lPlace vs nm < 0) && !hasS out nm) = true then out ++ [nm] else out
def mStep (vs : List LbV) (out : List ByteArray) (x : Int) : List ByteArray := (lNeeds vs x).foldl (mPut vs) out
/-- The names that are needed, and that no library has. -/
def missL (vs : List LbV) (nm : ByteArray) : List ByteArray := (loadL vs nm).foldl (mStep vs) []
theorem mPut_no1 {vs : List LbV} {out : List ByteArray} {nm : ByteArray} (h : 0 ≤ lPlace vs nm) : mPut vs out nm = out := by
  unfold mPut
  rw [decide_eq_false (by omega)]
  rfl
theorem mPut_no2 {vs : List LbV} {out : List ByteArray} {nm : ByteArray} (h : hasS out nm = true) : mPut vs out nm = out := by
  unfold mPut
  rw [h, Bool.not_true, Bool.and_false]
  rfl
theorem mPut_yes {vs : List LbV} {out : List ByteArray} {nm : ByteArray} (h : lPlace vs nm < 0) (h2 : hasS out nm = false) : mPut vs out nm = out ++ [nm] := by
  unfold mPut
  rw [decide_eq_true h, h2]
  rfl
theorem mPut_len (vs : List LbV) (out : List ByteArray) (nm : ByteArray) : (mPut vs out nm).length ≤ out.length + 1 := by
  unfold mPut
  split <;> simp
theorem mNeed_take (vs : List LbV) (ns : List ByteArray) (out : List ByteArray) {k : Nat} (hk : k < ns.length) : (ns.take (k + 1)).foldl (mPut vs) out = mPut vs ((ns.take k).foldl (mPut vs) out) ns[k] := by
  rw [List.take_succ_eq_append_getElem hk, List.foldl_append]
  rfl
theorem mFold_take (vs : List LbV) (ord : List Int) {k : Nat} (hk : k < ord.length) : (ord.take (k + 1)).foldl (mStep vs) [] = mStep vs ((ord.take k).foldl (mStep vs) []) ord[k] := by
  rw [List.take_succ_eq_append_getElem hk, List.foldl_append]
  rfl
theorem mFold_take2 (vs : List LbV) (ord : List Int) {k : Nat} (hk : k < ord.length) : (ord.take (k + 1)).foldl (mStep vs) [] = (lNeeds vs ord[k]).foldl (mPut vs) ((ord.take k).foldl (mStep vs) []) := mFold_take vs ord hk
theorem libs_at {vs : List LbV} (h : libsOk vs = true) {k : Nat} (hk : k < vs.length) : lOk1 vs k vs[k] = true := by
  unfold libsOk at h
  simp only [Bool.and_eq_true] at h
  exact of_decide_eq_true h.2 k hk
theorem need_few {ls : List Lb} {nm : ByteArray} : ∀ x, x ∈ loadL (ls.map Lb.v) nm → (lNeeds (ls.map Lb.v) x).length ≤ 6 := fun x hx => by
  by_cases hok : libsOk (ls.map Lb.v) = true
  · have hb := (loadL_good (ls.map Lb.v) nm).bd x hx
    obtain ⟨q, rfl⟩ := Int.eq_ofNat_of_zero_le hb.1
    have hq : q < ls.length := by have := hb.2; rw [List.length_map] at this; omega
    rw [lNeeds_at hq]
    have hall := libs_at (vs := ls.map Lb.v) hok (k := q) (by simpa using hq)
    rw [map_at hq, lOk1_eq hq] at hall
    simp only [Bool.and_eq_true] at hall
    have h2 := hall.1.2
    unfold fewOk at h2
    simp only [Bool.and_eq_true, decide_eq_true_eq] at h2
    exact h2.1
  · have h0 : loadL (ls.map Lb.v) nm = [] := load_no1 nm (by simpa using hok)
    rw [h0] at hx
    cases hx
theorem mFold_len (vs : List LbV) (ns : List ByteArray) : ∀ (out : List ByteArray), (ns.foldl (mPut vs) out).length ≤ out.length + ns.length := by
  induction ns with
  | nil => intro out; simp
  | cons x ns ih => intro out; have h1 := ih (mPut vs out x); have h2 := mPut_len vs out x; simp only [List.foldl_cons, List.length_cons]; omega
theorem missL_len (ls : List Lb) (nm : ByteArray) : (missL (ls.map Lb.v) nm).length ≤ 36 := by
  have h : ∀ (ord : List Int), (∀ x ∈ ord, (lNeeds (ls.map Lb.v) x).length ≤ 6) → ∀ out : List ByteArray, (ord.foldl (mStep (ls.map Lb.v)) out).length ≤ out.length + 6 * ord.length := by
    intro ord
    induction ord with
    | nil => intro _ out; simp
    | cons x ord ih =>
      intro hx out
      have h1 := ih (fun y hy => hx y (by simp [hy])) (mStep (ls.map Lb.v) out x)
      have h2 := mFold_len (ls.map Lb.v) (lNeeds (ls.map Lb.v) x) out
      have h3 := hx x (by simp)
      simp only [List.foldl_cons, List.length_cons]
      unfold mStep at h1 ⊢
      omega
  have h1 := h (loadL (ls.map Lb.v) nm) (need_few) []
  have h2 := loadL_len (ls.map Lb.v) nm
  unfold missL
  simp only [List.length_nil] at h1
  omega
set_option maxRecDepth 100000 in
set_option maxHeartbeats 8000000 in
theorem implMiss_any {A : Option Addr} {c B : Nat} (ls : List Lb) (nm : ByteArray) (w : World) (h1 : LbAt w B A ls) (hB : B ≤ w.heap.size) (hm : ls.length ≤ 1048576) (hc : ls.length ≤ c) (hs : ∀ l ∈ ls, l.small) :
    Calls Try.prog 30 #[.slice A ls.length c, .string nm] w (Fresh 9 1 w (missL (ls.map Lb.v) nm).length (texts (missL (ls.map Lb.v) nm))) := by
  obtain ⟨i0, hi0, hz0, hz1, hz2⟩ := info_parts ltext_info
  have H1 := Lib.hid (h1.more hB)
  have HS := Lib.hid hs
  have HND := Lib.hid (fun q (h : q < ls.length) => lNeeds_at (ls := ls) h)
  have HLL : Hid ((ls.map Lb.v).length = ls.length) := List.length_map _
  have HGD := Lib.hid (loadL_good (ls.map Lb.v) nm)
  have hln := loadL_len (ls.map Lb.v) nm
  have HML : Hid (missL (ls.map Lb.v) nm = (loadL (ls.map Lb.v) nm).foldl (mStep (ls.map Lb.v)) []) := rfl
  have hb0 : Below w.heap.size w (w.alloc (.cells #[] 9)) := (Below.refl _ _).alloc (Nat.le_refl _) _
  have o0 : (w.alloc (.cells #[] 9)).ownsRow w.heap.size 9 1 (.slice (some ⟨w.heap.size, 0, none⟩) 0 0) 0 (texts []) := World.ownsRow_lit (base := w.heap.size) (e := 9) (size := 1) w #[] 0 (Nat.le_refl _) (by unfold maxLen; omega) rfl
  have HB0 := Lib.hid hb0
  have HO0 := Lib.hid o0
  have HP := Lib.hid (fun w' (hb : Below w.heap.size w w') nm => implPlace_any (c := c) ls nm w' (H1.out.below hb).1 hb.size (by unfold maxLen; omega))
  have HLD := Lib.hid (implLoad_any (c := c) ls nm (w.alloc (.cells #[] 9)) (H1.out.below HB0.out) HB0.out.size hm hc hs)
  have HFW := Lib.hid (fun h => need_few (ls := ls) (nm := nm) h)
  clear h1 hs hb0 o0
  generalize loadL (ls.map Lb.v) nm = ord at *
  generalize missL (ls.map Lb.v) nm = res at *
  generalize ls.map Lb.v = vs at *
  go_enter Try.func30, Try.ntmps30
  go_wp2_with fail
  refine HLD.out.mono ?_
  rintro e w1 ⟨A1, c1, rfl, o1, s1⟩
  have HR1 := Lib.hid (own_base (base' := w.heap.size) o1 HB0.out.size)
  have HB1 := Lib.hid (HB0.out.trans (s1.mono HB0.out.size))
  have HO1 := Lib.hid (own_below HO0.out s1)
  clear o1 s1 HB0 HO0 HLD
  go_wp2
  go_loopw [5, 15] (fun v iv wr => ∃ (k n : Nat) (A : Option Addr) (c : Nat) (o2 : List ByteArray), k ≤ ord.length ∧ n ≤ 6 * k ∧ iv = .int .i64 k ∧ v = .slice A n c ∧ Hid (o2.length = n ∧ o2 = (ord.take k).foldl (mStep vs) []) ∧ Hid (Below w.heap.size w wr) ∧ Hid (wr.ownsRow w.heap.size 3 1 (.slice A1 ord.length c1) ord.length (nums .i64 ord)) ∧ Hid (wr.ownsRow w.heap.size 9 1 (.slice A n c) n (texts o2))) (fun _ iv _ => ord.length - (intOf iv).toNat)
  case atStart => exact ⟨0, 0, _, _, [], Nat.zero_le _, by omega, rfl, rfl, Lib.hid ⟨rfl, rfl⟩, HB1, HR1, HO1⟩
  case round =>
    clear HB1 HR1 HO1
    obtain ⟨k, n, A2, c2, o2, hk, hn, rfl, rfl, HX, HB, HR, HO⟩ := hrel
    by_cases hlt : k < ord.length
    · skip
      have hgb := HGD.out.bd _ (List.getElem_mem hlt)
      have HFK := Lib.hid (HFW.out ord[k] (List.getElem_mem hlt))
      obtain ⟨q, hq⟩ : ∃ q : Nat, ord[k] = (q : Int) := ⟨ord[k].toNat, by omega⟩
      have hql : q < ls.length := by have := HLL.out; omega
      have HST := Lib.hid (mFold_take2 vs ord (k := k) hlt)
      rw [hq] at HFK HST
      rw [HND.out q hql] at HFK HST
      obtain ⟨ad, u1, rfl, hbl, hx1, hc1⟩ := (Reads.of_own HR.out).at_ hlt
      rw [nums_get _ _ hlt] at hx1
      injection hx1 with hx1
      subst hx1
      rw [hq] at hc1
      obtain ⟨b, off, rfl, e0, e1, e2⟩ := need_at (H1.out.below HB.out) hql
      have HIN := Lib.hid ((H1.out.2 _ (List.getElem_mem hql)).1)
      have hql' : (q : Int) < (ls.length : Int) := by omega
      have hnf := HFK.out
      clear e0 e2 hgb hq HFK
      generalize ls[q].needsA = NA at *
      generalize ls[q].needsc = nc at *
      generalize ls[q].needs = ns at *
      rw [← HX.out.2] at HST
      have HXL := Lib.hid HX.out.1
      clear HX
      go_wp2
      clear hc1 e1
      obtain ⟨wo, hwo⟩ : ∃ wo : World, wo = wr := ⟨_, rfl⟩
      subst hwo
      go_loopw [5, 25] (fun v jv wr => ∃ (j n2 : Nat) (A : Option Addr) (c : Nat) (o3 : List ByteArray), j ≤ ns.length ∧ n2 ≤ n + j ∧ jv = .int .i64 j ∧ v = .slice A n2 c ∧ Hid (o3.length = n2 ∧ o3 = (ns.take j).foldl (mPut vs) o2) ∧ Hid (Below w.heap.size w wr) ∧ Hid (wr.ownsRow w.heap.size 3 1 (.slice _ ord.length c1) ord.length (nums .i64 ord)) ∧ Hid (wr.ownsRow w.heap.size 9 1 (.slice A n2 c) n2 (texts o3))) (fun _ jv _ => ns.length - (intOf jv).toNat)
      case atStart => exact ⟨0, n, _, c2, o2, Nat.zero_le _, by omega, rfl, rfl, Lib.hid ⟨HXL.out, rfl⟩, HB, HR, HO⟩
      case round =>
        clear HB HO HR
        obtain ⟨j, n2, A3, c3, o3, hj, hn2, rfl, rfl, HY, HB, HR, HO⟩ := hrel
        by_cases hjl : j < ns.length
        · obtain ⟨ad2, u2, rfl, hbl2, hx2, hc2⟩ := (HIN.out.below HB.out).at_ hjl
          rw [texts_get _ _ hjl] at hx2
          injection hx2 with hx2
          subst hx2
          have HT := Lib.hid (mNeed_take vs ns o2 hjl)
          have HYE : Hid ((ns.take (j + 1)).foldl (mPut vs) o2 = mPut vs o3 ns[j]) := by have h := HT.out; rw [← HY.out.2] at h; exact h
          have HYL := Lib.hid HY.out.1
          have HPC := Lib.hid (HP.out _ HB.out ns[j])
          have HPU1 : Hid (0 ≤ lPlace vs ns[j] → mPut vs o3 ns[j] = o3) := fun h' => mPut_no1 h'
          have HPU2 : Hid (hasS o3 ns[j] = true → mPut vs o3 ns[j] = o3) := fun h' => mPut_no2 h'
          have HPU3 : Hid (lPlace vs ns[j] < 0 → hasS o3 ns[j] = false → mPut vs o3 ns[j] = o3 ++ [ns[j]]) := fun h' h2 => mPut_yes h' h2
          have hbd := lPlace_lt vs ns[j]
          rw [HLL.out] at hbd
          clear HT HY
          generalize lPlace vs ns[j] = y at *
          generalize ns[j] = need at *
          obtain ⟨hy1, hy2⟩ := hbd
          go_wp2_with fail
          refine HPC.out.mono ?_
          rintro e w4 ⟨rfl, s4⟩
          have HB4 := Lib.hid (HB.out.trans (s4.mono HB.out.size))
          have HO4 := Lib.hid (own_below HO.out s4)
          have HR4 := Lib.hid (own_below HR.out s4)
          clear s4 HB HO HR HPC hc2
          by_cases hy : y < 0
          · have HRo : Hid (Reads w4 w4.heap.size 1 A3 o3.length (texts o3)) := by rw [HYL.out]; exact Reads.of_own HO4.out
            have HCo := Lib.hid (containsStr_any (c := c3) need o3 w4 HRo.out (by have := HYL.out; unfold maxLen; omega))
            rw [show (o3.any fun x => decide (x = need)) = hasS o3 need from rfl, HYL.out] at HCo
            by_cases hmem : hasS o3 need = true
            · rw [hmem] at HCo
              have HPE := Lib.hid (HPU2.out hmem)
              clear hmem
              go_wp2_with fail
              refine HCo.out.mono ?_
              rintro e w' ⟨rfl, rfl⟩
              go_wp2
              go_roundw
              case rel => exact ⟨j + 1, n2, A3, c3, o3, by omega, by omega, by go_num, rfl, Lib.hid ⟨HYL.out, by rw [HYE.out, HPE.out]⟩, HB4, HR4, HO4⟩
              case measure => simp [intOf]; omega
            · have hmem' : hasS o3 need = false := by simpa using hmem
              rw [hmem'] at HCo
              have HPE := Lib.hid (HPU3.out hy hmem')
              clear hmem hmem'
              have hbz4 := HB4.out.size
              go_wp2_with fail
              refine HCo.out.mono ?_
              rintro e w' ⟨rfl, rfl⟩
              go_wp2_with (at_builtin; refine wpList_push _ rfl (.tmp 39) (.tmp 41) _ rfl w.heap.size 9 i0 _ 1 16 Try.underlying27 hi0 hz0 hz1 hz2 rfl (by omega) (by omega) A3 n2 c3 1 1 (texts o3) [.string need] (by exact HO4.out.alloc _) rfl ⟨w4.heap.size, 0, none⟩ rfl rfl (World.news_of_block (cs := #[.string need]) (t := 9) (fr := (0, 0)) (by exact heap_alloc_new w4 _)) (by simp [Value.oneCell']) (by omega) (by omega) (by simp; omega) ?_; intro A5 c5 w5 hown hgrow hat hkeep; have HB5 := Lib.hid (below_push (HB4.out.alloc hbz4 _) (HO4.out.alloc _) (Nat.le_refl _) (by simp; omega) hgrow); have HR5 := Lib.hid (own_other (HR4.out.alloc _) hgrow (own_types_ne HR4.out HO4.out (by decide))); have HO5 := Lib.hid hown; clear hown hgrow hat hkeep)
              go_roundw
              case rel =>
                refine ⟨j + 1, n2 + 1, A5, c5, o3 ++ [need], by omega, by omega, by go_num, rfl, Lib.hid ⟨by have := HYL.out; simp; omega, by rw [HYE.out, HPE.out]⟩, HB5, HR5, ?_⟩
                have e : texts (o3 ++ [need]) = texts o3 ++ [.string need] := by simp [texts]
                rw [e]
                exact HO5
              case measure => simp [intOf]; omega
          · have hyy : decide (y < 0) = false := decide_eq_false hy
            have HPE := Lib.hid (HPU1.out (by omega))
            go_wp2
            go_roundw
            case rel => exact ⟨j + 1, n2, A3, c3, o3, by omega, by omega, by go_num, rfl, Lib.hid ⟨HYL.out, by rw [HYE.out, HPE.out]⟩, HB4, HR4, HO4⟩
            case measure => simp [intOf]; omega
        · have HYF : Hid (o3 = (ord.take (k + 1)).foldl (mStep vs) []) := by have h := HY.out.2; rw [List.take_of_length_le (by omega)] at h; rw [HST.out]; exact h
          go_wp2
          go_roundw
          case rel => exact ⟨k + 1, n2, A3, c3, o3, by omega, by omega, by go_num, rfl, Lib.hid ⟨HY.out.1, HYF.out⟩, HB, HR, HO⟩
          case measure => simp [intOf]; omega
    · have HF : Hid (res = o2) := by have h := HX.out.2; rw [List.take_of_length_le (by omega)] at h; rw [Hid, HML.out, h]
      go_wp2
      go_ret
      rw [HF.out, HX.out.1]
      exact ⟨A2, c2, rfl, HO.out, HB.out⟩
end Go.Proofs.Ytbhndkdijbappaa
