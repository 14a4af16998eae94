/- Contract of the drawing of libraries. Condition: not too many draws. -/
import Derived.Test.YtbhndkdijbappaaRows
import Derived.Test.YtbhndkdijbappaaBase
import Derived.Test.YtbhndkdijbappaaBase2
import Derived.Test.YtbhndkdijbappaaBase3
import Derived.Test.YtbhndkdijbappaaOnly
import Derived.Test.YtbhndkdijbappaaIn
import Derived.Test.YtbhndkdijbappaaName
import Derived.Test.YtbhndkdijbappaaStrS
import Derived.Test.YtbhndkdijbappaaFindS
import Derived.Test.YtbhndkdijbappaaIdxI
import Derived.Test.YtbhndkdijbappaaIdxS
import Derived.Test.YtbhndkdijbappaaLb
import Derived.Test.YtbhndkdijbappaaFindLb
import Derived.Test.YtbhndkdijbappaaLibs
import Derived.Test.YtbhndkdijbappaaLoadS
import Derived.Test.YtbhndkdijbappaaPick
import Derived.Test.YtbhndkdijbappaaPick2
import Derived.Test.YtbhndkdijbappaaReg
import Derived.Test.YtbhndkdijbappaaRegS
import Derived.Test.YtbhndkdijbappaaDrawLiP
import Derived.WalkKit
import Derived.WalkSpells
import Derived.WalkLawsBesides
import Derived.Handy
import Derived.BigQuiet
import Derived.Deep.RegionHeld3
import Derived.Deep.DrawnRows
import Derived.Deep.QuietTactic
namespace Go.Proofs.Ytbhndkdijbappaa
open Go Go.RowKit

theorem own_of_blk {w : World} {g H : Nat} {xs : List ByteArray} (h : Blk w g 9 (texts xs).toArray) (hg : H ≤ g) (hm : xs.length ≤ maxLen) : w.ownsRow H 9 1 (.slice (some ⟨g, 0, none⟩) xs.length xs.length) xs.length (texts xs) :=
  ⟨by simp [texts], .inr ⟨g, xs.length, (texts xs).toArray, rfl, hg, h, Nat.le_refl _, hm, by simp [texts], by simp [texts]; exact List.take_of_length_le (by simp)⟩⟩
theorem own_nil {w : World} {H : Nat} : w.ownsRow H 9 1 (.slice none 0 0) 0 (texts []) := ⟨by simp [texts], .inl ⟨rfl, rfl⟩⟩
set_option maxRecDepth 100000 in
set_option maxHeartbeats 16000000 in
theorem l20Libraries_any (r P : Nat) (n : Int) (w : World) (hr : Rdr w r P) (hP : P ≤ 100000) (hn : 0 ≤ n) (hn2 : n ≤ 1000) : Calls Try.prog 36 #[.pointer (some ⟨r, 0, none⟩), .int .i64 n] w (DrewLibs w r P) := by
  obtain ⟨i0, hi0, hz0, hz1, hz2⟩ := info_parts str_info
  obtain ⟨j0, gi0, gz0, gz1, gz2⟩ := info_parts lib_info
  have hrl := hr.lt
  have HR := Lib.hid hr
  clear hr
  go_enter Try.func36, Try.ntmps36
  go_wp2_with fail
  obtain ⟨wl, hwl⟩ : ∃ wl, wl = ((w.alloc (.cells #[.string ⟨#[97]⟩, .string ⟨#[98]⟩, .string ⟨#[99]⟩, .string ⟨#[100]⟩, .string ⟨#[101]⟩, .string ⟨#[120]⟩] 9)).alloc (.cells #[.string ⟨#[112, 117, 116]⟩, .string ⟨#[103, 101, 116]⟩, .string ⟨#[109, 97, 105, 110]⟩] 9)) := ⟨_, rfl⟩
  have HN0 : Hid (Blk wl w.heap.size 9 (texts [⟨#[97]⟩, ⟨#[98]⟩, ⟨#[99]⟩, ⟨#[100]⟩, ⟨#[101]⟩, ⟨#[120]⟩]).toArray) := by rw [hwl]; exact (Blk.new w 9 _).alloc _
  have HV0 : Hid (Blk wl (w.heap.size + 1) 9 (texts [⟨#[112, 117, 116]⟩, ⟨#[103, 101, 116]⟩, ⟨#[109, 97, 105, 110]⟩]).toArray) := by
    rw [hwl]
    have h := Blk.new (w.alloc (.cells #[.string ⟨#[97]⟩, .string ⟨#[98]⟩, .string ⟨#[99]⟩, .string ⟨#[100]⟩, .string ⟨#[101]⟩, .string ⟨#[120]⟩] 9)) 9 (texts [⟨#[112, 117, 116]⟩, ⟨#[103, 101, 116]⟩, ⟨#[109, 97, 105, 110]⟩]).toArray
    rwa [World.size_alloc] at h
  have hwz : wl.heap.size = w.heap.size + 2 := by rw [hwl]; simp
  have HWZ := Lib.hid hwz
  have hz2' : w.heap.size + 2 ≤ wl.heap.size := by omega
  have HRl : Hid (Rdr wl r P) := by rw [hwl]; exact (HR.out.alloc _).alloc _
  have HGl : Hid (w.grownBy wl (some r)) := by rw [hwl]; exact gr_alloc (gr_alloc (grown_refl w (some r)) _) _
  rw [← hwl]
  clear hwl hwz HR
  refine (pick_any r P 6 _ (HRl.out.alloc _) (by omega) (by omega) (by omega)).mono ?_
  rintro e w1 ⟨v1, rfl, ⟨v1a, v1b⟩, hr1, hg1⟩
  have HG1 := Lib.hid (gr_trans (gr_alloc HGl.out _) hg1)
  have HN1 := Lib.hid ((HN0.out.alloc (.cells #[] 29)).grown hg1 (by simp; omega))
  have HV1 := Lib.hid ((HV0.out.alloc (.cells #[] 29)).grown hg1 (by simp; omega))
  have o1 : LbRow w1 w.heap.size (some ⟨wl.heap.size, 0, none⟩) 0 [] := ⟨own_pick (World.ownsRow_lit (base := w.heap.size) (e := 29) (size := 3) wl #[] 0 (by omega) (by unfold maxLen; omega) rfl) hg1 hrl, by simp⟩
  rw [HWZ.out] at o1
  have HO1 := Lib.hid o1
  have HR1 := Lib.hid hr1
  clear hr1 hg1 o1 HN0 HV0 HRl HGl hz2'
  obtain ⟨m1, hm1⟩ : ∃ m : Nat, v1 = m := ⟨v1.toNat, by omega⟩
  subst hm1
  go_wp2
  go_loopw [7, 8, 9, 10, 11] (fun v jv _ _ _ wr => ∃ (j q : Nat) (A : Option Addr) (c : Nat) (ls : List Lb), jv = .int .i64 j ∧ v = .slice A ls.length c ∧ q + 7 * j ≤ P + 36 ∧ ls.length + j ≤ 5 ∧ Hid (LbRow wr w.heap.size A c ls) ∧ Hid (∀ l ∈ ls, l.small) ∧ Hid (Blk wr w.heap.size 9 (texts [⟨#[97]⟩, ⟨#[98]⟩, ⟨#[99]⟩, ⟨#[100]⟩, ⟨#[101]⟩, ⟨#[120]⟩]).toArray) ∧ Hid (Blk wr (w.heap.size + 1) 9 (texts [⟨#[112, 117, 116]⟩, ⟨#[103, 101, 116]⟩, ⟨#[109, 97, 105, 110]⟩]).toArray) ∧ Hid (Rdr wr r q) ∧ Hid (w.grownBy wr (some r))) (fun _ jv _ _ _ _ => (intOf jv).toNat)
  case atStart => exact ⟨m1, P + 1, _, _, [], rfl, rfl, by omega, by simp; omega, HO1, Lib.hid (by simp), HN1, HV1, HR1, HG1⟩
  case round =>
    clear HO1 HN1 HV1 HR1 HG1
    obtain ⟨jo, qo, A, c, ls, rfl, rfl, hqj, hlj, HROW, HSM, HNB, HGB, HRd, HGr⟩ := hrel
    obtain ⟨wo, hwo⟩ : ∃ wo : World, wo = wr := ⟨_, rfl⟩
    subst hwo
    have hwr := HGr.out.size
    by_cases hj : 0 < jo
    · obtain ⟨s, hsm, hcs⟩ := lits_at HNB.out (v := (ls.length : Int)) (by omega) (by simp; omega)
      rw [Int.toNat_natCast] at hcs
      have hs8 : s.size ≤ 8 := by simp at hsm; rcases hsm with rfl | rfl | rfl | rfl | rfl | rfl <;> simp [ByteArray.size]
      clear hsm
      have hl6 : (ls.length : Int) < 6 := by omega
      have hl60 : (0 : Int) ≤ (ls.length : Int) := by omega
      have HQJ := Lib.hid hqj
      go_wp2_with fail
      clear hcs hl6 hl60
      refine (pick_any r qo 4 _ (((HRd.out.alloc _).alloc _).alloc _) (by omega) (by omega) (by omega)).mono ?_
      rintro e w2 ⟨v2, rfl, ⟨v2a, v2b⟩, hr2, hg2⟩
      obtain ⟨hm0, hx0⟩ := lb_start _ hrl hwr HRd.out HGr.out hr2 hg2
      have HROWK : Hid (∀ w', Keeps (fun b => b < wo.heap.size ∧ b ≠ r) wo w' → LbRow w' w.heap.size A c ls) := fun w' hk => HROW.out.keeps hk (fun b hb hlt => ⟨hlt, by omega⟩)
      have hbg : w.heap.size + 1 < wo.heap.size := HGB.out.lt
      generalize wo.heap.size = H at *
      obtain ⟨A1, c1, ns, A2, c2, gs, q1, hns, hgs, hq1, hv1, hv2, HM0, HX0⟩ : ∃ (A1 : Option Addr) (c1 : Nat) (ns : List ByteArray) (A2 : Option Addr) (c2 : Nat) (gs : List ByteArray) (q1 : Nat), ns.length = 0 ∧ gs.length = 0 ∧ q1 = qo + 1 ∧ A1 = some ⟨H, 0, none⟩ ∧ A2 = some ⟨H + 1, 0, none⟩ ∧ Hid (LbMem w wo r H A1 c1 ns A2 c2 gs q1 w2) ∧ Hid (Blk w2 (H + 2) 29 #[.string s, .slice A1 ns.length c1, .slice A2 gs.length c2]) := ⟨_, _, _, _, _, _, _, rfl, rfl, rfl, rfl, rfl, hm0, hx0⟩
      clear hm0 hx0 hr2 hg2 HROW HRd hv1 hv2
      obtain ⟨m2, hm2⟩ : ∃ m : Nat, v2 = m := ⟨v2.toNat, by omega⟩
      subst hm2
      have hqP : qo + 7 ≤ P + 36 := by omega
      go_wp2
      go_loopw [10] (fun jv wq => ∃ (j q : Nat) (A1 : Option Addr) (c1 : Nat) (ns : List ByteArray), jv = .int .i64 j ∧ q + j ≤ q1 + 3 ∧ ns.length + j ≤ 3 ∧ Hid (LbMem w wo r H A1 c1 ns A2 c2 gs q wq) ∧ Hid (Blk wq (H + 2) 29 #[.string s, .slice A1 ns.length c1, .slice A2 gs.length c2])) (fun jv _ => (intOf jv).toNat)
      case atStart => exact ⟨m2, q1, A1, c1, ns, rfl, by omega, by omega, HM0, HX0⟩
      case round =>
        clear HM0 HX0 hns
        obtain ⟨j, q, A1, c1, ns, rfl, hqj2, hnj, HM, HX⟩ := hrel
        by_cases hj2 : 0 < j
        · have hq9 : q ≤ 1000000 := by omega
          go_wp2
          have HKN : Hid (w.heap.size ≠ r ∧ w.heap.size ≠ H + 2 ∧ ∀ a, A1 = some a → w.heap.size ≠ a.block) := ⟨by omega, by omega, fun a ha => by have := (own_up HM.out.o1 a ha).1; omega⟩
          refine wp_region_facts (fun i v wq => match i with
            | 0 => v = .pointer (some ⟨H + 2, 1, none⟩)
            | 1 => v = .slice A1 ns.length c1
            | 2 => v = .slice (some ⟨w.heap.size, 0, none⟩) 6 6
            | 3 => v = .pointer (some ⟨r, 0, none⟩)
            | 4 => ∃ x : Int, v = .int .i64 x ∧ 0 ≤ x ∧ x ≤ 5
            | 5 => ∃ (o : Nat) (x : ByteArray), v = .pointer (some ⟨w.heap.size, o, none⟩) ∧ wq.cell? ⟨w.heap.size, o, none⟩ = some (.string x) ∧ x.size ≤ 8
            | 6 => ∃ x : ByteArray, v = .string x ∧ x.size ≤ 8
            | 7 => ∃ (g : Nat) (x : ByteArray), v = .slice (some ⟨g, 0, none⟩) 1 1 ∧ (g ≠ r ∧ g ≠ H + 2 ∧ ∀ a, A1 = some a → g ≠ a.block) ∧ Blk wq g 9 #[.string x] ∧ x.size ≤ 8
            | 8 => True
            | 9 => v = .pointer (some ⟨H + 2, 1, none⟩)
            | _ => True)
            (fun fl vs wq => if fl 10 = true then ∃ (A' : Option Addr) (c' : Nat) (x : ByteArray), LbMem w wo r H A' c' (ns ++ [x]) A2 c2 gs (q + 1) wq ∧ Blk wq (H + 2) 29 #[.string s, .slice A' (ns.length + 1) c', .slice A2 gs.length c2]
            else Blk wq (H + 2) 29 #[.string s, .slice A1 ns.length c1, .slice A2 gs.length c2] ∧ (if fl 8 = true then ∃ (A' : Option Addr) (c' : Nat) (x : ByteArray), vs 8 = .slice A' (ns.length + 1) c' ∧ LbMem w wo r H A' c' (ns ++ [x]) A2 c2 gs (q + 1) wq else LbMem w wo r H A1 c1 ns A2 c2 gs (if fl 4 = true then q + 1 else q) wq)) (Keeps (fun b => b ≠ r ∧ b ≠ H + 2 ∧ ∀ a, A1 = some a → b ≠ a.block)) (by kernel_rfl) (by kernel_rfl) ?_ ?_ ?_ ?_
          · intro i v u u' hk h
            match i, h with
            | 0, h => exact h
            | 1, h => exact h
            | 2, h => exact h
            | 3, h => exact h
            | 4, h => exact h
            | 5, ⟨o, x, h1, h2, h3⟩ => exact ⟨o, x, h1, hk.cell h2 HKN.out, h3⟩
            | 6, h => exact h
            | 7, ⟨g, x, h1, h2, h3, h4⟩ => exact ⟨g, x, h1, h2, h3.keeps hk h2, h4⟩
            | 8, h => exact h
            | 9, h => exact h
            | _ + 10, h => exact h
          · intro fl vs hfl
            rw [if_neg (by rw [hfl 10 (by simp)]; simp), if_neg (by rw [hfl 8 (by simp)]; simp), if_neg (by rw [hfl 4 (by simp)]; simp)]
            exact ⟨HX.out, HM.out.drew⟩
          · refine ⟨?_, ?_, ?_, ?_, ?_, ?_, ?_, ?_, ?_, ?_, ?_, trivial⟩
            all_goals intro fl vs w5 a1 hc hG hfi hcl hp K hK
            · have e9 : a1.eval (.tmp 9) = .pointer (some ⟨H + 2, 0, none⟩) := hc.ev0 9 rfl
              unfold Oper.wp execOp
              simp only [e9]
              go_simp
              exact hK _ _ (Keeps.refl _ _) rfl (by simpa [upd] using hG)
            · have h0 : vs 0 = _ := (hp 0 (by kernel_rfl)).2
              have e0 := hc.ev 35 0 rfl
              rw [h0] at e0
              have n10 : ¬ fl 10 = true := fun h => by have := hcl 10 1 (by kernel_rfl) h; rw [hfi] at this; cases this
              have hG0 := hG
              rw [if_neg n10] at hG0
              have hcell : w5.cell? ⟨H + 2, 1, none⟩ = some (.slice A1 ns.length c1) := hG0.1.cell 1
              clear hG0
              unfold Oper.wp execOp
              simp only [e0]
              go_simp
              exact hK _ _ (Keeps.refl _ _) rfl (by simpa [upd] using hG)
            · refine op_move rfl ?_
              rw [hc.ev0 _ rfl]
              exact hK _ _ (Keeps.refl _ _) rfl (by simpa [upd] using hG)
            · refine op_move rfl ?_
              rw [hc.ev0 _ rfl]
              exact hK _ _ (Keeps.refl _ _) rfl (by simpa [upd] using hG)
            · have h3 : vs 3 = _ := (hp 3 (by kernel_rfl)).2
              have e3 := hc.ev 38 3 rfl
              rw [h3] at e3
              have n8 : ¬ fl 8 = true := fun h => by have := hcl 5 4 (by kernel_rfl) (hcl 6 5 (by kernel_rfl) (hcl 7 6 (by kernel_rfl) (hcl 8 7 (by kernel_rfl) h))); rw [hfi] at this; cases this
              have n10 : ¬ fl 10 = true := fun h => n8 (hcl 10 8 (by kernel_rfl) h)
              rw [if_neg n10, if_neg n8, if_neg (by rw [hfi]; simp)] at hG
              refine op_call rfl (by simp only [List.map_toArray, List.map_cons, List.map_nil, e3]; rfl) (by kernel_rfl) (pick_any _ _ 6 _ hG.2.rd (by omega) (by omega) (by omega)) ?_
              rintro e w6 ⟨v, rfl, ⟨va, vb⟩, hr', hg'⟩
              refine ⟨_, rfl, hK _ _ (Keeps.grown hg' (fun k e hh => by injection e with e; exact hh.1 e.symm)) ⟨_, rfl, va, by omega⟩ ?_⟩
              rw [if_neg (by simpa [upd] using n10), if_neg (by simpa [upd] using n8), upd_at, if_pos rfl]
              exact ⟨hG.1.grown hg' (by simp; omega), hG.2.pick hr' hg'⟩
            · have h2 : vs 2 = _ := (hp 2 (by kernel_rfl)).2
              obtain ⟨x, h4, hx0, hx1⟩ := (hp 4 (by kernel_rfl)).2
              have hkk : Keeps (fun b => b < H ∧ b ≠ r) wo w5 := by
                have hG0 := hG
                split at hG0
                · obtain ⟨_, _, _, hq, _⟩ := hG0; exact hq.keep
                · obtain ⟨_, hG0⟩ := hG0
                  split at hG0
                  · obtain ⟨_, _, _, _, hq⟩ := hG0; exact hq.keep
                  · exact hG0.keep
              have hb : Blk w5 w.heap.size 9 (texts [⟨#[97]⟩, ⟨#[98]⟩, ⟨#[99]⟩, ⟨#[100]⟩, ⟨#[101]⟩, ⟨#[120]⟩]).toArray := HNB.out.keeps hkk ⟨by omega, by omega⟩
              obtain ⟨y, hy, hcy⟩ := lits_at hb hx0 (by simp; omega)
              have e2 := hc.ev 37 2 rfl
              have e4 := hc.ev 39 4 rfl
              rw [h2] at e2
              rw [h4] at e4
              clear hkk
              unfold Oper.wp execOp
              simp only [e2, e4]
              have hx2 : x < 6 := by omega
              go_simp
              refine hK _ _ (Keeps.refl _ _) ⟨x.toNat, y, rfl, hcy, ?_⟩ (by simpa [upd] using hG)
              simp at hy
              rcases hy with rfl | rfl | rfl | rfl | rfl | rfl <;> simp [ByteArray.size]
            · obtain ⟨o, x, h5, hcx, hx⟩ := (hp 5 (by kernel_rfl)).2
              have e5 := hc.ev 40 5 rfl
              rw [h5] at e5
              unfold Oper.wp execOp
              simp only [e5]
              go_simp
              exact hK _ _ (Keeps.refl _ _) ⟨x, rfl, hx⟩ (by simpa [upd] using hG)
            · obtain ⟨x, h6, hx⟩ := (hp 6 (by kernel_rfl)).2
              have e6 := hc.ev 41 6 rfl
              rw [h6] at e6
              have n8 : ¬ fl 8 = true := fun h => by have := hcl 8 7 (by kernel_rfl) h; rw [hfi] at this; cases this
              have n10 : ¬ fl 10 = true := fun h => n8 (hcl 10 8 (by kernel_rfl) h)
              rw [if_neg n10, if_neg n8] at hG
              have hzz : r < w5.heap.size ∧ H + 2 < w5.heap.size ∧ ∀ a, A1 = some a → a.block < w5.heap.size := ⟨hG.2.rd.lt, hG.1.lt, fun a ha => (own_up hG.2.o1 a ha).2⟩
              unfold Oper.wp execOp
              simp only [e6, List.map_toArray, List.map_cons, List.map_nil]
              go_simp
              refine hK _ _ (Keeps.alloc _ _ _) ⟨_, x, rfl, ⟨by omega, by omega, fun a ha => by have := hzz.2.2 a ha; omega⟩, Blk.new _ _ _, hx⟩ ?_
              rw [if_neg (by simpa [upd] using n10), if_neg (by simpa [upd] using n8)]
              exact ⟨hG.1.alloc _, by simpa [upd] using hG.2.alloc _⟩
            · have h1 : vs 1 = _ := (hp 1 (by kernel_rfl)).2
              obtain ⟨f7, g, x, h7, hgk, hb, hx⟩ := hp 7 (by kernel_rfl)
              have e1 := hc.ev 36 1 rfl
              have e7 := hc.ev 42 7 rfl
              rw [h1] at e1
              rw [h7] at e7
              have n10 : ¬ fl 10 = true := fun h => by have := hcl 10 8 (by kernel_rfl) h; rw [hfi] at this; cases this
              have f4 : fl 4 = true := hcl 5 4 (by kernel_rfl) (hcl 6 5 (by kernel_rfl) (hcl 7 6 (by kernel_rfl) f7))
              rw [if_neg n10, if_neg (by rw [hfi]; simp), if_pos f4] at hG
              have hHz : H ≤ w5.heap.size := by have := hG.1.lt; omega
              refine op_push _ _ _ rfl H 9 i0 _ 1 16 Try.underlying27 hi0 hz0 hz1 hz2 rfl (by omega) (by omega) A1 ns.length c1 1 1 (texts ns) [.string x] hG.2.o1 e1 ⟨g, 0, none⟩ e7 rfl (World.news_of_block (cs := #[.string x]) (t := 9) (fr := (0, 0)) hb) (by simp [Value.oneCell']) (by omega) (by omega) hHz ?_
              intro A' c' w6 hown hgrow hat hkeep
              refine hK _ _ (Keeps.grown hgrow (fun k e hh => by
                cases hA : A1 with
                | none => rw [hA] at e; cases e
                | some a => rw [hA] at e; exact hh.2.2 a hA (by simpa using e.symm))) trivial ?_
              rw [if_neg (by simpa [upd] using n10), upd_at, upd_at, if_pos rfl]
              exact ⟨hG.1.grown hgrow (fun e => own_blk_ne hG.2.o1 hG.1 (by decide) (by cases hA : A1 with
                | none => rw [hA] at e; cases e
                | some a => rw [hA] at e; simpa [Value.ownBlock] using e.symm)), A', c', x, rfl, hG.2.push1 hx hown hgrow hat⟩
            · have e9 : a1.eval (.tmp 9) = .pointer (some ⟨H + 2, 0, none⟩) := hc.ev0 9 rfl
              unfold Oper.wp execOp
              simp only [e9]
              go_simp
              exact hK _ _ (Keeps.refl _ _) rfl (by simpa [upd] using hG)
            · have h9 : vs 9 = _ := (hp 9 (by kernel_rfl)).2
              have f8 := (hp 8 (by kernel_rfl)).1
              rw [if_neg (by rw [hfi]; simp), if_pos f8] at hG
              obtain ⟨hbx, A', c', x, h8, hm⟩ := hG
              have e9 := hc.ev 44 9 rfl
              have e8 := hc.ev 43 8 rfl
              rw [h9] at e9
              rw [h8] at e8
              have hcell : w5.cell? ⟨H + 2, 1, none⟩ = some (.slice A1 ns.length c1) := hbx.cell 1
              have hfr : w5.frozen? ⟨H + 2, 1, none⟩ = false := hbx.frozen 1
              unfold Oper.wp execOp
              simp only [e9, e8]
              go_simp
              refine hK undef _ (Keeps.set_ (by simp) _) trivial ?_
              rw [upd_at, if_pos rfl]
              have hbx2 := hbx.set_ 1 (.slice A' (ns.length + 1) c')
              exact ⟨A', c', x, hm.set_ hbx (by decide) (by omega) _, by simpa using hbx2⟩
          · intro fl vs w5 hfl hG hF
            rw [if_pos (hfl 10 (by simp))] at hG
            obtain ⟨A', c', x, hm, hbx⟩ := hG
            have HMN := Lib.hid hm
            have HXN : Hid (Blk w5 (H + 2) 29 #[.string s, .slice A' (ns ++ [x]).length c', .slice A2 gs.length c2]) := by have h := hbx; simpa [Hid] using h
            clear hm hbx hF hfl HM HX HKN
            simp only [fill]
            go_simp
            go_wp2
            go_roundw
            case rel => exact ⟨j - 1, q + 1, A', c', ns ++ [x], by go_num, by omega, by simp; omega, HMN, HXN⟩
            case measure => simp [intOf]; omega
        · obtain rfl : j = 0 := by omega
          go_wp2_with fail
          refine (pick_any r q 3 _ HM.out.rd (by omega) (by omega) (by omega)).mono ?_
          rintro e w3 ⟨v3, rfl, ⟨v3a, v3b⟩, hr3, hg3⟩
          have HM3 := Lib.hid (HM.out.pick hr3 hg3)
          have HX3 := Lib.hid (HX.out.grown hg3 (by simp; omega))
          clear HM HX hr3 hg3
          obtain ⟨m3, hm3⟩ : ∃ m : Nat, v3 = m := ⟨v3.toNat, by omega⟩
          subst hm3
          obtain ⟨q2, hq2⟩ : ∃ q2, q2 = q + 1 := ⟨_, rfl⟩
          rw [← hq2] at HM3
          have hq2' : q2 ≤ q1 + 4 := by omega
          clear hq2 hqj2
          go_wp2
          go_loopw [11] (fun jv wq => ∃ (j q : Nat) (A2 : Option Addr) (c2 : Nat) (gs : List ByteArray), jv = .int .i64 j ∧ q + j ≤ q2 + 2 ∧ gs.length + j ≤ 2 ∧ Hid (LbMem w wo r H A1 c1 ns A2 c2 gs q wq) ∧ Hid (Blk wq (H + 2) 29 #[.string s, .slice A1 ns.length c1, .slice A2 gs.length c2])) (fun jv _ => (intOf jv).toNat)
          case atStart => exact ⟨m3, q2, A2, c2, gs, rfl, by omega, by omega, HM3, HX3⟩
          case round =>
            clear HM3 HX3 hgs
            obtain ⟨j, q, A2, c2, gs, rfl, hqj3, hgj, HM, HX⟩ := hrel
            by_cases hj3 : 0 < j
            · have hq9 : q ≤ 1000000 := by omega
              go_wp2
              have HKN : Hid ((w.heap.size + 1) ≠ r ∧ (w.heap.size + 1) ≠ H + 2 ∧ ∀ a, A2 = some a → (w.heap.size + 1) ≠ a.block) := ⟨by omega, by omega, fun a ha => by have := (own_up HM.out.o2 a ha).1; omega⟩
              refine wp_region_facts (fun i v wq => match i with
                | 0 => v = .pointer (some ⟨H + 2, 2, none⟩)
                | 1 => v = .slice A2 gs.length c2
                | 2 => v = .slice (some ⟨(w.heap.size + 1), 0, none⟩) 3 3
                | 3 => v = .pointer (some ⟨r, 0, none⟩)
                | 4 => ∃ x : Int, v = .int .i64 x ∧ 0 ≤ x ∧ x ≤ 2
                | 5 => ∃ (o : Nat) (x : ByteArray), v = .pointer (some ⟨(w.heap.size + 1), o, none⟩) ∧ wq.cell? ⟨(w.heap.size + 1), o, none⟩ = some (.string x) ∧ x.size ≤ 8
                | 6 => ∃ x : ByteArray, v = .string x ∧ x.size ≤ 8
                | 7 => ∃ (g : Nat) (x : ByteArray), v = .slice (some ⟨g, 0, none⟩) 1 1 ∧ (g ≠ r ∧ g ≠ H + 2 ∧ ∀ a, A2 = some a → g ≠ a.block) ∧ Blk wq g 9 #[.string x] ∧ x.size ≤ 8
                | 8 => True
                | 9 => v = .pointer (some ⟨H + 2, 2, none⟩)
                | _ => True)
                (fun fl vs wq => if fl 10 = true then ∃ (A' : Option Addr) (c' : Nat) (x : ByteArray), LbMem w wo r H A1 c1 ns A' c' (gs ++ [x]) (q + 1) wq ∧ Blk wq (H + 2) 29 #[.string s, .slice A1 ns.length c1, .slice A' (gs.length + 1) c']
                else Blk wq (H + 2) 29 #[.string s, .slice A1 ns.length c1, .slice A2 gs.length c2] ∧ (if fl 8 = true then ∃ (A' : Option Addr) (c' : Nat) (x : ByteArray), vs 8 = .slice A' (gs.length + 1) c' ∧ LbMem w wo r H A1 c1 ns A' c' (gs ++ [x]) (q + 1) wq else LbMem w wo r H A1 c1 ns A2 c2 gs (if fl 4 = true then q + 1 else q) wq)) (Keeps (fun b => b ≠ r ∧ b ≠ H + 2 ∧ ∀ a, A2 = some a → b ≠ a.block)) (by kernel_rfl) (by kernel_rfl) ?_ ?_ ?_ ?_
              · intro i v u u' hk h
                match i, h with
                | 0, h => exact h
                | 1, h => exact h
                | 2, h => exact h
                | 3, h => exact h
                | 4, h => exact h
                | 5, ⟨o, x, h1, h2, h3⟩ => exact ⟨o, x, h1, hk.cell h2 HKN.out, h3⟩
                | 6, h => exact h
                | 7, ⟨g, x, h1, h2, h3, h4⟩ => exact ⟨g, x, h1, h2, h3.keeps hk h2, h4⟩
                | 8, h => exact h
                | 9, h => exact h
                | _ + 10, h => exact h
              · intro fl vs hfl
                rw [if_neg (by rw [hfl 10 (by simp)]; simp), if_neg (by rw [hfl 8 (by simp)]; simp), if_neg (by rw [hfl 4 (by simp)]; simp)]
                exact ⟨HX.out, HM.out.drew⟩
              · refine ⟨?_, ?_, ?_, ?_, ?_, ?_, ?_, ?_, ?_, ?_, ?_, trivial⟩
                all_goals intro fl vs w5 a1 hc hG hfi hcl hp K hK
                · have e9 : a1.eval (.tmp 9) = .pointer (some ⟨H + 2, 0, none⟩) := hc.ev0 9 rfl
                  unfold Oper.wp execOp
                  simp only [e9]
                  go_simp
                  exact hK _ _ (Keeps.refl _ _) rfl (by simpa [upd] using hG)
                · have h0 : vs 0 = _ := (hp 0 (by kernel_rfl)).2
                  have e0 := hc.ev 51 0 rfl
                  rw [h0] at e0
                  have n10 : ¬ fl 10 = true := fun h => by have := hcl 10 1 (by kernel_rfl) h; rw [hfi] at this; cases this
                  have hG0 := hG
                  rw [if_neg n10] at hG0
                  have hcell : w5.cell? ⟨H + 2, 2, none⟩ = some (.slice A2 gs.length c2) := hG0.1.cell 2
                  clear hG0
                  unfold Oper.wp execOp
                  simp only [e0]
                  go_simp
                  exact hK _ _ (Keeps.refl _ _) rfl (by simpa [upd] using hG)
                · refine op_move rfl ?_
                  rw [hc.ev0 _ rfl]
                  exact hK _ _ (Keeps.refl _ _) rfl (by simpa [upd] using hG)
                · refine op_move rfl ?_
                  rw [hc.ev0 _ rfl]
                  exact hK _ _ (Keeps.refl _ _) rfl (by simpa [upd] using hG)
                · have h3 : vs 3 = _ := (hp 3 (by kernel_rfl)).2
                  have e3 := hc.ev 54 3 rfl
                  rw [h3] at e3
                  have n8 : ¬ fl 8 = true := fun h => by have := hcl 5 4 (by kernel_rfl) (hcl 6 5 (by kernel_rfl) (hcl 7 6 (by kernel_rfl) (hcl 8 7 (by kernel_rfl) h))); rw [hfi] at this; cases this
                  have n10 : ¬ fl 10 = true := fun h => n8 (hcl 10 8 (by kernel_rfl) h)
                  rw [if_neg n10, if_neg n8, if_neg (by rw [hfi]; simp)] at hG
                  refine op_call rfl (by simp only [List.map_toArray, List.map_cons, List.map_nil, e3]; rfl) (by kernel_rfl) (pick_any _ _ 3 _ hG.2.rd (by omega) (by omega) (by omega)) ?_
                  rintro e w6 ⟨v, rfl, ⟨va, vb⟩, hr', hg'⟩
                  refine ⟨_, rfl, hK _ _ (Keeps.grown hg' (fun k e hh => by injection e with e; exact hh.1 e.symm)) ⟨_, rfl, va, by omega⟩ ?_⟩
                  rw [if_neg (by simpa [upd] using n10), if_neg (by simpa [upd] using n8), upd_at, if_pos rfl]
                  exact ⟨hG.1.grown hg' (by simp; omega), hG.2.pick hr' hg'⟩
                · have h2 : vs 2 = _ := (hp 2 (by kernel_rfl)).2
                  obtain ⟨x, h4, hx0, hx1⟩ := (hp 4 (by kernel_rfl)).2
                  have hkk : Keeps (fun b => b < H ∧ b ≠ r) wo w5 := by
                    have hG0 := hG
                    split at hG0
                    · obtain ⟨_, _, _, hq, _⟩ := hG0; exact hq.keep
                    · obtain ⟨_, hG0⟩ := hG0
                      split at hG0
                      · obtain ⟨_, _, _, _, hq⟩ := hG0; exact hq.keep
                      · exact hG0.keep
                  have hb : Blk w5 (w.heap.size + 1) 9 (texts [⟨#[112, 117, 116]⟩, ⟨#[103, 101, 116]⟩, ⟨#[109, 97, 105, 110]⟩]).toArray := HGB.out.keeps hkk ⟨by omega, by omega⟩
                  obtain ⟨y, hy, hcy⟩ := lits_at hb hx0 (by simp; omega)
                  have e2 := hc.ev 53 2 rfl
                  have e4 := hc.ev 55 4 rfl
                  rw [h2] at e2
                  rw [h4] at e4
                  clear hkk
                  unfold Oper.wp execOp
                  simp only [e2, e4]
                  have hx2 : x < 3 := by omega
                  go_simp
                  refine hK _ _ (Keeps.refl _ _) ⟨x.toNat, y, rfl, hcy, ?_⟩ (by simpa [upd] using hG)
                  simp at hy
                  rcases hy with rfl | rfl | rfl <;> simp [ByteArray.size]
                · obtain ⟨o, x, h5, hcx, hx⟩ := (hp 5 (by kernel_rfl)).2
                  have e5 := hc.ev 56 5 rfl
                  rw [h5] at e5
                  unfold Oper.wp execOp
                  simp only [e5]
                  go_simp
                  exact hK _ _ (Keeps.refl _ _) ⟨x, rfl, hx⟩ (by simpa [upd] using hG)
                · obtain ⟨x, h6, hx⟩ := (hp 6 (by kernel_rfl)).2
                  have e6 := hc.ev 57 6 rfl
                  rw [h6] at e6
                  have n8 : ¬ fl 8 = true := fun h => by have := hcl 8 7 (by kernel_rfl) h; rw [hfi] at this; cases this
                  have n10 : ¬ fl 10 = true := fun h => n8 (hcl 10 8 (by kernel_rfl) h)
                  rw [if_neg n10, if_neg n8] at hG
                  have hzz : r < w5.heap.size ∧ H + 2 < w5.heap.size ∧ ∀ a, A2 = some a → a.block < w5.heap.size := ⟨hG.2.rd.lt, hG.1.lt, fun a ha => (own_up hG.2.o2 a ha).2⟩
                  unfold Oper.wp execOp
                  simp only [e6, List.map_toArray, List.map_cons, List.map_nil]
                  go_simp
                  refine hK _ _ (Keeps.alloc _ _ _) ⟨_, x, rfl, ⟨by omega, by omega, fun a ha => by have := hzz.2.2 a ha; omega⟩, Blk.new _ _ _, hx⟩ ?_
                  rw [if_neg (by simpa [upd] using n10), if_neg (by simpa [upd] using n8)]
                  exact ⟨hG.1.alloc _, by simpa [upd] using hG.2.alloc _⟩
                · have h1 : vs 1 = _ := (hp 1 (by kernel_rfl)).2
                  obtain ⟨f7, g, x, h7, hgk, hb, hx⟩ := hp 7 (by kernel_rfl)
                  have e1 := hc.ev 52 1 rfl
                  have e7 := hc.ev 58 7 rfl
                  rw [h1] at e1
                  rw [h7] at e7
                  have n10 : ¬ fl 10 = true := fun h => by have := hcl 10 8 (by kernel_rfl) h; rw [hfi] at this; cases this
                  have f4 : fl 4 = true := hcl 5 4 (by kernel_rfl) (hcl 6 5 (by kernel_rfl) (hcl 7 6 (by kernel_rfl) f7))
                  rw [if_neg n10, if_neg (by rw [hfi]; simp), if_pos f4] at hG
                  have hHz : H ≤ w5.heap.size := by have := hG.1.lt; omega
                  refine op_push _ _ _ rfl H 9 i0 _ 1 16 Try.underlying27 hi0 hz0 hz1 hz2 rfl (by omega) (by omega) A2 gs.length c2 1 1 (texts gs) [.string x] hG.2.o2 e1 ⟨g, 0, none⟩ e7 rfl (World.news_of_block (cs := #[.string x]) (t := 9) (fr := (0, 0)) hb) (by simp [Value.oneCell']) (by omega) (by omega) hHz ?_
                  intro A' c' w6 hown hgrow hat hkeep
                  refine hK _ _ (Keeps.grown hgrow (fun k e hh => by
                    cases hA : A2 with
                    | none => rw [hA] at e; cases e
                    | some a => rw [hA] at e; exact hh.2.2 a hA (by simpa using e.symm))) trivial ?_
                  rw [if_neg (by simpa [upd] using n10), upd_at, upd_at, if_pos rfl]
                  exact ⟨hG.1.grown hgrow (fun e => own_blk_ne hG.2.o2 hG.1 (by decide) (by cases hA : A2 with
                    | none => rw [hA] at e; cases e
                    | some a => rw [hA] at e; simpa [Value.ownBlock] using e.symm)), A', c', x, rfl, hG.2.push2 hx hown hgrow hat⟩
                · have e9 : a1.eval (.tmp 9) = .pointer (some ⟨H + 2, 0, none⟩) := hc.ev0 9 rfl
                  unfold Oper.wp execOp
                  simp only [e9]
                  go_simp
                  exact hK _ _ (Keeps.refl _ _) rfl (by simpa [upd] using hG)
                · have h9 : vs 9 = _ := (hp 9 (by kernel_rfl)).2
                  have f8 := (hp 8 (by kernel_rfl)).1
                  rw [if_neg (by rw [hfi]; simp), if_pos f8] at hG
                  obtain ⟨hbx, A', c', x, h8, hm⟩ := hG
                  have e9 := hc.ev 60 9 rfl
                  have e8 := hc.ev 59 8 rfl
                  rw [h9] at e9
                  rw [h8] at e8
                  have hcell : w5.cell? ⟨H + 2, 2, none⟩ = some (.slice A2 gs.length c2) := hbx.cell 2
                  have hfr : w5.frozen? ⟨H + 2, 2, none⟩ = false := hbx.frozen 2
                  unfold Oper.wp execOp
                  simp only [e9, e8]
                  go_simp
                  refine hK undef _ (Keeps.set_ (by simp) _) trivial ?_
                  rw [upd_at, if_pos rfl]
                  have hbx2 := hbx.set_ 2 (.slice A' (gs.length + 1) c')
                  exact ⟨A', c', x, hm.set_ hbx (by decide) (by omega) _, by simpa using hbx2⟩
              · intro fl vs w5 hfl hG hF
                rw [if_pos (hfl 10 (by simp))] at hG
                obtain ⟨A', c', x, hm, hbx⟩ := hG
                have HMN := Lib.hid hm
                have HXN : Hid (Blk w5 (H + 2) 29 #[.string s, .slice A1 ns.length c1, .slice A' (gs ++ [x]).length c']) := by have h := hbx; simpa [Hid] using h
                clear hm hbx hF hfl HM HX HKN
                simp only [fill]
                go_simp
                go_wp2
                go_roundw
                case rel => exact ⟨j - 1, q + 1, A', c', gs ++ [x], by go_num, by omega, by simp; omega, HMN, HXN⟩
                case measure => simp [intOf]; omega
            · obtain rfl : j = 0 := by omega
              have x0 : wr.cell? ⟨H + 1 + 1, 0, none⟩ = some (.string s) := HX.out.cell 0
              have x1 : wr.cell? ⟨H + 1 + 1, 1, none⟩ = some (.slice A1 ns.length c1) := HX.out.cell 1
              have x2 : wr.cell? ⟨H + 1 + 1, 2, none⟩ = some (.slice A2 gs.length c2) := HX.out.cell 2
              have HROWq := Lib.hid (HROWK.out wr HM.out.keep)
              have hwr : w.heap.size ≤ wr.heap.size := HM.out.gr.size
              go_wp2_with (at_builtin; refine wpList_push _ rfl (.tmp 61) (.tmp 63) _ rfl w.heap.size 29 j0 _ 3 64 Try.underlying23 gi0 gz0 gz1 gz2 rfl (by omega) (by omega) A ls.length c 1 1 (ls.flatMap Lb.cells) [.string s, .slice A1 ns.length c1, .slice A2 gs.length c2] (by exact HROWq.out.1.alloc _) rfl ⟨wr.heap.size, 0, none⟩ rfl rfl (World.news_of_block (cs := #[.string s, .slice A1 ns.length c1, .slice A2 gs.length c2]) (t := 29) (fr := (0, 0)) (by exact heap_alloc_new wr _)) (by simp [Value.oneCell']) (by omega) (by omega) (by simp; omega) ?_; intro A' c' w5 hown hgrow hat hkeep)
              have HROW5 : Hid (LbRow w5 w.heap.size A' c' (ls ++ [⟨s, ns, A1, c1, gs, A2, c2⟩])) := (HROWq.out.alloc _).push ⟨own_base (HM.out.o1.alloc _) HM.out.hw, own_base (HM.out.o2.alloc _) HM.out.hw⟩ hown hgrow
              have HR5 := Lib.hid ((HM.out.rd.alloc (.cells #[.string s, .slice A1 ns.length c1, .slice A2 gs.length c2] 29)).row hgrow (HROWq.out.1.alloc _) hrl)
              have HG5 := Lib.hid (gr_row (gr_alloc HM.out.gr _) hgrow (HROWq.out.1.alloc _) (Nat.le_refl _))
              have HN5 := Lib.hid (own_push_blk ((HNB.out.keeps HM.out.keep ⟨by omega, by omega⟩).alloc _) hgrow (HROWq.out.1.alloc _) (by decide))
              have HV5 := Lib.hid (own_push_blk ((HGB.out.keeps HM.out.keep ⟨by omega, by omega⟩).alloc _) hgrow (HROWq.out.1.alloc _) (by decide))
              have HS5 : Hid (∀ l ∈ ls ++ [⟨s, ns, A1, c1, gs, A2, c2⟩], l.small) := fun l hl => by
                rcases List.mem_append.1 hl with hl | hl
                · exact HSM.out l hl
                · rw [List.mem_singleton.1 hl]
                  exact ⟨by simp only; omega, by simp only; omega, fun x hx => by have := HM.out.s1 x hx; omega, by simp only; omega, fun x hx => by have := HM.out.s2 x hx; omega⟩
              clear hown hgrow hat hkeep HM HX HROWq HROWK HNB HGB HSM HGr
              go_roundw
              case rel => exact ⟨jo - 1, q, A', c', ls ++ [⟨s, ns, A1, c1, gs, A2, c2⟩], by go_num, by simp, by have := HQJ.out; omega, by simp; omega, HROW5, HS5, HN5, HV5, HR5, HG5⟩
              case measure => simp [intOf]; omega
    · obtain rfl : jo = 0 := by omega
      go_wp2_with fail
      refine (odd_any r qo n _ HRd.out (by omega) (by omega) (by omega)).mono ?_
      rintro e w2 ⟨b, rfl, hr2, hg2⟩
      have HROW2 := Lib.hid (HROW.out.keeps (ok := fun b => b ≠ r) (Keeps.grown hg2 (fun k e => by injection e with e; simp [e])) (fun b hb _ => by omega))
      have HG2 := Lib.hid (gr_trans HGr.out hg2)
      have HR2 := Lib.hid hr2
      have hZ2 : wo.heap.size ≤ w2.heap.size := hg2.size
      clear HROW HGr HRd hr2 hg2 HNB HGB
      cases b
      · go_wp2
        go_ret
        exact ⟨A, c, ls, rfl, HROW2.out, by omega, HSM.out, HR2.out.more (by omega), HG2.out⟩
      · obtain ⟨q2, hq2⟩ : ∃ q2, q2 = qo + 1 := ⟨_, rfl⟩
        rw [← hq2] at HR2
        have hq3 : q2 ≤ P + 37 := by omega
        clear hq2 hqj
        have HAZ := Lib.hid (fun a h => (own_up HROW2.out.1 a h).2)
        have hrz : r < w2.heap.size := by omega
        go_wp2
        obtain ⟨Z, hZ⟩ : ∃ Z, Z = w2.heap.size := ⟨_, rfl⟩
        have hZ2 : Z ≤ w2.heap.size := by omega
        have HAZ : Hid (∀ a, A = some a → a.block < Z) := by rw [hZ]; exact HAZ
        have hrZ : r < Z := by omega
        have hwZ : w.heap.size ≤ Z := by have := HG2.out.size; omega
        clear hZ
        obtain ⟨q, rfl⟩ : ∃ q, q = q2 := ⟨_, rfl⟩
        refine wp_region_facts (fun i v wq => match i with
          | 0 => v = .slice A ls.length c
          | 1 => v = .agg #[.string ⟨#[]⟩, .slice none 0 0, .slice none 0 0]
          | 2 => ∃ g, v = .slice (some ⟨g, 0, none⟩) 1 1 ∧ Z ≤ g ∧ Blk wq g 9 (texts [⟨#[]⟩]).toArray
          | 3 => ∃ g, v = .agg #[.string ⟨#[122]⟩, .slice (some ⟨g, 0, none⟩) 1 1, .slice none 0 0] ∧ Z ≤ g ∧ Blk wq g 9 (texts [⟨#[]⟩]).toArray
          | 4 => ∃ g, v = .slice (some ⟨g, 0, none⟩) 1 1 ∧ Z ≤ g ∧ Blk wq g 9 (texts [⟨#[65]⟩]).toArray
          | 5 => ∃ g, v = .agg #[.string ⟨#[122]⟩, .slice none 0 0, .slice (some ⟨g, 0, none⟩) 1 1] ∧ Z ≤ g ∧ Blk wq g 9 (texts [⟨#[65]⟩]).toArray
          | 6 => ∃ g, v = .slice (some ⟨g, 0, none⟩) 7 7 ∧ Z ≤ g ∧ Blk wq g 9 (texts [⟨#[]⟩, ⟨#[]⟩, ⟨#[]⟩, ⟨#[]⟩, ⟨#[]⟩, ⟨#[]⟩, ⟨#[]⟩]).toArray
          | 7 => ∃ g, v = .agg #[.string ⟨#[122]⟩, .slice (some ⟨g, 0, none⟩) 7 7, .slice none 0 0] ∧ Z ≤ g ∧ Blk wq g 9 (texts [⟨#[]⟩, ⟨#[]⟩, ⟨#[]⟩, ⟨#[]⟩, ⟨#[]⟩, ⟨#[]⟩, ⟨#[]⟩]).toArray
          | 8 => ∃ (g : Nat) (us : List Lb), v = .slice (some ⟨g, 0, none⟩) 4 4 ∧ Z ≤ g ∧ us.length = 4 ∧ Blk wq g 29 (us.flatMap Lb.cells).toArray ∧ ∀ l ∈ us, l.small ∧ l.Own wq Z
          | 9 => v = .pointer (some ⟨r, 0, none⟩)
          | 10 => ∃ x : Int, v = .int .i64 x ∧ 0 ≤ x ∧ x ≤ 3
          | 11 => ∃ (g o : Nat) (l : Lb), v = .pointer (some ⟨g, o, none⟩) ∧ Z ≤ g ∧ (wq.cell? ⟨g, o, none⟩ = some (.string l.name) ∧ wq.cell? ⟨g, o + 1, none⟩ = some (.slice l.needsA l.needs.length l.needsc) ∧ wq.cell? ⟨g, o + 2, none⟩ = some (.slice l.givesA l.gives.length l.givesc)) ∧ l.small ∧ l.Own wq Z
          | 12 => ∃ l : Lb, v = .agg #[.string l.name, .slice l.needsA l.needs.length l.needsc, .slice l.givesA l.gives.length l.givesc] ∧ l.small ∧ l.Own wq Z
          | 13 => ∃ (g : Nat) (l : Lb), v = .slice (some ⟨g, 0, none⟩) 1 1 ∧ Z ≤ g ∧ Blk wq g 29 #[.string l.name, .slice l.needsA l.needs.length l.needsc, .slice l.givesA l.gives.length l.givesc] ∧ l.small ∧ l.Own wq Z
          | _ => True)
          (fun fl vs wq => w.grownBy wq (some r) ∧ Rdr wq r (if fl 10 = true then q + 1 else q) ∧ (fl 15 = true → vs 15 = vs 14) ∧ (if fl 14 = true then ∃ (A' : Option Addr) (c' : Nat) (l : Lb), vs 14 = .slice A' (ls.length + 1) c' ∧ l.small ∧ LbRow wq w.heap.size A' c' (ls ++ [l]) else LbRow wq w.heap.size A c ls) ∧ Z ≤ wq.heap.size) (Keeps (Z ≤ ·)) (by kernel_rfl) (by kernel_rfl) ?_ ?_ ?_ ?_
        · intro i v u u' hk h
          match i, h with
          | 0, h => exact h
          | 1, h => exact h
          | 2, ⟨g, h1, h2, h3⟩ => exact ⟨g, h1, h2, h3.keeps hk h2⟩
          | 3, ⟨g, h1, h2, h3⟩ => exact ⟨g, h1, h2, h3.keeps hk h2⟩
          | 4, ⟨g, h1, h2, h3⟩ => exact ⟨g, h1, h2, h3.keeps hk h2⟩
          | 5, ⟨g, h1, h2, h3⟩ => exact ⟨g, h1, h2, h3.keeps hk h2⟩
          | 6, ⟨g, h1, h2, h3⟩ => exact ⟨g, h1, h2, h3.keeps hk h2⟩
          | 7, ⟨g, h1, h2, h3⟩ => exact ⟨g, h1, h2, h3.keeps hk h2⟩
          | 8, ⟨g, us, h1, h2, h3, h4, h5⟩ => exact ⟨g, us, h1, h2, h3, h4.keeps hk h2, fun l hl => ⟨(h5 l hl).1, (h5 l hl).2.keeps hk (fun _ hb _ => hb)⟩⟩
          | 9, h => exact h
          | 10, h => exact h
          | 11, ⟨g, o, l, h1, h2, ⟨h3, h4, h5⟩, h6, h7⟩ => exact ⟨g, o, l, h1, h2, ⟨hk.cell h3 h2, hk.cell h4 h2, hk.cell h5 h2⟩, h6, h7.keeps hk (fun _ hb _ => hb)⟩
          | 12, ⟨l, h1, h6, h7⟩ => exact ⟨l, h1, h6, h7.keeps hk (fun _ hb _ => hb)⟩
          | 13, ⟨g, l, h1, h2, h3, h6, h7⟩ => exact ⟨g, l, h1, h2, h3.keeps hk h2, h6, h7.keeps hk (fun _ hb _ => hb)⟩
          | _ + 14, h => exact h
        · intro fl vs hfl
          rw [if_neg (by rw [hfl 10 (by simp)]; simp), if_neg (by rw [hfl 14 (by simp)]; simp)]
          exact ⟨⟨HG2.out.os, HG2.out.tape, HG2.out.output, HG2.out.size, HG2.out.block⟩, HR2.out, (fun h => by rw [hfl 15 (by simp)] at h; cases h), HROW2.out, hZ2⟩
        · refine ⟨?_, ?_, ?_, ?_, ?_, ?_, ?_, ?_, ?_, ?_, ?_, ?_, ?_, ?_, ?_, ?_, trivial⟩
          all_goals intro fl vs w5 a1 hc hG hfi hcl hp K hK
          · refine op_move rfl ?_
            rw [hc.ev0 _ rfl]
            exact hK _ _ (Keeps.refl _ _) rfl (by simpa [upd] using hG)
          · go_simp
            exact hK _ _ (Keeps.refl _ _) rfl (by simpa [upd] using hG)
          · have n14 : ¬ fl 14 = true := fun h => by have := hcl 3 2 (by kernel_rfl) (hcl 8 3 (by kernel_rfl) (hcl 11 8 (by kernel_rfl) (hcl 12 11 (by kernel_rfl) (hcl 13 12 (by kernel_rfl) (hcl 14 13 (by kernel_rfl) h))))); rw [hfi] at this; cases this
            have hzw : Z ≤ w5.heap.size := hG.2.2.2.2
            go_simp
            have hrow : LbRow w5 w.heap.size A c ls := by have h := hG.2.2.2.1; rwa [if_neg n14] at h
            exact hK _ _ (Keeps.alloc _ _ _) ⟨_, rfl, hzw, Blk.new _ _ _⟩ ⟨gr_alloc hG.1 _, by simpa [upd] using hG.2.1.alloc _, by simpa [upd] using hG.2.2.1, by rw [if_neg (by simpa [upd] using n14)]; exact hrow.alloc _, by simp; omega⟩
          · obtain ⟨g, h, z, hb⟩ := (hp 2 (by kernel_rfl)).2
            have e := hc.ev 70 2 rfl
            rw [h] at e
            unfold Oper.wp execOp
            simp only [e, List.map_toArray, List.map_cons, List.map_nil]
            go_simp
            exact hK _ _ (Keeps.refl _ _) ⟨g, rfl, z, hb⟩ (by simpa [upd] using hG)
          · have n14 : ¬ fl 14 = true := fun h => by have := hcl 5 4 (by kernel_rfl) (hcl 8 5 (by kernel_rfl) (hcl 11 8 (by kernel_rfl) (hcl 12 11 (by kernel_rfl) (hcl 13 12 (by kernel_rfl) (hcl 14 13 (by kernel_rfl) h))))); rw [hfi] at this; cases this
            have hzw : Z ≤ w5.heap.size := hG.2.2.2.2
            go_simp
            have hrow : LbRow w5 w.heap.size A c ls := by have h := hG.2.2.2.1; rwa [if_neg n14] at h
            exact hK _ _ (Keeps.alloc _ _ _) ⟨_, rfl, hzw, Blk.new _ _ _⟩ ⟨gr_alloc hG.1 _, by simpa [upd] using hG.2.1.alloc _, by simpa [upd] using hG.2.2.1, by rw [if_neg (by simpa [upd] using n14)]; exact hrow.alloc _, by simp; omega⟩
          · obtain ⟨g, h, z, hb⟩ := (hp 4 (by kernel_rfl)).2
            have e := hc.ev 72 4 rfl
            rw [h] at e
            unfold Oper.wp execOp
            simp only [e, List.map_toArray, List.map_cons, List.map_nil]
            go_simp
            exact hK _ _ (Keeps.refl _ _) ⟨g, rfl, z, hb⟩ (by simpa [upd] using hG)
          · have n14 : ¬ fl 14 = true := fun h => by have := hcl 7 6 (by kernel_rfl) (hcl 8 7 (by kernel_rfl) (hcl 11 8 (by kernel_rfl) (hcl 12 11 (by kernel_rfl) (hcl 13 12 (by kernel_rfl) (hcl 14 13 (by kernel_rfl) h))))); rw [hfi] at this; cases this
            have hzw : Z ≤ w5.heap.size := hG.2.2.2.2
            have hrow : LbRow w5 w.heap.size A c ls := by have h := hG.2.2.2.1; rwa [if_neg n14] at h
            have hmk : ∀ w : World, (Instr.makeSlice 27 (.int .i64 7) (.int .i64 7)).run Try.prog w = .ok (.slice (some ⟨w.heap.size, 0, none⟩) 7 7) (w.alloc (.cells #[.string ⟨#[]⟩, .string ⟨#[]⟩, .string ⟨#[]⟩, .string ⟨#[]⟩, .string ⟨#[]⟩, .string ⟨#[]⟩, .string ⟨#[]⟩] 9)) := fun _ => by kernel_rfl
            go_simp
            exact hK _ _ (Keeps.alloc _ _ _) ⟨_, rfl, hzw, Blk.new _ _ _⟩ ⟨gr_alloc hG.1 _, by simpa [upd] using hG.2.1.alloc _, by simpa [upd] using hG.2.2.1, by rw [if_neg (by simpa [upd] using n14)]; exact hrow.alloc _, by simp; omega⟩
          · obtain ⟨g, h, z, hb⟩ := (hp 6 (by kernel_rfl)).2
            have e := hc.ev 74 6 rfl
            rw [h] at e
            unfold Oper.wp execOp
            simp only [e, List.map_toArray, List.map_cons, List.map_nil]
            go_simp
            exact hK _ _ (Keeps.refl _ _) ⟨g, rfl, z, hb⟩ (by simpa [upd] using hG)
          · obtain h1 := (hp 1 (by kernel_rfl)).2
            obtain ⟨g3, h3, z3, b3⟩ := (hp 3 (by kernel_rfl)).2
            obtain ⟨g5, h5, z5, b5⟩ := (hp 5 (by kernel_rfl)).2
            obtain ⟨g7, h7, z7, b7⟩ := (hp 7 (by kernel_rfl)).2
            have e1 := hc.ev 69 1 rfl
            have e3 := hc.ev 71 3 rfl
            have e5 := hc.ev 73 5 rfl
            have e7 := hc.ev 75 7 rfl
            rw [show vs 1 = _ from h1] at e1
            rw [h3] at e3
            rw [h5] at e5
            rw [h7] at e7
            unfold Oper.wp execOp
            simp only [e1, e3, e5, e7, List.map_toArray, List.map_cons, List.map_nil]
            have n14 : ¬ fl 14 = true := fun h => by have := (hcl 11 8 (by kernel_rfl) (hcl 12 11 (by kernel_rfl) (hcl 13 12 (by kernel_rfl) (hcl 14 13 (by kernel_rfl) h)))); rw [hfi] at this; cases this
            have hzw : Z ≤ w5.heap.size := hG.2.2.2.2
            rw [if_neg n14] at hG
            go_simp
            refine hK _ _ (Keeps.alloc _ _ _) ⟨_, [⟨⟨#[]⟩, [], none, 0, [], none, 0⟩, ⟨⟨#[122]⟩, [⟨#[]⟩], some ⟨g3, 0, none⟩, 1, [], none, 0⟩, ⟨⟨#[122]⟩, [], none, 0, [⟨#[65]⟩], some ⟨g5, 0, none⟩, 1⟩, ⟨⟨#[122]⟩, [⟨#[]⟩, ⟨#[]⟩, ⟨#[]⟩, ⟨#[]⟩, ⟨#[]⟩, ⟨#[]⟩, ⟨#[]⟩], some ⟨g7, 0, none⟩, 7, [], none, 0⟩], rfl, hzw, rfl, Blk.new _ _ _, fun l hl => ?_⟩ ?_
            · simp only [List.mem_cons, List.not_mem_nil, or_false] at hl
              rcases hl with rfl | rfl | rfl | rfl
              · exact ⟨by refine ⟨?_, ?_, ?_, ?_, ?_⟩ <;> (dsimp only; decide), own_nil, own_nil⟩
              · exact ⟨by refine ⟨?_, ?_, ?_, ?_, ?_⟩ <;> (dsimp only; decide), own_of_blk (b3.alloc _) z3 (by simp [maxLen]), own_nil⟩
              · exact ⟨by refine ⟨?_, ?_, ?_, ?_, ?_⟩ <;> (dsimp only; decide), own_nil, own_of_blk (b5.alloc _) z5 (by simp [maxLen])⟩
              · exact ⟨by refine ⟨?_, ?_, ?_, ?_, ?_⟩ <;> (dsimp only; decide), own_of_blk (b7.alloc _) z7 (by simp [maxLen]), own_nil⟩
            · exact ⟨gr_alloc hG.1 _, by simpa [upd] using hG.2.1.alloc _, by simpa [upd] using hG.2.2.1, by rw [if_neg (by simpa [upd] using n14)]; exact hG.2.2.2.1.alloc _, by simp; omega⟩
          · refine op_move rfl ?_
            rw [hc.ev0 _ rfl]
            exact hK _ _ (Keeps.refl _ _) rfl (by simpa [upd] using hG)
          · have h9 : vs 9 = _ := (hp 9 (by kernel_rfl)).2
            have e9 := hc.ev 77 9 rfl
            rw [h9] at e9
            have n14 : ¬ fl 14 = true := fun h => by have := hcl 11 10 (by kernel_rfl) (hcl 12 11 (by kernel_rfl) (hcl 13 12 (by kernel_rfl) (hcl 14 13 (by kernel_rfl) h))); rw [hfi] at this; cases this
            rw [if_neg n14, if_neg (by rw [hfi]; simp)] at hG
            refine op_call rfl (by simp only [List.map_toArray, List.map_cons, List.map_nil, e9]; rfl) (by kernel_rfl) (pick_any _ _ 4 _ hG.2.1 (by omega) (by omega) (by omega)) ?_
            rintro e w6 ⟨v, rfl, ⟨va, vb⟩, hr', hg'⟩
            refine ⟨_, rfl, hK _ _ (Keeps.grown hg' (fun k e hh => by injection e with e; omega)) ⟨_, rfl, va, by omega⟩ ?_⟩
            refine ⟨gr_trans hG.1 hg', by rw [upd_at, if_pos rfl]; exact hr', by simpa [upd] using hG.2.2.1, ?_, Nat.le_trans hG.2.2.2.2 hg'.size⟩
            rw [if_neg (by simpa [upd] using n14)]
            exact hG.2.2.2.1.keeps (ok := fun b => b ≠ r) (Keeps.grown hg' (fun k e => by injection e with e; simp [e])) (fun b hb _ => by omega)
          · obtain ⟨g, us, h8, z8, hl4, hb, hus⟩ := (hp 8 (by kernel_rfl)).2
            obtain ⟨x, h10, hx0, hx1⟩ := (hp 10 (by kernel_rfl)).2
            have e8 := hc.ev 76 8 rfl
            have e10 := hc.ev 78 10 rfl
            rw [h8] at e8
            rw [h10] at e10
            have hx2 : x < 4 := by omega
            unfold Oper.wp execOp
            simp only [e8, e10]
            obtain ⟨i, rfl⟩ := Int.eq_ofNat_of_zero_le hx0
            have hi : i < us.length := by omega
            have hz : ∀ j, j < 3 → w5.cell? ⟨g, i * 3 + j, none⟩ = (us[i].cells)[j]? := fun j hj => by
              rw [hb.cell]
              have := flat_get Lb.cells 3 Lb.cells_len us i j hi hj
              simpa using this
            have k0 := hz 0 (by omega)
            have k1 := hz 1 (by omega)
            have k2 := hz 2 (by omega)
            have HUS := Lib.hid (hus _ (List.getElem_mem hi))
            clear hz hus hb
            go_simp
            exact hK _ _ (Keeps.refl _ _) ⟨g, i * 3, us[i], rfl, z8, ⟨k0, k1, k2⟩, HUS.out⟩ (by simpa [upd] using hG)
          · obtain ⟨g, o, l, h11, z11, ⟨k0, k1, k2⟩, hs, ho⟩ := (hp 11 (by kernel_rfl)).2
            have e11 := hc.ev 79 11 rfl
            rw [h11] at e11
            unfold Oper.wp execOp
            simp only [e11]
            go_simp
            exact hK _ _ (Keeps.refl _ _) ⟨l, rfl, hs, ho⟩ (by simpa [upd] using hG)
          · obtain ⟨l, h12, hs, ho⟩ := (hp 12 (by kernel_rfl)).2
            have e12 := hc.ev 80 12 rfl
            rw [h12] at e12
            have n14 : ¬ fl 14 = true := fun h => by have := hcl 14 13 (by kernel_rfl) h; rw [hfi] at this; cases this
            unfold Oper.wp execOp
            simp only [e12, List.map_toArray, List.map_cons, List.map_nil]
            have hzw : Z ≤ w5.heap.size := hG.2.2.2.2
            rw [if_neg n14] at hG
            go_simp
            refine hK _ _ (Keeps.alloc _ _ _) ⟨_, l, rfl, hzw, Blk.new _ _ _, hs, ho.keeps (Keeps.alloc (fun _ => True) _ _) (fun _ _ _ => trivial)⟩ ?_
            exact ⟨gr_alloc hG.1 _, by simpa [upd] using hG.2.1.alloc _, by simpa [upd] using hG.2.2.1, by rw [if_neg (by simpa [upd] using n14)]; exact hG.2.2.2.1.alloc _, by simp; omega⟩
          · have h0 : vs 0 = _ := (hp 0 (by kernel_rfl)).2
            obtain ⟨g, l, h13, z13, hb, hs, ho⟩ := (hp 13 (by kernel_rfl)).2
            have e0 := hc.ev 68 0 rfl
            have e13 := hc.ev 81 13 rfl
            rw [h0] at e0
            rw [h13] at e13
            have hfi14 : fl 14 = false := hfi
            rw [hfi14, if_neg (c := false = true) (by simp)] at hG
            have n15 : ¬ fl 15 = true := fun h => by have := hcl 15 14 (by kernel_rfl) h; rw [hfi] at this; cases this
            have hwz : w.heap.size ≤ w5.heap.size := hG.1.size
            refine op_push _ _ _ rfl w.heap.size 29 j0 _ 3 64 Try.underlying23 gi0 gz0 gz1 gz2 rfl (by omega) (by omega) A ls.length c 1 1 (ls.flatMap Lb.cells) l.cells hG.2.2.2.1.1 e0 ⟨g, 0, none⟩ e13 rfl (World.news_of_block (cs := #[.string l.name, .slice l.needsA l.needs.length l.needsc, .slice l.givesA l.gives.length l.givesc]) (t := 29) (fr := (0, 0)) hb) (by simp [Lb.cells, Value.oneCell']) (by omega) (by omega) hwz ?_
            intro A' c' w6 hown hgrow hat hkeep
            have hAZ : ∀ a, A = some a → a.block < Z := HAZ.out
            refine hK _ _ (Keeps.grown hgrow (fun k e hh => by
              cases hA : A with
              | none => rw [hA] at e; cases e
              | some a =>
                rw [hA] at e
                have h1 := hAZ a hA
                have h2 : a.block = k := by simpa using e
                omega)) trivial ?_
            refine ⟨gr_row hG.1 hgrow hG.2.2.2.1.1 (Nat.le_refl _), by simpa [upd] using hG.2.1.row hgrow hG.2.2.2.1.1 hrl, fun h => absurd (by simpa [upd] using h) n15, ?_, Nat.le_trans hG.2.2.2.2 hgrow.size⟩
            rw [upd_at, if_pos rfl]
            exact ⟨A', c', l, by rw [upd_at], hs, hG.2.2.2.1.push (ho.base (by omega)) hown hgrow⟩
          · refine op_assign rfl ?_
            rw [hc.ev 82 14 rfl]
            refine hK _ _ (Keeps.refl _ _) trivial ?_
            have f14 := (hp 14 (by kernel_rfl)).1
            rw [if_pos f14] at hG
            refine ⟨hG.1, by simpa [upd] using hG.2.1, fun _ => by simp [upd], ?_, hG.2.2.2.2⟩
            rw [if_pos (by simpa [upd] using f14)]
            simpa [upd] using hG.2.2.2.1
        · intro fl vs w5 hfl hG hF
          rw [if_pos (hfl 14 (by simp)), if_pos (hfl 10 (by simp))] at hG
          obtain ⟨hgr, hrd, h15, ⟨A', c', l, h14, hs, hrow⟩, _⟩ := hG
          have h15' := h15 (hfl 15 (by simp))
          rw [h14] at h15'
          have HE : Hid (LbRow w5 w.heap.size A' c' (ls ++ [l]) ∧ Rdr w5 r (q + 1) ∧ w.grownBy w5 (some r) ∧ l.small) := ⟨hrow, hrd, hgr, hs⟩
          clear hgr hrd h15 hrow hs hF hfl h14
          simp only [fill]
          go_simp
          clear h15'
          go_wp2
          go_ret
          refine ⟨A', c', ls ++ [l], by simp, HE.out.1, by simp; omega, fun x hx => ?_, HE.out.2.1.more (by omega), HE.out.2.2.1⟩
          rcases List.mem_append.1 hx with hx | hx
          · exact HSM.out x hx
          · rw [List.mem_singleton.1 hx]; exact HE.out.2.2.2
end Go.Proofs.Ytbhndkdijbappaa
