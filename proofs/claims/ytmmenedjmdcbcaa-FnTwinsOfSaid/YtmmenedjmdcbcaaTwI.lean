/- Contract of TwinsOf. Condition: the bytes are bytes. -/
import Derived.Test.YtmmenedjmdcbcaaRows
import Derived.Test.YtmmenedjmdcbcaaBase
import Derived.Test.YtmmenedjmdcbcaaBase2
import Derived.Test.YtmmenedjmdcbcaaOnly
import Derived.Test.YtmmenedjmdcbcaaIn
import Derived.Test.YtmmenedjmdcbcaaName
import Derived.Test.YtmmenedjmdcbcaaByteS
import Derived.Test.YtmmenedjmdcbcaaFix
import Derived.Test.YtmmenedjmdcbcaaSec
import Derived.Test.YtmmenedjmdcbcaaObjS
import Derived.Test.YtmmenedjmdcbcaaSecV
import Derived.Test.YtmmenedjmdcbcaaSecW
import Derived.Test.YtmmenedjmdcbcaaSym
import Derived.Test.YtmmenedjmdcbcaaSymV
import Derived.Test.YtmmenedjmdcbcaaFindSym
import Derived.Test.YtmmenedjmdcbcaaObj
import Derived.Test.YtmmenedjmdcbcaaGlob
import Derived.Test.YtmmenedjmdcbcaaObjI
import Derived.Test.YtmmenedjmdcbcaaObjW
import Derived.Test.YtmmenedjmdcbcaaEqB
import Derived.Test.YtmmenedjmdcbcaaEqF
import Derived.Test.YtmmenedjmdcbcaaAliI
import Derived.Test.YtmmenedjmdcbcaaAliS
import Derived.Test.YtmmenedjmdcbcaaTwP
import Derived.Test.YtmmenedjmdcbcaaFindSec
import Derived.WalkKit
import Derived.WalkSpells
import Derived.WalkLawsBesides
import Derived.Handy
import Derived.BigQuiet
import Derived.Deep.RegionHeld3
import Derived.Deep.DrawnRows
import Derived.Deep.QuietTactic
namespace Go.Proofs.Ytmmenedjmdcbcaa
open Go Go.RowKit

theorem own_push_blk {w w' : World} {g base size n c : Nat} {t e : TypeId} {cs : Array Value} {A : Option Addr} {xs : List Value} (h : Blk w g t cs) (hg : w.grownBy w' (A.map (·.block))) (ho : w.ownsRow base e size (.slice A n c) n xs) (hne : e ≠ t) : Blk w' g t cs := by
  refine h.grown hg ?_
  have h2 := own_blk_ne ho h hne
  cases A with
  | none => simp
  | some a => simpa [Value.ownBlock, eq_comm] using h2
theorem twint_info : (Try.prog.info? 3).map (fun i => (i.zero, i.size, i.bytes)) = some (some (.int .i64 0), 1, 8) := by kernel_rfl
set_option maxRecDepth 100000 in
set_option maxHeartbeats 4000000 in
theorem twinC_any {B D g : Nat} (s t : Sec) (w : World) (hg : Blk w g 52 #[Value.string s.name, Value.int .i64 s.kind, Value.int .i64 s.align, Value.slice s.bytesA s.bytes.length s.bytesc, Value.int .i64 s.size, Value.slice s.fixupsA s.fixups.length s.fixupsc]) (ha : s.In w B) (hb : t.In w D) (hB : B ≤ w.heap.size) (hD : D ≤ w.heap.size) (sa : s.small) (sb : t.small) (ya : isB s.bytes) (yb : isB t.bytes) :
    Calls Try.prog 48 #[t.val, .pointer (some ⟨g, 0, none⟩)] w (Gives w (.bool (alikeV s t))) := by
  have BB : Hid (Below w.heap.size w (w.alloc (.cells #[Value.string t.name, Value.int .i64 t.kind, Value.int .i64 t.align, Value.slice t.bytesA t.bytes.length t.bytesc, Value.int .i64 t.size, Value.slice t.fixupsA t.fixups.length t.fixupsc] 52))) := (Below.refl _ _).alloc (Nat.le_refl _) _
  have HA : Hid (∀ w', Below w.heap.size w w' → Calls Try.prog 33 #[.agg #[Value.string s.name, Value.int .i64 s.kind, Value.int .i64 s.align, Value.slice s.bytesA s.bytes.length s.bytesc, Value.int .i64 s.size, Value.slice s.fixupsA s.fixups.length s.fixupsc], .agg #[Value.string t.name, Value.int .i64 t.kind, Value.int .i64 t.align, Value.slice t.bytesA t.bytes.length t.bytesc, Value.int .i64 t.size, Value.slice t.fixupsA t.fixups.length t.fixupsc]] w' (Gives w' (.bool (alikeV s t)))) := fun w' q => implAlike_any s t w' ((ha.more hB).below q) ((hb.more hD).below q) q.size q.size sa sb ya yb
  have KG := Lib.hid (hg.alloc (.cells #[Value.string t.name, Value.int .i64 t.kind, Value.int .i64 t.align, Value.slice t.bytesA t.bytes.length t.bytesc, Value.int .i64 t.size, Value.slice t.fixupsA t.fixups.length t.fixupsc] 52))
  clear hg ha hb sa sb ya yb
  obtain ⟨snm, sk, sal, sby, sbA, sbc, ssz, sf, sfA, sfc⟩ := s
  obtain ⟨tnm, tk, tal, tby, tbA, tbc, tsz, tf, tfA, tfc⟩ := t
  simp only [Sec.val] at *
  generalize alikeV _ _ = res at *
  have c0 := KG.out.cell 0
  have c1 := KG.out.cell 1
  have c2 := KG.out.cell 2
  have c3 := KG.out.cell 3
  have c4 := KG.out.cell 4
  have c5 := KG.out.cell 5
  go_enter Try.func48, Try.ntmps48
  go_wp2_with fail
  refine (HA.out _ BB.out).mono ?_
  rintro e w2 ⟨rfl, s2⟩
  go_wp2
  go_ret
  exact ⟨rfl, BB.out.trans (s2.mono BB.out.size)⟩
set_option maxRecDepth 100000 in
set_option maxHeartbeats 8000000 in
theorem implTwins_any {B : Nat} (x : Obj) (w : World) (h : x.At w B) (hB : B ≤ w.heap.size) (hs : x.small) (hc : x.syms.length ≤ x.yc) (hi : ∀ s ∈ x.secs, isB s.bytes) :
    Calls Try.prog 18 #[x.val] w (Fresh 3 1 w (twinsO x.secs x.syms).length (nums .i64 (twinsO x.secs x.syms))) := by
  obtain ⟨i0, hi0, hz0, hz1, hz2⟩ := info_parts twint_info
  have HO : Hid (∀ w', Below w.heap.size w w' → Calls Try.prog 12 #[.agg #[.slice x.sA x.secs.length x.sc, .slice x.yA x.syms.length x.yc]] w' (Gives w' (.bool (objOk x.secs x.syms)))) := fun w' hb => implObj_any x w' ((h.more hB).below hb) hb.size hs hc
  have H0 := Lib.hid (h.1.more hB)
  have hm := hs.1
  have HSM := Lib.hid hs.2.1
  have HI := Lib.hid hi
  clear h hs hc hi
  obtain ⟨secs, sA, sc, syms, yA, yc⟩ := x
  simp only [Obj.val] at *
  have B0 : Hid (Below w.heap.size w (w.alloc (.cells #[Value.slice sA secs.length sc, Value.slice yA syms.length yc] 26))) := (Below.refl _ _).alloc (Nat.le_refl _) _
  have K0 := Lib.hid ((Blk.new w 26 #[Value.slice sA secs.length sc, Value.slice yA syms.length yc]).alloc (.cells #[] 3))
  have BB : Hid (Below w.heap.size w ((w.alloc (.cells #[Value.slice sA secs.length sc, Value.slice yA syms.length yc] 26)).alloc (.cells #[] 3))) := B0.out.alloc B0.out.size _
  have O0 : Hid (((w.alloc (.cells #[Value.slice sA secs.length sc, Value.slice yA syms.length yc] 26)).alloc (.cells #[] 3)).ownsRow w.heap.size 3 1 (.slice (some ⟨w.heap.size + 1, 0, none⟩) 0 0) 0 (nums .i64 [])) := by
    have hq := World.ownsRow_lit (base := w.heap.size) (e := 3) (size := 1) (w.alloc (.cells #[Value.slice sA secs.length sc, Value.slice yA syms.length yc] 26)) #[] 0 B0.out.size (by unfold maxLen; omega) rfl
    rwa [World.size_alloc] at hq
  clear B0
  have HT1 : Hid (objOk secs syms = false → twinsO secs syms = []) := fun h => twinsO_no h
  have HT2 : Hid (objOk secs syms = true → twinsO secs syms = twinsV secs) := fun h => twinsO_yes h
  generalize twinsO secs syms = res at *
  generalize objOk secs syms = ok at *
  have x0 := K0.out.cell 0
  have x1 := K0.out.cell 1
  go_enter Try.func18, Try.ntmps18
  go_wp2_with fail
  clear x0 x1
  refine (HO.out _ BB.out).mono ?_
  rintro e w1 ⟨rfl, s1⟩
  have HB1 := Lib.hid (BB.out.trans (s1.mono BB.out.size))
  have HO1 := Lib.hid (own_below O0.out s1)
  have HX1 := Lib.hid (K0.out.below s1 K0.out.lt)
  clear s1 BB K0 O0 HO
  cases ok
  · have HR := Lib.hid (HT1.out rfl)
    go_wp2
    go_ret
    rw [HR.out]
    exact ⟨_, _, rfl, HO1.out, HB1.out⟩
  · have HR := Lib.hid (HT2.out rfl)
    clear HT1 HT2
    have y0 := HX1.out.cell 0
    go_wp2
    clear y0
    go_loopw [3, 5, 14] (fun v _ iv wr => ∃ (k : Nat) (A : Option Addr) (c : Nat), k ≤ secs.length ∧ iv = .int .i64 k ∧ v = .slice A k c ∧ Hid (Below w.heap.size w wr) ∧ Hid (wr.ownsRow w.heap.size 3 1 (.slice A k c) k (nums .i64 ((twinsV secs).take k))) ∧ Hid (Blk wr w.heap.size 26 #[Value.slice sA secs.length sc, Value.slice yA syms.length yc])) (fun _ _ iv _ => secs.length - (intOf iv).toNat)
    case atStart => exact ⟨0, _, _, Nat.zero_le _, rfl, rfl, HB1, by simpa using HO1, HX1⟩
    case round =>
      clear HB1 HO1 HX1
      obtain ⟨k, A, c, hk, rfl, rfl, HB, HO, HX⟩ := hrel
      by_cases hlt : k < secs.length
      · obtain ⟨b, off, hfa, hbl, c0, c1, c2, c3, c4, c5⟩ := Sec.at_ (H0.out.below HB.out).1 hlt
        subst hfa
        have hws := HB.out.size
        have HXA := Lib.hid (HX.out.alloc (.cells #[Value.string secs[k].name, Value.int .i64 secs[k].kind, Value.int .i64 secs[k].align, Value.slice secs[k].bytesA secs[k].bytes.length secs[k].bytesc, Value.int .i64 secs[k].size, Value.slice secs[k].fixupsA secs[k].fixups.length secs[k].fixupsc] 52))
        have HBA : Hid (Below w.heap.size w (wr.alloc (.cells #[Value.string secs[k].name, Value.int .i64 secs[k].kind, Value.int .i64 secs[k].align, Value.slice secs[k].bytesA secs[k].bytes.length secs[k].bytesc, Value.int .i64 secs[k].size, Value.slice secs[k].fixupsA secs[k].fixups.length secs[k].fixupsc] 52))) := HB.out.alloc hws _
        have HOA : Hid ((wr.alloc (.cells #[Value.string secs[k].name, Value.int .i64 secs[k].kind, Value.int .i64 secs[k].align, Value.slice secs[k].bytesA secs[k].bytes.length secs[k].bytesc, Value.int .i64 secs[k].size, Value.slice secs[k].fixupsA secs[k].fixups.length secs[k].fixupsc] 52)).ownsRow w.heap.size 3 1 (.slice A k c) k (nums .i64 ((twinsV secs).take k))) := HO.out.alloc _
        have KG := Lib.hid (Blk.new wr 52 #[Value.string secs[k].name, Value.int .i64 secs[k].kind, Value.int .i64 secs[k].align, Value.slice secs[k].bytesA secs[k].bytes.length secs[k].bytesc, Value.int .i64 secs[k].size, Value.slice secs[k].fixupsA secs[k].fixups.length secs[k].fixupsc])
        have z0 := HXA.out.cell 0
        have HF : Hid (∀ t ∈ secs, ∀ w', Below (wr.heap.size + 1) (wr.alloc (.cells #[Value.string secs[k].name, Value.int .i64 secs[k].kind, Value.int .i64 secs[k].align, Value.slice secs[k].bytesA secs[k].bytes.length secs[k].bytesc, Value.int .i64 secs[k].size, Value.slice secs[k].fixupsA secs[k].fixups.length secs[k].fixupsc] 52)) w' → Calls Try.prog 48 #[t.val, .pointer (some ⟨wr.heap.size, 0, none⟩)] w' (Gives w' (.bool (alikeV secs[k] t)))) := fun t ht w' hb => by
          have hbw : Below w.heap.size w w' := HBA.out.trans (hb.mono (by omega))
          refine twinC_any secs[k] t w' (KG.out.below hb (by omega)) ((H0.out.2 _ (List.getElem_mem hlt)).below hbw) ((H0.out.2 _ ht).below hbw) hbw.size hbw.size (HSM.out _ (List.getElem_mem hlt)) (HSM.out _ ht) (HI.out _ (List.getElem_mem hlt)) (HI.out _ ht)
        have HIX := Lib.hid (indexFuncSec_any (some ⟨b, off, none⟩) sc w.heap.size 48 #[.pointer (some ⟨wr.heap.size, 0, none⟩)] (fun t => alikeV secs[k] t) secs (wr.alloc (.cells #[Value.string secs[k].name, Value.int .i64 secs[k].kind, Value.int .i64 secs[k].align, Value.slice secs[k].bytesA secs[k].bytes.length secs[k].bytesc, Value.int .i64 secs[k].size, Value.slice secs[k].fixupsA secs[k].fixups.length secs[k].fixupsc] 52)) (H0.out.below HBA.out).1 HBA.out.size (by unfold maxLen; omega) (fun args w => by kernel_rfl) (fun t ht w' hb => by have h := HF.out t ht w' (by simpa using hb); simpa using h))
        have HTA := Lib.hid (twinsV_at hlt)
        clear HF KG HO HB HX
        go_wp2_with fail
        refine HIX.out.mono ?_
        rintro e w2 ⟨rfl, s2⟩
        have HB2 := Lib.hid (HBA.out.trans (s2.mono HBA.out.size))
        have HO2 := Lib.hid (own_below HOA.out s2)
        have HX2 := Lib.hid (HXA.out.below s2 HXA.out.lt)
        have hw2 := HB2.out.size
        clear HIX HBA HOA HXA s2 z0 c0 c1 c2 c3 c4 c5
        rw [← HTA.out]
        have HTK : Hid ((twinsV secs).take (k + 1) = (twinsV secs).take k ++ [(twinsV secs)[k]'(by rw [twinsV_len]; exact hlt)]) := List.take_succ_eq_append_getElem (by rw [twinsV_len]; exact hlt)
        generalize (twinsV secs)[k]'(by rw [twinsV_len]; exact hlt) = z at *
        go_wp2_with (at_builtin; refine wpList_push _ rfl (.tmp 18) (.tmp 23) _ rfl w.heap.size 3 i0 _ 1 8 Try.underlying42 hi0 hz0 hz1 hz2 rfl (by omega) (by omega) A k c 1 1 (nums .i64 ((twinsV secs).take k)) [.int .i64 z] (by exact HO2.out.alloc _) rfl ⟨w2.heap.size, 0, none⟩ rfl rfl (World.news_of_block (cs := #[.int .i64 z]) (t := 3) (fr := (0, 0)) (by exact heap_alloc_new w2 _)) (by simp [Value.oneCell']) (by omega) (by omega) (by simp; omega) ?_; intro A' c' w3 hown hgrow hat hkeep; have HB3 := Lib.hid (below_push (HB2.out.alloc hw2 _) (HO2.out.alloc _) (Nat.le_refl _) (by simp; omega) hgrow); have HX3 := Lib.hid (own_push_blk (HX2.out.alloc _) hgrow (HO2.out.alloc _) (by decide)); have HO3 := Lib.hid hown; clear hown hgrow hat hkeep)
        go_roundw
        case rel =>
          refine ⟨k + 1, A', c', by omega, by go_num, rfl, HB3, ?_, HX3⟩
          rw [HTK.out]
          have e : nums .i64 ((twinsV secs).take k ++ [z]) = nums .i64 ((twinsV secs).take k) ++ [.int .i64 z] := by simp [nums]
          rw [e]
          exact HO3
        case measure => simp [intOf]; omega
      · have HF : Hid (res = (twinsV secs).take k) := by rw [Hid, HR.out, List.take_of_length_le (by rw [twinsV_len]; omega)]
        have hkk : Hid (k = ((twinsV secs).take k).length) := by rw [Hid, List.length_take, twinsV_len]; omega
        go_wp2
        go_ret
        rw [HF.out, ← hkk.out]
        exact ⟨_, _, rfl, HO.out, HB.out⟩
end Go.Proofs.Ytmmenedjmdcbcaa
