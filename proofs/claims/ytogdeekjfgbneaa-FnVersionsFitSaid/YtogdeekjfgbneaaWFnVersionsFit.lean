/- The walk of FnVersionsFit. No condition. -/
import Derived.Test.YtogdeekjfgbneaaRows
import Derived.Test.YtogdeekjfgbneaaBase
import Derived.Test.YtogdeekjfgbneaaBase2
import Derived.Test.YtogdeekjfgbneaaBase3
import Derived.Test.YtogdeekjfgbneaaIn
import Derived.Test.YtogdeekjfgbneaaIn2
import Derived.Test.YtogdeekjfgbneaaName
import Derived.Test.YtogdeekjfgbneaaVer
import Derived.Test.YtogdeekjfgbneaaVerF
import Derived.Test.YtogdeekjfgbneaaVerG
import Derived.Test.YtogdeekjfgbneaaVerH
import Derived.Test.YtogdeekjfgbneaaVerI
import Derived.Test.YtogdeekjfgbneaaAlive
import Derived.Test.YtogdeekjfgbneaaPick
import Derived.Test.YtogdeekjfgbneaaPick2
import Derived.Test.YtogdeekjfgbneaaOpenC
import Derived.Test.YtogdeekjfgbneaaDrawN
import Derived.Test.YtogdeekjfgbneaaDrawV
import Derived.Test.YtogdeekjfgbneaaDrawVs
import Derived.Test.YtogdeekjfgbneaaDrawNV
import Derived.Test.YtogdeekjfgbneaaDrawVF
import Derived.Test.YtogdeekjfgbneaaWFnNewestVersion
import Derived.WalkKit
import Derived.WalkSpells
import Derived.WalkLawsBesides
import Derived.Handy
import Derived.BigQuiet
import Derived.Deep.RegionHeld3
import Derived.Deep.DrawnRows
import Derived.Deep.QuietTactic
namespace Go.Proofs.Ytogdeekjfgbneaa
open Go Go.RowKit

def moreV : Ver := ⟨⟨#[109, 111, 114, 101]⟩, 3⟩
theorem moreV_ok : verOk moreV = true := by decide +kernel
theorem newestOf_ge (gs : List Ver) (x : Ver) (nm : ByteArray) : newestOf gs nm ≤ newestOf (gs ++ [x]) nm := by
  unfold newestOf
  rw [List.foldl_append]
  exact newStep_ge nm _ x
theorem newestOf_mem {gs : List Ver} {v : Ver} (h : v ∈ gs) : v.number ≤ newestOf gs v.name := (foldl_newest v.name gs 0).2.1 v h rfl
theorem fit_self (gs : List Ver) : fitOk gs gs = fitOk [] gs := by
  unfold fitOk
  have h0 : versOk [] = true := rfl
  have h1 : (gs.all fun v => !decide (newestOf gs v.name < v.number)) = true := by
    rw [List.all_eq_true]
    intro v hv
    have := newestOf_mem hv
    simp; omega
  rw [h0, h1]
  cases versOk gs <;> rfl
theorem fit_more {ws gs : List Ver} (h : fitOk ws gs = true) (hl : gs.length ≤ 5) : fitOk ws (gs ++ [moreV]) = true := by
  unfold fitOk at h ⊢
  simp only [Bool.and_eq_true] at h ⊢
  obtain ⟨⟨h1, h2⟩, h3⟩ := h
  refine ⟨⟨h1, ?_⟩, ?_⟩
  · unfold versOk at h2 ⊢
    simp only [Bool.and_eq_true, decide_eq_true_eq, List.all_append, List.length_append] at h2 ⊢
    refine ⟨by simp; omega, h2.2, ?_⟩
    simp [moreV_ok]
  · rw [List.all_eq_true] at h3 ⊢
    intro v hv
    have a := h3 v hv
    have b := newestOf_ge gs moreV v.name
    simp at a ⊢; omega
theorem implFit_more {A1 A2 : Option Addr} {c1 c2 base : Nat} (ws gs : List Ver) (w : World) (h1 : Reads w w.heap.size 2 A1 ws.length (ws.flatMap Ver.cells)) (h2 : w.ownsRow base 26 2 (.slice A2 (gs.length + 1) c2) (gs.length + 1) (gs.flatMap Ver.cells ++ [.string ⟨#[109, 111, 114, 101]⟩, .int .i64 3]))
    (hm1 : ws.length ≤ maxLen) (hm2 : gs.length ≤ 5) (hs1 : ∀ v ∈ ws, VerSmall v) (hs2 : ∀ v ∈ gs, VerSmall v) :
    Calls Try.prog 22 #[.slice A1 ws.length c1, .slice A2 (gs.length + 1) c2] w (Gives w (.bool (fitOk ws (gs ++ [moreV])))) := by
  have el : (gs ++ [moreV]).length = gs.length + 1 := by simp
  have ee : (gs ++ [moreV]).flatMap Ver.cells = gs.flatMap Ver.cells ++ [.string ⟨#[109, 111, 114, 101]⟩, .int .i64 3] := by simp [Ver.cells, moreV]
  have h := implFit_any (A1 := A1) (A2 := A2) (c1 := c1) (c2 := c2) ws (gs ++ [moreV]) w h1 (Nat.le_refl _) (by rw [el, ee]; exact Reads.of_own h2) (Nat.le_refl _) hm1 (by rw [el]; unfold maxLen; omega) hs1 (fun v hv => by
    rcases List.mem_append.1 hv with hv | hv
    · exact hs2 v hv
    · rw [List.mem_singleton.1 hv]; unfold VerSmall maxLen; decide +kernel)
  rw [el] at h
  exact h

set_option maxRecDepth 100000 in
set_option maxHeartbeats 8000000 in
theorem FnVersionsFit_walk (W : World) (v0 : Value) (a0 : ArgCode W v0) : Calls Try.prog 8 #[v0] W (Gives W (.bool true)) := by
  obtain ⟨A, c, cs, rfl, hr, hc1, hc2, hcb⟩ := a0
  obtain ⟨i0, hi0, hz0, hz1, hz2⟩ := info_parts l20Versions_info
  by_cases hl : cs.length ≤ 1048576
  · have HD := Lib.hid (DrawVersionsFit_any cs W hr hcb hl hc1 hc2)
    clear hcb hr
    unfold maxLen at hc2
    go_enter Try.func8, Try.ntmps8
    go_wp2_with fail
    refine HD.out.mono ?_
    rintro e w1 ⟨A1, c1, ws, A2, c2, gs, rfl, o1, o2, hl1, hl2, hq1, hq2, b1⟩
    have HS1 : Hid (∀ v ∈ ws, VerSmall v) := fun v h => by have := hq1 v h; unfold VerSmall maxLen; omega
    have HS2 : Hid (∀ v ∈ gs, VerSmall v) := fun v h => by have := hq2 v h; unfold VerSmall maxLen; omega
    have HN := Lib.hid o1
    have HV := Lib.hid o2
    have HG1 := Lib.hid b1
    have zz1 := b1.size
    clear o1 o2 hq1 hq2 b1 HD
    have HF := Lib.hid (fit_self gs)
    go_wp2_with fail
    refine (implFit_any ws gs _ (Reads.of_own HN.out) (Nat.le_refl _) (Reads.of_own HV.out) (Nat.le_refl _) (by unfold maxLen; omega) (by unfold maxLen; omega) HS1.out HS2.out).mono ?_
    rintro e w2 ⟨rfl, s2⟩
    replace HN := Lib.hid (own_below HN.out s2)
    replace HV := Lib.hid (own_below HV.out s2)
    have HG2 := Lib.hid (HG1.out.trans (s2.mono HG1.out.size))
    have zz2 := HG2.out.size
    clear HG1
    clear s2
    go_wp2_with fail
    refine (specFit_any ws gs _ (Reads.of_own HN.out) (Nat.le_refl _) (Reads.of_own HV.out) (Nat.le_refl _) (by unfold maxLen; omega) (by unfold maxLen; omega) HS1.out HS2.out).mono ?_
    rintro e w3 ⟨rfl, s3⟩
    replace HN := Lib.hid (own_below HN.out s3)
    replace HV := Lib.hid (own_below HV.out s3)
    have HG3 := Lib.hid (HG2.out.trans (s3.mono HG2.out.size))
    have zz3 := HG3.out.size
    clear HG2
    clear s3
    obtain ⟨f, hf⟩ : ∃ f, fitOk ws gs = f := ⟨_, rfl⟩
    rw [hf]
    have HFF := Lib.hid hf
    clear hf
    go_wp2_with fail
    refine (implFit_any (A1 := none) (c1 := 0) (B1 := 0) [] gs _ Reads.none_ (Nat.zero_le _) (Reads.of_own HV.out) (Nat.le_refl _) (Nat.zero_le _) (by unfold maxLen; omega) (by simp) HS2.out).mono ?_
    rintro e w4 ⟨rfl, s4⟩
    replace HN := Lib.hid (own_below HN.out s4)
    replace HV := Lib.hid (own_below HV.out s4)
    have HG4 := Lib.hid (HG3.out.trans (s4.mono HG3.out.size))
    have zz4 := HG4.out.size
    clear HG3
    clear s4
    go_wp2_with (first | (at_builtin; refine wpList_appendS _ rfl (.tmp 26) (.tmp 27) _ rfl W.heap.size 26 i0 _ 2 24 Try.underlying36 hi0 hz0 hz1 hz2 rfl (by omega) (by omega) (some ⟨w4.heap.size, 0, none⟩) 0 0 [] rfl (by exact World.ownsRow_lit (base := W.heap.size) (e := 26) (size := 2) w4 #[] 0 (by omega) (by unfold maxLen; omega) rfl) w4.heap.size A2 gs.length c2 (gs.flatMap Ver.cells) rfl (by exact (Reads.of_own HV.out).alloc (Nat.le_refl _) _) (ver_one gs) (by omega) (by simp; omega) ?_; intro AM cM w5 ho5 hg5 ha5; simp only [Nat.zero_add, List.nil_append] at ho5; have s5 : Below w4.heap.size w4 w5 := below_lit hg5 (Nat.le_refl _); have PMN := Lib.hid (apart_lit HN.out (Nat.le_refl _) (by simp) ha5); have PMV := Lib.hid (apart_lit HV.out (Nat.le_refl _) (by simp) ha5); have HM := Lib.hid ho5; replace HN := Lib.hid (own_below HN.out s5); replace HV := Lib.hid (own_below HV.out s5); have HG5 := Lib.hid (HG4.out.trans (s5.mono HG4.out.size)); have zz5 := HG5.out.size; clear HG4; clear s5 ho5 hg5 ha5) | (at_builtin; refine wpList_push _ rfl (.tmp 28) (.tmp 30) _ rfl W.heap.size 26 i0 _ 2 24 Try.underlying36 hi0 hz0 hz1 hz2 rfl (by omega) (by omega) AM gs.length cM 1 1 (gs.flatMap Ver.cells) [.string ⟨#[109, 111, 114, 101]⟩, .int .i64 3] (by exact HM.out.alloc _) rfl ⟨w5.heap.size, 0, none⟩ rfl rfl (World.news_of_block (cs := #[.string ⟨#[109, 111, 114, 101]⟩, .int .i64 3]) (t := 26) (fr := (0, 0)) (by exact heap_alloc_new w5 _)) (by simp [Value.oneCell']) (by omega) (by omega) (by simp; omega) ?_; intro AM' cM' w6 ho6 hg6 ha6 hk6; have HNn := Lib.hid (own_apart (HN.out.alloc _) hg6 PMN.out.symm); have PMNn := Lib.hid (apart_push PMN.out HN.out (by simp) ha6); have HVn := Lib.hid (own_apart (HV.out.alloc _) hg6 PMV.out.symm); have PMVn := Lib.hid (apart_push PMV.out HV.out (by simp) ha6); have HG6 := Lib.hid (below_push (HG5.out.alloc HG5.out.size _) (HM.out.alloc _) (Nat.le_refl _) (by simp; omega) hg6); have HMn := Lib.hid ho6; have zz6 := HG6.out.size; clear ho6 hg6 ha6 hk6 HG5 HN HV HM PMN PMV; have HN := Lib.hid HNn.out; clear HNn; have HV := Lib.hid HVn.out; clear HVn; have HM := Lib.hid HMn.out; clear HMn; have PMN := Lib.hid PMNn.out; clear PMNn; have PMV := Lib.hid PMVn.out; clear PMVn))
    go_wp2_with fail
    refine (implFit_any gs gs _ (Reads.of_own HV.out) (Nat.le_refl _) (Reads.of_own HV.out) (Nat.le_refl _) (by unfold maxLen; omega) (by unfold maxLen; omega) HS2.out HS2.out).mono ?_
    rintro e w7 ⟨rfl, s7⟩
    replace HN := Lib.hid (own_below HN.out s7)
    replace HV := Lib.hid (own_below HV.out s7)
    replace HM := Lib.hid (own_below HM.out s7)
    have HG7 := Lib.hid (HG6.out.trans (s7.mono HG6.out.size))
    have zz7 := HG7.out.size
    clear HG6
    clear s7
    rw [HF.out]
    generalize fitOk [] gs = q at *
    cases f
    · cases q
      all_goals
        go_wp2_with fail
        refine (alive_any _).mono ?_
        rintro e w' ⟨rfl, rfl⟩
        go_wp2
        go_ret
        exact ⟨rfl, HG7.out⟩
    · cases q
      all_goals
        go_wp2_with fail
        refine (implFit_more ws gs _ (Reads.of_own HN.out) HM.out (by unfold maxLen; omega) hl2 HS1.out HS2.out).mono ?_
        rintro e w8 ⟨rfl, s8⟩
        rw [fit_more HFF.out hl2]
        have HG8 := Lib.hid (HG7.out.trans (s8.mono HG7.out.size))
        clear s8
        go_wp2_with fail
        refine (alive_any _).mono ?_
        rintro e w' ⟨rfl, rfl⟩
        go_wp2
        go_ret
        exact ⟨rfl, HG8.out⟩
  · go_enter Try.func8, Try.ntmps8
    go_wp2
    go_ret
    exact ⟨rfl, Below.refl _ _⟩
end Go.Proofs.Ytogdeekjfgbneaa
