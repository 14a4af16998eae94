/- The walk of FnNewestVersion. No condition. -/
import Derived.Test.YtogdeekjfgbneaaRows
import Derived.Test.YtogdeekjfgbneaaBase
import Derived.Test.YtogdeekjfgbneaaBase2
import Derived.Test.YtogdeekjfgbneaaBase3
import Derived.Test.YtogdeekjfgbneaaIn
import Derived.Test.YtogdeekjfgbneaaIn2
import Derived.Test.YtogdeekjfgbneaaName
import Derived.Test.YtogdeekjfgbneaaVer
import Derived.Test.YtogdeekjfgbneaaVerF
import Derived.Test.YtogdeekjfgbneaaVerG
import Derived.Test.YtogdeekjfgbneaaAlive
import Derived.Test.YtogdeekjfgbneaaPick
import Derived.Test.YtogdeekjfgbneaaPick2
import Derived.Test.YtogdeekjfgbneaaOpenC
import Derived.Test.YtogdeekjfgbneaaDrawN
import Derived.Test.YtogdeekjfgbneaaDrawV
import Derived.Test.YtogdeekjfgbneaaDrawVs
import Derived.Test.YtogdeekjfgbneaaDrawNV
import Derived.WalkKit
import Derived.WalkSpells
import Derived.WalkLawsBesides
import Derived.Handy
import Derived.BigQuiet
import Derived.Deep.RegionHeld3
import Derived.Deep.DrawnRows
import Derived.Deep.QuietTactic
namespace Go.Proofs.Ytogdeekjfgbneaa
open Go Go.RowKit

theorem newStep_ge (nm : ByteArray) (m : Int) (v : Ver) : m ≤ newStep nm m v := by unfold newStep; split <;> omega
theorem foldl_newest (nm : ByteArray) : ∀ (xs : List Ver) (m : Int), m ≤ xs.foldl (newStep nm) m ∧ (∀ v ∈ xs, v.name = nm → v.number ≤ xs.foldl (newStep nm) m) ∧ (xs.foldl (newStep nm) m = m ∨ ∃ v ∈ xs, v.name = nm ∧ v.number = xs.foldl (newStep nm) m)
  | [], m => ⟨Int.le_refl _, by simp, .inl rfl⟩
  | x :: xs, m => by
    obtain ⟨h1, h2, h3⟩ := foldl_newest nm xs (newStep nm m x)
    have hg := newStep_ge nm m x
    simp only [List.foldl_cons]
    refine ⟨by omega, fun v hv hn => ?_, ?_⟩
    · rcases List.mem_cons.1 hv with rfl | hv
      · have : v.number ≤ newStep nm m v := by unfold newStep; rw [if_pos hn]; omega
        omega
      · exact h2 v hv hn
    · rcases h3 with h3 | ⟨v, hv, hn, he⟩
      · by_cases hx : x.name = nm
        · have e : newStep nm m x = max m x.number := if_pos hx
          rcases Int.le_total m x.number with hle | hle
          · exact .inr ⟨x, by simp, hx, by rw [h3, e]; omega⟩
          · exact .inl (by rw [h3, e]; omega)
        · have e : newStep nm m x = m := if_neg hx
          exact .inl (by rw [h3, e])
      · exact .inr ⟨v, by simp [hv], hn, he⟩
theorem newest_facts {xs : List Ver} {nm : ByteArray} {m : Int} (he : newestV xs nm = m) (h0 : m ≠ 0) : (∀ v ∈ xs, v.name = nm → v.number ≤ m) ∧ ∃ v ∈ xs, v.name = nm ∧ v.number = m := by
  unfold newestV at he
  split at he
  · unfold newestOf at he
    obtain ⟨_, h2, h3⟩ := foldl_newest nm xs 0
    rw [he] at h2 h3
    exact ⟨h2, h3.resolve_left h0⟩
  · exact absurd he.symm h0

set_option maxRecDepth 100000 in
set_option maxHeartbeats 8000000 in
theorem FnNewestVersion_walk (W : World) (v0 : Value) (a0 : ArgCode W v0) : Calls Try.prog 6 #[v0] W (Gives W (.bool true)) := by
  obtain ⟨A, c, cs, rfl, hr, hc1, hc2, hcb⟩ := a0
  by_cases hl : cs.length ≤ 1048576
  · have HD := Lib.hid (DrawNewestVersion_any cs W hr hcb hl hc1 hc2)
    clear hcb hr
    unfold maxLen at hc2
    go_enter Try.func6, Try.ntmps6
    go_wp2_with fail
    refine HD.out.mono ?_
    rintro e w1 ⟨A1, c1, xs, nm, rfl, oa, hl1, hxs, hnm, b1⟩
    have HS : Hid (∀ v ∈ xs, VerSmall v) := fun v h => by have := hxs v h; unfold VerSmall maxLen; omega
    clear hxs HD
    go_wp2_with fail
    refine (implNewest_any xs nm _ (Reads.of_own oa) (Nat.le_refl _) (by unfold maxLen; omega) HS.out).mono ?_
    rintro e w2 ⟨rfl, s2⟩
    replace oa := own_below oa s2
    have b2 := b1.trans (s2.mono b1.size)
    clear s2
    go_wp2_with fail
    refine (specNewest_any xs nm _ (Reads.of_own oa) (Nat.le_refl _) (by unfold maxLen; omega) HS.out).mono ?_
    rintro e w3 ⟨rfl, s3⟩
    have HA := Lib.hid (own_below oa s3)
    have HG := Lib.hid (b2.trans (s3.mono b2.size))
    clear s3 oa b1 b2
    obtain ⟨m, hm⟩ : ∃ m, newestV xs nm = m := ⟨_, rfl⟩
    rw [hm]
    by_cases h0 : m = 0
    · subst h0
      clear hm
      go_wp2_with fail
      refine (alive_any _).mono ?_
      rintro e w' ⟨rfl, rfl⟩
      go_wp2
      go_ret
      exact ⟨rfl, HG.out⟩
    · obtain ⟨hle, hex⟩ := newest_facts hm h0
      have HLE := Lib.hid hle
      have HEX := Lib.hid hex
      have h0' : (m == 0) = false := by simp [h0]
      clear hm h0 hle hex
      go_wp2
      clear h0'
      go_loopw [6, 7] (fun fv i wr => ∃ k : Nat, k ≤ xs.length ∧ i = .int .i64 k ∧ fv = .bool ((xs.take k).any fun v => decide (v.name = nm ∧ v.number = m)) ∧ ∃ d, wr = w3.drewN d) (fun _ i _ => xs.length - (intOf i).toNat)
      case atStart => exact ⟨0, Nat.zero_le _, rfl, rfl, 0, rfl⟩
      case round =>
        obtain ⟨k, hk, rfl, rfl, d, rfl⟩ := hrel
        by_cases hlt : k < xs.length
        · obtain ⟨b, off, rfl, hbl, e0, e1⟩ := Ver.at_ (Reads.of_own HA.out) hlt
          have hle := HLE.out _ (List.getElem_mem hlt)
          have HT : Hid (((xs.take (k + 1)).any fun v => decide (v.name = nm ∧ v.number = m)) = (((xs.take k).any fun v => decide (v.name = nm ∧ v.number = m)) || decide (xs[k].name = nm ∧ xs[k].number = m))) := by
            rw [List.take_succ_eq_append_getElem hlt, List.any_append]
            simp [Hid]
          generalize ((xs.take k).any fun v => decide (v.name = nm ∧ v.number = m)) = fb at *
          generalize xs[k].name = xn at *
          generalize xs[k].number = xm at *
          have k1 : (k : Int) < (xs.length : Int) := by omega
          have HLE1 := Lib.hid hle
          clear hle
          by_cases hn : xn = nm
          · have ht : (xn.toList == nm.toList) = true := by simp [hn]
            have hlm := HLE1.out hn
            have hgt : decide (xm > m) = false := decide_eq_false (by omega)
            by_cases hmm : xm = m
            · have hb : (xm == m) = true := by simp [hmm]
              have HDD : Hid (decide (xn = nm ∧ xm = m) = true) := decide_eq_true ⟨hn, hmm⟩
              clear hn hmm
              cases fb
              · skip
                go_wp2
                go_roundw
                case rel => exact ⟨k + 1, by omega, by go_num, by rw [HT.out, HDD.out]; rfl, _, rfl⟩
                case measure => simp [intOf]; omega
              · skip
                go_wp2
                go_roundw
                case rel => exact ⟨k + 1, by omega, by go_num, by rw [HT.out, HDD.out]; rfl, _, rfl⟩
                case measure => simp [intOf]; omega
            · have hb : (xm == m) = false := by simp [hmm]
              have HDD : Hid (decide (xn = nm ∧ xm = m) = false) := decide_eq_false (fun h => hmm h.2)
              clear hn hmm
              cases fb
              · skip
                go_wp2
                go_roundw
                case rel => exact ⟨k + 1, by omega, by go_num, by rw [HT.out, HDD.out]; rfl, _, rfl⟩
                case measure => simp [intOf]; omega
              · skip
                go_wp2
                go_roundw
                case rel => exact ⟨k + 1, by omega, by go_num, by rw [HT.out, HDD.out]; rfl, _, rfl⟩
                case measure => simp [intOf]; omega
          · have ht : (xn.toList == nm.toList) = false := by simpa using fun h => hn (toList_inj h)
            have HDD : Hid (decide (xn = nm ∧ xm = m) = false) := decide_eq_false (fun h => hn h.1)
            clear hn
            cases fb
            · skip
              go_wp2
              go_roundw
              case rel => exact ⟨k + 1, by omega, by go_num, by rw [HT.out, HDD.out]; rfl, _, rfl⟩
              case measure => simp [intOf]; omega
            · skip
              go_wp2
              go_roundw
              case rel => exact ⟨k + 1, by omega, by go_num, by rw [HT.out, HDD.out]; rfl, _, rfl⟩
              case measure => simp [intOf]; omega
        · obtain rfl : k = xs.length := by omega
          have HT : Hid (((xs.take xs.length).any fun v => decide (v.name = nm ∧ v.number = m)) = true) := by
            rw [Hid, List.take_length, List.any_eq_true]
            obtain ⟨v, hv, h1, h2⟩ := HEX.out
            exact ⟨v, hv, decide_eq_true ⟨h1, h2⟩⟩
          rw [HT.out]
          go_wp2
          go_ret
          exact ⟨rfl, below_drewN HG.out _⟩
  · go_enter Try.func6, Try.ntmps6
    go_wp2
    go_ret
    exact ⟨rfl, Below.refl _ _⟩
end Go.Proofs.Ytogdeekjfgbneaa
