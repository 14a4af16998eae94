/- Contracts of the laws' marking and looking functions on slices of string. No condition but the sizes. -/
import Derived.Test.YtdaamgonendkkaaRows
import Derived.Test.YtdaamgonendkkaaBase
import Derived.Test.YtdaamgonendkkaaMarkT
import Derived.WalkKit
import Derived.WalkSpells
import Derived.WalkLawsBesides
import Derived.Handy
import Derived.BigQuiet
import Derived.Deep.QuietTactic
namespace Go.Proofs.Ytdaamgonendkkaa
open Go Go.RowKit

def mkS (k : Int) (n : Nat) : List ByteArray := (List.range n).map fun (j : Nat) => mkText (k + (j : Int))
theorem mkS_len (k : Int) (n : Nat) : (mkS k n).length = n := by simp [mkS]
theorem mkS_get (k : Int) {n j : Nat} (h : j < n) : (texts (mkS k n))[j]? = some (.string (mkText (k + (j : Int)))) := by simp [texts, mkS, h]
theorem grown_below {w w' : World} (h : Below w.heap.size w w') (row : Option Nat) : w.grownBy w' row := ⟨h.os, h.tape, h.output, h.size, fun k hk _ => h.block k hk⟩

set_option maxHeartbeats 800000 in
theorem markStringS_any (A : Option Addr) (n c base : Nat) (k0 : Int) (xs : List Value) (w : World) (h : w.ownsRow base 9 1 (.slice A n c) n xs) (hn : n ≤ 4194304) (hk0 : 0 ≤ k0) (hk1 : k0 ≤ 16777216) :
    Calls Try.prog 19 #[.slice A n c, .int .i64 k0] w (Marks w base 9 A n c (.int .i64 (k0 + (n : Int))) (texts (mkS k0 n))) := by
  have h2 : w.ownsRow base 9 1 (.slice A n c) n ((texts (mkS k0 n)).take 0 ++ xs.drop 0) := by simpa using h
  have hsz := h.lt
  clear h
  go_enter Try.func19, Try.ntmps19
  go_wp2
  go_loopw [1, 5] (fun kv i wr => ∃ j : Nat, j ≤ n ∧ i = .int .i64 j ∧ kv = .int .i64 (k0 + (j : Int)) ∧ w.grownBy wr (A.map (·.block)) ∧ wr.ownsRow base 9 1 (.slice A n c) n ((texts (mkS k0 n)).take j ++ xs.drop j)) (fun _ i _ => n - (intOf i).toNat)
  case atStart => exact ⟨0, Nat.zero_le _, rfl, by simp, grown_refl _ _, h2⟩
  case round =>
    obtain ⟨j, hj, rfl, rfl, hg, ho⟩ := hrel
    clear h2 hsz
    by_cases hlt : j < n
    · have HG := Lib.hid hg
      have HO := Lib.hid ho
      clear hg ho
      go_wp2_with fail
      refine (markText_any _ _ (by omega)).mono ?_
      rintro e w2 ⟨rfl, hb⟩
      have hg := HG.out.trans (grown_below hb _)
      have ho := own_below HO.out hb
      clear HG HO hb
      obtain ⟨g, rfl, hbg, hgs⟩ := own_addr ho (by omega)
      have hst := ho.stored j (.string (mkText (k0 + (j : Int))))
      have hz : w2.frozen? ⟨g, j, none⟩ = false := ho.frozenAt j
      obtain ⟨u, hcu⟩ : ∃ u, w2.cell? ⟨g, j, none⟩ = some u := ⟨_, (ho.cellAt j (by omega)).trans (List.getElem?_eq_getElem (by have := ho.1; omega))⟩
      have HO := Lib.hid ho
      have HST := Lib.hid hst
      clear ho hst
      go_wp2
      go_roundw
      case rel => exact ⟨j + 1, by omega, by go_num, by go_num, hg.trans HST.out.2, own_take_step HST.out.1 hlt (mkS_get _ hlt)⟩
      case measure => simp [intOf]; omega
    · obtain rfl : j = n := by omega
      go_wp2
      go_ret
      refine ⟨rfl, ?_, hg⟩
      have hd : xs.drop j = [] := List.drop_eq_nil_of_le (by have := ho.1; simp [texts_len, mkS_len] at this; omega)
      have ht : (texts (mkS k0 j)).take j = texts (mkS k0 j) := List.take_of_length_le (by simp [texts_len, mkS_len])
      rw [hd, ht, List.append_nil] at ho
      exact ho

set_option maxHeartbeats 800000 in
theorem heldStringS_any (A : Option Addr) (n c B : Nat) (k0 : Int) (w : World) (h : Reads w B 1 A n (texts (mkS k0 n))) (hB : B ≤ w.heap.size) (hn : n ≤ 4194304) (hk0 : 0 ≤ k0) (hk1 : k0 ≤ 16777216) :
    Calls Try.prog 20 #[.slice A n c, .int .i64 k0] w (Gives w (.int .i64 (k0 + (n : Int)))) := by
  go_enter Try.func20, Try.ntmps20
  go_wp2
  go_loopw [1, 5] (fun kv i wr => ∃ j : Nat, j ≤ n ∧ i = .int .i64 j ∧ kv = .int .i64 (k0 + (j : Int)) ∧ Below w.heap.size w wr) (fun _ i _ => n - (intOf i).toNat)
  case atStart => exact ⟨0, Nat.zero_le _, rfl, by simp, Below.refl _ _⟩
  case round =>
    obtain ⟨j, hj, rfl, rfl, hb⟩ := hrel
    by_cases hlt : j < n
    · obtain ⟨ad, u1, rfl, _, hx1, hc1⟩ := ((h.more hB).below hb).at_ hlt
      rw [mkS_get _ hlt] at hx1
      injection hx1 with hx1
      subst hx1
      have cC : ∀ d os, Calls Try.prog 39 #[.int .i64 (k0 + (j : Int))] (Go.Sort.grow (redrawn wr d) os) fun e w'' => e = .returned (.string (mkText (k0 + (j : Int)))) ∧ ∃ p : Regrown, w'' = Go.Sort.grow (redrawn wr p.d) p.os := fun d os => Calls.regrown_of (markText_any _ _ (by omega))
      have k0' := cell_regrown hc1
      generalize mkText (k0 + (j : Int)) = tx at *
      go_wp2
      refine wp_region_quiet_below (by kernel_rfl) (by kernel_rfl) ?_
      repeat (go_big_quiet_step (exact cC _ _))
      refine wpQuiet_nil ?_
      intro _ hw'
      obtain ⟨⟨dq, osq⟩, hw''⟩ := hw'
      subst hw''
      have hbn := below_regrown wr dq osq
      have HB := Lib.hid (hb.trans (hbn.mono hb.size))
      clear hbn cC k0'
      generalize Go.Sort.grow (redrawn wr dq) osq = w3 at *
      go_wp2
      go_roundw
      case rel => exact ⟨j + 1, by omega, by go_num, by go_num, HB.out⟩
      case measure => simp [intOf]; omega
    · obtain rfl : j = n := by omega
      go_wp2
      go_ret
      exact ⟨rfl, hb⟩

end Go.Proofs.Ytdaamgonendkkaa
