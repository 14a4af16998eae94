/- Chains: one is deleted, one has grown, one was stored. No condition. -/
import Derived.Test.YtgibmbjdnppiaaaRows
import Derived.Test.YtgibmbjdnppiaaaBase
import Derived.Test.YtgibmbjdnppiaaaBase2
import Derived.Test.YtgibmbjdnppiaaaBase3
import Derived.Test.YtgibmbjdnppiaaaShelf
import Derived.Test.YtgibmbjdnppiaaaIdxI
import Derived.Test.YtgibmbjdnppiaaaPick2
import Derived.Test.YtgibmbjdnppiaaaEdge
import Derived.Test.YtgibmbjdnppiaaaEdgeV
import Derived.Test.YtgibmbjdnppiaaaCallP
import Derived.Test.YtgibmbjdnppiaaaOrdP
import Derived.Test.YtgibmbjdnppiaaaChn
import Derived.Test.YtgibmbjdnppiaaaCat
import Derived.WalkKit
import Derived.WalkSpells
import Derived.WalkLawsBesides
import Derived.Handy
import Derived.BigQuiet
import Derived.Deep.RegionHeld3
import Derived.Deep.DrawnRows
import Derived.Deep.QuietTactic
import Derived.Lib.OwnBridge
namespace Go.Proofs.Ytgibmbjdnppiaaa
open Go Go.RowKit

theorem ch_info : (Try.prog.info? 36).map (fun i => (i.zero, i.size, i.bytes)) = some (some (.slice none 0 0), 1, 24) := by kernel_rfl
theorem vals_one (ks : List Ch) : ∀ u ∈ ks.map Ch.val, u.oneCell' = true := fun u hu => by
  obtain ⟨k, _, rfl⟩ := List.mem_map.1 hu
  rfl
theorem map_erase {α β : Type} (f : α → β) : ∀ (l : List α) (b : Nat), (l.eraseIdx b).map f = (l.map f).eraseIdx b
  | [], _ => rfl
  | _ :: _, 0 => rfl
  | x :: l, b + 1 => by simp [map_erase f l b]
theorem grown_putRow {α : Type} [Inhabited α] (enc : α → Value) (w : World) (g q : Nat) (d : Array α) : w.grownBy (Go.Sort.putRow enc (Go.Sort.ahead w q) g 0 d) (some g) :=
  ⟨rfl, rfl, rfl, by simp [Go.Sort.putRow, Go.Sort.mapBlock, Go.Sort.ahead], fun k _ hne => by
    have hne2 : ¬ g = k := fun e => hne (by rw [e])
    simp [Go.Sort.putRow, Go.Sort.mapBlock, Go.Sort.ahead, Array.getElem?_modify, hne2]⟩
section
variable {lo oc : Nat} {OA : Option Addr} {vals : List Value} {ks : List Ch} {wq w' : World}
theorem Chs.at_ (h : Chs lo OA oc vals ks wq) (hn : 0 < vals.length) : ∃ g, OA = some ⟨g, 0, none⟩ := by
  rcases h.outer.2 with ⟨_, h0⟩ | ⟨g, cap, cur, hv, _⟩
  · omega
  · injection hv with hv
    exact ⟨g, hv⟩
theorem Chs.store {g : Nat} (h : Chs lo (some ⟨g, 0, none⟩) oc vals ks wq) (a : Nat) (u : Value) : Chs lo (some ⟨g, 0, none⟩) oc (vals.set a u) ks (wq.setCell ⟨g, a, none⟩ u) := by
  have hst := h.outer.stored a u
  exact h.outerTo (by simpa using hst.1) hst.2
theorem Chs.append (h : Chs lo OA oc vals ks wq) {a : Nat} (ha : a < ks.length) (hg : wq.grownBy w' (ks[a].A.map (·.block))) (k : Ch) (hk : k.Own w' lo) (hat : ∀ x, k.A = some x → (∃ y, ks[a].A = some y ∧ y.block = x.block) ∨ wq.heap.size ≤ x.block) : Chs lo OA oc vals (ks.set a k) w' := by
  have hp := List.pairwise_iff_getElem.1 h.apart
  have hap : ∀ (i : Nat) (hi : i < ks.length), i ≠ a → Apart ks[i].A ks[a].A := fun i hi hne => by
    rcases Nat.lt_or_ge i a with h1 | h1
    · exact hp i a hi ha h1
    · exact (hp a i ha hi (by omega)).symm
  have hnk : ∀ (i : Nat) (hi : i < ks.length), i ≠ a → Apart ks[i].A k.A := fun i hi hne x y hx hy => by
    rcases hat y hy with ⟨z, h1, h2⟩ | h1
    · rw [← h2]; exact hap i hi hne x z hx h1
    · have := (h.up (List.getElem_mem hi) x hx).2
      omega
  refine ⟨own_other h.outer hg (fun x y hx hy => (h.ne (List.getElem_mem ha)).symm x y hx hy), fun j hj => ?_, ?_⟩
  · obtain ⟨i, hi, rfl⟩ := List.getElem_of_mem hj
    rw [List.length_set] at hi
    rw [List.getElem_set]
    by_cases e : a = i
    · rw [if_pos e]; exact hk
    · rw [if_neg e]
      exact own_other (h.inner _ (List.getElem_mem hi)) hg (hap i hi (fun e2 => e e2.symm))
  · rw [List.pairwise_iff_getElem]
    intro i j hi hj hij
    rw [List.length_set] at hi hj
    rw [List.getElem_set, List.getElem_set]
    by_cases e1 : a = i
    · rw [if_pos e1, if_neg (by omega)]
      exact (hnk j hj (by omega)).symm
    · rw [if_neg e1]
      by_cases e2 : a = j
      · rw [if_pos e2]; exact hnk i hi (by omega)
      · rw [if_neg e2]; exact hp i j hi hj hij
end
theorem joinC_map {ks : List Ch} {a b : Nat} (ha : a < ks.length) (hb : b < ks.length) (A : Option Addr) (c : Nat) : ((ks.set a ⟨A, c, ks[a].xs ++ ks[b].xs⟩).eraseIdx b).map Ch.xs = joinC (ks.map Ch.xs) a b := by
  unfold joinC
  rw [map_erase, List.map_set, List.getD_eq_getElem?_getD, List.getD_eq_getElem?_getD, List.getElem?_map, List.getElem?_map, List.getElem?_eq_getElem ha, List.getElem?_eq_getElem hb]
  rfl
theorem delCh_any {lo oc : Nat} {OA : Option Addr} (ks : List Ch) (b : Nat) (w : World) (h : Chs lo OA oc (ks.map Ch.val) ks w) (hb : b < ks.length) :
    Calls Try.prog 49 #[.slice OA ks.length oc, .int .i64 (b : Int), .int .i64 ((b : Int) + 1)] w fun e w' => e = .returned (.slice OA (ks.eraseIdx b).length oc) ∧ Chs lo OA oc ((ks.eraseIdx b).map Ch.val) (ks.eraseIdx b) w' ∧ w.grownBy w' (OA.map (·.block)) := by
  obtain ⟨i0, hi0, hz0, hz1, hz2⟩ := info_parts ch_info
  have ho := h.outer
  rw [List.length_map] at ho
  obtain ⟨g, cap, hv, hbg, hgl, hn, hm, hl, hH⟩ := Lib.holds_of_ownsRow (enc := Ch.val) ho (fun e => by injection e with _ e; omega)
  injection hv with hv1 _ hv2
  subst hv1 hv2
  unfold maxLen at hm
  have hcon := Try.slices_Delete Ch.val (fun _ => rfl) (⟨none, 0, []⟩ : Ch) (fun w => by kernel_rfl) i0 hi0 hz1 g 0 oc b (b + 1) ks.toArray w hH (by simpa using hn) (by omega) (by omega) (by simp; omega)
  have hsz : ks.toArray.size = ks.length := by simp
  rw [hsz] at hcon
  rw [show ((b + 1 : Nat) : Int) = (b : Int) + 1 from by omega] at hcon
  refine hcon.mono ?_
  rintro e w' ⟨rfl, q, rfl⟩
  have e1 : b + 1 - b = 1 := by omega
  rw [e1]
  have e2 : (ks.eraseIdx b).length = ks.length - 1 := List.length_eraseIdx_of_lt hb
  have e3 : ks.toArray.toList.take b ++ ks.toArray.toList.drop (b + 1) = ks.eraseIdx b := by rw [List.eraseIdx_eq_take_drop_succ]
  rw [e3]
  have hg := grown_putRow Ch.val w g q (ks.eraseIdx b ++ List.replicate 1 (⟨none, 0, []⟩ : Ch)).toArray
  have ho2 := Lib.ownsRow_putRow (enc := Ch.val) (q := q) (k := ks.length - 1) (ys := ks.eraseIdx b ++ List.replicate 1 (⟨none, 0, []⟩ : Ch)) ho (by simp [e2]; omega) (by omega)
  rw [List.take_append_of_le_length (by omega), List.take_of_length_le (by omega)] at ho2
  refine ⟨by rw [e2], (h.erase b).outerTo ?_ hg, hg⟩
  rw [List.length_map, e2]
  exact ho2
end Go.Proofs.Ytgibmbjdnppiaaa
