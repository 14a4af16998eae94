/- What the laws of libraries ask of LoadOrder, GiverOf and LibrariesMissing, in plain words. No condition. -/
import Derived.Test.YtbhndkdijbappaaRows
import Derived.Test.YtbhndkdijbappaaBase
import Derived.Test.YtbhndkdijbappaaBase2
import Derived.Test.YtbhndkdijbappaaOnly
import Derived.Test.YtbhndkdijbappaaIn
import Derived.Test.YtbhndkdijbappaaName
import Derived.Test.YtbhndkdijbappaaFindS
import Derived.Test.YtbhndkdijbappaaIdxI
import Derived.Test.YtbhndkdijbappaaIdxS
import Derived.Test.YtbhndkdijbappaaLb
import Derived.Test.YtbhndkdijbappaaFindLb
import Derived.Test.YtbhndkdijbappaaLibs
import Derived.Test.YtbhndkdijbappaaLibV
import Derived.Test.YtbhndkdijbappaaLibW
import Derived.Test.YtbhndkdijbappaaLoadP
import Derived.Test.YtbhndkdijbappaaLoadI
import Derived.Test.YtbhndkdijbappaaLoadS
import Derived.Test.YtbhndkdijbappaaLibG
import Derived.Test.YtbhndkdijbappaaLibM
import Derived.Test.YtbhndkdijbappaaLibN
import Derived.WalkKit
import Derived.WalkSpells
import Derived.WalkLawsBesides
import Derived.Handy
import Derived.BigQuiet
import Derived.Deep.RegionHeld3
import Derived.Deep.DrawnRows
import Derived.Deep.QuietTactic
namespace Go.Proofs.Ytbhndkdijbappaa
open Go Go.RowKit

/-- The name of a library by its number. -/
def lName (vs : List LbV) (x : Int) : ByteArray := (vs[x.toNat]?.map (fun v => v.1)).getD ByteArray.empty
theorem lName_at {ls : List Lb} {q : Nat} (h : q < ls.length) : lName (ls.map Lb.v) (q : Int) = ls[q].name := by
  unfold lName
  rw [Int.toNat_natCast, List.getElem?_map, List.getElem?_eq_getElem h]
  rfl
theorem lPlace_name {vs : List LbV} {nm : ByteArray} (h : 0 ≤ lPlace vs nm) : lName vs (lPlace vs nm) = nm := by
  unfold lPlace idxOf at h ⊢
  cases hf : vs.findIdx? (fun v => decide (v.1 = nm)) with
  | none => rw [hf] at h; simp at h
  | some q =>
    obtain ⟨hq, hp, _⟩ := List.findIdx?_eq_some_iff_getElem.1 hf
    unfold lName
    simp only [Int.toNat_natCast]
    rw [List.getElem?_eq_getElem hq]
    exact of_decide_eq_true hp
/-- Of valid libraries each is found by its name. -/
theorem lPlace_own {vs : List LbV} (h : libsOk vs = true) {k : Nat} (hk : k < vs.length) : lPlace vs vs[k].1 = k := by
  refine idxOf_at hk (by simp) fun j hj hjk => ?_
  have h1 := libs_at h hk
  unfold lOk1 at h1
  simp only [Bool.and_eq_true, decide_eq_true_eq] at h1
  have h2 := h1.1.1.2
  have h3 := idxOf_any (fun v : LbV => decide (v.1 = vs[k].1)) (vs.take k)
  unfold lPlace at h2
  rw [decide_eq_false (by omega)] at h3
  have h4 := List.any_eq_false.1 h3.symm vs[j] (by rw [List.mem_take_iff_getElem]; exact ⟨j, by omega, rfl⟩)
  simpa using h4
/-- What is kept while libraries are loaded: all before i have been looked at. -/
structure RunI (vs : List LbV) (nm : ByteArray) (i : Nat) (out : List Int) : Prop where
  good : GoodL vs.length out
  ne : 0 < out.length
  head : ∀ h : 0 < out.length, lName vs out[0] = nm
  need : ∀ k, (h : k < out.length) → 0 < k → ∃ j, ∃ h2 : j < k, lName vs out[k] ∈ lNeeds vs (out[j]'(by omega))
  all : ∀ j, (h : j < out.length) → j < i → ∀ z ∈ lNeeds vs out[j], 0 ≤ lPlace vs z → lPlace vs z ∈ out
theorem lPut_pre (vs : List LbV) (out : List Int) (z : ByteArray) : ∃ es, lPut vs out z = out ++ es ∧ (∀ e ∈ es, lName vs e = z) ∧ (0 ≤ lPlace vs z → lPlace vs z ∈ out ++ es) := by
  by_cases h : 0 ≤ lPlace vs z
  · by_cases h2 : lPlace vs z ∈ out
    · exact ⟨[], by rw [lPut_no2 h2, List.append_nil], (fun e he => by cases he), fun _ => by rw [List.append_nil]; exact h2⟩
    · exact ⟨[lPlace vs z], lPut_yes h h2, (fun e he => by rw [List.mem_singleton.1 he]; exact lPlace_name h), fun _ => by simp⟩
  · exact ⟨[], by rw [lPut_no1 h, List.append_nil], (fun e he => by cases he), fun h2 => absurd h2 h⟩
theorem lFold_pre (vs : List LbV) : ∀ (ns : List ByteArray) (out : List Int), ∃ es, ns.foldl (lPut vs) out = out ++ es ∧ (∀ e ∈ es, lName vs e ∈ ns) ∧ (∀ z ∈ ns, 0 ≤ lPlace vs z → lPlace vs z ∈ out ++ es)
  | [], out => ⟨[], (List.append_nil out).symm, (fun e he => by cases he), fun z hz => by cases hz⟩
  | x :: ns, out => by
    obtain ⟨es, h1, h2, h3⟩ := lPut_pre vs out x
    obtain ⟨fs, g1, g2, g3⟩ := lFold_pre vs ns (lPut vs out x)
    refine ⟨es ++ fs, ?_, ?_, ?_⟩
    · rw [List.foldl_cons, g1, h1, List.append_assoc]
    · intro e he
      rcases List.mem_append.1 he with he | he
      · rw [h2 e he]; exact List.mem_cons_self
      · exact List.mem_cons_of_mem _ (g2 e he)
    · intro z hz hp
      rw [← List.append_assoc, ← h1]
      rcases List.mem_cons.1 hz with rfl | hz
      · rw [h1]
        exact List.mem_append_left _ (h3 hp)
      · exact g3 z hz hp
theorem RunI.step {vs : List LbV} {nm : ByteArray} {i : Nat} {out : List Int} (h : RunI vs nm i out) (hi : i < out.length) : RunI vs nm (i + 1) (lStep vs out out[i]) := by
  obtain ⟨es, h1, h2, h3⟩ := lFold_pre vs (lNeeds vs out[i]) out
  have hg : GoodL vs.length (out ++ es) := by rw [← h1]; exact h.good.fold _
  unfold lStep
  rw [h1]
  refine ⟨hg, by simp; omega, fun hl => ?_, fun k hk hk0 => ?_, fun j hj hji z hz hp => ?_⟩
  · rw [List.getElem_append_left h.ne]
    exact h.head h.ne
  · by_cases hko : k < out.length
    · obtain ⟨j, hj, hm⟩ := h.need k hko hk0
      refine ⟨j, hj, ?_⟩
      rw [List.getElem_append_left hko, List.getElem_append_left (by omega)]
      exact hm
    · refine ⟨i, by omega, ?_⟩
      have e1 : (out ++ es)[k] = es[k - out.length]'(by simp at hk; omega) := List.getElem_append_right (by omega)
      have e2 : (out ++ es)[i]'(by simp; omega) = out[i] := List.getElem_append_left hi
      rw [e1, e2]
      exact h2 _ (List.getElem_mem _)
  · by_cases hjl : j < i
    · have hjo : j < out.length := by omega
      rw [List.getElem_append_left hjo] at hz
      exact List.mem_append_left _ (h.all j hjo hjl z hz hp)
    · obtain rfl : j = i := by omega
      rw [List.getElem_append_left hi] at hz
      exact h3 z hz hp
theorem RunI.run {vs : List LbV} {nm : ByteArray} : ∀ (f i : Nat) (out : List Int), RunI vs nm i out → vs.length ≤ f + i → RunI vs nm (lRun vs f i out).length (lRun vs f i out)
  | 0, i, out, h, hf => by
    have := h.good.len
    exact ⟨h.good, h.ne, h.head, h.need, fun j hj _ => h.all j hj (by have hj2 : j < out.length := hj; omega)⟩
  | f + 1, i, out, h, hf => by
    rw [lRun]
    split
    · rename_i hi
      exact RunI.run f (i + 1) _ (h.step hi) (by omega)
    · exact ⟨h.good, h.ne, h.head, h.need, fun j hj _ => h.all j hj (by omega)⟩
theorem load_run {vs : List LbV} {nm : ByteArray} (h : 0 < (loadL vs nm).length) : libsOk vs = true ∧ RunI vs nm (loadL vs nm).length (loadL vs nm) := by
  by_cases hv : libsOk vs = true
  · by_cases hp : 0 ≤ lPlace vs nm
    · have hl := lPlace_lt vs nm
      rw [load_yes hv hp]
      refine ⟨hv, RunI.run _ _ _ ⟨⟨by simp, fun x hx => by rw [List.mem_singleton.1 hx]; exact ⟨hp, hl.2⟩⟩, by simp, fun _ => lPlace_name hp, fun k hk hk0 => by simp at hk; omega, fun j _ hj => by omega⟩ (by omega)⟩
    · rw [load_no2 hp] at h; simp at h
  · rw [load_no1 nm (by simpa using hv)] at h; simp at h
/-- Every one but the first is needed by one before it. -/
def needB (vs : List LbV) (out : List Int) (k j : Nat) (z : ByteArray) : Bool := decide (k = 0) || (out.take j).any fun x => hasS (lNeeds vs x) z
theorem needB_zero {vs : List LbV} {out : List Int} {k : Nat} {z : ByteArray} : needB vs out k 0 z = decide (k = 0) := by simp [needB]
theorem needB_step {vs : List LbV} {out : List Int} {k j : Nat} {z : ByteArray} (h : j < out.length) : needB vs out k (j + 1) z = (needB vs out k j z || hasS (lNeeds vs out[j]) z) := by
  unfold needB
  rw [List.take_succ_eq_append_getElem h, List.any_append]
  simp [Bool.or_assoc]
theorem needB_all {vs : List LbV} {nm : ByteArray} {i : Nat} {out : List Int} (h : RunI vs nm i out) {k : Nat} (hk : k < out.length) : needB vs out k k (lName vs out[k]) = true := by
  unfold needB
  by_cases h0 : k = 0
  · simp [h0]
  · obtain ⟨j, hj, hm⟩ := h.need k hk (by omega)
    rw [Bool.or_eq_true]
    right
    rw [List.any_eq_true]
    refine ⟨out[j], ?_, hasS_iff.2 hm⟩
    rw [List.mem_take_iff_getElem]
    exact ⟨j, by omega, rfl⟩
theorem run_closed {ls : List Lb} {nm : ByteArray} (h : 0 < (loadL (ls.map Lb.v) nm).length) {k : Nat} (hk : k < ls.length) {j : Nat} (hj : j < (loadL (ls.map Lb.v) nm).length) (hm : ls[k].name ∈ lNeeds (ls.map Lb.v) (loadL (ls.map Lb.v) nm)[j]) : (k : Int) ∈ loadL (ls.map Lb.v) nm := by
  obtain ⟨h1, h2⟩ := load_run h
  have h3 := lPlace_own h1 (k := k) (by simpa using hk)
  rw [List.getElem_map] at h3
  have h4 := h2.all j hj hj _ hm (by
    have e : ls[k].name = (Lb.v ls[k]).1 := rfl
    rw [e, h3]; omega)
  have e : ls[k].name = (Lb.v ls[k]).1 := rfl
  rw [e, h3] at h4
  exact h4
/-- What LibrariesMissing tells: no library has the name, each is needed, none comes twice. -/
structure MissI (vs : List LbV) (out : List ByteArray) : Prop where
  nodup : out.Nodup
  free : ∀ z ∈ out, lPlace vs z < 0
  need : ∀ z ∈ out, ∃ v ∈ vs, z ∈ v.2.1
theorem MissI.put {vs : List LbV} {out : List ByteArray} (h : MissI vs out) {z : ByteArray} (hz : ∃ v ∈ vs, z ∈ v.2.1) : MissI vs (mPut vs out z) := by
  unfold mPut
  split
  · rename_i hc
    simp only [Bool.and_eq_true, decide_eq_true_eq, Bool.not_eq_true'] at hc
    refine ⟨?_, fun y hy => ?_, fun y hy => ?_⟩
    · rw [List.nodup_append]
      refine ⟨h.nodup, by simp, ?_⟩
      intro a ha b hb
      rw [List.mem_singleton.1 hb]
      intro e
      exact hasS_no.1 hc.2 (e ▸ ha)
    · rcases List.mem_append.1 hy with hy | hy
      · exact h.free y hy
      · rw [List.mem_singleton.1 hy]; exact hc.1
    · rcases List.mem_append.1 hy with hy | hy
      · exact h.need y hy
      · rw [List.mem_singleton.1 hy]; exact hz
  · exact h
theorem MissI.fold {vs : List LbV} (ns : List ByteArray) : ∀ {out : List ByteArray}, MissI vs out → (∀ z ∈ ns, ∃ v ∈ vs, z ∈ v.2.1) → MissI vs (ns.foldl (mPut vs) out) := by
  induction ns with
  | nil => intro out h _; exact h
  | cons x ns ih => intro out h hz; exact ih (h.put (hz x List.mem_cons_self)) (fun z hz2 => hz z (List.mem_cons_of_mem _ hz2))
theorem lNeeds_in {vs : List LbV} {x : Int} {z : ByteArray} (h : z ∈ lNeeds vs x) : ∃ v ∈ vs, z ∈ v.2.1 := by
  unfold lNeeds at h
  cases hq : vs[x.toNat]? with
  | none => rw [hq] at h; cases h
  | some v => rw [hq] at h; exact ⟨v, List.mem_of_getElem? hq, h⟩
theorem miss_all {vs : List LbV} (nm : ByteArray) : MissI vs (missL vs nm) := by
  unfold missL
  have : ∀ (l : List Int) (out : List ByteArray), MissI vs out → MissI vs (l.foldl (mStep vs) out) := by
    intro l
    induction l with
    | nil => intro out h; exact h
    | cons x l ih => intro out h; exact ih _ (h.fold _ (fun z hz => lNeeds_in hz))
  exact this _ _ ⟨by simp, (fun z hz => by cases hz), (fun z hz => by cases hz)⟩
theorem miss_free {ls : List Lb} {nm : ByteArray} {z : ByteArray} (h : z ∈ missL (ls.map Lb.v) nm) {k : Nat} (hk : k < ls.length) : ls[k].name ≠ z := by
  intro e
  have h1 := (miss_all nm).free z h
  have h2 := idxOf_any (fun v : LbV => decide (v.1 = z)) (ls.map Lb.v)
  unfold lPlace at h1
  rw [decide_eq_false (by omega)] at h2
  have h3 := List.any_eq_false.1 h2.symm (Lb.v ls[k]) (List.mem_map_of_mem (List.getElem_mem hk))
  have h4 : (Lb.v ls[k]).1 = ls[k].name := rfl
  rw [h4] at h3
  exact h3 (decide_eq_true e)
/-- Among the first k libraries one needs the name. -/
def needL (ls : List Lb) (k : Nat) (z : ByteArray) : Bool := (ls.take k).any fun l => hasS l.needs z
theorem needL_zero {ls : List Lb} {z : ByteArray} : needL ls 0 z = false := by simp [needL]
theorem needL_step {ls : List Lb} {k : Nat} {z : ByteArray} (h : k < ls.length) : needL ls (k + 1) z = (needL ls k z || hasS ls[k].needs z) := by
  unfold needL
  rw [List.take_succ_eq_append_getElem h, List.any_append]
  simp
theorem needL_all {ls : List Lb} {nm : ByteArray} {z : ByteArray} (h : z ∈ missL (ls.map Lb.v) nm) : needL ls ls.length z = true := by
  obtain ⟨v, hv, hz⟩ := (miss_all nm).need z h
  obtain ⟨l, hl, rfl⟩ := List.mem_map.1 hv
  unfold needL
  rw [List.take_of_length_le (Nat.le_refl _), List.any_eq_true]
  exact ⟨l, hl, hasS_iff.2 hz⟩
/-- Valid libraries without the first one; with it twice. -/
theorem libs_tail {v : LbV} {vs : List LbV} (h : libsOk (v :: vs) = true) : libsOk vs = true := by
  unfold libsOk
  have hl := libs_len h
  simp only [List.length_cons] at hl
  rw [Bool.and_eq_true]
  refine ⟨decide_eq_true (by omega), decide_eq_true fun k hk => ?_⟩
  have h1 := libs_at h (k := k + 1) (by simp; omega)
  unfold lOk1 at h1 ⊢
  simp only [List.getElem_cons_succ, List.take_succ_cons, Bool.and_eq_true, decide_eq_true_eq] at h1 ⊢
  obtain ⟨⟨⟨a1, a2⟩, a3⟩, a4⟩ := h1
  refine ⟨⟨⟨a1, ?_⟩, a3⟩, a4⟩
  have h2 := idxOf_any (fun w : LbV => decide (w.1 = vs[k].1)) (v :: vs.take k)
  have h3 := idxOf_any (fun w : LbV => decide (w.1 = vs[k].1)) (vs.take k)
  unfold lPlace at a2 ⊢
  have a2' : ¬ 0 ≤ idxOf (fun w : LbV => decide (w.1 = vs[k].1)) (v :: vs.take k) := fun hq => by
    have := Int.lt_of_le_of_lt hq (of_decide_eq_true a2)
    omega
  rw [decide_eq_false a2'] at h2
  rw [List.any_cons] at h2
  have h4 := (Bool.or_eq_false_iff.1 h2.symm).2
  rw [h4] at h3
  have := of_decide_eq_false h3
  exact Int.not_le.1 this
theorem libs_twice {v : LbV} {vs : List LbV} : libsOk (v :: v :: vs) = false := by
  refine libs_no (k := 1) (by simp) ?_
  unfold lOk1
  have : lPlace ((v :: v :: vs).take 1) ((v :: v :: vs)[1]'(by simp)).1 = 0 := by
    refine idxOf_at (k := 0) (by simp) (by simp) fun j _ hj => by omega
  rw [this]
  simp
end Go.Proofs.Ytbhndkdijbappaa
