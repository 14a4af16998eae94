/- Plain words on the text of a script. No condition. -/
import Derived.Test.YthjjbgpeajeneaaDoorBase
import Derived.Test.YthjjbgpeajeneaaDoorPart
import Derived.Test.YthjjbgpeajeneaaDoorScrV
import Derived.Test.YthjjbgpeajeneaaDoorScr3
import Derived.Test.YthjjbgpeajeneaaDoorDec
import Derived.Lib.Join
import Derived.Lib.Split
import Derived.Lib.SlicesS
namespace Go.Proofs.YthjjbgpeajeneaaDoor
open Go

/-- The word of a kind. -/
def kwL (k : Int) : List UInt8 := if k = 1 then [99, 111, 100, 101] else if k = 2 then [100, 97, 116, 97] else [98, 108, 97, 110, 107]
def prtL (p : Prt) : List UInt8 := kwL p.kind ++ 58 :: dec2 p.align.toNat
/-- The text of a script. -/
def scrText (ps : List Prt) : ByteArray := if scriptOk ps then ⟨(Lib.join (ps.map prtL) [32]).toArray⟩ else ⟨#[]⟩
/-- A part of a valid script. -/
def prtOk (p : Prt) : Prop := (1 ≤ p.kind ∧ p.kind ≤ 3) ∧ alOk p.align = true
theorem prtOk_al {p : Prt} (h : prtOk p) : 1 ≤ p.align ∧ p.align ≤ 64 := alOk_bd h.2
theorem kw_all : ∀ k : Fin 3, (kwL (k.val + 1)).all (fun c => decide (97 ≤ c.toNat)) = true ∧ 4 ≤ (kwL (k.val + 1)).length ∧ (kwL (k.val + 1)).length ≤ 5 := by decide
theorem kw_letters {k : Int} (h1 : 1 ≤ k) (h3 : k ≤ 3) : (∀ c ∈ kwL k, 97 ≤ c.toNat) ∧ 4 ≤ (kwL k).length ∧ (kwL k).length ≤ 5 := by
  obtain ⟨n, rfl⟩ : ∃ n : Nat, k = (n : Int) + 1 := ⟨(k - 1).toNat, by omega⟩
  have h := kw_all ⟨n, by omega⟩
  refine ⟨fun c hc => ?_, h.2⟩
  have := List.all_eq_true.1 h.1 c hc
  simpa using this
theorem kw_inj {k j : Int} (h1 : 1 ≤ k) (h3 : k ≤ 3) (j1 : 1 ≤ j) (j3 : j ≤ 3) (e : kwL k = kwL j) : k = j := by
  rcases (by omega : k = 1 ∨ k = 2 ∨ k = 3) with rfl | rfl | rfl <;> rcases (by omega : j = 1 ∨ j = 2 ∨ j = 3) with rfl | rfl | rfl
  all_goals first
    | rfl
    | exact absurd e (by decide)
theorem kw_no {k : Int} {c : UInt8} (h1 : 1 ≤ k) (h3 : k ≤ 3) (hc : c.toNat < 97) : c ∉ kwL k := fun h => by
  have := (kw_letters h1 h3).1 c h
  omega
theorem prt_no32 {p : Prt} (h : prtOk p) : (32 : UInt8) ∉ prtL p := fun hm => by
  have ha := prtOk_al h
  unfold prtL at hm
  rw [List.mem_append, List.mem_cons] at hm
  rcases hm with hm | hm | hm
  · exact kw_no h.1.1 h.1.2 (by decide) hm
  · exact absurd hm (by decide)
  · have := dec2_digit (n := p.align.toNat) (by omega) hm
    have e : (32 : UInt8).toNat = 32 := rfl
    omega
theorem prt_cut {p : Prt} (h : prtOk p) : Lib.cut (prtL p) [58] = (kwL p.kind, dec2 p.align.toNat, true) := cut_at (kw_no h.1.1 h.1.2 (by decide))
theorem prt_inj {p q : Prt} (h : prtOk p) (g : prtOk q) (e : prtL p = prtL q) : p = q := by
  have h1 := prt_cut h
  rw [e, prt_cut g] at h1
  injection h1 with h1 h2
  injection h2 with h2 _
  have hp := prtOk_al h
  have hq := prtOk_al g
  have e1 := kw_inj g.1.1 g.1.2 h.1.1 h.1.2 h1
  have e2 := dec2_inj (by omega) (by omega) h2
  obtain ⟨a, b⟩ := p
  obtain ⟨c, d⟩ := q
  simp only at *
  congr 1 <;> omega
theorem scr_three {ps : List Prt} (h : scriptOk ps = true) : ∃ p q r, ps = [p, q, r] ∧ prtOk p ∧ prtOk q ∧ prtOk r := by
  have hl := script_len h
  match ps, hl with
  | [p, q, r], _ =>
    obtain ⟨⟨h1, h2, h3⟩, _, a1, a2, a3⟩ := script_three h
    exact ⟨p, q, r, rfl, ⟨h1, a1⟩, ⟨h2, a2⟩, ⟨h3, a3⟩⟩
theorem scrText_ok {p q r : Prt} (h : scriptOk [p, q, r] = true) : (scrText [p, q, r]).data.toList = prtL p ++ 32 :: (prtL q ++ 32 :: prtL r) := by
  unfold scrText
  rw [if_pos h]
  simp [Lib.join, List.intercalate, List.intersperse]
theorem scrText_no {ps : List Prt} (h : scriptOk ps = false) : scrText ps = ⟨#[]⟩ := by
  unfold scrText
  simp [h]
theorem scrText_inj {ps qs : List Prt} (h : scriptOk ps = true) (g : scriptOk qs = true) (e : scrText ps = scrText qs) : ps = qs := by
  obtain ⟨p, q, r, rfl, hp, hq, hr⟩ := scr_three h
  obtain ⟨p', q', r', rfl, hp', hq', hr'⟩ := scr_three g
  have e1 : prtL p ++ 32 :: (prtL q ++ 32 :: prtL r) = prtL p' ++ 32 :: (prtL q' ++ 32 :: prtL r') := by rw [← scrText_ok h, ← scrText_ok g, e]
  obtain ⟨a, b⟩ := first_at e1 (prt_no32 hp) (prt_no32 hp')
  obtain ⟨c, d⟩ := first_at b (prt_no32 hq) (prt_no32 hq')
  rw [prt_inj hp hp' a, prt_inj hq hq' c, prt_inj hr hr' d]
/-- s is the text of the valid script ps; or (b = false) of none. -/
def IsScr (s : ByteArray) (ps : List Prt) (b : Bool) : Prop := (b = true ∧ scriptOk ps = true ∧ scrText ps = s) ∨ (b = false ∧ ps = [] ∧ ∀ qs, scriptOk qs = true → scrText qs ≠ s)
theorem IsScr.one {s : ByteArray} {ps qs : List Prt} {b c : Bool} (h : IsScr s ps b) (g : IsScr s qs c) : ps = qs ∧ b = c := by
  rcases h with ⟨h1, h2, h3⟩ | ⟨h1, h2, h3⟩ <;> rcases g with ⟨g1, g2, g3⟩ | ⟨g1, g2, g3⟩
  · exact ⟨scrText_inj h2 g2 (h3.trans g3.symm), h1.trans g1.symm⟩
  · exact absurd h3 (g3 _ h2)
  · exact absurd g3 (h3 _ g2)
  · exact ⟨h2.trans g2.symm, h1.trans g1.symm⟩
/-- The text is parted in three words. -/
def ThreeW (s : ByteArray) (ws : List ByteArray) : Prop := ∀ a b c : List UInt8, (32 : UInt8) ∉ a → (32 : UInt8) ∉ b → (32 : UInt8) ∉ c → s.data.toList = a ++ 32 :: (b ++ 32 :: c) → ws = [⟨a.toArray⟩, ⟨b.toArray⟩, ⟨c.toArray⟩]
theorem split3 {a b c : List UInt8} (ha : (32 : UInt8) ∉ a) (hb : (32 : UInt8) ∉ b) (hc : (32 : UInt8) ∉ c) : Lib.splitK [32] 0 3 (a ++ 32 :: (b ++ 32 :: c)) = [a, b, c] := by
  have i1 := index_at a (b ++ 32 :: c) ha
  have i2 := index_at b c hb
  have i3 := index_no c hc
  have e1 : (a ++ 32 :: (b ++ 32 :: c)).drop (a.length + 1) = b ++ 32 :: c := by simp
  have e2 : (b ++ 32 :: c).drop (b.length + 1) = c := by simp
  have n1 : ((a.length : Int) == -1) = false := by simp
  have n2 : ((b.length : Int) == -1) = false := by simp
  simp only [Lib.splitK, i1, n1, Bool.false_eq_true, if_false, Int.toNat_natCast, Nat.add_zero, List.length_singleton, e1, i2, n2, e2, i3]
  simp
theorem splitN_three (s : ByteArray) (h3 : 3 ≤ s.size) : ThreeW s (Lib.splitB ⟨#[32]⟩ 0 (min 4 (s.size + 1) - 1) s) := fun a b c ha hb hc hs => by
  have e : min 4 (s.size + 1) - 1 = 3 := by omega
  rw [e]
  have h := Lib.splitB_data ⟨#[32]⟩ 0 3 s
  have h2 : (⟨#[32]⟩ : ByteArray).data.toList = [32] := rfl
  rw [h2, hs, split3 ha hb hc] at h
  have inj : ∀ (x y : List ByteArray), x.map (fun b : ByteArray => b.data.toList) = y.map (fun b : ByteArray => b.data.toList) → x = y := by
    intro x
    induction x with
    | nil => intro y h; cases y with
      | nil => rfl
      | cons => cases h
    | cons a x ih => intro y h; cases y with
      | nil => cases h
      | cons b y =>
        simp only [List.map_cons, List.cons.injEq] at h
        rw [ih y h.2]
        obtain ⟨a⟩ := a
        obtain ⟨b⟩ := b
        have e2 : a = b := Array.ext' h.1
        rw [e2]
  exact inj _ _ (by rw [h]; simp)
/-- The words of the kinds, as the program has them. -/
def kws : List ByteArray := [⟨#[99, 111, 100, 101]⟩, ⟨#[100, 97, 116, 97]⟩, ⟨#[98, 108, 97, 110, 107]⟩]
/-- A part as the program reads it off a word. -/
def PrtRead (l : List UInt8) (p : Prt) : Prop := Lib.atoiAll (Lib.cut l [58]).2.1 = .ok p.align ∧ p.kind = 1 + Lib.idxOfS kws ⟨(Lib.cut l [58]).1.toArray⟩
theorem kws_idx {k : Int} (h1 : 1 ≤ k) (h3 : k ≤ 3) : 1 + Lib.idxOfS kws ⟨(kwL k).toArray⟩ = k := by
  rcases (by omega : k = 1 ∨ k = 2 ∨ k = 3) with rfl | rfl | rfl <;> decide
theorem prt_read {p : Prt} (h : prtOk p) : PrtRead (prtL p) p := by
  have ha := prtOk_al h
  unfold PrtRead
  rw [prt_cut h]
  refine ⟨?_, (kws_idx h.1.1 h.1.2).symm⟩
  show Lib.atoiAll (dec2 p.align.toNat) = _
  rw [dec2_atoi (by omega)]
  congr 1
  omega
theorem prt_read_one {l : List UInt8} {p q : Prt} (h : PrtRead l p) (g : PrtRead l q) : p = q := by
  obtain ⟨a, b⟩ := p
  obtain ⟨c, d⟩ := q
  unfold PrtRead at h g
  have h1 := h.1
  rw [g.1] at h1
  injection h1 with h1
  simp only at *
  rw [h1, h.2, g.2]
theorem scr_words {s : ByteArray} {ws : List ByteArray} {qs : List Prt} (hw : ThreeW s ws) (hq : scriptOk qs = true) (e : scrText qs = s) : ∃ p q r, qs = [p, q, r] ∧ (prtOk p ∧ prtOk q ∧ prtOk r) ∧ ws = [⟨(prtL p).toArray⟩, ⟨(prtL q).toArray⟩, ⟨(prtL r).toArray⟩] := by
  obtain ⟨p, q, r, rfl, hp, hq', hr⟩ := scr_three hq
  exact ⟨p, q, r, rfl, ⟨hp, hq', hr⟩, hw _ _ _ (prt_no32 hp) (prt_no32 hq') (prt_no32 hr) (by rw [← e, scrText_ok hq])⟩
/-- The parts of the words that were read. -/
def PrtsRead (ws : List ByteArray) (ps : List Prt) : Prop := ws.length = ps.length ∧ ∀ j (h1 : j < ws.length) (h2 : j < ps.length), PrtRead ws[j].data.toList ps[j]
theorem PrtsRead.nil : PrtsRead [] [] := ⟨rfl, fun j h => by simp at h⟩
theorem PrtsRead.snoc {ws : List ByteArray} {ps : List Prt} {w : ByteArray} {p : Prt} (h : PrtsRead ws ps) (hp : PrtRead w.data.toList p) : PrtsRead (ws ++ [w]) (ps ++ [p]) := by
  refine ⟨by simp [h.1], fun j h1 h2 => ?_⟩
  by_cases hj : j < ws.length
  · rw [List.getElem_append_left hj, List.getElem_append_left (by rw [← h.1]; exact hj)]
    exact h.2 j hj _
  · have e : j = ws.length := by simp at h1; omega
    subst e
    rw [List.getElem_append_right (Nat.le_refl _)]
    rw [List.getElem_append_right (by rw [← h.1]; exact Nat.le_refl _)]
    simpa [h.1] using hp
theorem implScr_bad {s : ByteArray} {ws : List ByteArray} (hw : ThreeW s ws) {j : Nat} (hj : j < ws.length) (h : ∀ n, Lib.atoiAll (Lib.cut ws[j].data.toList [58]).2.1 ≠ .ok n) : IsScr s [] false := by
  refine .inr ⟨rfl, rfl, fun qs hq e => ?_⟩
  obtain ⟨p, q, r, rfl, ⟨hp, hq', hr⟩, rfl⟩ := scr_words hw hq e
  match j, hj with
  | 0, _ => exact h _ (prt_read hp).1
  | 1, _ => exact h _ (prt_read hq').1
  | 2, _ => exact h _ (prt_read hr).1
theorem implScr_no {s : ByteArray} {ws : List ByteArray} {ps : List Prt} (hw : ThreeW s ws) (hr : PrtsRead ws ps) (h : scrText ps ≠ s) : IsScr s [] false := by
  refine .inr ⟨rfl, rfl, fun qs hq e => h ?_⟩
  obtain ⟨p, q, r, rfl, ⟨hp, hq', hr'⟩, rfl⟩ := scr_words hw hq e
  obtain ⟨hl, hall⟩ := hr
  match ps, hl with
  | [a, b, c], _ =>
    have h0 : PrtRead (prtL p) a := hall 0 (by simp) (by simp)
    have h1 : PrtRead (prtL q) b := hall 1 (by simp) (by simp)
    have h2 : PrtRead (prtL r) c := hall 2 (by simp) (by simp)
    rw [prt_read_one h0 (prt_read hp), prt_read_one h1 (prt_read hq'), prt_read_one h2 (prt_read hr'), e]
theorem implScr_empty {s : ByteArray} (h : s.size = 0) : IsScr s [] false := by
  refine .inr ⟨rfl, rfl, fun qs hq e => ?_⟩
  obtain ⟨p, q, r, rfl, hp, hq', hr'⟩ := scr_three hq
  have h1 := scrText_ok hq
  rw [e] at h1
  have h2 : s.data.toList.length = s.size := by simp
  rw [h1, h] at h2
  simp at h2
theorem implScr_yes {s : ByteArray} {ps : List Prt} (h0 : s.size ≠ 0) (h : scrText ps = s) : IsScr s ps true := by
  refine .inl ⟨rfl, ?_, h⟩
  cases hp : scriptOk ps with
  | true => rfl
  | false =>
    rw [scrText_no hp] at h
    subst h
    exact absurd rfl h0
/-- A part as the reference reads it off a word. -/
def SpecRead (l : List UInt8) (p : Prt) : Prop := ∀ q, prtOk q → l = prtL q → p = q
theorem specScr_len {s : ByteArray} {ws : List ByteArray} (hw : ThreeW s ws) (h : ws.length ≠ 3) : IsScr s [] false := by
  refine .inr ⟨rfl, rfl, fun qs hq e => h ?_⟩
  obtain ⟨p, q, r, rfl, _, rfl⟩ := scr_words hw hq e
  rfl
theorem specScr_no {s : ByteArray} {ws : List ByteArray} {ps : List Prt} (hw : ThreeW s ws) (hl : ps.length = ws.length) (hall : ∀ j (h1 : j < ws.length) (h2 : j < ps.length), SpecRead ws[j].data.toList ps[j]) (h : ¬ (scriptOk ps = true ∧ scrText ps = s)) : IsScr s [] false := by
  refine .inr ⟨rfl, rfl, fun qs hq e => h ?_⟩
  obtain ⟨p, q, r, rfl, ⟨hp, hq', hr'⟩, rfl⟩ := scr_words hw hq e
  match ps, hl with
  | [a, b, c], _ =>
    have h0 : a = p := hall 0 (by simp) (by simp) p hp rfl
    have h1 : b = q := hall 1 (by simp) (by simp) q hq' rfl
    have h2 : c = r := hall 2 (by simp) (by simp) r hr' rfl
    subst h0 h1 h2
    exact ⟨hq, e⟩
end Go.Proofs.YthjjbgpeajeneaaDoor
