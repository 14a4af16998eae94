/- Plain words on the text of a version. No condition. -/
import Derived.Test.YtogdeekjfgbneaaDoorBase
import Derived.Test.YtogdeekjfgbneaaDoorName
import Derived.Test.YtogdeekjfgbneaaDoorVer
import Derived.Test.YtogdeekjfgbneaaDoorVerP
import Derived.Test.YtogdeekjfgbneaaDoorDec
import Derived.Test.YtogdeekjfgbneaaDoorRead8
namespace Go.Proofs.YtogdeekjfgbneaaDoor
open Go
def noV : Ver := ⟨⟨#[]⟩, 0⟩
def verTextL (v : Ver) : List UInt8 := v.name.data.toList ++ 64 :: dec2 v.number.toNat
/-- The text of a version. -/
def verText (v : Ver) : ByteArray := if verOk v then ⟨(verTextL v).toArray⟩ else ⟨#[]⟩
theorem name_no {s : ByteArray} {c : UInt8} (h : nameOk s = true) (hc : c ∈ s.data.toList) : (97 ≤ c.toNat ∧ c.toNat ≤ 122) ∨ c.toNat = 95 ∨ c.toNat = 46 ∨ (48 ≤ c.toNat ∧ c.toNat ≤ 57) := by
  obtain ⟨k, hk, e⟩ := List.getElem_of_mem hc
  have hk' : k < s.size := by simpa using hk
  have h1 := okAt_iff.1 (nameOk_at h k hk')
  have e2 : s[k] = c := by rw [← e]; simp [ByteArray.getElem_eq_getElem_data]
  rw [e2] at h1
  omega
theorem name_no64 {s : ByteArray} (h : nameOk s = true) : (64 : UInt8) ∉ s.data.toList := fun hc => by
  have h1 := name_no h hc
  have : (64 : UInt8).toNat = 64 := rfl
  omega
theorem dec_no64 {n : Nat} (h : n < 100) : (64 : UInt8) ∉ dec2 n := fun hc => by
  have h1 := dec2_digit h hc
  have : (64 : UInt8).toNat = 64 := rfl
  omega
theorem verOk_iff {v : Ver} : verOk v = true ↔ nameOk v.name = true ∧ 1 ≤ v.number ∧ v.number ≤ 99 := by
  unfold verOk
  simp [inB_iff]
theorem verText_ok {v : Ver} (h : verOk v = true) : (verText v).data.toList = verTextL v := by
  unfold verText
  rw [if_pos h]
theorem verText_no {v : Ver} (h : verOk v = false) : verText v = ⟨#[]⟩ := by
  unfold verText
  simp [h]
theorem verText_inj {v u : Ver} (h : verOk v = true) (g : verOk u = true) (e : verText v = verText u) : v = u := by
  have e1 : verTextL v = verTextL u := by rw [← verText_ok h, ← verText_ok g, e]
  obtain ⟨n1, n2, n3⟩ := verOk_iff.1 h
  obtain ⟨m1, m2, m3⟩ := verOk_iff.1 g
  obtain ⟨a, b⟩ := first_at e1 (name_no64 n1) (name_no64 m1)
  have hb := dec2_inj (by omega) (by omega) b
  obtain ⟨⟨nm⟩, k⟩ := v
  obtain ⟨⟨mm⟩, l⟩ := u
  simp only at *
  have ha : nm = mm := Array.ext' a
  have hk : k = l := by omega
  rw [ha, hk]
/-- s is the text of the valid version v; or (b = false) of none. -/
def IsVer (s : ByteArray) (v : Ver) (b : Bool) : Prop := (b = true ∧ verOk v = true ∧ verText v = s) ∨ (b = false ∧ v = noV ∧ ∀ u, verOk u = true → verText u ≠ s)
theorem IsVer.one {s : ByteArray} {v u : Ver} {b c : Bool} (h : IsVer s v b) (g : IsVer s u c) : v = u ∧ b = c := by
  rcases h with ⟨h1, h2, h3⟩ | ⟨h1, h2, h3⟩ <;> rcases g with ⟨g1, g2, g3⟩ | ⟨g1, g2, g3⟩
  · exact ⟨verText_inj h2 g2 (h3.trans g3.symm), h1.trans g1.symm⟩
  · exact absurd h3 (g3 _ h2)
  · exact absurd g3 (h3 _ g2)
  · exact ⟨h2.trans g2.symm, h1.trans g1.symm⟩
theorem ver_list {u : Ver} {s : ByteArray} (h : verOk u = true) (e : verText u = s) : s.data.toList = u.name.data.toList ++ 64 :: dec2 u.number.toNat := by
  rw [← e, verText_ok h]
  rfl
theorem implVer_yes {s : ByteArray} {n : Int} (ha : Lib.atoiAll (Lib.cut s.data.toList [64]).2.1 = .ok n) (ht : verText ⟨⟨(Lib.cut s.data.toList [64]).1.toArray⟩, n⟩ = s) : IsVer s ⟨⟨(Lib.cut s.data.toList [64]).1.toArray⟩, n⟩ true := by
  cases hv : verOk ⟨⟨(Lib.cut s.data.toList [64]).1.toArray⟩, n⟩ with
  | true => exact .inl ⟨rfl, hv, ht⟩
  | false =>
    rw [verText_no hv] at ht
    subst ht
    have e : Lib.atoiAll (Lib.cut (⟨#[]⟩ : ByteArray).data.toList [64]).2.1 = Lib.atoiAll [] := rfl
    rw [e] at ha
    exact absurd ha (by intro h; cases h)
theorem implVer_no {s : ByteArray} (h : ∀ n, Lib.atoiAll (Lib.cut s.data.toList [64]).2.1 = .ok n → verText ⟨⟨(Lib.cut s.data.toList [64]).1.toArray⟩, n⟩ ≠ s) : IsVer s noV false := by
  refine .inr ⟨rfl, rfl, fun u hu e => ?_⟩
  have hl := ver_list hu e
  obtain ⟨n1, n2, n3⟩ := verOk_iff.1 hu
  have hc := cut_at (q := dec2 u.number.toNat) (name_no64 n1)
  rw [← hl] at hc
  have ha := dec2_atoi (n := u.number.toNat) (by omega)
  rw [show ((u.number.toNat : Nat) : Int) = u.number from by omega] at ha
  rw [hc] at h
  exact h u.number ha e
theorem specVer_no {s : ByteArray} {p q : List UInt8} {n : Int} (hs : s.data.toList = p ++ 64 :: q) (hq : (64 : UInt8) ∉ q) (hn : ReadsDec q n) (h : ¬ (verOk ⟨⟨p.toArray⟩, n⟩ = true ∧ verText ⟨⟨p.toArray⟩, n⟩ = s)) : IsVer s noV false := by
  refine .inr ⟨rfl, rfl, fun u hu e => h ?_⟩
  have hl := ver_list hu e
  obtain ⟨n1, n2, n3⟩ := verOk_iff.1 hu
  obtain ⟨a, b⟩ := last_at (hs.symm.trans hl) hq (dec_no64 (n := u.number.toNat) (by omega))
  have hk := hn.2 u.number.toNat (by omega) b
  have hu2 : (⟨⟨p.toArray⟩, n⟩ : Ver) = u := by
    obtain ⟨⟨nm⟩, k⟩ := u
    simp only at *
    subst a
    congr 1
    omega
  rw [hu2]
  exact ⟨hu, e⟩
theorem specVer_none {s : ByteArray} (hs : (64 : UInt8) ∉ s.data.toList) : IsVer s noV false :=
  .inr ⟨rfl, rfl, fun u hu e => hs (by rw [ver_list hu e]; simp)⟩
end Go.Proofs.YtogdeekjfgbneaaDoor
