/- Contract of l8Number. Condition: the size of the number. -/
import Derived.Test.YthjjbgpeajeneaaDoorRows
import Derived.Test.YthjjbgpeajeneaaDoorBase
import Derived.Test.YthjjbgpeajeneaaDoorDec
import Derived.WalkKit
import Derived.WalkSpells
import Derived.WalkLawsBesides
import Derived.Handy
import Derived.BigQuiet
import Derived.Deep.RegionHeld3
import Derived.Deep.DrawnRows
import Derived.Deep.QuietTactic
import Derived.Laws.BytesArg
namespace Go.Proofs.YthjjbgpeajeneaaDoor
open Go Go.RowKit

/-- What l8Number tells of a number: below a hundred its digits. -/
def NumRes (n : Int) (s : ByteArray) : Prop := s.size ≤ 1000010 ∧ (0 ≤ n → n < 100 → s.data.toList = dec2 n.toNat)
def dig1 (k : Nat) : ByteArray := ⟨#[UInt8.ofNat (48 + k % 10)]⟩
/-- What is known while digits are put ahead: the number was m0, m is left, out is told. -/
def NumInv (m0 m : Nat) (out : ByteArray) : Prop := out.size + m ≤ 1000001 ∧ (m0 < 100 → (m = m0 ∧ out = dig1 m0) ∨ (10 ≤ m0 ∧ m = m0 / 10 ∧ out.data.toList = dec2 m0))
theorem NumInv.start {m0 : Nat} (h : m0 ≤ 999999) : NumInv m0 m0 (dig1 m0) := ⟨by have : (dig1 m0).size = 1 := rfl; omega, fun _ => .inl ⟨rfl, rfl⟩⟩
theorem NumInv.step {m0 m : Nat} {out : ByteArray} (h : NumInv m0 m out) (hm : 9 < m) : NumInv m0 (m / 10) (dig1 (m / 10) ++ out) := by
  refine ⟨?_, fun h0 => ?_⟩
  · have h1 := h.1
    have : (dig1 (m / 10) ++ out).size = 1 + out.size := by rw [ByteArray.size_append]; rfl
    omega
  · rcases h.2 h0 with ⟨rfl, rfl⟩ | ⟨h1, h2, _⟩
    · refine .inr ⟨by omega, rfl, ?_⟩
      unfold dec2
      rw [if_neg (by omega)]
      have e : m / 10 % 10 = m / 10 := by omega
      simp [dig1, ByteArray.data_append, e]
    · omega
theorem NumInv.end_ {m0 m : Nat} {out : ByteArray} (h : NumInv m0 m out) (hm : m ≤ 9) : out.size ≤ 1000001 ∧ (m0 < 100 → out.data.toList = dec2 m0) := by
  refine ⟨by have := h.1; omega, fun h0 => ?_⟩
  rcases h.2 h0 with ⟨h1, h2⟩ | ⟨_, _, h3⟩
  · subst h1 h2
    unfold dec2
    rw [if_pos (by omega)]
    have e : m % 10 = m := by omega
    simp [dig1, e]
  · exact h3
/-- A digit's conversion. -/
theorem dig_conv (w : World) (x : Int) (hx : 0 ≤ x) : (convert 29 9 (.slice (some ⟨w.heap.size, 0, none⟩) 1 1)).run Tryd.prog (w.alloc (.cells #[.int .u8 (48 + x % 10)] 5 (0, 0))) = .ok (.string (dig1 x.toNat)) (w.alloc (.cells #[.int .u8 (48 + x % 10)] 5 (0, 0))) := by
  have h := run_convert_bytes_arg (P := Tryd.prog) (w.alloc (.cells #[.int .u8 (48 + x % 10)] 5 (0, 0))) 29 5 Tryd.underlying29 Tryd.underlying5 w.heap.size 0 1 1 [48 + x % 10] rfl (fun i hi => by
    obtain rfl : i = 0 := by omega
    exact (Blk.new w _ _).cell 0) 9 Tryd.underlying9
  rw [h]
  have e : (48 + x % 10).toNat = 48 + x.toNat % 10 := by omega
  simp only [strOfNums, dig1, List.map_cons, List.map_nil, e]
set_option maxRecDepth 100000 in
set_option maxHeartbeats 2000000 in
theorem l8Number_any (n : Int) (w : World) (h1 : -999999 ≤ n) (h2 : n ≤ 999999) : Calls Tryd.prog 21 #[.int .i64 n] w fun e w' => ∃ s, e = .returned (.string s) ∧ NumRes n s ∧ Below w.heap.size w w' := by
  by_cases hn : n < 0
  · obtain ⟨m0, rfl⟩ : ∃ m : Nat, n = -(m : Int) := ⟨(-n).toNat, by omega⟩
    have C0 := dig_conv w (m0 : Int) (by omega)
    go_enter Tryd.func21, Tryd.ntmps21
    go_wp2
    clear C0
    go_loopw [0, 4] (fun nv ov wr => ∃ (m : Nat) (out : ByteArray), nv = .int .i64 (m : Int) ∧ ov = .string out ∧ m ≤ 999999 ∧ Hid (NumInv m0 m out) ∧ Below w.heap.size w wr) (fun nv _ _ => (intOf nv).toNat)
    case atStart => exact ⟨m0, dig1 m0, rfl, rfl, by omega, NumInv.start (by omega), by go_grown⟩
    case round =>
      obtain ⟨m, out, rfl, rfl, hm, HI, hb⟩ := hrel
      by_cases h9 : 9 < m
      · have C1 := dig_conv wr ((m : Int) / 10) (by omega)
        have HS := Lib.hid (HI.out.step h9)
        have hmi : (9 : Int) < (m : Int) := by omega
        have hos : ¬ 9223372036854775807 < (dig1 (m / 10)).size + out.size := by
          have := HI.out.1
          have h2 : (dig1 (m / 10)).size = 1 := rfl
          omega
        go_wp2
        go_roundw
        case rel => exact ⟨m / 10, dig1 (m / 10) ++ out, by first | rfl | (congr 1; omega), rfl, by omega, HS, hb.alloc (hb.size) _⟩
        case measure => simp [intOf]; omega
      · have HE := Lib.hid (HI.out.end_ (by omega))
        have hmi : ¬ (9 : Int) < (m : Int) := by omega
        have hos : out.size ≤ 1000001 := HE.out.1
        go_wp2
        go_ret
        exact ⟨_, rfl, ⟨by have := HE.out.1; rw [ByteArray.size_append]; show 1 + out.size ≤ _; omega, fun h => by omega⟩, hb⟩
  · obtain ⟨m0, rfl⟩ : ∃ m : Nat, n = (m : Int) := ⟨(n).toNat, by omega⟩
    have C0 := dig_conv w (m0 : Int) (by omega)
    go_enter Tryd.func21, Tryd.ntmps21
    go_wp2
    clear C0
    go_loopw [0, 4] (fun nv ov wr => ∃ (m : Nat) (out : ByteArray), nv = .int .i64 (m : Int) ∧ ov = .string out ∧ m ≤ 999999 ∧ Hid (NumInv m0 m out) ∧ Below w.heap.size w wr) (fun nv _ _ => (intOf nv).toNat)
    case atStart => exact ⟨m0, dig1 m0, rfl, rfl, by omega, NumInv.start (by omega), by go_grown⟩
    case round =>
      obtain ⟨m, out, rfl, rfl, hm, HI, hb⟩ := hrel
      by_cases h9 : 9 < m
      · have C1 := dig_conv wr ((m : Int) / 10) (by omega)
        have HS := Lib.hid (HI.out.step h9)
        have hmi : (9 : Int) < (m : Int) := by omega
        have hos : ¬ 9223372036854775807 < (dig1 (m / 10)).size + out.size := by
          have := HI.out.1
          have h2 : (dig1 (m / 10)).size = 1 := rfl
          omega
        go_wp2
        go_roundw
        case rel => exact ⟨m / 10, dig1 (m / 10) ++ out, by first | rfl | (congr 1; omega), rfl, by omega, HS, hb.alloc (hb.size) _⟩
        case measure => simp [intOf]; omega
      · have HE := Lib.hid (HI.out.end_ (by omega))
        have hmi : ¬ (9 : Int) < (m : Int) := by omega
        have hos : out.size ≤ 1000001 := HE.out.1
        go_wp2
        go_ret
        exact ⟨_, rfl, ⟨by have := HE.out.1; rw [ByteArray.size_append]; show 0 + out.size ≤ _; omega, fun _ h => by have h2 := HE.out.2 (by omega); simpa [ByteArray.data_append] using h2⟩, hb⟩
end Go.Proofs.YthjjbgpeajeneaaDoor
