/- Contracts of the two SqueezeBytes. Condition: the cells are bytes. -/
import Derived.Test.YteceiaaiocdlfaaRows
import Derived.Test.YteceiaaiocdlfaaBase
import Derived.Test.YteceiaaiocdlfaaBase2
import Derived.WalkKit
import Derived.WalkSpells
import Derived.WalkLawsBesides
import Derived.Handy
import Derived.BigQuiet
import Derived.Deep.RegionHeld3
import Derived.Deep.DrawnRows
import Derived.Deep.QuietTactic
namespace Go.Proofs.Yteceiaaiocdlfaa
open Go Go.RowKit


def runC (xs : List Int) (i n : Nat) : Bool := decide (i + n < xs.length ∧ xs.getD (i + n) 0 = xs.getD i 0 ∧ n < 255)
def runGo (c : Nat → Bool) : Nat → Nat → Nat
  | 0, n => n
  | f + 1, n => if c n then runGo c f (n + 1) else n
def runLen (xs : List Int) (i : Nat) : Nat := runGo (runC xs i) 255 1
theorem runGo_eq {c : Nat → Bool} : ∀ (f n0 n : Nat), n0 ≤ n → n - n0 ≤ f → (∀ m, n0 ≤ m → m < n → c m = true) → c n = false → runGo c f n0 = n
  | 0, n0, n, h1, h2, _, _ => by unfold runGo; omega
  | f + 1, n0, n, h1, h2, h3, h4 => by
    unfold runGo
    by_cases he : n0 = n
    · subst he
      rw [h4]
      rfl
    · rw [h3 n0 (Nat.le_refl _) (by omega), if_pos rfl]
      exact runGo_eq f (n0 + 1) n (by omega) (by omega) (fun m a b => h3 m (by omega) b) h4
theorem runLen_eq {xs : List Int} {i n : Nat} (h1 : 1 ≤ n) (h2 : n ≤ 255) (h3 : ∀ m, 1 ≤ m → m < n → runC xs i m = true) (h4 : runC xs i n = false) : runLen xs i = n :=
  runGo_eq 255 1 n h1 (by omega) h3 h4
theorem runC_true {xs : List Int} {i n : Nat} (h : i + n < xs.length) (he : xs[i + n] = xs[i]) (hn : n < 255) : runC xs i n = true := by
  unfold runC
  refine decide_eq_true ⟨h, ?_, hn⟩
  rw [List.getD_eq_getElem?_getD, List.getD_eq_getElem?_getD, List.getElem?_eq_getElem h, List.getElem?_eq_getElem (by omega)]
  exact he
theorem runC_false {xs : List Int} {i n : Nat} (h : ¬ i + n < xs.length ∨ (∃ h : i + n < xs.length, xs[i + n] ≠ xs[i]) ∨ ¬ n < 255) : runC xs i n = false := by
  unfold runC
  refine decide_eq_false ?_
  rintro ⟨h1, h2, h3⟩
  rcases h with h | ⟨h, he⟩ | h
  · exact h h1
  · rw [List.getD_eq_getElem?_getD, List.getD_eq_getElem?_getD, List.getElem?_eq_getElem h, List.getElem?_eq_getElem (by omega)] at h2
    exact he h2
  · exact h h3
/-- What is still to come from place i on. -/
def sqGo (xs : List Int) : Nat → Nat → List Int
  | 0, _ => []
  | f + 1, i => if i < xs.length then (runLen xs i : Int) :: xs.getD i 0 :: sqGo xs f (i + runLen xs i) else []
def sqFrom (xs : List Int) (i : Nat) : List Int := sqGo xs (xs.length - i) i
def squeeze (xs : List Int) : List Int := if xs.length ≤ 600 then sqFrom xs 0 else []
theorem runGo_ge {c : Nat → Bool} : ∀ (f n : Nat), n ≤ runGo c f n
  | 0, n => Nat.le_refl _
  | f + 1, n => by
    unfold runGo
    split
    · exact Nat.le_trans (by omega) (runGo_ge f (n + 1))
    · exact Nat.le_refl _
theorem runLen_pos (xs : List Int) (i : Nat) : 1 ≤ runLen xs i := runGo_ge 255 1
theorem sqGo_enough (xs : List Int) : ∀ (f g i : Nat), xs.length - i ≤ f → xs.length - i ≤ g → sqGo xs f i = sqGo xs g i
  | 0, 0, i, _, _ => rfl
  | 0, g + 1, i, h, _ => by unfold sqGo; rw [if_neg (by omega)]
  | f + 1, 0, i, _, h => by unfold sqGo; rw [if_neg (by omega)]
  | f + 1, g + 1, i, h1, h2 => by
    unfold sqGo
    split
    · have := runLen_pos xs i
      rw [sqGo_enough xs f g (i + runLen xs i) (by omega) (by omega)]
    · rfl
theorem sqFrom_step {xs : List Int} {i : Nat} (h : i < xs.length) : sqFrom xs i = (runLen xs i : Int) :: xs[i] :: sqFrom xs (i + runLen xs i) := by
  have hp := runLen_pos xs i
  unfold sqFrom
  obtain ⟨f, hf⟩ : ∃ f, xs.length - i = f + 1 := ⟨xs.length - i - 1, by omega⟩
  rw [hf]
  conv => lhs; unfold sqGo
  rw [if_pos h, List.getD_eq_getElem?_getD, List.getElem?_eq_getElem h, sqGo_enough xs f (xs.length - (i + runLen xs i)) _ (by omega) (Nat.le_refl _)]
  rfl
theorem sqFrom_end {xs : List Int} {i : Nat} (h : xs.length ≤ i) : sqFrom xs i = [] := by
  unfold sqFrom
  have : xs.length - i = 0 := by omega
  rw [this]
  rfl
theorem sqGo_len (xs : List Int) : ∀ (f i : Nat), (sqGo xs f i).length ≤ 2 * f
  | 0, _ => by simp [sqGo]
  | f + 1, i => by
    unfold sqGo
    split
    · have := sqGo_len xs f (i + runLen xs i)
      simp only [List.length_cons]
      omega
    · simp
theorem squeeze_len (xs : List Int) : (squeeze xs).length ≤ 1200 := by
  unfold squeeze
  split
  · have := sqGo_len xs (xs.length - 0) 0
    unfold sqFrom
    omega
  · simp
theorem byte_info : (Try.prog.info? 5).map (fun i => (i.zero, i.size, i.bytes)) = some (some (.int .u8 0), 1, 1) := by kernel_rfl


set_option maxRecDepth 100000 in
set_option maxHeartbeats 8000000 in
theorem implSqueeze_any {A1 : Option Addr} {c1 B1 : Nat} (xs : List Int) (w : World) (h1 : Reads w B1 1 A1 xs.length (nums .u8 xs)) (hB1 : B1 ≤ w.heap.size) (hm : xs.length ≤ maxLen) :
    Calls Try.prog 39 #[.slice A1 xs.length c1] w (Fresh 5 1 w (squeeze xs).length (nums .u8 (squeeze xs))) := by
  obtain ⟨i0, hi0, hz0, hz1, hz2⟩ := info_parts byte_info
  unfold maxLen at hm
  by_cases h6 : xs.length ≤ 600
  · have HSQ : Hid (squeeze xs = sqFrom xs 0) := if_pos h6
    have h6' : (xs.length : Int) ≤ 600 := by omega
    go_enter Try.func39, Try.ntmps39
    go_wp2
    go_loopw [3, 4] (fun v iv wr => ∃ (i n : Nat) (A : Option Addr) (c : Nat) (pre : List Int), i ≤ xs.length ∧ iv = .int .i64 i ∧ v = .slice A n c ∧ Below w.heap.size w wr ∧ wr.ownsRow w.heap.size 5 1 (.slice A n c) n (nums .u8 pre) ∧ Hid (n ≤ 2 * i ∧ sqFrom xs 0 = pre ++ sqFrom xs i)) (fun _ iv _ => xs.length - (intOf iv).toNat)
    case atStart =>
      refine ⟨0, 0, _, _, [], Nat.zero_le _, rfl, rfl, (Below.refl _ _).alloc (Nat.le_refl _) _, ?_, Lib.hid ⟨by omega, rfl⟩⟩
      exact World.ownsRow_lit (base := w.heap.size) (e := 5) (size := 1) w #[] 0 (Nat.le_refl _) (by unfold maxLen; omega) rfl
    case round =>
      obtain ⟨i, n, A, c, pre, hi, rfl, rfl, hb, ho, HI⟩ := hrel
      have HN := Lib.hid HI.out.1
      have HP := Lib.hid HI.out.2
      clear HI
      by_cases hlt : i < xs.length
      · obtain ⟨ad, u1, rfl, hbl, hx1, hc1⟩ := ((h1.more hB1).below hb).at_ hlt
        rw [nums_get _ _ hlt] at hx1
        injection hx1 with hx1
        subst hx1
        have HO := Lib.hid ho
        have HB := Lib.hid hb
        have hbz : w.heap.size ≤ wr.heap.size := hb.size
        have HRd := Lib.hid ((h1.more hB1).below hb)
        clear ho hb
        have hi0' : (0 : Int) ≤ (i : Int) := Int.natCast_nonneg _
        have hi1 : (i : Int) < (xs.length : Int) := by omega
        go_wp2
        obtain ⟨wo, rfl⟩ : ∃ wo : World, wo = wr := ⟨_, rfl⟩
        go_loopw [5] (fun nv wr => ∃ k : Nat, 1 ≤ k ∧ k ≤ 255 ∧ i + k ≤ xs.length ∧ nv = .int .i64 k ∧ Hid (∀ m, 1 ≤ m → m < k → runC xs i m = true) ∧ ∃ d, wr = wo.drewN d) (fun nv _ => 256 - (intOf nv).toNat)
        case atStart => exact ⟨1, by omega, by omega, by omega, rfl, Lib.hid (fun m h1 h2 => by omega), 0, rfl⟩
        case round =>
          obtain ⟨k, hk1, hk2, hk3, rfl, HC, d, rfl⟩ := hrel
          have hk0 : (0 : Int) ≤ (i : Int) + (k : Int) := by omega
          have y1 : IntKind.i64.wrap ((i : Int) + (k : Int)) = (i : Int) + (k : Int) := IntWalk.i64_in _ (by omega)
          have y2 : ((i : Int) + (k : Int)).toNat = i + k := by omega
          by_cases hA : i + k < xs.length
          · have hA' : (i : Int) + (k : Int) < (xs.length : Int) := by omega
            obtain ⟨ad2, u2, he2, hbl2, hx2, hc2⟩ := HRd.out.at_ hA
            injection he2 with he2
            subst he2
            rw [nums_get _ _ hA] at hx2
            injection hx2 with hx2
            subst hx2
            by_cases hE : xs[i + k] = xs[i]
            · by_cases hN : k < 255
              · have HK : Hid (runC xs i k = true) := runC_true hA hE hN
                have hE' : (xs[i + k] == xs[i]) = true := by simp [hE]
                have hN' : (k : Int) < 255 := by omega
                clear hE
                go_wp2
                go_quiet (fail)
                go_wp2
                go_roundw
                case rel => exact ⟨k + 1, by omega, by omega, by omega, by go_num, Lib.hid (fun m h1 h2 => by
                  by_cases hm : m < k
                  · exact HC.out m h1 hm
                  · obtain rfl : m = k := by omega
                    exact HK.out), _, rfl⟩
                case measure => simp [intOf]; omega
              · have HR := Lib.hid (runLen_eq (xs := xs) hk1 hk2 (fun m a b => HC.out m a b) (runC_false (Or.inr (Or.inr hN))))
                have hE' : (xs[i + k] == xs[i]) = true := by simp [hE]
                have hN' : decide ((k : Int) < 255) = false := by simp; omega
                clear hE y2 y1 hk0
                go_wp2
                go_quiet (fail)
                clear hN' hE'
                have HN2 := HN.out
                go_wp2_with (at_builtin; refine wpList_push _ rfl (.tmp 40) (.tmp 47) _ rfl w.heap.size 5 i0 _ 1 1 Try.underlying28 hi0 hz0 hz1 hz2 rfl (by omega) (by omega) A n c 2 2 (nums .u8 pre) [.int .u8 (k : Int), .int .u8 xs[i]] (by exact HO.out.alloc _) rfl ⟨wo.heap.size, 0, none⟩ rfl rfl (World.news_of_block (cs := #[.int .u8 (k : Int), .int .u8 xs[i]]) (t := 5) (fr := (0, 0)) (by exact heap_alloc_new wo _)) (by simp [Value.oneCell']) (by omega) (by omega) (by simp; omega) ?_; intro A' c' w1 hown1 hgrow hat hkeep)
                go_roundw
                case rel =>
                  refine ⟨i + k, n + 2, A', c', pre ++ [(k : Int), xs[i]], by omega, by go_num, rfl, ?_, ?_, Lib.hid ?_⟩
                  · have hb1 : Below w.heap.size w (wo.alloc (Obj.cells #[.int .u8 (k : Int), .int .u8 xs[i]] 5)) := HB.out.alloc HB.out.size _
                    exact below_push (w := wo.alloc (Obj.cells #[.int .u8 (k : Int), .int .u8 xs[i]] 5)) hb1 (HO.out.alloc _) (Nat.le_refl _) hb1.size (by exact ⟨hgrow.os, hgrow.tape, hgrow.output, hgrow.size, hgrow.block⟩)
                  · have e : nums .u8 (pre ++ [(k : Int), xs[i]]) = nums .u8 pre ++ [.int .u8 (k : Int), .int .u8 xs[i]] := by simp [nums]
                    rw [e]
                    exact hown1
                  · have h2 := HN.out
                    have h3 := HP.out
                    have h4 := sqFrom_step hlt
                    rw [HR.out] at h4
                    refine ⟨by omega, ?_⟩
                    rw [h3, h4]
                    simp
                case measure => simp [intOf]; omega
            · have HR := Lib.hid (runLen_eq (xs := xs) hk1 hk2 (fun m a b => HC.out m a b) (runC_false (Or.inr (Or.inl ⟨hA, hE⟩))))
              have hE' : (xs[i + k] == xs[i]) = false := by simp [hE]
              clear hE
              go_wp2
              go_quiet (fail)
              clear hE' y2 y1 hk0
              have HN2 := HN.out
              go_wp2_with (at_builtin; refine wpList_push _ rfl (.tmp 40) (.tmp 47) _ rfl w.heap.size 5 i0 _ 1 1 Try.underlying28 hi0 hz0 hz1 hz2 rfl (by omega) (by omega) A n c 2 2 (nums .u8 pre) [.int .u8 (k : Int), .int .u8 xs[i]] (by exact HO.out.alloc _) rfl ⟨wo.heap.size, 0, none⟩ rfl rfl (World.news_of_block (cs := #[.int .u8 (k : Int), .int .u8 xs[i]]) (t := 5) (fr := (0, 0)) (by exact heap_alloc_new wo _)) (by simp [Value.oneCell']) (by omega) (by omega) (by simp; omega) ?_; intro A' c' w1 hown1 hgrow hat hkeep)
              go_roundw
              case rel =>
                refine ⟨i + k, n + 2, A', c', pre ++ [(k : Int), xs[i]], by omega, by go_num, rfl, ?_, ?_, Lib.hid ?_⟩
                · have hb1 : Below w.heap.size w (wo.alloc (Obj.cells #[.int .u8 (k : Int), .int .u8 xs[i]] 5)) := HB.out.alloc HB.out.size _
                  exact below_push (w := wo.alloc (Obj.cells #[.int .u8 (k : Int), .int .u8 xs[i]] 5)) hb1 (HO.out.alloc _) (Nat.le_refl _) hb1.size (by exact ⟨hgrow.os, hgrow.tape, hgrow.output, hgrow.size, hgrow.block⟩)
                · have e : nums .u8 (pre ++ [(k : Int), xs[i]]) = nums .u8 pre ++ [.int .u8 (k : Int), .int .u8 xs[i]] := by simp [nums]
                  rw [e]
                  exact hown1
                · have h2 := HN.out
                  have h3 := HP.out
                  have h4 := sqFrom_step hlt
                  rw [HR.out] at h4
                  refine ⟨by omega, ?_⟩
                  rw [h3, h4]
                  simp
              case measure => simp [intOf]; omega
          · have HR := Lib.hid (runLen_eq (xs := xs) hk1 hk2 (fun m a b => HC.out m a b) (runC_false (Or.inl hA)))
            have hA' : decide ((i : Int) + (k : Int) < (xs.length : Int)) = false := by simp; omega
            go_wp2
            go_quiet (fail)
            clear hA' y2 y1 hk0
            have HN2 := HN.out
            go_wp2_with (at_builtin; refine wpList_push _ rfl (.tmp 40) (.tmp 47) _ rfl w.heap.size 5 i0 _ 1 1 Try.underlying28 hi0 hz0 hz1 hz2 rfl (by omega) (by omega) A n c 2 2 (nums .u8 pre) [.int .u8 (k : Int), .int .u8 xs[i]] (by exact HO.out.alloc _) rfl ⟨wo.heap.size, 0, none⟩ rfl rfl (World.news_of_block (cs := #[.int .u8 (k : Int), .int .u8 xs[i]]) (t := 5) (fr := (0, 0)) (by exact heap_alloc_new wo _)) (by simp [Value.oneCell']) (by omega) (by omega) (by simp; omega) ?_; intro A' c' w1 hown1 hgrow hat hkeep)
            go_roundw
            case rel =>
              refine ⟨i + k, n + 2, A', c', pre ++ [(k : Int), xs[i]], by omega, by go_num, rfl, ?_, ?_, Lib.hid ?_⟩
              · have hb1 : Below w.heap.size w (wo.alloc (Obj.cells #[.int .u8 (k : Int), .int .u8 xs[i]] 5)) := HB.out.alloc HB.out.size _
                exact below_push (w := wo.alloc (Obj.cells #[.int .u8 (k : Int), .int .u8 xs[i]] 5)) hb1 (HO.out.alloc _) (Nat.le_refl _) hb1.size (by exact ⟨hgrow.os, hgrow.tape, hgrow.output, hgrow.size, hgrow.block⟩)
              · have e : nums .u8 (pre ++ [(k : Int), xs[i]]) = nums .u8 pre ++ [.int .u8 (k : Int), .int .u8 xs[i]] := by simp [nums]
                rw [e]
                exact hown1
              · have h2 := HN.out
                have h3 := HP.out
                have h4 := sqFrom_step hlt
                rw [HR.out] at h4
                refine ⟨by omega, ?_⟩
                rw [h3, h4]
                simp
            case measure => simp [intOf]; omega
      · have HE := Lib.hid (sqFrom_end (xs := xs) (i := i) (by omega))
        go_wp2
        go_ret
        rw [HSQ.out, HP.out, HE.out, List.append_nil]
        have hn : n = pre.length := by have := ho.1; simp [nums_len] at this; omega
        subst hn
        exact ⟨A, c, rfl, ho, hb⟩
  · have HSQ : Hid (squeeze xs = []) := if_neg h6
    have h6' : ¬ (xs.length : Int) ≤ 600 := by omega
    go_enter Try.func39, Try.ntmps39
    go_wp2

    go_ret
    rw [HSQ.out]
    exact ⟨_, _, rfl, World.ownsRow_lit (base := w.heap.size) (e := 5) (size := 1) w #[] 0 (Nat.le_refl _) (by unfold maxLen; omega) rfl, (Below.refl _ _).alloc (Nat.le_refl _) _⟩


set_option maxRecDepth 100000 in
set_option maxHeartbeats 8000000 in
theorem specSqueeze_any {A1 : Option Addr} {c1 B1 : Nat} (xs : List Int) (w : World) (h1 : Reads w B1 1 A1 xs.length (nums .u8 xs)) (hB1 : B1 ≤ w.heap.size) (hm : xs.length ≤ maxLen) :
    Calls Try.prog 37 #[.slice A1 xs.length c1] w (Fresh 5 1 w (squeeze xs).length (nums .u8 (squeeze xs))) := by
  obtain ⟨i0, hi0, hz0, hz1, hz2⟩ := info_parts byte_info
  unfold maxLen at hm
  by_cases h6 : xs.length ≤ 600
  · have HSQ : Hid (squeeze xs = sqFrom xs 0) := if_pos h6
    have h6' : (xs.length : Int) ≤ 600 := by omega
    go_enter Try.func37, Try.ntmps37
    go_wp2
    go_loopw [3, 4] (fun v iv wr => ∃ (i n : Nat) (A : Option Addr) (c : Nat) (pre : List Int), i ≤ xs.length ∧ iv = .int .i64 i ∧ v = .slice A n c ∧ Below w.heap.size w wr ∧ wr.ownsRow w.heap.size 5 1 (.slice A n c) n (nums .u8 pre) ∧ Hid (n ≤ 2 * i ∧ sqFrom xs 0 = pre ++ sqFrom xs i)) (fun _ iv _ => xs.length - (intOf iv).toNat)
    case atStart =>
      refine ⟨0, 0, _, _, [], Nat.zero_le _, rfl, rfl, (Below.refl _ _).alloc (Nat.le_refl _) _, ?_, Lib.hid ⟨by omega, rfl⟩⟩
      exact World.ownsRow_lit (base := w.heap.size) (e := 5) (size := 1) w #[] 0 (Nat.le_refl _) (by unfold maxLen; omega) rfl
    case round =>
      obtain ⟨i, n, A, c, pre, hi, rfl, rfl, hb, ho, HI⟩ := hrel
      have HN := Lib.hid HI.out.1
      have HP := Lib.hid HI.out.2
      clear HI
      by_cases hlt : i < xs.length
      · obtain ⟨ad, u1, rfl, hbl, hx1, hc1⟩ := ((h1.more hB1).below hb).at_ hlt
        rw [nums_get _ _ hlt] at hx1
        injection hx1 with hx1
        subst hx1
        have HO := Lib.hid ho
        have HB := Lib.hid hb
        have hbz : w.heap.size ≤ wr.heap.size := hb.size
        have HRd := Lib.hid ((h1.more hB1).below hb)
        clear ho hb
        have hi0' : (0 : Int) ≤ (i : Int) := Int.natCast_nonneg _
        have hi1 : (i : Int) < (xs.length : Int) := by omega
        go_wp2
        obtain ⟨wo, rfl⟩ : ∃ wo : World, wo = wr := ⟨_, rfl⟩
        go_loopw [5] (fun nv wr => ∃ k : Nat, 1 ≤ k ∧ k ≤ 255 ∧ i + k ≤ xs.length ∧ nv = .int .i64 k ∧ Hid (∀ m, 1 ≤ m → m < k → runC xs i m = true) ∧ ∃ d, wr = wo.drewN d) (fun nv _ => 256 - (intOf nv).toNat)
        case atStart => exact ⟨1, by omega, by omega, by omega, rfl, Lib.hid (fun m h1 h2 => by omega), 0, rfl⟩
        case round =>
          obtain ⟨k, hk1, hk2, hk3, rfl, HC, d, rfl⟩ := hrel
          have hk0 : (0 : Int) ≤ (i : Int) + (k : Int) := by omega
          have y1 : IntKind.i64.wrap ((i : Int) + (k : Int)) = (i : Int) + (k : Int) := IntWalk.i64_in _ (by omega)
          have y2 : ((i : Int) + (k : Int)).toNat = i + k := by omega
          by_cases hA : i + k < xs.length
          · have hA' : (i : Int) + (k : Int) < (xs.length : Int) := by omega
            obtain ⟨ad2, u2, he2, hbl2, hx2, hc2⟩ := HRd.out.at_ hA
            injection he2 with he2
            subst he2
            rw [nums_get _ _ hA] at hx2
            injection hx2 with hx2
            subst hx2
            by_cases hE : xs[i + k] = xs[i]
            · by_cases hN : k < 255
              · have HK : Hid (runC xs i k = true) := runC_true hA hE hN
                have hE' : (xs[i + k] == xs[i]) = true := by simp [hE]
                have hN' : (k : Int) < 255 := by omega
                clear hE
                go_wp2
                go_quiet (fail)
                go_wp2
                go_roundw
                case rel => exact ⟨k + 1, by omega, by omega, by omega, by go_num, Lib.hid (fun m h1 h2 => by
                  by_cases hm : m < k
                  · exact HC.out m h1 hm
                  · obtain rfl : m = k := by omega
                    exact HK.out), _, rfl⟩
                case measure => simp [intOf]; omega
              · have HR := Lib.hid (runLen_eq (xs := xs) hk1 hk2 (fun m a b => HC.out m a b) (runC_false (Or.inr (Or.inr hN))))
                have hE' : (xs[i + k] == xs[i]) = true := by simp [hE]
                have hN' : decide ((k : Int) < 255) = false := by simp; omega
                clear hE y2 y1 hk0
                go_wp2
                go_quiet (fail)
                clear hN' hE'
                have HN2 := HN.out
                go_wp2_with (at_builtin; refine wpList_push _ rfl (.tmp 41) (.tmp 48) _ rfl w.heap.size 5 i0 _ 1 1 Try.underlying28 hi0 hz0 hz1 hz2 rfl (by omega) (by omega) A n c 2 2 (nums .u8 pre) [.int .u8 (k : Int), .int .u8 xs[i]] (by exact HO.out.alloc _) rfl ⟨wo.heap.size, 0, none⟩ rfl rfl (World.news_of_block (cs := #[.int .u8 (k : Int), .int .u8 xs[i]]) (t := 5) (fr := (0, 0)) (by exact heap_alloc_new wo _)) (by simp [Value.oneCell']) (by omega) (by omega) (by simp; omega) ?_; intro A' c' w1 hown1 hgrow hat hkeep)
                go_roundw
                case rel =>
                  refine ⟨i + k, n + 2, A', c', pre ++ [(k : Int), xs[i]], by omega, by go_num, rfl, ?_, ?_, Lib.hid ?_⟩
                  · have hb1 : Below w.heap.size w (wo.alloc (Obj.cells #[.int .u8 (k : Int), .int .u8 xs[i]] 5)) := HB.out.alloc HB.out.size _
                    exact below_push (w := wo.alloc (Obj.cells #[.int .u8 (k : Int), .int .u8 xs[i]] 5)) hb1 (HO.out.alloc _) (Nat.le_refl _) hb1.size (by exact ⟨hgrow.os, hgrow.tape, hgrow.output, hgrow.size, hgrow.block⟩)
                  · have e : nums .u8 (pre ++ [(k : Int), xs[i]]) = nums .u8 pre ++ [.int .u8 (k : Int), .int .u8 xs[i]] := by simp [nums]
                    rw [e]
                    exact hown1
                  · have h2 := HN.out
                    have h3 := HP.out
                    have h4 := sqFrom_step hlt
                    rw [HR.out] at h4
                    refine ⟨by omega, ?_⟩
                    rw [h3, h4]
                    simp
                case measure => simp [intOf]; omega
            · have HR := Lib.hid (runLen_eq (xs := xs) hk1 hk2 (fun m a b => HC.out m a b) (runC_false (Or.inr (Or.inl ⟨hA, hE⟩))))
              have hE' : (xs[i + k] == xs[i]) = false := by simp [hE]
              clear hE
              go_wp2
              go_quiet (fail)
              clear hE' y2 y1 hk0
              have HN2 := HN.out
              go_wp2_with (at_builtin; refine wpList_push _ rfl (.tmp 41) (.tmp 48) _ rfl w.heap.size 5 i0 _ 1 1 Try.underlying28 hi0 hz0 hz1 hz2 rfl (by omega) (by omega) A n c 2 2 (nums .u8 pre) [.int .u8 (k : Int), .int .u8 xs[i]] (by exact HO.out.alloc _) rfl ⟨wo.heap.size, 0, none⟩ rfl rfl (World.news_of_block (cs := #[.int .u8 (k : Int), .int .u8 xs[i]]) (t := 5) (fr := (0, 0)) (by exact heap_alloc_new wo _)) (by simp [Value.oneCell']) (by omega) (by omega) (by simp; omega) ?_; intro A' c' w1 hown1 hgrow hat hkeep)
              go_roundw
              case rel =>
                refine ⟨i + k, n + 2, A', c', pre ++ [(k : Int), xs[i]], by omega, by go_num, rfl, ?_, ?_, Lib.hid ?_⟩
                · have hb1 : Below w.heap.size w (wo.alloc (Obj.cells #[.int .u8 (k : Int), .int .u8 xs[i]] 5)) := HB.out.alloc HB.out.size _
                  exact below_push (w := wo.alloc (Obj.cells #[.int .u8 (k : Int), .int .u8 xs[i]] 5)) hb1 (HO.out.alloc _) (Nat.le_refl _) hb1.size (by exact ⟨hgrow.os, hgrow.tape, hgrow.output, hgrow.size, hgrow.block⟩)
                · have e : nums .u8 (pre ++ [(k : Int), xs[i]]) = nums .u8 pre ++ [.int .u8 (k : Int), .int .u8 xs[i]] := by simp [nums]
                  rw [e]
                  exact hown1
                · have h2 := HN.out
                  have h3 := HP.out
                  have h4 := sqFrom_step hlt
                  rw [HR.out] at h4
                  refine ⟨by omega, ?_⟩
                  rw [h3, h4]
                  simp
              case measure => simp [intOf]; omega
          · have HR := Lib.hid (runLen_eq (xs := xs) hk1 hk2 (fun m a b => HC.out m a b) (runC_false (Or.inl hA)))
            have hA' : decide ((i : Int) + (k : Int) < (xs.length : Int)) = false := by simp; omega
            go_wp2
            go_quiet (fail)
            clear hA' y2 y1 hk0
            have HN2 := HN.out
            go_wp2_with (at_builtin; refine wpList_push _ rfl (.tmp 41) (.tmp 48) _ rfl w.heap.size 5 i0 _ 1 1 Try.underlying28 hi0 hz0 hz1 hz2 rfl (by omega) (by omega) A n c 2 2 (nums .u8 pre) [.int .u8 (k : Int), .int .u8 xs[i]] (by exact HO.out.alloc _) rfl ⟨wo.heap.size, 0, none⟩ rfl rfl (World.news_of_block (cs := #[.int .u8 (k : Int), .int .u8 xs[i]]) (t := 5) (fr := (0, 0)) (by exact heap_alloc_new wo _)) (by simp [Value.oneCell']) (by omega) (by omega) (by simp; omega) ?_; intro A' c' w1 hown1 hgrow hat hkeep)
            go_roundw
            case rel =>
              refine ⟨i + k, n + 2, A', c', pre ++ [(k : Int), xs[i]], by omega, by go_num, rfl, ?_, ?_, Lib.hid ?_⟩
              · have hb1 : Below w.heap.size w (wo.alloc (Obj.cells #[.int .u8 (k : Int), .int .u8 xs[i]] 5)) := HB.out.alloc HB.out.size _
                exact below_push (w := wo.alloc (Obj.cells #[.int .u8 (k : Int), .int .u8 xs[i]] 5)) hb1 (HO.out.alloc _) (Nat.le_refl _) hb1.size (by exact ⟨hgrow.os, hgrow.tape, hgrow.output, hgrow.size, hgrow.block⟩)
              · have e : nums .u8 (pre ++ [(k : Int), xs[i]]) = nums .u8 pre ++ [.int .u8 (k : Int), .int .u8 xs[i]] := by simp [nums]
                rw [e]
                exact hown1
              · have h2 := HN.out
                have h3 := HP.out
                have h4 := sqFrom_step hlt
                rw [HR.out] at h4
                refine ⟨by omega, ?_⟩
                rw [h3, h4]
                simp
            case measure => simp [intOf]; omega
      · have HE := Lib.hid (sqFrom_end (xs := xs) (i := i) (by omega))
        go_wp2
        go_ret
        rw [HSQ.out, HP.out, HE.out, List.append_nil]
        have hn : n = pre.length := by have := ho.1; simp [nums_len] at this; omega
        subst hn
        exact ⟨A, c, rfl, ho, hb⟩
  · have HSQ : Hid (squeeze xs = []) := if_neg h6
    have h6' : ¬ (xs.length : Int) ≤ 600 := by omega
    go_enter Try.func37, Try.ntmps37
    go_wp2
    go_loop [3, 4] (fun v i => i = .int .i64 0 ∧ v = .slice (some ⟨w.heap.size, 0, none⟩) 0 0) (fun _ _ => 0)
    case atStart => exact ⟨rfl, rfl⟩
    case round =>
      obtain ⟨rfl, rfl⟩ := hrel
      go_wp2
      go_ret
      rw [HSQ.out]
      exact ⟨_, _, rfl, World.ownsRow_lit (base := w.heap.size) (e := 5) (size := 1) w #[] 0 (Nat.le_refl _) (by unfold maxLen; omega) rfl, (Below.refl _ _).alloc (Nat.le_refl _) _⟩

end Go.Proofs.Yteceiaaiocdlfaa
