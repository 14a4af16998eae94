/- The law FnScriptText, as a tied card: whatever the input, it returns true and leaves alone what was there. Condition: the variables that the row lists hold what the program's text lays in them (the card ties it). -/
import Derived.Test.YthjjbgpeajeneaaDoorRows
import Derived.Test.YthjjbgpeajeneaaDoorCards
import Derived.Test.YthjjbgpeajeneaaDoorTie
import Derived.Test.YthjjbgpeajeneaaDoorOpen
import Derived.Test.YthjjbgpeajeneaaDoorWFnScriptText
import Derived.WalkKit
import Derived.ProofKit
import Derived.OpenShut
import Derived.ShutString
import Derived.ChangeOld
import Derived.Below
import Derived.LaidMore
import Derived.Lay
import Derived.ChangeVars
import Derived.Deep.DeepHandedRow
import Derived.SevenTiedAt
namespace Go.Proofs.YthjjbgpeajeneaaDoor.fnScriptText
open Go.ChangeShapes Go.WideShapes Go.ChangeAt Go.RowKit
open Go.ChangeMaps (open_string shut_string)

theorem own : ownKnob Tryd.prog.godebug = none := by kernel_rfl
theorem laidOut : laidOutB Tryd.prog = true := by kernel_rfl
set_option maxRecDepth 100000 in
theorem lifted (os : Os) (started : os.Started) (H : Type) (enc : TypeId × Value → H) (F : Stop.Interp) :
    ReturnsInHanded {} Tryd.checked os 4 .any ((OpenSpec.ofChange Rows.fnScriptTextSpec).preRow enc Tryd.prog Tryd.f4 Rows.fnScriptTextRow.domain false Rows.fnScriptTextRow.laid) (((OpenSpec.ofChange Rows.fnScriptTextSpec).at F).post enc Tryd.prog Tryd.f4 false true false false) := by
  refine returnsInHanded_of_row (C := Tryd.checked) own started (by kernel_rfl) Tryd.func4
    (ChangeSpec.witness_shaped (enc := enc) (C := Tryd.checked) (os := os) (X := fun w _ => laidMetH Tryd.prog Rows.fnScriptTextRow.laid w) false (World.laidAll Tryd.prog os Rows.fnScriptTextRow.laid) #[.slice none 0 0] 8 (World.laidAll_os _ _ _) (World.shaped_of_ZipB (by kernel_rfl) (by kernel_rfl)) (by kernel_rfl) (by kernel_rfl) (by kernel_rfl) (by rw [MakeChecks.laidMetH_plain _ _ _ (by kernel_rfl)]; exact laidMet_laidAll _ (by kernel_rfl) (by kernel_rfl))) ?_
  intro W base args ds gs before hval0 hW _ _ _ hL hsh _
  have hval : ∀ (j : Nat) t v, Tryd.f4.params[j]? = some t → args[j]? = some v → Value.okWide Tryd.prog W .any base t v := hval0
  have hW' := hW
  obtain ⟨p, q, hA0, hV, rfl, hfz, hnd⟩ := hW
  have hA : DataW.TrodAll enc Tryd.prog W 0 (fun _ => true) true Tryd.f4.params.toList args.toList ds p := hA0
  rw [Tryd.params4] at hA hval
  obtain ⟨v0, vs0, d0, ds0, p0, q0, hargs, rfl, rfl, h0, r0⟩ := trodAll_cons hA
  obtain ⟨rfl, rfl, rfl⟩ := trodAll_nil r0
  obtain rfl : args = #[v0] := by cases args; simp_all
  obtain ⟨gk, tk, csk, fk, dk, pk, rfl, hgk, htk, hvk, htr, rfl⟩ := trodVars_one hV
  obtain rfl : gk = 0 := Option.some.inj (hgk.symm.trans (by kernel_rfl))
  obtain rfl : tk = 45 := Option.some.inj (htk.symm.trans (by kernel_rfl))
  have hk0 : DataW.Trod enc Tryd.prog W 0 (fun _ => true) true 45 (.agg csk) dk pk := ⟨fk, htr⟩
  have ltk : ∀ x ∈ pk, x.block < W.heap.size := DataW.trod_lt fk _ _ _ htr
  have a0 := arg_code Tryd.underlying29 Tryd.underlying5 (by kernel_rfl) (hval 0 29 v0 rfl rfl) h0
  have lt0 : ∀ x ∈ p0, x.block < W.heap.size := by obtain ⟨m, hm⟩ := h0; exact DataW.trod_lt m _ _ _ hm
  have hL2 : laidMet Tryd.prog Rows.fnScriptTextRow.laid W := by
    have h := hL
    rw [MakeChecks.laidMetH_plain _ _ _ (by kernel_rfl)] at h
    exact h
  have hkw := kwOk_of (Lib.laidMet.reads hL2 (by simp [Rows.fnScriptTextRow]))
  have hlib := libW_of3 hsh (Lib.laidMet.reads hL2 (by simp [Rows.fnScriptTextRow])) (Lib.laidMet.reads hL2 (by simp [Rows.fnScriptTextRow]))
  clear hA0 hval0
  refine (FnScriptText_walk W v0 a0 hlib hkw).mono fun e W' ⟨he, bel⟩ => ?_
  subst he
  obtain ⟨fk2, htr2⟩ := Below.trod laidOut (by kernel_rfl) (of_decide_eq_true (by kernel_rfl)) hk0 bel ltk
  have hvk2 := var_below hvk bel
  exact ⟨_, rfl, _, _, _, [], _, _, hW', trodAll_mk1 (shut_bool Tryd.underlying4 _), (trodAll_cons_mk (Below.trod laidOut (by kernel_rfl) (of_decide_eq_true (by kernel_rfl)) h0 bel lt0) trodAll_mk0), trodVars_mk1 hgk htk hvk2 htr2, bel.frame _, fun h => by cases h⟩

theorem over : Rows.fnScriptTextRow.holds Tryd.pinned (OpenSpec.ofChange Rows.fnScriptTextSpec) :=
  OpenClaim.holds_of_cond 4 Tryd.f4 rfl rfl rfl rfl rfl rfl rfl ⟨rfl, rfl, rfl, rfl, rfl⟩ rfl rfl rfl rfl rfl (by kernel_rfl) Tryd.func4 (by kernel_rfl)
    (of_decide_eq_true (by kernel_rfl)) (by unfold Func.isWrapper; first | (rw [if_pos (by decide +kernel)]; kernel_rfl) | (rw [if_neg (by decide +kernel)]; exact ⟨rfl, rfl⟩))
    (fun os started H enc _ F => by rw [OpenClaim.pre_eq_preRow]; exact lifted os started H enc F)

/-- The given statement. -/
theorem proved : Rows.FnScriptTextCardSaid :=
  Claim7.holds_tied_plain_at .later [] [.data, .data, .data, .data, .sentinel, .sentinel, .widerDeep, .pinned] true (true, "3f1a82a27287f083aa748a85c3200d7a0ba4fc34d5ba21a64f8c1b11b6f0fc0e") true
    over (fun _ h => by cases h) (by kernel_rfl) (fun _ h => by cases h) fnScriptText_row_tie rfl ⟨rfl, rfl⟩ (by kernel_rfl) rfl
    (fun f fn hf hfn => by
      obtain rfl : f = 4 := Option.some.inj ((show Tryd.prog.funcNamed "loop.example/objectlinker/laws.FnScriptText" = some 4 by kernel_rfl).symm.trans hf) |>.symm
      obtain rfl : fn = Tryd.f4 := (Option.some.inj (Tryd.func4.symm.trans hfn)).symm
      exact ⟨by kernel_rfl, fun j t ht => by
        rw [Tryd.params4] at ht
        have hm : t ∈ [29] := by simpa using Array.mem_of_getElem? ht
        have hall : ([29].all fun u => !Tryd.prog.wantsStandIn u) = true := by kernel_rfl
        exact (show Tryd.prog.wantsStandIn t = false by simpa using List.all_eq_true.1 hall t hm)⟩)
    (by kernel_rfl)
end Go.Proofs.YthjjbgpeajeneaaDoor.fnScriptText
