/-
  No cell of these rows narrows 'for every input' (looked for: loops, veiled, ifaces, maps, wideKeys, modest, calm, conditions, laid).
  DERIVED. THE GIVEN ROWS OF THIS SEAT. 6 by the template 'for every input the law returns true; each argument reads behind the call as it read before'; 0 by the template 'total and deterministic' (their statements: YtogdeekjfgbneaaTotals.lean).
  GIVEN WITH THE SEED: the statements are not yours to turn. If you find one false, say at which input.
  Laid BY PROGRAM, IN A SANDBOX (cutbox-rows.mjs): the forced cells as the released guide's own fill.sh prints them over the translation b89f08567a77e093… (all of the seat's roots in one cut). By AI agents, Wed Nov 11 2026. No macro, syntax, notation, axiom, sorry.
-/
import Derived.Test.YtogdeekjfgbneaaChecked
import GoSem.Claim
import GoSem.ClaimJoined
import GoSem.ClaimMapViews
import Derived.JoinedTies
import Derived.KernelRfl
namespace Go.Proofs.Ytogdeekjfgbneaa
/- THE CELL 'sum', in the pinned program and in every row, IS THE sha256 OF THE DUMP (.gsa) THAT YtogdeekjfgbneaaProg.lean LOADS. Nothing in Lean hashes anything: it is a label: what it is worth is what the hold of that sum in a sandbox is worth. -/
noncomputable def Try.pinned : Pinned := { name := "ytogdeekjfgbneaa", sum := "b89f08567a77e093a32d267348da43372fe7d24237935b2e6c0eb36cedfeb623", checked := Try.checked }
namespace Rows
def none {H : Type} : Left H := { results := [], args := [] }

/-- 'laws.FnExactVersionValid': WHATEVER THE INPUT: true; the input reads as it did. -/
def fnExactVersionValidSpec : ChangeSpec := { name := "fnExactVersionValid", fn := fun _ => fun
  | [d] => { results := [.lit (.bool true)], args := [d] }
  | _ => none }
def fnExactVersionValidRow : OpenClaim := { program := "ytogdeekjfgbneaa", sum := "b89f08567a77e093a32d267348da43372fe7d24237935b2e6c0eb36cedfeb623", func := "loop.example/objectlinker/laws.FnExactVersionValid", spec := "fnExactVersionValid", apart := false }
def FnExactVersionValidSaid : Prop := fnExactVersionValidRow.holds Try.pinned (OpenSpec.ofChange fnExactVersionValidSpec)

/-- ITS FALSE NEIGHBOUR: 'it returns false'. Refute it at one input. -/
def fnExactVersionValidWrong : ChangeSpec := { name := "fnExactVersionValid", fn := fun _ => fun
  | [d] => { results := [.lit (.bool false)], args := [d] }
  | _ => none }
def FnExactVersionValidWrongFalsely : Prop := fnExactVersionValidRow.holds Try.pinned (OpenSpec.ofChange fnExactVersionValidWrong)

/-- 'laws.FnVersionValid': WHATEVER THE INPUT: true; the input reads as it did. -/
def fnVersionValidSpec : ChangeSpec := { name := "fnVersionValid", fn := fun _ => fun
  | [d] => { results := [.lit (.bool true)], args := [d] }
  | _ => none }
def fnVersionValidRow : OpenClaim := { program := "ytogdeekjfgbneaa", sum := "b89f08567a77e093a32d267348da43372fe7d24237935b2e6c0eb36cedfeb623", func := "loop.example/objectlinker/laws.FnVersionValid", spec := "fnVersionValid", apart := false }
def FnVersionValidSaid : Prop := fnVersionValidRow.holds Try.pinned (OpenSpec.ofChange fnVersionValidSpec)

/-- ITS FALSE NEIGHBOUR: 'it returns false'. Refute it at one input. -/
def fnVersionValidWrong : ChangeSpec := { name := "fnVersionValid", fn := fun _ => fun
  | [d] => { results := [.lit (.bool false)], args := [d] }
  | _ => none }
def FnVersionValidWrongFalsely : Prop := fnVersionValidRow.holds Try.pinned (OpenSpec.ofChange fnVersionValidWrong)

/-- 'laws.FnExactNewestVersion': WHATEVER THE INPUT: true; the input reads as it did. -/
def fnExactNewestVersionSpec : ChangeSpec := { name := "fnExactNewestVersion", fn := fun _ => fun
  | [d1, d2] => { results := [.lit (.bool true)], args := [d1, d2] }
  | _ => none }
def fnExactNewestVersionRow : OpenClaim := { program := "ytogdeekjfgbneaa", sum := "b89f08567a77e093a32d267348da43372fe7d24237935b2e6c0eb36cedfeb623", func := "loop.example/objectlinker/laws.FnExactNewestVersion", spec := "fnExactNewestVersion", unfollowed := true, recurses := true, apart := false }
def FnExactNewestVersionSaid : Prop := fnExactNewestVersionRow.holds Try.pinned (OpenSpec.ofChange fnExactNewestVersionSpec)

/-- ITS FALSE NEIGHBOUR: 'it returns false'. Refute it at one input. -/
def fnExactNewestVersionWrong : ChangeSpec := { name := "fnExactNewestVersion", fn := fun _ => fun
  | [d1, d2] => { results := [.lit (.bool false)], args := [d1, d2] }
  | _ => none }
def FnExactNewestVersionWrongFalsely : Prop := fnExactNewestVersionRow.holds Try.pinned (OpenSpec.ofChange fnExactNewestVersionWrong)

/-- 'laws.FnNewestVersion': WHATEVER THE INPUT: true; the input reads as it did. -/
def fnNewestVersionSpec : ChangeSpec := { name := "fnNewestVersion", fn := fun _ => fun
  | [d] => { results := [.lit (.bool true)], args := [d] }
  | _ => none }
def fnNewestVersionRow : OpenClaim := { program := "ytogdeekjfgbneaa", sum := "b89f08567a77e093a32d267348da43372fe7d24237935b2e6c0eb36cedfeb623", func := "loop.example/objectlinker/laws.FnNewestVersion", spec := "fnNewestVersion", unfollowed := true, recurses := true, apart := false }
def FnNewestVersionSaid : Prop := fnNewestVersionRow.holds Try.pinned (OpenSpec.ofChange fnNewestVersionSpec)

/-- ITS FALSE NEIGHBOUR: 'it returns false'. Refute it at one input. -/
def fnNewestVersionWrong : ChangeSpec := { name := "fnNewestVersion", fn := fun _ => fun
  | [d] => { results := [.lit (.bool false)], args := [d] }
  | _ => none }
def FnNewestVersionWrongFalsely : Prop := fnNewestVersionRow.holds Try.pinned (OpenSpec.ofChange fnNewestVersionWrong)

/-- 'laws.FnExactVersionsFit': WHATEVER THE INPUT: true; the input reads as it did. -/
def fnExactVersionsFitSpec : ChangeSpec := { name := "fnExactVersionsFit", fn := fun _ => fun
  | [d1, d2] => { results := [.lit (.bool true)], args := [d1, d2] }
  | _ => none }
def fnExactVersionsFitRow : OpenClaim := { program := "ytogdeekjfgbneaa", sum := "b89f08567a77e093a32d267348da43372fe7d24237935b2e6c0eb36cedfeb623", func := "loop.example/objectlinker/laws.FnExactVersionsFit", spec := "fnExactVersionsFit", unfollowed := true, recurses := true, apart := false }
def FnExactVersionsFitSaid : Prop := fnExactVersionsFitRow.holds Try.pinned (OpenSpec.ofChange fnExactVersionsFitSpec)

/-- ITS FALSE NEIGHBOUR: 'it returns false'. Refute it at one input. -/
def fnExactVersionsFitWrong : ChangeSpec := { name := "fnExactVersionsFit", fn := fun _ => fun
  | [d1, d2] => { results := [.lit (.bool false)], args := [d1, d2] }
  | _ => none }
def FnExactVersionsFitWrongFalsely : Prop := fnExactVersionsFitRow.holds Try.pinned (OpenSpec.ofChange fnExactVersionsFitWrong)

/-- 'laws.FnVersionsFit': WHATEVER THE INPUT: true; the input reads as it did. -/
def fnVersionsFitSpec : ChangeSpec := { name := "fnVersionsFit", fn := fun _ => fun
  | [d] => { results := [.lit (.bool true)], args := [d] }
  | _ => none }
def fnVersionsFitRow : OpenClaim := { program := "ytogdeekjfgbneaa", sum := "b89f08567a77e093a32d267348da43372fe7d24237935b2e6c0eb36cedfeb623", func := "loop.example/objectlinker/laws.FnVersionsFit", spec := "fnVersionsFit", unfollowed := true, recurses := true, apart := false }
def FnVersionsFitSaid : Prop := fnVersionsFitRow.holds Try.pinned (OpenSpec.ofChange fnVersionsFitSpec)

/-- ITS FALSE NEIGHBOUR: 'it returns false'. Refute it at one input. -/
def fnVersionsFitWrong : ChangeSpec := { name := "fnVersionsFit", fn := fun _ => fun
  | [d] => { results := [.lit (.bool false)], args := [d] }
  | _ => none }
def FnVersionsFitWrongFalsely : Prop := fnVersionsFitRow.holds Try.pinned (OpenSpec.ofChange fnVersionsFitWrong)

/- THE SECOND FORM. 'bulk': how many values and letters a reading holds, each counted each time it is reached (what is shared counts as often as it is met; a slice's spare places count too). A statement '..UptoSaid' is the law's where the arguments, and the package variables that the reading takes, are together of bulk at most 1048576: NARROWER than '..Said'. Prove '..Said' where nothing that the law and all that it calls make is longer than what came in: it says more and counts as full. Else prove '..UptoSaid'. A law counts once. -/
mutual
def uptoBulk {H : Type} : DataW H → Nat
  | .lit (.string bytes) => bytes.length + 1
  | .lit _ => 1
  | .nil => 1
  | .ptr d => uptoBulk d + 1
  | .slice elems spare => uptoBulkAll elems + uptoBulkAll spare + 1
  | .agg parts => uptoBulkAll parts + 1
  | .iface _ d => uptoBulk d + 1
  | .map entries => uptoBulkEntries entries + 1
  | .held _ => 1
def uptoBulkAll {H : Type} : List (DataW H) → Nat
  | [] => 0
  | d :: r => uptoBulk d + uptoBulkAll r
def uptoBulkEntries {H : Type} : List (Lit × DataW H) → Nat
  | [] => 0
  | x :: r => uptoBulkEntry x + uptoBulkEntries r
def uptoBulkEntry {H : Type} : Lit × DataW H → Nat
  | (.string bytes, d) => bytes.length + uptoBulk d + 1
  | (_, d) => uptoBulk d + 1
 end
def uptoSmall : (H : Type) → List (DataW H) → Bool := fun _ ds => decide (uptoBulkAll ds ≤ 1048576)
def OpenSpec.upto (s : _root_.Go.ChangeSpec) : _root_.Go.OpenSpec := { _root_.Go.OpenSpec.ofChange s with cond := some uptoSmall }

/-- 'laws.FnExactVersionValid', WHERE WHAT IT READS IS OF BULK AT MOST 1048576: true; the input reads as it did. -/
def fnExactVersionValidUptoRow : OpenClaim := { program := "ytogdeekjfgbneaa", sum := "b89f08567a77e093a32d267348da43372fe7d24237935b2e6c0eb36cedfeb623", func := "loop.example/objectlinker/laws.FnExactVersionValid", spec := "fnExactVersionValid", apart := false, narrowed := true }
def FnExactVersionValidUptoSaid : Prop := fnExactVersionValidUptoRow.holds Try.pinned (OpenSpec.upto fnExactVersionValidSpec)

/-- 'laws.FnVersionValid', WHERE WHAT IT READS IS OF BULK AT MOST 1048576: true; the input reads as it did. -/
def fnVersionValidUptoRow : OpenClaim := { program := "ytogdeekjfgbneaa", sum := "b89f08567a77e093a32d267348da43372fe7d24237935b2e6c0eb36cedfeb623", func := "loop.example/objectlinker/laws.FnVersionValid", spec := "fnVersionValid", apart := false, narrowed := true }
def FnVersionValidUptoSaid : Prop := fnVersionValidUptoRow.holds Try.pinned (OpenSpec.upto fnVersionValidSpec)

/-- 'laws.FnExactNewestVersion', WHERE WHAT IT READS IS OF BULK AT MOST 1048576: true; the input reads as it did. -/
def fnExactNewestVersionUptoRow : OpenClaim := { program := "ytogdeekjfgbneaa", sum := "b89f08567a77e093a32d267348da43372fe7d24237935b2e6c0eb36cedfeb623", func := "loop.example/objectlinker/laws.FnExactNewestVersion", spec := "fnExactNewestVersion", unfollowed := true, recurses := true, apart := false, narrowed := true }
def FnExactNewestVersionUptoSaid : Prop := fnExactNewestVersionUptoRow.holds Try.pinned (OpenSpec.upto fnExactNewestVersionSpec)

/-- 'laws.FnNewestVersion', WHERE WHAT IT READS IS OF BULK AT MOST 1048576: true; the input reads as it did. -/
def fnNewestVersionUptoRow : OpenClaim := { program := "ytogdeekjfgbneaa", sum := "b89f08567a77e093a32d267348da43372fe7d24237935b2e6c0eb36cedfeb623", func := "loop.example/objectlinker/laws.FnNewestVersion", spec := "fnNewestVersion", unfollowed := true, recurses := true, apart := false, narrowed := true }
def FnNewestVersionUptoSaid : Prop := fnNewestVersionUptoRow.holds Try.pinned (OpenSpec.upto fnNewestVersionSpec)

/-- 'laws.FnExactVersionsFit', WHERE WHAT IT READS IS OF BULK AT MOST 1048576: true; the input reads as it did. -/
def fnExactVersionsFitUptoRow : OpenClaim := { program := "ytogdeekjfgbneaa", sum := "b89f08567a77e093a32d267348da43372fe7d24237935b2e6c0eb36cedfeb623", func := "loop.example/objectlinker/laws.FnExactVersionsFit", spec := "fnExactVersionsFit", unfollowed := true, recurses := true, apart := false, narrowed := true }
def FnExactVersionsFitUptoSaid : Prop := fnExactVersionsFitUptoRow.holds Try.pinned (OpenSpec.upto fnExactVersionsFitSpec)

/-- 'laws.FnVersionsFit', WHERE WHAT IT READS IS OF BULK AT MOST 1048576: true; the input reads as it did. -/
def fnVersionsFitUptoRow : OpenClaim := { program := "ytogdeekjfgbneaa", sum := "b89f08567a77e093a32d267348da43372fe7d24237935b2e6c0eb36cedfeb623", func := "loop.example/objectlinker/laws.FnVersionsFit", spec := "fnVersionsFit", unfollowed := true, recurses := true, apart := false, narrowed := true }
def FnVersionsFitUptoSaid : Prop := fnVersionsFitUptoRow.holds Try.pinned (OpenSpec.upto fnVersionsFitSpec)

end Rows
end Go.Proofs.Ytogdeekjfgbneaa
