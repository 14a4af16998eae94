/-
  No cell of these rows narrows 'for every input' (looked for: loops, veiled, ifaces, maps, wideKeys, modest, calm, conditions, laid).
  DERIVED. THE GIVEN ROWS OF THIS SEAT. 8 by the template 'for every input the law returns true; each argument reads behind the call as it read before'; 0 by the template 'total and deterministic' (their statements: YtbhndkdijbappaaTotals.lean).
  GIVEN WITH THE SEED: the statements are not yours to turn. If you find one false, say at which input.
  Laid BY PROGRAM, IN A SANDBOX (cutbox-rows.mjs): the forced cells as the released guide's own fill.sh prints them over the translation 8d3be7442f171bec… (all of the seat's roots in one cut). By AI agents, Wed Nov 11 2026. No macro, syntax, notation, axiom, sorry.
-/
import Derived.Test.YtbhndkdijbappaaChecked
import GoSem.Claim
import GoSem.ClaimJoined
import GoSem.ClaimMapViews
import Derived.JoinedTies
import Derived.KernelRfl
namespace Go.Proofs.Ytbhndkdijbappaa
/- THE CELL 'sum', in the pinned program and in every row, IS THE sha256 OF THE DUMP (.gsa) THAT YtbhndkdijbappaaProg.lean LOADS. Nothing in Lean hashes anything: it is a label: what it is worth is what the hold of that sum in a sandbox is worth. -/
noncomputable def Try.pinned : Pinned := { name := "ytbhndkdijbappaa", sum := "8d3be7442f171bec08dd3233b1ae0acacb45856a3f95792fea9195515ddef80f", checked := Try.checked }
namespace Rows
def none {H : Type} : Left H := { results := [], args := [] }

/-- 'laws.FnLibrariesValid': WHATEVER THE INPUT: true; the input reads as it did. -/
def fnLibrariesValidSpec : ChangeSpec := { name := "fnLibrariesValid", fn := fun _ => fun
  | [d] => { results := [.lit (.bool true)], args := [d] }
  | _ => none }
def fnLibrariesValidRow : OpenClaim := { program := "ytbhndkdijbappaa", sum := "8d3be7442f171bec08dd3233b1ae0acacb45856a3f95792fea9195515ddef80f", func := "loop.example/objectlinker/laws.FnLibrariesValid", spec := "fnLibrariesValid", unfollowed := true, recurses := true, apart := false }
def FnLibrariesValidSaid : Prop := fnLibrariesValidRow.holds Try.pinned (OpenSpec.ofChange fnLibrariesValidSpec)

/-- ITS FALSE NEIGHBOUR: 'it returns false'. Refute it at one input. -/
def fnLibrariesValidWrong : ChangeSpec := { name := "fnLibrariesValid", fn := fun _ => fun
  | [d] => { results := [.lit (.bool false)], args := [d] }
  | _ => none }
def FnLibrariesValidWrongFalsely : Prop := fnLibrariesValidRow.holds Try.pinned (OpenSpec.ofChange fnLibrariesValidWrong)

/-- 'laws.FnExactLibrariesValid': WHATEVER THE INPUT: true; the input reads as it did. -/
def fnExactLibrariesValidSpec : ChangeSpec := { name := "fnExactLibrariesValid", fn := fun _ => fun
  | [d] => { results := [.lit (.bool true)], args := [d] }
  | _ => none }
def fnExactLibrariesValidRow : OpenClaim := { program := "ytbhndkdijbappaa", sum := "8d3be7442f171bec08dd3233b1ae0acacb45856a3f95792fea9195515ddef80f", func := "loop.example/objectlinker/laws.FnExactLibrariesValid", spec := "fnExactLibrariesValid", unfollowed := true, recurses := true, apart := false }
def FnExactLibrariesValidSaid : Prop := fnExactLibrariesValidRow.holds Try.pinned (OpenSpec.ofChange fnExactLibrariesValidSpec)

/-- ITS FALSE NEIGHBOUR: 'it returns false'. Refute it at one input. -/
def fnExactLibrariesValidWrong : ChangeSpec := { name := "fnExactLibrariesValid", fn := fun _ => fun
  | [d] => { results := [.lit (.bool false)], args := [d] }
  | _ => none }
def FnExactLibrariesValidWrongFalsely : Prop := fnExactLibrariesValidRow.holds Try.pinned (OpenSpec.ofChange fnExactLibrariesValidWrong)

/-- 'laws.FnLoadOrder': WHATEVER THE INPUT: true; the input reads as it did. -/
def fnLoadOrderSpec : ChangeSpec := { name := "fnLoadOrder", fn := fun _ => fun
  | [d] => { results := [.lit (.bool true)], args := [d] }
  | _ => none }
def fnLoadOrderRow : OpenClaim := { program := "ytbhndkdijbappaa", sum := "8d3be7442f171bec08dd3233b1ae0acacb45856a3f95792fea9195515ddef80f", func := "loop.example/objectlinker/laws.FnLoadOrder", spec := "fnLoadOrder", unfollowed := true, recurses := true, apart := false }
def FnLoadOrderSaid : Prop := fnLoadOrderRow.holds Try.pinned (OpenSpec.ofChange fnLoadOrderSpec)

/-- ITS FALSE NEIGHBOUR: 'it returns false'. Refute it at one input. -/
def fnLoadOrderWrong : ChangeSpec := { name := "fnLoadOrder", fn := fun _ => fun
  | [d] => { results := [.lit (.bool false)], args := [d] }
  | _ => none }
def FnLoadOrderWrongFalsely : Prop := fnLoadOrderRow.holds Try.pinned (OpenSpec.ofChange fnLoadOrderWrong)

/-- 'laws.FnExactLoadOrder': WHATEVER THE INPUT: true; the input reads as it did. -/
def fnExactLoadOrderSpec : ChangeSpec := { name := "fnExactLoadOrder", fn := fun _ => fun
  | [d1, d2] => { results := [.lit (.bool true)], args := [d1, d2] }
  | _ => none }
def fnExactLoadOrderRow : OpenClaim := { program := "ytbhndkdijbappaa", sum := "8d3be7442f171bec08dd3233b1ae0acacb45856a3f95792fea9195515ddef80f", func := "loop.example/objectlinker/laws.FnExactLoadOrder", spec := "fnExactLoadOrder", unfollowed := true, recurses := true, apart := false }
def FnExactLoadOrderSaid : Prop := fnExactLoadOrderRow.holds Try.pinned (OpenSpec.ofChange fnExactLoadOrderSpec)

/-- ITS FALSE NEIGHBOUR: 'it returns false'. Refute it at one input. -/
def fnExactLoadOrderWrong : ChangeSpec := { name := "fnExactLoadOrder", fn := fun _ => fun
  | [d1, d2] => { results := [.lit (.bool false)], args := [d1, d2] }
  | _ => none }
def FnExactLoadOrderWrongFalsely : Prop := fnExactLoadOrderRow.holds Try.pinned (OpenSpec.ofChange fnExactLoadOrderWrong)

/-- 'laws.FnGiverOf': WHATEVER THE INPUT: true; the input reads as it did. -/
def fnGiverOfSpec : ChangeSpec := { name := "fnGiverOf", fn := fun _ => fun
  | [d] => { results := [.lit (.bool true)], args := [d] }
  | _ => none }
def fnGiverOfRow : OpenClaim := { program := "ytbhndkdijbappaa", sum := "8d3be7442f171bec08dd3233b1ae0acacb45856a3f95792fea9195515ddef80f", func := "loop.example/objectlinker/laws.FnGiverOf", spec := "fnGiverOf", unfollowed := true, recurses := true, apart := false }
def FnGiverOfSaid : Prop := fnGiverOfRow.holds Try.pinned (OpenSpec.ofChange fnGiverOfSpec)

/-- ITS FALSE NEIGHBOUR: 'it returns false'. Refute it at one input. -/
def fnGiverOfWrong : ChangeSpec := { name := "fnGiverOf", fn := fun _ => fun
  | [d] => { results := [.lit (.bool false)], args := [d] }
  | _ => none }
def FnGiverOfWrongFalsely : Prop := fnGiverOfRow.holds Try.pinned (OpenSpec.ofChange fnGiverOfWrong)

/-- 'laws.FnExactGiverOf': WHATEVER THE INPUT: true; the input reads as it did. -/
def fnExactGiverOfSpec : ChangeSpec := { name := "fnExactGiverOf", fn := fun _ => fun
  | [d1, d2, d3] => { results := [.lit (.bool true)], args := [d1, d2, d3] }
  | _ => none }
def fnExactGiverOfRow : OpenClaim := { program := "ytbhndkdijbappaa", sum := "8d3be7442f171bec08dd3233b1ae0acacb45856a3f95792fea9195515ddef80f", func := "loop.example/objectlinker/laws.FnExactGiverOf", spec := "fnExactGiverOf", unfollowed := true, recurses := true, apart := false }
def FnExactGiverOfSaid : Prop := fnExactGiverOfRow.holds Try.pinned (OpenSpec.ofChange fnExactGiverOfSpec)

/-- ITS FALSE NEIGHBOUR: 'it returns false'. Refute it at one input. -/
def fnExactGiverOfWrong : ChangeSpec := { name := "fnExactGiverOf", fn := fun _ => fun
  | [d1, d2, d3] => { results := [.lit (.bool false)], args := [d1, d2, d3] }
  | _ => none }
def FnExactGiverOfWrongFalsely : Prop := fnExactGiverOfRow.holds Try.pinned (OpenSpec.ofChange fnExactGiverOfWrong)

/-- 'laws.FnLibrariesMissing': WHATEVER THE INPUT: true; the input reads as it did. -/
def fnLibrariesMissingSpec : ChangeSpec := { name := "fnLibrariesMissing", fn := fun _ => fun
  | [d] => { results := [.lit (.bool true)], args := [d] }
  | _ => none }
def fnLibrariesMissingRow : OpenClaim := { program := "ytbhndkdijbappaa", sum := "8d3be7442f171bec08dd3233b1ae0acacb45856a3f95792fea9195515ddef80f", func := "loop.example/objectlinker/laws.FnLibrariesMissing", spec := "fnLibrariesMissing", unfollowed := true, recurses := true, apart := false }
def FnLibrariesMissingSaid : Prop := fnLibrariesMissingRow.holds Try.pinned (OpenSpec.ofChange fnLibrariesMissingSpec)

/-- ITS FALSE NEIGHBOUR: 'it returns false'. Refute it at one input. -/
def fnLibrariesMissingWrong : ChangeSpec := { name := "fnLibrariesMissing", fn := fun _ => fun
  | [d] => { results := [.lit (.bool false)], args := [d] }
  | _ => none }
def FnLibrariesMissingWrongFalsely : Prop := fnLibrariesMissingRow.holds Try.pinned (OpenSpec.ofChange fnLibrariesMissingWrong)

/-- 'laws.FnExactLibrariesMissing': WHATEVER THE INPUT: true; the input reads as it did. -/
def fnExactLibrariesMissingSpec : ChangeSpec := { name := "fnExactLibrariesMissing", fn := fun _ => fun
  | [d1, d2] => { results := [.lit (.bool true)], args := [d1, d2] }
  | _ => none }
def fnExactLibrariesMissingRow : OpenClaim := { program := "ytbhndkdijbappaa", sum := "8d3be7442f171bec08dd3233b1ae0acacb45856a3f95792fea9195515ddef80f", func := "loop.example/objectlinker/laws.FnExactLibrariesMissing", spec := "fnExactLibrariesMissing", unfollowed := true, recurses := true, apart := false }
def FnExactLibrariesMissingSaid : Prop := fnExactLibrariesMissingRow.holds Try.pinned (OpenSpec.ofChange fnExactLibrariesMissingSpec)

/-- ITS FALSE NEIGHBOUR: 'it returns false'. Refute it at one input. -/
def fnExactLibrariesMissingWrong : ChangeSpec := { name := "fnExactLibrariesMissing", fn := fun _ => fun
  | [d1, d2] => { results := [.lit (.bool false)], args := [d1, d2] }
  | _ => none }
def FnExactLibrariesMissingWrongFalsely : Prop := fnExactLibrariesMissingRow.holds Try.pinned (OpenSpec.ofChange fnExactLibrariesMissingWrong)

/- THE SECOND FORM. 'bulk': how many values and letters a reading holds, each counted each time it is reached (what is shared counts as often as it is met; a slice's spare places count too). A statement '..UptoSaid' is the law's where the arguments, and the package variables that the reading takes, are together of bulk at most 1048576: NARROWER than '..Said'. Prove '..Said' where nothing that the law and all that it calls make is longer than what came in: it says more and counts as full. Else prove '..UptoSaid'. A law counts once. -/
mutual
def uptoBulk {H : Type} : DataW H → Nat
  | .lit (.string bytes) => bytes.length + 1
  | .lit _ => 1
  | .nil => 1
  | .ptr d => uptoBulk d + 1
  | .slice elems spare => uptoBulkAll elems + uptoBulkAll spare + 1
  | .agg parts => uptoBulkAll parts + 1
  | .iface _ d => uptoBulk d + 1
  | .map entries => uptoBulkEntries entries + 1
  | .held _ => 1
def uptoBulkAll {H : Type} : List (DataW H) → Nat
  | [] => 0
  | d :: r => uptoBulk d + uptoBulkAll r
def uptoBulkEntries {H : Type} : List (Lit × DataW H) → Nat
  | [] => 0
  | x :: r => uptoBulkEntry x + uptoBulkEntries r
def uptoBulkEntry {H : Type} : Lit × DataW H → Nat
  | (.string bytes, d) => bytes.length + uptoBulk d + 1
  | (_, d) => uptoBulk d + 1
 end
def uptoSmall : (H : Type) → List (DataW H) → Bool := fun _ ds => decide (uptoBulkAll ds ≤ 1048576)
def OpenSpec.upto (s : _root_.Go.ChangeSpec) : _root_.Go.OpenSpec := { _root_.Go.OpenSpec.ofChange s with cond := some uptoSmall }

/-- 'laws.FnLibrariesValid', WHERE WHAT IT READS IS OF BULK AT MOST 1048576: true; the input reads as it did. -/
def fnLibrariesValidUptoRow : OpenClaim := { program := "ytbhndkdijbappaa", sum := "8d3be7442f171bec08dd3233b1ae0acacb45856a3f95792fea9195515ddef80f", func := "loop.example/objectlinker/laws.FnLibrariesValid", spec := "fnLibrariesValid", unfollowed := true, recurses := true, apart := false, narrowed := true }
def FnLibrariesValidUptoSaid : Prop := fnLibrariesValidUptoRow.holds Try.pinned (OpenSpec.upto fnLibrariesValidSpec)

/-- 'laws.FnExactLibrariesValid', WHERE WHAT IT READS IS OF BULK AT MOST 1048576: true; the input reads as it did. -/
def fnExactLibrariesValidUptoRow : OpenClaim := { program := "ytbhndkdijbappaa", sum := "8d3be7442f171bec08dd3233b1ae0acacb45856a3f95792fea9195515ddef80f", func := "loop.example/objectlinker/laws.FnExactLibrariesValid", spec := "fnExactLibrariesValid", unfollowed := true, recurses := true, apart := false, narrowed := true }
def FnExactLibrariesValidUptoSaid : Prop := fnExactLibrariesValidUptoRow.holds Try.pinned (OpenSpec.upto fnExactLibrariesValidSpec)

/-- 'laws.FnLoadOrder', WHERE WHAT IT READS IS OF BULK AT MOST 1048576: true; the input reads as it did. -/
def fnLoadOrderUptoRow : OpenClaim := { program := "ytbhndkdijbappaa", sum := "8d3be7442f171bec08dd3233b1ae0acacb45856a3f95792fea9195515ddef80f", func := "loop.example/objectlinker/laws.FnLoadOrder", spec := "fnLoadOrder", unfollowed := true, recurses := true, apart := false, narrowed := true }
def FnLoadOrderUptoSaid : Prop := fnLoadOrderUptoRow.holds Try.pinned (OpenSpec.upto fnLoadOrderSpec)

/-- 'laws.FnExactLoadOrder', WHERE WHAT IT READS IS OF BULK AT MOST 1048576: true; the input reads as it did. -/
def fnExactLoadOrderUptoRow : OpenClaim := { program := "ytbhndkdijbappaa", sum := "8d3be7442f171bec08dd3233b1ae0acacb45856a3f95792fea9195515ddef80f", func := "loop.example/objectlinker/laws.FnExactLoadOrder", spec := "fnExactLoadOrder", unfollowed := true, recurses := true, apart := false, narrowed := true }
def FnExactLoadOrderUptoSaid : Prop := fnExactLoadOrderUptoRow.holds Try.pinned (OpenSpec.upto fnExactLoadOrderSpec)

/-- 'laws.FnGiverOf', WHERE WHAT IT READS IS OF BULK AT MOST 1048576: true; the input reads as it did. -/
def fnGiverOfUptoRow : OpenClaim := { program := "ytbhndkdijbappaa", sum := "8d3be7442f171bec08dd3233b1ae0acacb45856a3f95792fea9195515ddef80f", func := "loop.example/objectlinker/laws.FnGiverOf", spec := "fnGiverOf", unfollowed := true, recurses := true, apart := false, narrowed := true }
def FnGiverOfUptoSaid : Prop := fnGiverOfUptoRow.holds Try.pinned (OpenSpec.upto fnGiverOfSpec)

/-- 'laws.FnExactGiverOf', WHERE WHAT IT READS IS OF BULK AT MOST 1048576: true; the input reads as it did. -/
def fnExactGiverOfUptoRow : OpenClaim := { program := "ytbhndkdijbappaa", sum := "8d3be7442f171bec08dd3233b1ae0acacb45856a3f95792fea9195515ddef80f", func := "loop.example/objectlinker/laws.FnExactGiverOf", spec := "fnExactGiverOf", unfollowed := true, recurses := true, apart := false, narrowed := true }
def FnExactGiverOfUptoSaid : Prop := fnExactGiverOfUptoRow.holds Try.pinned (OpenSpec.upto fnExactGiverOfSpec)

/-- 'laws.FnLibrariesMissing', WHERE WHAT IT READS IS OF BULK AT MOST 1048576: true; the input reads as it did. -/
def fnLibrariesMissingUptoRow : OpenClaim := { program := "ytbhndkdijbappaa", sum := "8d3be7442f171bec08dd3233b1ae0acacb45856a3f95792fea9195515ddef80f", func := "loop.example/objectlinker/laws.FnLibrariesMissing", spec := "fnLibrariesMissing", unfollowed := true, recurses := true, apart := false, narrowed := true }
def FnLibrariesMissingUptoSaid : Prop := fnLibrariesMissingUptoRow.holds Try.pinned (OpenSpec.upto fnLibrariesMissingSpec)

/-- 'laws.FnExactLibrariesMissing', WHERE WHAT IT READS IS OF BULK AT MOST 1048576: true; the input reads as it did. -/
def fnExactLibrariesMissingUptoRow : OpenClaim := { program := "ytbhndkdijbappaa", sum := "8d3be7442f171bec08dd3233b1ae0acacb45856a3f95792fea9195515ddef80f", func := "loop.example/objectlinker/laws.FnExactLibrariesMissing", spec := "fnExactLibrariesMissing", unfollowed := true, recurses := true, apart := false, narrowed := true }
def FnExactLibrariesMissingUptoSaid : Prop := fnExactLibrariesMissingUptoRow.holds Try.pinned (OpenSpec.upto fnExactLibrariesMissingSpec)

end Rows
end Go.Proofs.Ytbhndkdijbappaa
