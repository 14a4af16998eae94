/-
  No cell of these rows narrows 'for every input' (looked for: loops, veiled, ifaces, maps, wideKeys, modest, calm, conditions, laid).
  DERIVED. THE GIVEN ROWS OF THIS SEAT. 6 by the template 'for every input the law returns true; each argument reads behind the call as it read before'; 0 by the template 'total and deterministic' (their statements: YtgibmbjdnppiaaaTotals.lean).
  GIVEN WITH THE SEED: the statements are not yours to turn. If you find one false, say at which input.
  Laid BY PROGRAM, IN A SANDBOX (cutbox-rows.mjs): the forced cells as the released guide's own fill.sh prints them over the translation 4bfd36d9b6921234… (all of the seat's roots in one cut). By AI agents, Wed Nov 11 2026. No macro, syntax, notation, axiom, sorry.
-/
import Derived.Test.YtgibmbjdnppiaaaChecked
import GoSem.Claim
import GoSem.ClaimJoined
import GoSem.ClaimMapViews
import Derived.JoinedTies
import Derived.KernelRfl
namespace Go.Proofs.Ytgibmbjdnppiaaa
/- THE CELL 'sum', in the pinned program and in every row, IS THE sha256 OF THE DUMP (.gsa) THAT YtgibmbjdnppiaaaProg.lean LOADS. Nothing in Lean hashes anything: it is a label: what it is worth is what the hold of that sum in a sandbox is worth. -/
noncomputable def Try.pinned : Pinned := { name := "ytgibmbjdnppiaaa", sum := "4bfd36d9b6921234671dfb99393dd7c63c2edc0935baf82cc3adfdbd61946a3b", checked := Try.checked }
namespace Rows
def none {H : Type} : Left H := { results := [], args := [] }

/-- 'laws.FnExactEdgesValid': WHATEVER THE INPUT: true; the input reads as it did. -/
def fnExactEdgesValidSpec : ChangeSpec := { name := "fnExactEdgesValid", fn := fun _ => fun
  | [d1, d2] => { results := [.lit (.bool true)], args := [d1, d2] }
  | _ => none }
def fnExactEdgesValidRow : OpenClaim := { program := "ytgibmbjdnppiaaa", sum := "4bfd36d9b6921234671dfb99393dd7c63c2edc0935baf82cc3adfdbd61946a3b", func := "loop.example/objectlinker/laws.FnExactEdgesValid", spec := "fnExactEdgesValid", unfollowed := true, recurses := true, apart := false }
def FnExactEdgesValidSaid : Prop := fnExactEdgesValidRow.holds Try.pinned (OpenSpec.ofChange fnExactEdgesValidSpec)

/-- ITS FALSE NEIGHBOUR: 'it returns false'. Refute it at one input. -/
def fnExactEdgesValidWrong : ChangeSpec := { name := "fnExactEdgesValid", fn := fun _ => fun
  | [d1, d2] => { results := [.lit (.bool false)], args := [d1, d2] }
  | _ => none }
def FnExactEdgesValidWrongFalsely : Prop := fnExactEdgesValidRow.holds Try.pinned (OpenSpec.ofChange fnExactEdgesValidWrong)

/-- 'laws.FnEdgesValid': WHATEVER THE INPUT: true; the input reads as it did. -/
def fnEdgesValidSpec : ChangeSpec := { name := "fnEdgesValid", fn := fun _ => fun
  | [d] => { results := [.lit (.bool true)], args := [d] }
  | _ => none }
def fnEdgesValidRow : OpenClaim := { program := "ytgibmbjdnppiaaa", sum := "4bfd36d9b6921234671dfb99393dd7c63c2edc0935baf82cc3adfdbd61946a3b", func := "loop.example/objectlinker/laws.FnEdgesValid", spec := "fnEdgesValid", unfollowed := true, recurses := true, apart := false }
def FnEdgesValidSaid : Prop := fnEdgesValidRow.holds Try.pinned (OpenSpec.ofChange fnEdgesValidSpec)

/-- ITS FALSE NEIGHBOUR: 'it returns false'. Refute it at one input. -/
def fnEdgesValidWrong : ChangeSpec := { name := "fnEdgesValid", fn := fun _ => fun
  | [d] => { results := [.lit (.bool false)], args := [d] }
  | _ => none }
def FnEdgesValidWrongFalsely : Prop := fnEdgesValidRow.holds Try.pinned (OpenSpec.ofChange fnEdgesValidWrong)

/-- 'laws.FnExactCallsFar': WHATEVER THE INPUT: true; the input reads as it did. -/
def fnExactCallsFarSpec : ChangeSpec := { name := "fnExactCallsFar", fn := fun _ => fun
  | [d1, d2, d3] => { results := [.lit (.bool true)], args := [d1, d2, d3] }
  | _ => none }
def fnExactCallsFarRow : OpenClaim := { program := "ytgibmbjdnppiaaa", sum := "4bfd36d9b6921234671dfb99393dd7c63c2edc0935baf82cc3adfdbd61946a3b", func := "loop.example/objectlinker/laws.FnExactCallsFar", spec := "fnExactCallsFar", unfollowed := true, recurses := true, apart := false }
def FnExactCallsFarSaid : Prop := fnExactCallsFarRow.holds Try.pinned (OpenSpec.ofChange fnExactCallsFarSpec)

/-- ITS FALSE NEIGHBOUR: 'it returns false'. Refute it at one input. -/
def fnExactCallsFarWrong : ChangeSpec := { name := "fnExactCallsFar", fn := fun _ => fun
  | [d1, d2, d3] => { results := [.lit (.bool false)], args := [d1, d2, d3] }
  | _ => none }
def FnExactCallsFarWrongFalsely : Prop := fnExactCallsFarRow.holds Try.pinned (OpenSpec.ofChange fnExactCallsFarWrong)

/-- 'laws.FnCallsFar': WHATEVER THE INPUT: true; the input reads as it did. -/
def fnCallsFarSpec : ChangeSpec := { name := "fnCallsFar", fn := fun _ => fun
  | [d] => { results := [.lit (.bool true)], args := [d] }
  | _ => none }
def fnCallsFarRow : OpenClaim := { program := "ytgibmbjdnppiaaa", sum := "4bfd36d9b6921234671dfb99393dd7c63c2edc0935baf82cc3adfdbd61946a3b", func := "loop.example/objectlinker/laws.FnCallsFar", spec := "fnCallsFar", unfollowed := true, recurses := true, apart := false }
def FnCallsFarSaid : Prop := fnCallsFarRow.holds Try.pinned (OpenSpec.ofChange fnCallsFarSpec)

/-- ITS FALSE NEIGHBOUR: 'it returns false'. Refute it at one input. -/
def fnCallsFarWrong : ChangeSpec := { name := "fnCallsFar", fn := fun _ => fun
  | [d] => { results := [.lit (.bool false)], args := [d] }
  | _ => none }
def FnCallsFarWrongFalsely : Prop := fnCallsFarRow.holds Try.pinned (OpenSpec.ofChange fnCallsFarWrong)

/-- 'laws.FnExactOrderCalls': WHATEVER THE INPUT: true; the input reads as it did. -/
def fnExactOrderCallsSpec : ChangeSpec := { name := "fnExactOrderCalls", fn := fun _ => fun
  | [d1, d2] => { results := [.lit (.bool true)], args := [d1, d2] }
  | _ => none }
def fnExactOrderCallsRow : OpenClaim := { program := "ytgibmbjdnppiaaa", sum := "4bfd36d9b6921234671dfb99393dd7c63c2edc0935baf82cc3adfdbd61946a3b", func := "loop.example/objectlinker/laws.FnExactOrderCalls", spec := "fnExactOrderCalls", unfollowed := true, recurses := true, apart := false }
def FnExactOrderCallsSaid : Prop := fnExactOrderCallsRow.holds Try.pinned (OpenSpec.ofChange fnExactOrderCallsSpec)

/-- ITS FALSE NEIGHBOUR: 'it returns false'. Refute it at one input. -/
def fnExactOrderCallsWrong : ChangeSpec := { name := "fnExactOrderCalls", fn := fun _ => fun
  | [d1, d2] => { results := [.lit (.bool false)], args := [d1, d2] }
  | _ => none }
def FnExactOrderCallsWrongFalsely : Prop := fnExactOrderCallsRow.holds Try.pinned (OpenSpec.ofChange fnExactOrderCallsWrong)

/-- 'laws.FnOrderCalls': WHATEVER THE INPUT: true; the input reads as it did. -/
def fnOrderCallsSpec : ChangeSpec := { name := "fnOrderCalls", fn := fun _ => fun
  | [d] => { results := [.lit (.bool true)], args := [d] }
  | _ => none }
def fnOrderCallsRow : OpenClaim := { program := "ytgibmbjdnppiaaa", sum := "4bfd36d9b6921234671dfb99393dd7c63c2edc0935baf82cc3adfdbd61946a3b", func := "loop.example/objectlinker/laws.FnOrderCalls", spec := "fnOrderCalls", unfollowed := true, recurses := true, apart := false }
def FnOrderCallsSaid : Prop := fnOrderCallsRow.holds Try.pinned (OpenSpec.ofChange fnOrderCallsSpec)

/-- ITS FALSE NEIGHBOUR: 'it returns false'. Refute it at one input. -/
def fnOrderCallsWrong : ChangeSpec := { name := "fnOrderCalls", fn := fun _ => fun
  | [d] => { results := [.lit (.bool false)], args := [d] }
  | _ => none }
def FnOrderCallsWrongFalsely : Prop := fnOrderCallsRow.holds Try.pinned (OpenSpec.ofChange fnOrderCallsWrong)

/- THE SECOND FORM. 'bulk': how many values and letters a reading holds, each counted each time it is reached (what is shared counts as often as it is met; a slice's spare places count too). A statement '..UptoSaid' is the law's where the arguments, and the package variables that the reading takes, are together of bulk at most 1048576: NARROWER than '..Said'. Prove '..Said' where nothing that the law and all that it calls make is longer than what came in: it says more and counts as full. Else prove '..UptoSaid'. A law counts once. -/
mutual
def uptoBulk {H : Type} : DataW H → Nat
  | .lit (.string bytes) => bytes.length + 1
  | .lit _ => 1
  | .nil => 1
  | .ptr d => uptoBulk d + 1
  | .slice elems spare => uptoBulkAll elems + uptoBulkAll spare + 1
  | .agg parts => uptoBulkAll parts + 1
  | .iface _ d => uptoBulk d + 1
  | .map entries => uptoBulkEntries entries + 1
  | .held _ => 1
def uptoBulkAll {H : Type} : List (DataW H) → Nat
  | [] => 0
  | d :: r => uptoBulk d + uptoBulkAll r
def uptoBulkEntries {H : Type} : List (Lit × DataW H) → Nat
  | [] => 0
  | x :: r => uptoBulkEntry x + uptoBulkEntries r
def uptoBulkEntry {H : Type} : Lit × DataW H → Nat
  | (.string bytes, d) => bytes.length + uptoBulk d + 1
  | (_, d) => uptoBulk d + 1
 end
def uptoSmall : (H : Type) → List (DataW H) → Bool := fun _ ds => decide (uptoBulkAll ds ≤ 1048576)
def OpenSpec.upto (s : _root_.Go.ChangeSpec) : _root_.Go.OpenSpec := { _root_.Go.OpenSpec.ofChange s with cond := some uptoSmall }

/-- 'laws.FnExactEdgesValid', WHERE WHAT IT READS IS OF BULK AT MOST 1048576: true; the input reads as it did. -/
def fnExactEdgesValidUptoRow : OpenClaim := { program := "ytgibmbjdnppiaaa", sum := "4bfd36d9b6921234671dfb99393dd7c63c2edc0935baf82cc3adfdbd61946a3b", func := "loop.example/objectlinker/laws.FnExactEdgesValid", spec := "fnExactEdgesValid", unfollowed := true, recurses := true, apart := false, narrowed := true }
def FnExactEdgesValidUptoSaid : Prop := fnExactEdgesValidUptoRow.holds Try.pinned (OpenSpec.upto fnExactEdgesValidSpec)

/-- 'laws.FnEdgesValid', WHERE WHAT IT READS IS OF BULK AT MOST 1048576: true; the input reads as it did. -/
def fnEdgesValidUptoRow : OpenClaim := { program := "ytgibmbjdnppiaaa", sum := "4bfd36d9b6921234671dfb99393dd7c63c2edc0935baf82cc3adfdbd61946a3b", func := "loop.example/objectlinker/laws.FnEdgesValid", spec := "fnEdgesValid", unfollowed := true, recurses := true, apart := false, narrowed := true }
def FnEdgesValidUptoSaid : Prop := fnEdgesValidUptoRow.holds Try.pinned (OpenSpec.upto fnEdgesValidSpec)

/-- 'laws.FnExactCallsFar', WHERE WHAT IT READS IS OF BULK AT MOST 1048576: true; the input reads as it did. -/
def fnExactCallsFarUptoRow : OpenClaim := { program := "ytgibmbjdnppiaaa", sum := "4bfd36d9b6921234671dfb99393dd7c63c2edc0935baf82cc3adfdbd61946a3b", func := "loop.example/objectlinker/laws.FnExactCallsFar", spec := "fnExactCallsFar", unfollowed := true, recurses := true, apart := false, narrowed := true }
def FnExactCallsFarUptoSaid : Prop := fnExactCallsFarUptoRow.holds Try.pinned (OpenSpec.upto fnExactCallsFarSpec)

/-- 'laws.FnCallsFar', WHERE WHAT IT READS IS OF BULK AT MOST 1048576: true; the input reads as it did. -/
def fnCallsFarUptoRow : OpenClaim := { program := "ytgibmbjdnppiaaa", sum := "4bfd36d9b6921234671dfb99393dd7c63c2edc0935baf82cc3adfdbd61946a3b", func := "loop.example/objectlinker/laws.FnCallsFar", spec := "fnCallsFar", unfollowed := true, recurses := true, apart := false, narrowed := true }
def FnCallsFarUptoSaid : Prop := fnCallsFarUptoRow.holds Try.pinned (OpenSpec.upto fnCallsFarSpec)

/-- 'laws.FnExactOrderCalls', WHERE WHAT IT READS IS OF BULK AT MOST 1048576: true; the input reads as it did. -/
def fnExactOrderCallsUptoRow : OpenClaim := { program := "ytgibmbjdnppiaaa", sum := "4bfd36d9b6921234671dfb99393dd7c63c2edc0935baf82cc3adfdbd61946a3b", func := "loop.example/objectlinker/laws.FnExactOrderCalls", spec := "fnExactOrderCalls", unfollowed := true, recurses := true, apart := false, narrowed := true }
def FnExactOrderCallsUptoSaid : Prop := fnExactOrderCallsUptoRow.holds Try.pinned (OpenSpec.upto fnExactOrderCallsSpec)

/-- 'laws.FnOrderCalls', WHERE WHAT IT READS IS OF BULK AT MOST 1048576: true; the input reads as it did. -/
def fnOrderCallsUptoRow : OpenClaim := { program := "ytgibmbjdnppiaaa", sum := "4bfd36d9b6921234671dfb99393dd7c63c2edc0935baf82cc3adfdbd61946a3b", func := "loop.example/objectlinker/laws.FnOrderCalls", spec := "fnOrderCalls", unfollowed := true, recurses := true, apart := false, narrowed := true }
def FnOrderCallsUptoSaid : Prop := fnOrderCallsUptoRow.holds Try.pinned (OpenSpec.upto fnOrderCallsSpec)

end Rows
end Go.Proofs.Ytgibmbjdnppiaaa
