/-
  No cell of these rows narrows 'for every input' (looked for: loops, veiled, ifaces, maps, wideKeys, modest, calm, conditions, laid).
  DERIVED. THE GIVEN ROWS OF THIS SEAT. 6 by the template 'for every input the law returns true; each argument reads behind the call as it read before'; 0 by the template 'total and deterministic' (their statements: YtdaamgonendkkaaTotals.lean).
  GIVEN WITH THE SEED: the statements are not yours to turn. If you find one false, say at which input.
  Laid BY PROGRAM, IN A SANDBOX (cutbox-rows.mjs): the forced cells as the released guide's own fill.sh prints them over the translation e6f35236e06866a5… (all of the seat's roots in one cut). By AI agents, Wed Nov 11 2026. No macro, syntax, notation, axiom, sorry.
-/
import Derived.Test.YtdaamgonendkkaaChecked
import GoSem.Claim
import GoSem.ClaimJoined
import GoSem.ClaimMapViews
import Derived.JoinedTies
import Derived.KernelRfl
namespace Go.Proofs.Ytdaamgonendkkaa
/- THE CELL 'sum', in the pinned program and in every row, IS THE sha256 OF THE DUMP (.gsa) THAT YtdaamgonendkkaaProg.lean LOADS. Nothing in Lean hashes anything: it is a label: what it is worth is what the hold of that sum in a sandbox is worth. -/
noncomputable def Try.pinned : Pinned := { name := "ytdaamgonendkkaa", sum := "e6f35236e06866a5f23c27df9614c41c32796b2a3862ce490f128be476d89e4c", checked := Try.checked }
namespace Rows
def none {H : Type} : Left H := { results := [], args := [] }

/-- 'laws.FnChangesText': WHATEVER THE INPUT: true; the input reads as it did. -/
def fnChangesTextSpec : ChangeSpec := { name := "fnChangesText", fn := fun _ => fun
  | [d] => { results := [.lit (.bool true)], args := [d] }
  | _ => none }
def fnChangesTextRow : OpenClaim := { program := "ytdaamgonendkkaa", sum := "e6f35236e06866a5f23c27df9614c41c32796b2a3862ce490f128be476d89e4c", func := "loop.example/objectlinker/laws.FnChangesText", spec := "fnChangesText", apart := false }
def FnChangesTextSaid : Prop := fnChangesTextRow.holds Try.pinned (OpenSpec.ofChange fnChangesTextSpec)

/-- ITS FALSE NEIGHBOUR: 'it returns false'. Refute it at one input. -/
def fnChangesTextWrong : ChangeSpec := { name := "fnChangesText", fn := fun _ => fun
  | [d] => { results := [.lit (.bool false)], args := [d] }
  | _ => none }
def FnChangesTextWrongFalsely : Prop := fnChangesTextRow.holds Try.pinned (OpenSpec.ofChange fnChangesTextWrong)

/-- 'laws.FnExactChangesText': WHATEVER THE INPUT: true; the input reads as it did. -/
def fnExactChangesTextSpec : ChangeSpec := { name := "fnExactChangesText", fn := fun _ => fun
  | [d] => { results := [.lit (.bool true)], args := [d] }
  | _ => none }
def fnExactChangesTextRow : OpenClaim := { program := "ytdaamgonendkkaa", sum := "e6f35236e06866a5f23c27df9614c41c32796b2a3862ce490f128be476d89e4c", func := "loop.example/objectlinker/laws.FnExactChangesText", spec := "fnExactChangesText", apart := false }
def FnExactChangesTextSaid : Prop := fnExactChangesTextRow.holds Try.pinned (OpenSpec.ofChange fnExactChangesTextSpec)

/-- ITS FALSE NEIGHBOUR: 'it returns false'. Refute it at one input. -/
def fnExactChangesTextWrong : ChangeSpec := { name := "fnExactChangesText", fn := fun _ => fun
  | [d] => { results := [.lit (.bool false)], args := [d] }
  | _ => none }
def FnExactChangesTextWrongFalsely : Prop := fnExactChangesTextRow.holds Try.pinned (OpenSpec.ofChange fnExactChangesTextWrong)

/-- 'laws.FnExactSymbolOf': WHATEVER THE INPUT: true; the input reads as it did. -/
def fnExactSymbolOfSpec : ChangeSpec := { name := "fnExactSymbolOf", fn := fun _ => fun
  | [d1, d2] => { results := [.lit (.bool true)], args := [d1, d2] }
  | _ => none }
def fnExactSymbolOfRow : OpenClaim := { program := "ytdaamgonendkkaa", sum := "e6f35236e06866a5f23c27df9614c41c32796b2a3862ce490f128be476d89e4c", func := "loop.example/objectlinker/laws.FnExactSymbolOf", spec := "fnExactSymbolOf", unfollowed := true, recurses := true, apart := false }
def FnExactSymbolOfSaid : Prop := fnExactSymbolOfRow.holds Try.pinned (OpenSpec.ofChange fnExactSymbolOfSpec)

/-- ITS FALSE NEIGHBOUR: 'it returns false'. Refute it at one input. -/
def fnExactSymbolOfWrong : ChangeSpec := { name := "fnExactSymbolOf", fn := fun _ => fun
  | [d1, d2] => { results := [.lit (.bool false)], args := [d1, d2] }
  | _ => none }
def FnExactSymbolOfWrongFalsely : Prop := fnExactSymbolOfRow.holds Try.pinned (OpenSpec.ofChange fnExactSymbolOfWrong)

/-- 'laws.FnSymbolOf': WHATEVER THE INPUT: true; the input reads as it did. -/
def fnSymbolOfSpec : ChangeSpec := { name := "fnSymbolOf", fn := fun _ => fun
  | [d] => { results := [.lit (.bool true)], args := [d] }
  | _ => none }
def fnSymbolOfRow : OpenClaim := { program := "ytdaamgonendkkaa", sum := "e6f35236e06866a5f23c27df9614c41c32796b2a3862ce490f128be476d89e4c", func := "loop.example/objectlinker/laws.FnSymbolOf", spec := "fnSymbolOf", unfollowed := true, recurses := true, apart := false }
def FnSymbolOfSaid : Prop := fnSymbolOfRow.holds Try.pinned (OpenSpec.ofChange fnSymbolOfSpec)

/-- ITS FALSE NEIGHBOUR: 'it returns false'. Refute it at one input. -/
def fnSymbolOfWrong : ChangeSpec := { name := "fnSymbolOf", fn := fun _ => fun
  | [d] => { results := [.lit (.bool false)], args := [d] }
  | _ => none }
def FnSymbolOfWrongFalsely : Prop := fnSymbolOfRow.holds Try.pinned (OpenSpec.ofChange fnSymbolOfWrong)

/-- 'laws.FnExactChangesOf': WHATEVER THE INPUT: true; the input reads as it did. -/
def fnExactChangesOfSpec : ChangeSpec := { name := "fnExactChangesOf", fn := fun _ => fun
  | [d1, d2] => { results := [.lit (.bool true)], args := [d1, d2] }
  | _ => none }
def fnExactChangesOfRow : OpenClaim := { program := "ytdaamgonendkkaa", sum := "e6f35236e06866a5f23c27df9614c41c32796b2a3862ce490f128be476d89e4c", func := "loop.example/objectlinker/laws.FnExactChangesOf", spec := "fnExactChangesOf", unfollowed := true, recurses := true, apart := false }
def FnExactChangesOfSaid : Prop := fnExactChangesOfRow.holds Try.pinned (OpenSpec.ofChange fnExactChangesOfSpec)

/-- ITS FALSE NEIGHBOUR: 'it returns false'. Refute it at one input. -/
def fnExactChangesOfWrong : ChangeSpec := { name := "fnExactChangesOf", fn := fun _ => fun
  | [d1, d2] => { results := [.lit (.bool false)], args := [d1, d2] }
  | _ => none }
def FnExactChangesOfWrongFalsely : Prop := fnExactChangesOfRow.holds Try.pinned (OpenSpec.ofChange fnExactChangesOfWrong)

/-- 'laws.FnChangesOf': WHATEVER THE INPUT: true; the input reads as it did. -/
def fnChangesOfSpec : ChangeSpec := { name := "fnChangesOf", fn := fun _ => fun
  | [d] => { results := [.lit (.bool true)], args := [d] }
  | _ => none }
def fnChangesOfRow : OpenClaim := { program := "ytdaamgonendkkaa", sum := "e6f35236e06866a5f23c27df9614c41c32796b2a3862ce490f128be476d89e4c", func := "loop.example/objectlinker/laws.FnChangesOf", spec := "fnChangesOf", unfollowed := true, recurses := true, apart := false }
def FnChangesOfSaid : Prop := fnChangesOfRow.holds Try.pinned (OpenSpec.ofChange fnChangesOfSpec)

/-- ITS FALSE NEIGHBOUR: 'it returns false'. Refute it at one input. -/
def fnChangesOfWrong : ChangeSpec := { name := "fnChangesOf", fn := fun _ => fun
  | [d] => { results := [.lit (.bool false)], args := [d] }
  | _ => none }
def FnChangesOfWrongFalsely : Prop := fnChangesOfRow.holds Try.pinned (OpenSpec.ofChange fnChangesOfWrong)

/- THE SECOND FORM. 'bulk': how many values and letters a reading holds, each counted each time it is reached (what is shared counts as often as it is met; a slice's spare places count too). A statement '..UptoSaid' is the law's where the arguments, and the package variables that the reading takes, are together of bulk at most 1048576: NARROWER than '..Said'. Prove '..Said' where nothing that the law and all that it calls make is longer than what came in: it says more and counts as full. Else prove '..UptoSaid'. A law counts once. -/
mutual
def uptoBulk {H : Type} : DataW H → Nat
  | .lit (.string bytes) => bytes.length + 1
  | .lit _ => 1
  | .nil => 1
  | .ptr d => uptoBulk d + 1
  | .slice elems spare => uptoBulkAll elems + uptoBulkAll spare + 1
  | .agg parts => uptoBulkAll parts + 1
  | .iface _ d => uptoBulk d + 1
  | .map entries => uptoBulkEntries entries + 1
  | .held _ => 1
def uptoBulkAll {H : Type} : List (DataW H) → Nat
  | [] => 0
  | d :: r => uptoBulk d + uptoBulkAll r
def uptoBulkEntries {H : Type} : List (Lit × DataW H) → Nat
  | [] => 0
  | x :: r => uptoBulkEntry x + uptoBulkEntries r
def uptoBulkEntry {H : Type} : Lit × DataW H → Nat
  | (.string bytes, d) => bytes.length + uptoBulk d + 1
  | (_, d) => uptoBulk d + 1
 end
def uptoSmall : (H : Type) → List (DataW H) → Bool := fun _ ds => decide (uptoBulkAll ds ≤ 1048576)
def OpenSpec.upto (s : _root_.Go.ChangeSpec) : _root_.Go.OpenSpec := { _root_.Go.OpenSpec.ofChange s with cond := some uptoSmall }

/-- 'laws.FnChangesText', WHERE WHAT IT READS IS OF BULK AT MOST 1048576: true; the input reads as it did. -/
def fnChangesTextUptoRow : OpenClaim := { program := "ytdaamgonendkkaa", sum := "e6f35236e06866a5f23c27df9614c41c32796b2a3862ce490f128be476d89e4c", func := "loop.example/objectlinker/laws.FnChangesText", spec := "fnChangesText", apart := false, narrowed := true }
def FnChangesTextUptoSaid : Prop := fnChangesTextUptoRow.holds Try.pinned (OpenSpec.upto fnChangesTextSpec)

/-- 'laws.FnExactChangesText', WHERE WHAT IT READS IS OF BULK AT MOST 1048576: true; the input reads as it did. -/
def fnExactChangesTextUptoRow : OpenClaim := { program := "ytdaamgonendkkaa", sum := "e6f35236e06866a5f23c27df9614c41c32796b2a3862ce490f128be476d89e4c", func := "loop.example/objectlinker/laws.FnExactChangesText", spec := "fnExactChangesText", apart := false, narrowed := true }
def FnExactChangesTextUptoSaid : Prop := fnExactChangesTextUptoRow.holds Try.pinned (OpenSpec.upto fnExactChangesTextSpec)

/-- 'laws.FnExactSymbolOf', WHERE WHAT IT READS IS OF BULK AT MOST 1048576: true; the input reads as it did. -/
def fnExactSymbolOfUptoRow : OpenClaim := { program := "ytdaamgonendkkaa", sum := "e6f35236e06866a5f23c27df9614c41c32796b2a3862ce490f128be476d89e4c", func := "loop.example/objectlinker/laws.FnExactSymbolOf", spec := "fnExactSymbolOf", unfollowed := true, recurses := true, apart := false, narrowed := true }
def FnExactSymbolOfUptoSaid : Prop := fnExactSymbolOfUptoRow.holds Try.pinned (OpenSpec.upto fnExactSymbolOfSpec)

/-- 'laws.FnSymbolOf', WHERE WHAT IT READS IS OF BULK AT MOST 1048576: true; the input reads as it did. -/
def fnSymbolOfUptoRow : OpenClaim := { program := "ytdaamgonendkkaa", sum := "e6f35236e06866a5f23c27df9614c41c32796b2a3862ce490f128be476d89e4c", func := "loop.example/objectlinker/laws.FnSymbolOf", spec := "fnSymbolOf", unfollowed := true, recurses := true, apart := false, narrowed := true }
def FnSymbolOfUptoSaid : Prop := fnSymbolOfUptoRow.holds Try.pinned (OpenSpec.upto fnSymbolOfSpec)

/-- 'laws.FnExactChangesOf', WHERE WHAT IT READS IS OF BULK AT MOST 1048576: true; the input reads as it did. -/
def fnExactChangesOfUptoRow : OpenClaim := { program := "ytdaamgonendkkaa", sum := "e6f35236e06866a5f23c27df9614c41c32796b2a3862ce490f128be476d89e4c", func := "loop.example/objectlinker/laws.FnExactChangesOf", spec := "fnExactChangesOf", unfollowed := true, recurses := true, apart := false, narrowed := true }
def FnExactChangesOfUptoSaid : Prop := fnExactChangesOfUptoRow.holds Try.pinned (OpenSpec.upto fnExactChangesOfSpec)

/-- 'laws.FnChangesOf', WHERE WHAT IT READS IS OF BULK AT MOST 1048576: true; the input reads as it did. -/
def fnChangesOfUptoRow : OpenClaim := { program := "ytdaamgonendkkaa", sum := "e6f35236e06866a5f23c27df9614c41c32796b2a3862ce490f128be476d89e4c", func := "loop.example/objectlinker/laws.FnChangesOf", spec := "fnChangesOf", unfollowed := true, recurses := true, apart := false, narrowed := true }
def FnChangesOfUptoSaid : Prop := fnChangesOfUptoRow.holds Try.pinned (OpenSpec.upto fnChangesOfSpec)

end Rows
end Go.Proofs.Ytdaamgonendkkaa
