/-
  No cell of these rows narrows 'for every input' (looked for: loops, veiled, ifaces, maps, wideKeys, modest, calm, conditions, laid).
  DERIVED. THE GIVEN ROWS OF THIS SEAT. 8 by the template 'for every input the law returns true; each argument reads behind the call as it read before'; 0 by the template 'total and deterministic' (their statements: YtfdihhpnkmpidaaTotals.lean).
  GIVEN WITH THE SEED: the statements are not yours to turn. If you find one false, say at which input.
  Laid BY PROGRAM, IN A SANDBOX (cutbox-rows.mjs): the forced cells as the released guide's own fill.sh prints them over the translation c026522f8da755a8… (all of the seat's roots in one cut). By AI agents, Wed Nov 11 2026. No macro, syntax, notation, axiom, sorry.
-/
import Derived.Test.YtfdihhpnkmpidaaChecked
import GoSem.Claim
import GoSem.ClaimJoined
import GoSem.ClaimMapViews
import Derived.JoinedTies
import Derived.KernelRfl
namespace Go.Proofs.Ytfdihhpnkmpidaa
/- THE CELL 'sum', in the pinned program and in every row, IS THE sha256 OF THE DUMP (.gsa) THAT YtfdihhpnkmpidaaProg.lean LOADS. Nothing in Lean hashes anything: it is a label: what it is worth is what the hold of that sum in a sandbox is worth. -/
noncomputable def Try.pinned : Pinned := { name := "ytfdihhpnkmpidaa", sum := "c026522f8da755a86c3dc1fb3a5d49cd206e588ee39eb44629c125c9bd1fa547", checked := Try.checked }
namespace Rows
def none {H : Type} : Left H := { results := [], args := [] }

/-- 'laws.FnExactJumpsValid': WHATEVER THE INPUT: true; the input reads as it did. -/
def fnExactJumpsValidSpec : ChangeSpec := { name := "fnExactJumpsValid", fn := fun _ => fun
  | [d1, d2] => { results := [.lit (.bool true)], args := [d1, d2] }
  | _ => none }
def fnExactJumpsValidRow : OpenClaim := { program := "ytfdihhpnkmpidaa", sum := "c026522f8da755a86c3dc1fb3a5d49cd206e588ee39eb44629c125c9bd1fa547", func := "loop.example/objectlinker/laws.FnExactJumpsValid", spec := "fnExactJumpsValid", unfollowed := true, recurses := true, apart := false }
def FnExactJumpsValidSaid : Prop := fnExactJumpsValidRow.holds Try.pinned (OpenSpec.ofChange fnExactJumpsValidSpec)

/-- ITS FALSE NEIGHBOUR: 'it returns false'. Refute it at one input. -/
def fnExactJumpsValidWrong : ChangeSpec := { name := "fnExactJumpsValid", fn := fun _ => fun
  | [d1, d2] => { results := [.lit (.bool false)], args := [d1, d2] }
  | _ => none }
def FnExactJumpsValidWrongFalsely : Prop := fnExactJumpsValidRow.holds Try.pinned (OpenSpec.ofChange fnExactJumpsValidWrong)

/-- 'laws.FnJumpsValid': WHATEVER THE INPUT: true; the input reads as it did. -/
def fnJumpsValidSpec : ChangeSpec := { name := "fnJumpsValid", fn := fun _ => fun
  | [d] => { results := [.lit (.bool true)], args := [d] }
  | _ => none }
def fnJumpsValidRow : OpenClaim := { program := "ytfdihhpnkmpidaa", sum := "c026522f8da755a86c3dc1fb3a5d49cd206e588ee39eb44629c125c9bd1fa547", func := "loop.example/objectlinker/laws.FnJumpsValid", spec := "fnJumpsValid", unfollowed := true, recurses := true, apart := false }
def FnJumpsValidSaid : Prop := fnJumpsValidRow.holds Try.pinned (OpenSpec.ofChange fnJumpsValidSpec)

/-- ITS FALSE NEIGHBOUR: 'it returns false'. Refute it at one input. -/
def fnJumpsValidWrong : ChangeSpec := { name := "fnJumpsValid", fn := fun _ => fun
  | [d] => { results := [.lit (.bool false)], args := [d] }
  | _ => none }
def FnJumpsValidWrongFalsely : Prop := fnJumpsValidRow.holds Try.pinned (OpenSpec.ofChange fnJumpsValidWrong)

/-- 'laws.FnExactJumpStarts': WHATEVER THE INPUT: true; the input reads as it did. -/
def fnExactJumpStartsSpec : ChangeSpec := { name := "fnExactJumpStarts", fn := fun _ => fun
  | [d1, d2] => { results := [.lit (.bool true)], args := [d1, d2] }
  | _ => none }
def fnExactJumpStartsRow : OpenClaim := { program := "ytfdihhpnkmpidaa", sum := "c026522f8da755a86c3dc1fb3a5d49cd206e588ee39eb44629c125c9bd1fa547", func := "loop.example/objectlinker/laws.FnExactJumpStarts", spec := "fnExactJumpStarts", unfollowed := true, recurses := true, apart := false }
def FnExactJumpStartsSaid : Prop := fnExactJumpStartsRow.holds Try.pinned (OpenSpec.ofChange fnExactJumpStartsSpec)

/-- ITS FALSE NEIGHBOUR: 'it returns false'. Refute it at one input. -/
def fnExactJumpStartsWrong : ChangeSpec := { name := "fnExactJumpStarts", fn := fun _ => fun
  | [d1, d2] => { results := [.lit (.bool false)], args := [d1, d2] }
  | _ => none }
def FnExactJumpStartsWrongFalsely : Prop := fnExactJumpStartsRow.holds Try.pinned (OpenSpec.ofChange fnExactJumpStartsWrong)

/-- 'laws.FnJumpStarts': WHATEVER THE INPUT: true; the input reads as it did. -/
def fnJumpStartsSpec : ChangeSpec := { name := "fnJumpStarts", fn := fun _ => fun
  | [d] => { results := [.lit (.bool true)], args := [d] }
  | _ => none }
def fnJumpStartsRow : OpenClaim := { program := "ytfdihhpnkmpidaa", sum := "c026522f8da755a86c3dc1fb3a5d49cd206e588ee39eb44629c125c9bd1fa547", func := "loop.example/objectlinker/laws.FnJumpStarts", spec := "fnJumpStarts", unfollowed := true, recurses := true, apart := false }
def FnJumpStartsSaid : Prop := fnJumpStartsRow.holds Try.pinned (OpenSpec.ofChange fnJumpStartsSpec)

/-- ITS FALSE NEIGHBOUR: 'it returns false'. Refute it at one input. -/
def fnJumpStartsWrong : ChangeSpec := { name := "fnJumpStarts", fn := fun _ => fun
  | [d] => { results := [.lit (.bool false)], args := [d] }
  | _ => none }
def FnJumpStartsWrongFalsely : Prop := fnJumpStartsRow.holds Try.pinned (OpenSpec.ofChange fnJumpStartsWrong)

/-- 'laws.FnExactJumpsReach': WHATEVER THE INPUT: true; the input reads as it did. -/
def fnExactJumpsReachSpec : ChangeSpec := { name := "fnExactJumpsReach", fn := fun _ => fun
  | [d1, d2, d3] => { results := [.lit (.bool true)], args := [d1, d2, d3] }
  | _ => none }
def fnExactJumpsReachRow : OpenClaim := { program := "ytfdihhpnkmpidaa", sum := "c026522f8da755a86c3dc1fb3a5d49cd206e588ee39eb44629c125c9bd1fa547", func := "loop.example/objectlinker/laws.FnExactJumpsReach", spec := "fnExactJumpsReach", unfollowed := true, recurses := true, apart := false }
def FnExactJumpsReachSaid : Prop := fnExactJumpsReachRow.holds Try.pinned (OpenSpec.ofChange fnExactJumpsReachSpec)

/-- ITS FALSE NEIGHBOUR: 'it returns false'. Refute it at one input. -/
def fnExactJumpsReachWrong : ChangeSpec := { name := "fnExactJumpsReach", fn := fun _ => fun
  | [d1, d2, d3] => { results := [.lit (.bool false)], args := [d1, d2, d3] }
  | _ => none }
def FnExactJumpsReachWrongFalsely : Prop := fnExactJumpsReachRow.holds Try.pinned (OpenSpec.ofChange fnExactJumpsReachWrong)

/-- 'laws.FnJumpsReach': WHATEVER THE INPUT: true; the input reads as it did. -/
def fnJumpsReachSpec : ChangeSpec := { name := "fnJumpsReach", fn := fun _ => fun
  | [d] => { results := [.lit (.bool true)], args := [d] }
  | _ => none }
def fnJumpsReachRow : OpenClaim := { program := "ytfdihhpnkmpidaa", sum := "c026522f8da755a86c3dc1fb3a5d49cd206e588ee39eb44629c125c9bd1fa547", func := "loop.example/objectlinker/laws.FnJumpsReach", spec := "fnJumpsReach", unfollowed := true, recurses := true, apart := false }
def FnJumpsReachSaid : Prop := fnJumpsReachRow.holds Try.pinned (OpenSpec.ofChange fnJumpsReachSpec)

/-- ITS FALSE NEIGHBOUR: 'it returns false'. Refute it at one input. -/
def fnJumpsReachWrong : ChangeSpec := { name := "fnJumpsReach", fn := fun _ => fun
  | [d] => { results := [.lit (.bool false)], args := [d] }
  | _ => none }
def FnJumpsReachWrongFalsely : Prop := fnJumpsReachRow.holds Try.pinned (OpenSpec.ofChange fnJumpsReachWrong)

/-- 'laws.FnExactJumpWidths': WHATEVER THE INPUT: true; the input reads as it did. -/
def fnExactJumpWidthsSpec : ChangeSpec := { name := "fnExactJumpWidths", fn := fun _ => fun
  | [d1, d2] => { results := [.lit (.bool true)], args := [d1, d2] }
  | _ => none }
def fnExactJumpWidthsRow : OpenClaim := { program := "ytfdihhpnkmpidaa", sum := "c026522f8da755a86c3dc1fb3a5d49cd206e588ee39eb44629c125c9bd1fa547", func := "loop.example/objectlinker/laws.FnExactJumpWidths", spec := "fnExactJumpWidths", unfollowed := true, recurses := true, apart := false }
def FnExactJumpWidthsSaid : Prop := fnExactJumpWidthsRow.holds Try.pinned (OpenSpec.ofChange fnExactJumpWidthsSpec)

/-- ITS FALSE NEIGHBOUR: 'it returns false'. Refute it at one input. -/
def fnExactJumpWidthsWrong : ChangeSpec := { name := "fnExactJumpWidths", fn := fun _ => fun
  | [d1, d2] => { results := [.lit (.bool false)], args := [d1, d2] }
  | _ => none }
def FnExactJumpWidthsWrongFalsely : Prop := fnExactJumpWidthsRow.holds Try.pinned (OpenSpec.ofChange fnExactJumpWidthsWrong)

/-- 'laws.FnJumpWidths': WHATEVER THE INPUT: true; the input reads as it did. -/
def fnJumpWidthsSpec : ChangeSpec := { name := "fnJumpWidths", fn := fun _ => fun
  | [d] => { results := [.lit (.bool true)], args := [d] }
  | _ => none }
def fnJumpWidthsRow : OpenClaim := { program := "ytfdihhpnkmpidaa", sum := "c026522f8da755a86c3dc1fb3a5d49cd206e588ee39eb44629c125c9bd1fa547", func := "loop.example/objectlinker/laws.FnJumpWidths", spec := "fnJumpWidths", unfollowed := true, recurses := true, apart := false }
def FnJumpWidthsSaid : Prop := fnJumpWidthsRow.holds Try.pinned (OpenSpec.ofChange fnJumpWidthsSpec)

/-- ITS FALSE NEIGHBOUR: 'it returns false'. Refute it at one input. -/
def fnJumpWidthsWrong : ChangeSpec := { name := "fnJumpWidths", fn := fun _ => fun
  | [d] => { results := [.lit (.bool false)], args := [d] }
  | _ => none }
def FnJumpWidthsWrongFalsely : Prop := fnJumpWidthsRow.holds Try.pinned (OpenSpec.ofChange fnJumpWidthsWrong)

/- THE SECOND FORM. 'bulk': how many values and letters a reading holds, each counted each time it is reached (what is shared counts as often as it is met; a slice's spare places count too). A statement '..UptoSaid' is the law's where the arguments, and the package variables that the reading takes, are together of bulk at most 1048576: NARROWER than '..Said'. Prove '..Said' where nothing that the law and all that it calls make is longer than what came in: it says more and counts as full. Else prove '..UptoSaid'. A law counts once. -/
mutual
def uptoBulk {H : Type} : DataW H → Nat
  | .lit (.string bytes) => bytes.length + 1
  | .lit _ => 1
  | .nil => 1
  | .ptr d => uptoBulk d + 1
  | .slice elems spare => uptoBulkAll elems + uptoBulkAll spare + 1
  | .agg parts => uptoBulkAll parts + 1
  | .iface _ d => uptoBulk d + 1
  | .map entries => uptoBulkEntries entries + 1
  | .held _ => 1
def uptoBulkAll {H : Type} : List (DataW H) → Nat
  | [] => 0
  | d :: r => uptoBulk d + uptoBulkAll r
def uptoBulkEntries {H : Type} : List (Lit × DataW H) → Nat
  | [] => 0
  | x :: r => uptoBulkEntry x + uptoBulkEntries r
def uptoBulkEntry {H : Type} : Lit × DataW H → Nat
  | (.string bytes, d) => bytes.length + uptoBulk d + 1
  | (_, d) => uptoBulk d + 1
 end
def uptoSmall : (H : Type) → List (DataW H) → Bool := fun _ ds => decide (uptoBulkAll ds ≤ 1048576)
def OpenSpec.upto (s : _root_.Go.ChangeSpec) : _root_.Go.OpenSpec := { _root_.Go.OpenSpec.ofChange s with cond := some uptoSmall }

/-- 'laws.FnExactJumpsValid', WHERE WHAT IT READS IS OF BULK AT MOST 1048576: true; the input reads as it did. -/
def fnExactJumpsValidUptoRow : OpenClaim := { program := "ytfdihhpnkmpidaa", sum := "c026522f8da755a86c3dc1fb3a5d49cd206e588ee39eb44629c125c9bd1fa547", func := "loop.example/objectlinker/laws.FnExactJumpsValid", spec := "fnExactJumpsValid", unfollowed := true, recurses := true, apart := false, narrowed := true }
def FnExactJumpsValidUptoSaid : Prop := fnExactJumpsValidUptoRow.holds Try.pinned (OpenSpec.upto fnExactJumpsValidSpec)

/-- 'laws.FnJumpsValid', WHERE WHAT IT READS IS OF BULK AT MOST 1048576: true; the input reads as it did. -/
def fnJumpsValidUptoRow : OpenClaim := { program := "ytfdihhpnkmpidaa", sum := "c026522f8da755a86c3dc1fb3a5d49cd206e588ee39eb44629c125c9bd1fa547", func := "loop.example/objectlinker/laws.FnJumpsValid", spec := "fnJumpsValid", unfollowed := true, recurses := true, apart := false, narrowed := true }
def FnJumpsValidUptoSaid : Prop := fnJumpsValidUptoRow.holds Try.pinned (OpenSpec.upto fnJumpsValidSpec)

/-- 'laws.FnExactJumpStarts', WHERE WHAT IT READS IS OF BULK AT MOST 1048576: true; the input reads as it did. -/
def fnExactJumpStartsUptoRow : OpenClaim := { program := "ytfdihhpnkmpidaa", sum := "c026522f8da755a86c3dc1fb3a5d49cd206e588ee39eb44629c125c9bd1fa547", func := "loop.example/objectlinker/laws.FnExactJumpStarts", spec := "fnExactJumpStarts", unfollowed := true, recurses := true, apart := false, narrowed := true }
def FnExactJumpStartsUptoSaid : Prop := fnExactJumpStartsUptoRow.holds Try.pinned (OpenSpec.upto fnExactJumpStartsSpec)

/-- 'laws.FnJumpStarts', WHERE WHAT IT READS IS OF BULK AT MOST 1048576: true; the input reads as it did. -/
def fnJumpStartsUptoRow : OpenClaim := { program := "ytfdihhpnkmpidaa", sum := "c026522f8da755a86c3dc1fb3a5d49cd206e588ee39eb44629c125c9bd1fa547", func := "loop.example/objectlinker/laws.FnJumpStarts", spec := "fnJumpStarts", unfollowed := true, recurses := true, apart := false, narrowed := true }
def FnJumpStartsUptoSaid : Prop := fnJumpStartsUptoRow.holds Try.pinned (OpenSpec.upto fnJumpStartsSpec)

/-- 'laws.FnExactJumpsReach', WHERE WHAT IT READS IS OF BULK AT MOST 1048576: true; the input reads as it did. -/
def fnExactJumpsReachUptoRow : OpenClaim := { program := "ytfdihhpnkmpidaa", sum := "c026522f8da755a86c3dc1fb3a5d49cd206e588ee39eb44629c125c9bd1fa547", func := "loop.example/objectlinker/laws.FnExactJumpsReach", spec := "fnExactJumpsReach", unfollowed := true, recurses := true, apart := false, narrowed := true }
def FnExactJumpsReachUptoSaid : Prop := fnExactJumpsReachUptoRow.holds Try.pinned (OpenSpec.upto fnExactJumpsReachSpec)

/-- 'laws.FnJumpsReach', WHERE WHAT IT READS IS OF BULK AT MOST 1048576: true; the input reads as it did. -/
def fnJumpsReachUptoRow : OpenClaim := { program := "ytfdihhpnkmpidaa", sum := "c026522f8da755a86c3dc1fb3a5d49cd206e588ee39eb44629c125c9bd1fa547", func := "loop.example/objectlinker/laws.FnJumpsReach", spec := "fnJumpsReach", unfollowed := true, recurses := true, apart := false, narrowed := true }
def FnJumpsReachUptoSaid : Prop := fnJumpsReachUptoRow.holds Try.pinned (OpenSpec.upto fnJumpsReachSpec)

/-- 'laws.FnExactJumpWidths', WHERE WHAT IT READS IS OF BULK AT MOST 1048576: true; the input reads as it did. -/
def fnExactJumpWidthsUptoRow : OpenClaim := { program := "ytfdihhpnkmpidaa", sum := "c026522f8da755a86c3dc1fb3a5d49cd206e588ee39eb44629c125c9bd1fa547", func := "loop.example/objectlinker/laws.FnExactJumpWidths", spec := "fnExactJumpWidths", unfollowed := true, recurses := true, apart := false, narrowed := true }
def FnExactJumpWidthsUptoSaid : Prop := fnExactJumpWidthsUptoRow.holds Try.pinned (OpenSpec.upto fnExactJumpWidthsSpec)

/-- 'laws.FnJumpWidths', WHERE WHAT IT READS IS OF BULK AT MOST 1048576: true; the input reads as it did. -/
def fnJumpWidthsUptoRow : OpenClaim := { program := "ytfdihhpnkmpidaa", sum := "c026522f8da755a86c3dc1fb3a5d49cd206e588ee39eb44629c125c9bd1fa547", func := "loop.example/objectlinker/laws.FnJumpWidths", spec := "fnJumpWidths", unfollowed := true, recurses := true, apart := false, narrowed := true }
def FnJumpWidthsUptoSaid : Prop := fnJumpWidthsUptoRow.holds Try.pinned (OpenSpec.upto fnJumpWidthsSpec)

end Rows
end Go.Proofs.Ytfdihhpnkmpidaa
