/-
  No cell of these rows narrows 'for every input' (looked for: loops, veiled, ifaces, maps, wideKeys, modest, calm, conditions, laid).
  DERIVED. THE GIVEN ROWS OF THIS SEAT. 4 by the template 'for every input the law returns true; each argument reads behind the call as it read before'; 0 by the template 'total and deterministic' (their statements: YthjjbgpeajeneaaTotals.lean).
  GIVEN WITH THE SEED: the statements are not yours to turn. If you find one false, say at which input.
  Laid BY PROGRAM, IN A SANDBOX (cutbox-rows.mjs): the forced cells as the released guide's own fill.sh prints them over the translation 0249805473dde746… (all of the seat's roots in one cut). By AI agents, Wed Nov 11 2026. No macro, syntax, notation, axiom, sorry.
-/
import Derived.Test.YthjjbgpeajeneaaChecked
import GoSem.Claim
import GoSem.ClaimJoined
import GoSem.ClaimMapViews
import Derived.JoinedTies
import Derived.KernelRfl
namespace Go.Proofs.Ythjjbgpeajeneaa
/- THE CELL 'sum', in the pinned program and in every row, IS THE sha256 OF THE DUMP (.gsa) THAT YthjjbgpeajeneaaProg.lean LOADS. Nothing in Lean hashes anything: it is a label: what it is worth is what the hold of that sum in a sandbox is worth. -/
noncomputable def Try.pinned : Pinned := { name := "ythjjbgpeajeneaa", sum := "0249805473dde7461ba9dab3101a6451075b25f11b4bac42b412d16fb61f10c2", checked := Try.checked }
namespace Rows
def none {H : Type} : Left H := { results := [], args := [] }

/-- 'laws.FnExactScriptValid': WHATEVER THE INPUT: true; the input reads as it did. -/
def fnExactScriptValidSpec : ChangeSpec := { name := "fnExactScriptValid", fn := fun _ => fun
  | [d] => { results := [.lit (.bool true)], args := [d] }
  | _ => none }
def fnExactScriptValidRow : OpenClaim := { program := "ythjjbgpeajeneaa", sum := "0249805473dde7461ba9dab3101a6451075b25f11b4bac42b412d16fb61f10c2", func := "loop.example/objectlinker/laws.FnExactScriptValid", spec := "fnExactScriptValid", apart := false }
def FnExactScriptValidSaid : Prop := fnExactScriptValidRow.holds Try.pinned (OpenSpec.ofChange fnExactScriptValidSpec)

/-- ITS FALSE NEIGHBOUR: 'it returns false'. Refute it at one input. -/
def fnExactScriptValidWrong : ChangeSpec := { name := "fnExactScriptValid", fn := fun _ => fun
  | [d] => { results := [.lit (.bool false)], args := [d] }
  | _ => none }
def FnExactScriptValidWrongFalsely : Prop := fnExactScriptValidRow.holds Try.pinned (OpenSpec.ofChange fnExactScriptValidWrong)

/-- 'laws.FnScriptValid': WHATEVER THE INPUT: true; the input reads as it did. -/
def fnScriptValidSpec : ChangeSpec := { name := "fnScriptValid", fn := fun _ => fun
  | [d] => { results := [.lit (.bool true)], args := [d] }
  | _ => none }
def fnScriptValidRow : OpenClaim := { program := "ythjjbgpeajeneaa", sum := "0249805473dde7461ba9dab3101a6451075b25f11b4bac42b412d16fb61f10c2", func := "loop.example/objectlinker/laws.FnScriptValid", spec := "fnScriptValid", apart := false }
def FnScriptValidSaid : Prop := fnScriptValidRow.holds Try.pinned (OpenSpec.ofChange fnScriptValidSpec)

/-- ITS FALSE NEIGHBOUR: 'it returns false'. Refute it at one input. -/
def fnScriptValidWrong : ChangeSpec := { name := "fnScriptValid", fn := fun _ => fun
  | [d] => { results := [.lit (.bool false)], args := [d] }
  | _ => none }
def FnScriptValidWrongFalsely : Prop := fnScriptValidRow.holds Try.pinned (OpenSpec.ofChange fnScriptValidWrong)

/-- 'laws.FnExactScriptPlaces': WHATEVER THE INPUT: true; the input reads as it did. -/
def fnExactScriptPlacesSpec : ChangeSpec := { name := "fnExactScriptPlaces", fn := fun _ => fun
  | [d1, d2, d3] => { results := [.lit (.bool true)], args := [d1, d2, d3] }
  | _ => none }
def fnExactScriptPlacesRow : OpenClaim := { program := "ythjjbgpeajeneaa", sum := "0249805473dde7461ba9dab3101a6451075b25f11b4bac42b412d16fb61f10c2", func := "loop.example/objectlinker/laws.FnExactScriptPlaces", spec := "fnExactScriptPlaces", unfollowed := true, recurses := true, apart := false }
def FnExactScriptPlacesSaid : Prop := fnExactScriptPlacesRow.holds Try.pinned (OpenSpec.ofChange fnExactScriptPlacesSpec)

/-- ITS FALSE NEIGHBOUR: 'it returns false'. Refute it at one input. -/
def fnExactScriptPlacesWrong : ChangeSpec := { name := "fnExactScriptPlaces", fn := fun _ => fun
  | [d1, d2, d3] => { results := [.lit (.bool false)], args := [d1, d2, d3] }
  | _ => none }
def FnExactScriptPlacesWrongFalsely : Prop := fnExactScriptPlacesRow.holds Try.pinned (OpenSpec.ofChange fnExactScriptPlacesWrong)

/-- 'laws.FnScriptPlaces': WHATEVER THE INPUT: true; the input reads as it did. -/
def fnScriptPlacesSpec : ChangeSpec := { name := "fnScriptPlaces", fn := fun _ => fun
  | [d] => { results := [.lit (.bool true)], args := [d] }
  | _ => none }
def fnScriptPlacesRow : OpenClaim := { program := "ythjjbgpeajeneaa", sum := "0249805473dde7461ba9dab3101a6451075b25f11b4bac42b412d16fb61f10c2", func := "loop.example/objectlinker/laws.FnScriptPlaces", spec := "fnScriptPlaces", unfollowed := true, recurses := true, apart := false }
def FnScriptPlacesSaid : Prop := fnScriptPlacesRow.holds Try.pinned (OpenSpec.ofChange fnScriptPlacesSpec)

/-- ITS FALSE NEIGHBOUR: 'it returns false'. Refute it at one input. -/
def fnScriptPlacesWrong : ChangeSpec := { name := "fnScriptPlaces", fn := fun _ => fun
  | [d] => { results := [.lit (.bool false)], args := [d] }
  | _ => none }
def FnScriptPlacesWrongFalsely : Prop := fnScriptPlacesRow.holds Try.pinned (OpenSpec.ofChange fnScriptPlacesWrong)

/- THE SECOND FORM. 'bulk': how many values and letters a reading holds, each counted each time it is reached (what is shared counts as often as it is met; a slice's spare places count too). A statement '..UptoSaid' is the law's where the arguments, and the package variables that the reading takes, are together of bulk at most 1048576: NARROWER than '..Said'. Prove '..Said' where nothing that the law and all that it calls make is longer than what came in: it says more and counts as full. Else prove '..UptoSaid'. A law counts once. -/
mutual
def uptoBulk {H : Type} : DataW H → Nat
  | .lit (.string bytes) => bytes.length + 1
  | .lit _ => 1
  | .nil => 1
  | .ptr d => uptoBulk d + 1
  | .slice elems spare => uptoBulkAll elems + uptoBulkAll spare + 1
  | .agg parts => uptoBulkAll parts + 1
  | .iface _ d => uptoBulk d + 1
  | .map entries => uptoBulkEntries entries + 1
  | .held _ => 1
def uptoBulkAll {H : Type} : List (DataW H) → Nat
  | [] => 0
  | d :: r => uptoBulk d + uptoBulkAll r
def uptoBulkEntries {H : Type} : List (Lit × DataW H) → Nat
  | [] => 0
  | x :: r => uptoBulkEntry x + uptoBulkEntries r
def uptoBulkEntry {H : Type} : Lit × DataW H → Nat
  | (.string bytes, d) => bytes.length + uptoBulk d + 1
  | (_, d) => uptoBulk d + 1
 end
def uptoSmall : (H : Type) → List (DataW H) → Bool := fun _ ds => decide (uptoBulkAll ds ≤ 1048576)
def OpenSpec.upto (s : _root_.Go.ChangeSpec) : _root_.Go.OpenSpec := { _root_.Go.OpenSpec.ofChange s with cond := some uptoSmall }

/-- 'laws.FnExactScriptValid', WHERE WHAT IT READS IS OF BULK AT MOST 1048576: true; the input reads as it did. -/
def fnExactScriptValidUptoRow : OpenClaim := { program := "ythjjbgpeajeneaa", sum := "0249805473dde7461ba9dab3101a6451075b25f11b4bac42b412d16fb61f10c2", func := "loop.example/objectlinker/laws.FnExactScriptValid", spec := "fnExactScriptValid", apart := false, narrowed := true }
def FnExactScriptValidUptoSaid : Prop := fnExactScriptValidUptoRow.holds Try.pinned (OpenSpec.upto fnExactScriptValidSpec)

/-- 'laws.FnScriptValid', WHERE WHAT IT READS IS OF BULK AT MOST 1048576: true; the input reads as it did. -/
def fnScriptValidUptoRow : OpenClaim := { program := "ythjjbgpeajeneaa", sum := "0249805473dde7461ba9dab3101a6451075b25f11b4bac42b412d16fb61f10c2", func := "loop.example/objectlinker/laws.FnScriptValid", spec := "fnScriptValid", apart := false, narrowed := true }
def FnScriptValidUptoSaid : Prop := fnScriptValidUptoRow.holds Try.pinned (OpenSpec.upto fnScriptValidSpec)

/-- 'laws.FnExactScriptPlaces', WHERE WHAT IT READS IS OF BULK AT MOST 1048576: true; the input reads as it did. -/
def fnExactScriptPlacesUptoRow : OpenClaim := { program := "ythjjbgpeajeneaa", sum := "0249805473dde7461ba9dab3101a6451075b25f11b4bac42b412d16fb61f10c2", func := "loop.example/objectlinker/laws.FnExactScriptPlaces", spec := "fnExactScriptPlaces", unfollowed := true, recurses := true, apart := false, narrowed := true }
def FnExactScriptPlacesUptoSaid : Prop := fnExactScriptPlacesUptoRow.holds Try.pinned (OpenSpec.upto fnExactScriptPlacesSpec)

/-- 'laws.FnScriptPlaces', WHERE WHAT IT READS IS OF BULK AT MOST 1048576: true; the input reads as it did. -/
def fnScriptPlacesUptoRow : OpenClaim := { program := "ythjjbgpeajeneaa", sum := "0249805473dde7461ba9dab3101a6451075b25f11b4bac42b412d16fb61f10c2", func := "loop.example/objectlinker/laws.FnScriptPlaces", spec := "fnScriptPlaces", unfollowed := true, recurses := true, apart := false, narrowed := true }
def FnScriptPlacesUptoSaid : Prop := fnScriptPlacesUptoRow.holds Try.pinned (OpenSpec.upto fnScriptPlacesSpec)

end Rows
end Go.Proofs.Ythjjbgpeajeneaa
