/-
  No cell of these rows narrows 'for every input' (looked for: loops, veiled, ifaces, maps, wideKeys, modest, calm, conditions, laid).
  DERIVED. THE GIVEN ROWS OF THIS SEAT. 10 by the template 'for every input the law returns true; each argument reads behind the call as it read before'; 0 by the template 'total and deterministic' (their statements: YteceiaaiocdlfaaTotals.lean).
  GIVEN WITH THE SEED: the statements are not yours to turn. If you find one false, say at which input.
  Laid BY PROGRAM, IN A SANDBOX (cutbox-rows.mjs): the forced cells as the released guide's own fill.sh prints them over the translation f8771edf98166a1a… (all of the seat's roots in one cut). By AI agents, Wed Nov 11 2026. No macro, syntax, notation, axiom, sorry.
-/
import Derived.Test.YteceiaaiocdlfaaChecked
import GoSem.Claim
import GoSem.ClaimJoined
import GoSem.ClaimMapViews
import Derived.JoinedTies
import Derived.KernelRfl
namespace Go.Proofs.Yteceiaaiocdlfaa
/- THE CELL 'sum', in the pinned program and in every row, IS THE sha256 OF THE DUMP (.gsa) THAT YteceiaaiocdlfaaProg.lean LOADS. Nothing in Lean hashes anything: it is a label: what it is worth is what the hold of that sum in a sandbox is worth. -/
noncomputable def Try.pinned : Pinned := { name := "yteceiaaiocdlfaa", sum := "f8771edf98166a1a1d9445332b9ccb2229c17a47fbf78533be3c4cbf600c07c4", checked := Try.checked }
namespace Rows
def none {H : Type} : Left H := { results := [], args := [] }

/-- 'laws.FnExactSlotPlace': WHATEVER THE INPUT: true; the input reads as it did. -/
def fnExactSlotPlaceSpec : ChangeSpec := { name := "fnExactSlotPlace", fn := fun _ => fun
  | [d1, d2, d3] => { results := [.lit (.bool true)], args := [d1, d2, d3] }
  | _ => none }
def fnExactSlotPlaceRow : OpenClaim := { program := "yteceiaaiocdlfaa", sum := "f8771edf98166a1a1d9445332b9ccb2229c17a47fbf78533be3c4cbf600c07c4", func := "loop.example/objectlinker/laws.FnExactSlotPlace", spec := "fnExactSlotPlace", apart := false }
def FnExactSlotPlaceSaid : Prop := fnExactSlotPlaceRow.holds Try.pinned (OpenSpec.ofChange fnExactSlotPlaceSpec)

/-- ITS FALSE NEIGHBOUR: 'it returns false'. Refute it at one input. -/
def fnExactSlotPlaceWrong : ChangeSpec := { name := "fnExactSlotPlace", fn := fun _ => fun
  | [d1, d2, d3] => { results := [.lit (.bool false)], args := [d1, d2, d3] }
  | _ => none }
def FnExactSlotPlaceWrongFalsely : Prop := fnExactSlotPlaceRow.holds Try.pinned (OpenSpec.ofChange fnExactSlotPlaceWrong)

/-- 'laws.FnSlotPlace': WHATEVER THE INPUT: true; the input reads as it did. -/
def fnSlotPlaceSpec : ChangeSpec := { name := "fnSlotPlace", fn := fun _ => fun
  | [d] => { results := [.lit (.bool true)], args := [d] }
  | _ => none }
def fnSlotPlaceRow : OpenClaim := { program := "yteceiaaiocdlfaa", sum := "f8771edf98166a1a1d9445332b9ccb2229c17a47fbf78533be3c4cbf600c07c4", func := "loop.example/objectlinker/laws.FnSlotPlace", spec := "fnSlotPlace", apart := false }
def FnSlotPlaceSaid : Prop := fnSlotPlaceRow.holds Try.pinned (OpenSpec.ofChange fnSlotPlaceSpec)

/-- ITS FALSE NEIGHBOUR: 'it returns false'. Refute it at one input. -/
def fnSlotPlaceWrong : ChangeSpec := { name := "fnSlotPlace", fn := fun _ => fun
  | [d] => { results := [.lit (.bool false)], args := [d] }
  | _ => none }
def FnSlotPlaceWrongFalsely : Prop := fnSlotPlaceRow.holds Try.pinned (OpenSpec.ofChange fnSlotPlaceWrong)

/-- 'laws.FnExactFillSlots': WHATEVER THE INPUT: true; the input reads as it did. -/
def fnExactFillSlotsSpec : ChangeSpec := { name := "fnExactFillSlots", fn := fun _ => fun
  | [d1, d2] => { results := [.lit (.bool true)], args := [d1, d2] }
  | _ => none }
def fnExactFillSlotsRow : OpenClaim := { program := "yteceiaaiocdlfaa", sum := "f8771edf98166a1a1d9445332b9ccb2229c17a47fbf78533be3c4cbf600c07c4", func := "loop.example/objectlinker/laws.FnExactFillSlots", spec := "fnExactFillSlots", apart := false }
def FnExactFillSlotsSaid : Prop := fnExactFillSlotsRow.holds Try.pinned (OpenSpec.ofChange fnExactFillSlotsSpec)

/-- ITS FALSE NEIGHBOUR: 'it returns false'. Refute it at one input. -/
def fnExactFillSlotsWrong : ChangeSpec := { name := "fnExactFillSlots", fn := fun _ => fun
  | [d1, d2] => { results := [.lit (.bool false)], args := [d1, d2] }
  | _ => none }
def FnExactFillSlotsWrongFalsely : Prop := fnExactFillSlotsRow.holds Try.pinned (OpenSpec.ofChange fnExactFillSlotsWrong)

/-- 'laws.FnFillSlots': WHATEVER THE INPUT: true; the input reads as it did. -/
def fnFillSlotsSpec : ChangeSpec := { name := "fnFillSlots", fn := fun _ => fun
  | [d] => { results := [.lit (.bool true)], args := [d] }
  | _ => none }
def fnFillSlotsRow : OpenClaim := { program := "yteceiaaiocdlfaa", sum := "f8771edf98166a1a1d9445332b9ccb2229c17a47fbf78533be3c4cbf600c07c4", func := "loop.example/objectlinker/laws.FnFillSlots", spec := "fnFillSlots", apart := false }
def FnFillSlotsSaid : Prop := fnFillSlotsRow.holds Try.pinned (OpenSpec.ofChange fnFillSlotsSpec)

/-- ITS FALSE NEIGHBOUR: 'it returns false'. Refute it at one input. -/
def fnFillSlotsWrong : ChangeSpec := { name := "fnFillSlots", fn := fun _ => fun
  | [d] => { results := [.lit (.bool false)], args := [d] }
  | _ => none }
def FnFillSlotsWrongFalsely : Prop := fnFillSlotsRow.holds Try.pinned (OpenSpec.ofChange fnFillSlotsWrong)

/-- 'laws.FnExactSlotsOf': WHATEVER THE INPUT: true; the input reads as it did. -/
def fnExactSlotsOfSpec : ChangeSpec := { name := "fnExactSlotsOf", fn := fun _ => fun
  | [d] => { results := [.lit (.bool true)], args := [d] }
  | _ => none }
def fnExactSlotsOfRow : OpenClaim := { program := "yteceiaaiocdlfaa", sum := "f8771edf98166a1a1d9445332b9ccb2229c17a47fbf78533be3c4cbf600c07c4", func := "loop.example/objectlinker/laws.FnExactSlotsOf", spec := "fnExactSlotsOf", unfollowed := true, recurses := true, apart := false }
def FnExactSlotsOfSaid : Prop := fnExactSlotsOfRow.holds Try.pinned (OpenSpec.ofChange fnExactSlotsOfSpec)

/-- ITS FALSE NEIGHBOUR: 'it returns false'. Refute it at one input. -/
def fnExactSlotsOfWrong : ChangeSpec := { name := "fnExactSlotsOf", fn := fun _ => fun
  | [d] => { results := [.lit (.bool false)], args := [d] }
  | _ => none }
def FnExactSlotsOfWrongFalsely : Prop := fnExactSlotsOfRow.holds Try.pinned (OpenSpec.ofChange fnExactSlotsOfWrong)

/-- 'laws.FnSlotsOf': WHATEVER THE INPUT: true; the input reads as it did. -/
def fnSlotsOfSpec : ChangeSpec := { name := "fnSlotsOf", fn := fun _ => fun
  | [d] => { results := [.lit (.bool true)], args := [d] }
  | _ => none }
def fnSlotsOfRow : OpenClaim := { program := "yteceiaaiocdlfaa", sum := "f8771edf98166a1a1d9445332b9ccb2229c17a47fbf78533be3c4cbf600c07c4", func := "loop.example/objectlinker/laws.FnSlotsOf", spec := "fnSlotsOf", unfollowed := true, recurses := true, apart := false }
def FnSlotsOfSaid : Prop := fnSlotsOfRow.holds Try.pinned (OpenSpec.ofChange fnSlotsOfSpec)

/-- ITS FALSE NEIGHBOUR: 'it returns false'. Refute it at one input. -/
def fnSlotsOfWrong : ChangeSpec := { name := "fnSlotsOf", fn := fun _ => fun
  | [d] => { results := [.lit (.bool false)], args := [d] }
  | _ => none }
def FnSlotsOfWrongFalsely : Prop := fnSlotsOfRow.holds Try.pinned (OpenSpec.ofChange fnSlotsOfWrong)

/-- 'laws.FnExactSqueezeBytes': WHATEVER THE INPUT: true; the input reads as it did. -/
def fnExactSqueezeBytesSpec : ChangeSpec := { name := "fnExactSqueezeBytes", fn := fun _ => fun
  | [d] => { results := [.lit (.bool true)], args := [d] }
  | _ => none }
def fnExactSqueezeBytesRow : OpenClaim := { program := "yteceiaaiocdlfaa", sum := "f8771edf98166a1a1d9445332b9ccb2229c17a47fbf78533be3c4cbf600c07c4", func := "loop.example/objectlinker/laws.FnExactSqueezeBytes", spec := "fnExactSqueezeBytes", apart := false }
def FnExactSqueezeBytesSaid : Prop := fnExactSqueezeBytesRow.holds Try.pinned (OpenSpec.ofChange fnExactSqueezeBytesSpec)

/-- ITS FALSE NEIGHBOUR: 'it returns false'. Refute it at one input. -/
def fnExactSqueezeBytesWrong : ChangeSpec := { name := "fnExactSqueezeBytes", fn := fun _ => fun
  | [d] => { results := [.lit (.bool false)], args := [d] }
  | _ => none }
def FnExactSqueezeBytesWrongFalsely : Prop := fnExactSqueezeBytesRow.holds Try.pinned (OpenSpec.ofChange fnExactSqueezeBytesWrong)

/-- 'laws.FnSqueezeBytes': WHATEVER THE INPUT: true; the input reads as it did. -/
def fnSqueezeBytesSpec : ChangeSpec := { name := "fnSqueezeBytes", fn := fun _ => fun
  | [d] => { results := [.lit (.bool true)], args := [d] }
  | _ => none }
def fnSqueezeBytesRow : OpenClaim := { program := "yteceiaaiocdlfaa", sum := "f8771edf98166a1a1d9445332b9ccb2229c17a47fbf78533be3c4cbf600c07c4", func := "loop.example/objectlinker/laws.FnSqueezeBytes", spec := "fnSqueezeBytes", inPlace := ["internal/bytealg.MakeNoZero"], apart := false }
def FnSqueezeBytesSaid : Prop := fnSqueezeBytesRow.holds Try.pinned (OpenSpec.ofChange fnSqueezeBytesSpec)

/-- ITS FALSE NEIGHBOUR: 'it returns false'. Refute it at one input. -/
def fnSqueezeBytesWrong : ChangeSpec := { name := "fnSqueezeBytes", fn := fun _ => fun
  | [d] => { results := [.lit (.bool false)], args := [d] }
  | _ => none }
def FnSqueezeBytesWrongFalsely : Prop := fnSqueezeBytesRow.holds Try.pinned (OpenSpec.ofChange fnSqueezeBytesWrong)

/-- 'laws.FnExactLooseBytes': WHATEVER THE INPUT: true; the input reads as it did. -/
def fnExactLooseBytesSpec : ChangeSpec := { name := "fnExactLooseBytes", fn := fun _ => fun
  | [d] => { results := [.lit (.bool true)], args := [d] }
  | _ => none }
def fnExactLooseBytesRow : OpenClaim := { program := "yteceiaaiocdlfaa", sum := "f8771edf98166a1a1d9445332b9ccb2229c17a47fbf78533be3c4cbf600c07c4", func := "loop.example/objectlinker/laws.FnExactLooseBytes", spec := "fnExactLooseBytes", inPlace := ["internal/bytealg.MakeNoZero"], apart := false }
def FnExactLooseBytesSaid : Prop := fnExactLooseBytesRow.holds Try.pinned (OpenSpec.ofChange fnExactLooseBytesSpec)

/-- ITS FALSE NEIGHBOUR: 'it returns false'. Refute it at one input. -/
def fnExactLooseBytesWrong : ChangeSpec := { name := "fnExactLooseBytes", fn := fun _ => fun
  | [d] => { results := [.lit (.bool false)], args := [d] }
  | _ => none }
def FnExactLooseBytesWrongFalsely : Prop := fnExactLooseBytesRow.holds Try.pinned (OpenSpec.ofChange fnExactLooseBytesWrong)

/-- 'laws.FnLooseBytes': WHATEVER THE INPUT: true; the input reads as it did. -/
def fnLooseBytesSpec : ChangeSpec := { name := "fnLooseBytes", fn := fun _ => fun
  | [d] => { results := [.lit (.bool true)], args := [d] }
  | _ => none }
def fnLooseBytesRow : OpenClaim := { program := "yteceiaaiocdlfaa", sum := "f8771edf98166a1a1d9445332b9ccb2229c17a47fbf78533be3c4cbf600c07c4", func := "loop.example/objectlinker/laws.FnLooseBytes", spec := "fnLooseBytes", inPlace := ["internal/bytealg.MakeNoZero"], apart := false }
def FnLooseBytesSaid : Prop := fnLooseBytesRow.holds Try.pinned (OpenSpec.ofChange fnLooseBytesSpec)

/-- ITS FALSE NEIGHBOUR: 'it returns false'. Refute it at one input. -/
def fnLooseBytesWrong : ChangeSpec := { name := "fnLooseBytes", fn := fun _ => fun
  | [d] => { results := [.lit (.bool false)], args := [d] }
  | _ => none }
def FnLooseBytesWrongFalsely : Prop := fnLooseBytesRow.holds Try.pinned (OpenSpec.ofChange fnLooseBytesWrong)

/- THE SECOND FORM. 'bulk': how many values and letters a reading holds, each counted each time it is reached (what is shared counts as often as it is met; a slice's spare places count too). A statement '..UptoSaid' is the law's where the arguments, and the package variables that the reading takes, are together of bulk at most 1048576: NARROWER than '..Said'. Prove '..Said' where nothing that the law and all that it calls make is longer than what came in: it says more and counts as full. Else prove '..UptoSaid'. A law counts once. -/
mutual
def uptoBulk {H : Type} : DataW H → Nat
  | .lit (.string bytes) => bytes.length + 1
  | .lit _ => 1
  | .nil => 1
  | .ptr d => uptoBulk d + 1
  | .slice elems spare => uptoBulkAll elems + uptoBulkAll spare + 1
  | .agg parts => uptoBulkAll parts + 1
  | .iface _ d => uptoBulk d + 1
  | .map entries => uptoBulkEntries entries + 1
  | .held _ => 1
def uptoBulkAll {H : Type} : List (DataW H) → Nat
  | [] => 0
  | d :: r => uptoBulk d + uptoBulkAll r
def uptoBulkEntries {H : Type} : List (Lit × DataW H) → Nat
  | [] => 0
  | x :: r => uptoBulkEntry x + uptoBulkEntries r
def uptoBulkEntry {H : Type} : Lit × DataW H → Nat
  | (.string bytes, d) => bytes.length + uptoBulk d + 1
  | (_, d) => uptoBulk d + 1
 end
def uptoSmall : (H : Type) → List (DataW H) → Bool := fun _ ds => decide (uptoBulkAll ds ≤ 1048576)
def OpenSpec.upto (s : _root_.Go.ChangeSpec) : _root_.Go.OpenSpec := { _root_.Go.OpenSpec.ofChange s with cond := some uptoSmall }

/-- 'laws.FnExactSlotPlace', WHERE WHAT IT READS IS OF BULK AT MOST 1048576: true; the input reads as it did. -/
def fnExactSlotPlaceUptoRow : OpenClaim := { program := "yteceiaaiocdlfaa", sum := "f8771edf98166a1a1d9445332b9ccb2229c17a47fbf78533be3c4cbf600c07c4", func := "loop.example/objectlinker/laws.FnExactSlotPlace", spec := "fnExactSlotPlace", apart := false, narrowed := true }
def FnExactSlotPlaceUptoSaid : Prop := fnExactSlotPlaceUptoRow.holds Try.pinned (OpenSpec.upto fnExactSlotPlaceSpec)

/-- 'laws.FnSlotPlace', WHERE WHAT IT READS IS OF BULK AT MOST 1048576: true; the input reads as it did. -/
def fnSlotPlaceUptoRow : OpenClaim := { program := "yteceiaaiocdlfaa", sum := "f8771edf98166a1a1d9445332b9ccb2229c17a47fbf78533be3c4cbf600c07c4", func := "loop.example/objectlinker/laws.FnSlotPlace", spec := "fnSlotPlace", apart := false, narrowed := true }
def FnSlotPlaceUptoSaid : Prop := fnSlotPlaceUptoRow.holds Try.pinned (OpenSpec.upto fnSlotPlaceSpec)

/-- 'laws.FnExactFillSlots', WHERE WHAT IT READS IS OF BULK AT MOST 1048576: true; the input reads as it did. -/
def fnExactFillSlotsUptoRow : OpenClaim := { program := "yteceiaaiocdlfaa", sum := "f8771edf98166a1a1d9445332b9ccb2229c17a47fbf78533be3c4cbf600c07c4", func := "loop.example/objectlinker/laws.FnExactFillSlots", spec := "fnExactFillSlots", apart := false, narrowed := true }
def FnExactFillSlotsUptoSaid : Prop := fnExactFillSlotsUptoRow.holds Try.pinned (OpenSpec.upto fnExactFillSlotsSpec)

/-- 'laws.FnFillSlots', WHERE WHAT IT READS IS OF BULK AT MOST 1048576: true; the input reads as it did. -/
def fnFillSlotsUptoRow : OpenClaim := { program := "yteceiaaiocdlfaa", sum := "f8771edf98166a1a1d9445332b9ccb2229c17a47fbf78533be3c4cbf600c07c4", func := "loop.example/objectlinker/laws.FnFillSlots", spec := "fnFillSlots", apart := false, narrowed := true }
def FnFillSlotsUptoSaid : Prop := fnFillSlotsUptoRow.holds Try.pinned (OpenSpec.upto fnFillSlotsSpec)

/-- 'laws.FnExactSlotsOf', WHERE WHAT IT READS IS OF BULK AT MOST 1048576: true; the input reads as it did. -/
def fnExactSlotsOfUptoRow : OpenClaim := { program := "yteceiaaiocdlfaa", sum := "f8771edf98166a1a1d9445332b9ccb2229c17a47fbf78533be3c4cbf600c07c4", func := "loop.example/objectlinker/laws.FnExactSlotsOf", spec := "fnExactSlotsOf", unfollowed := true, recurses := true, apart := false, narrowed := true }
def FnExactSlotsOfUptoSaid : Prop := fnExactSlotsOfUptoRow.holds Try.pinned (OpenSpec.upto fnExactSlotsOfSpec)

/-- 'laws.FnSlotsOf', WHERE WHAT IT READS IS OF BULK AT MOST 1048576: true; the input reads as it did. -/
def fnSlotsOfUptoRow : OpenClaim := { program := "yteceiaaiocdlfaa", sum := "f8771edf98166a1a1d9445332b9ccb2229c17a47fbf78533be3c4cbf600c07c4", func := "loop.example/objectlinker/laws.FnSlotsOf", spec := "fnSlotsOf", unfollowed := true, recurses := true, apart := false, narrowed := true }
def FnSlotsOfUptoSaid : Prop := fnSlotsOfUptoRow.holds Try.pinned (OpenSpec.upto fnSlotsOfSpec)

/-- 'laws.FnExactSqueezeBytes', WHERE WHAT IT READS IS OF BULK AT MOST 1048576: true; the input reads as it did. -/
def fnExactSqueezeBytesUptoRow : OpenClaim := { program := "yteceiaaiocdlfaa", sum := "f8771edf98166a1a1d9445332b9ccb2229c17a47fbf78533be3c4cbf600c07c4", func := "loop.example/objectlinker/laws.FnExactSqueezeBytes", spec := "fnExactSqueezeBytes", apart := false, narrowed := true }
def FnExactSqueezeBytesUptoSaid : Prop := fnExactSqueezeBytesUptoRow.holds Try.pinned (OpenSpec.upto fnExactSqueezeBytesSpec)

/-- 'laws.FnSqueezeBytes', WHERE WHAT IT READS IS OF BULK AT MOST 1048576: true; the input reads as it did. -/
def fnSqueezeBytesUptoRow : OpenClaim := { program := "yteceiaaiocdlfaa", sum := "f8771edf98166a1a1d9445332b9ccb2229c17a47fbf78533be3c4cbf600c07c4", func := "loop.example/objectlinker/laws.FnSqueezeBytes", spec := "fnSqueezeBytes", inPlace := ["internal/bytealg.MakeNoZero"], apart := false, narrowed := true }
def FnSqueezeBytesUptoSaid : Prop := fnSqueezeBytesUptoRow.holds Try.pinned (OpenSpec.upto fnSqueezeBytesSpec)

/-- 'laws.FnExactLooseBytes', WHERE WHAT IT READS IS OF BULK AT MOST 1048576: true; the input reads as it did. -/
def fnExactLooseBytesUptoRow : OpenClaim := { program := "yteceiaaiocdlfaa", sum := "f8771edf98166a1a1d9445332b9ccb2229c17a47fbf78533be3c4cbf600c07c4", func := "loop.example/objectlinker/laws.FnExactLooseBytes", spec := "fnExactLooseBytes", inPlace := ["internal/bytealg.MakeNoZero"], apart := false, narrowed := true }
def FnExactLooseBytesUptoSaid : Prop := fnExactLooseBytesUptoRow.holds Try.pinned (OpenSpec.upto fnExactLooseBytesSpec)

/-- 'laws.FnLooseBytes', WHERE WHAT IT READS IS OF BULK AT MOST 1048576: true; the input reads as it did. -/
def fnLooseBytesUptoRow : OpenClaim := { program := "yteceiaaiocdlfaa", sum := "f8771edf98166a1a1d9445332b9ccb2229c17a47fbf78533be3c4cbf600c07c4", func := "loop.example/objectlinker/laws.FnLooseBytes", spec := "fnLooseBytes", inPlace := ["internal/bytealg.MakeNoZero"], apart := false, narrowed := true }
def FnLooseBytesUptoSaid : Prop := fnLooseBytesUptoRow.holds Try.pinned (OpenSpec.upto fnLooseBytesSpec)

end Rows
end Go.Proofs.Yteceiaaiocdlfaa
