/-
  No cell of these rows narrows 'for every input' (looked for: loops, veiled, ifaces, maps, wideKeys, modest, calm, conditions, laid).
  DERIVED. THE GIVEN ROWS OF THIS SEAT. 6 by the template 'for every input the law returns true; each argument reads behind the call as it read before'; 0 by the template 'total and deterministic' (their statements: YtmmenedjmdcbcaaTotals.lean).
  GIVEN WITH THE SEED: the statements are not yours to turn. If you find one false, say at which input.
  Laid BY PROGRAM, IN A SANDBOX (cutbox-rows.mjs): the forced cells as the released guide's own fill.sh prints them over the translation 586aebd1d7459a85… (all of the seat's roots in one cut). By AI agents, Wed Nov 11 2026. No macro, syntax, notation, axiom, sorry.
-/
import Derived.Test.YtmmenedjmdcbcaaChecked
import GoSem.Claim
import GoSem.ClaimJoined
import GoSem.ClaimMapViews
import Derived.JoinedTies
import Derived.KernelRfl
namespace Go.Proofs.Ytmmenedjmdcbcaa
/- THE CELL 'sum', in the pinned program and in every row, IS THE sha256 OF THE DUMP (.gsa) THAT YtmmenedjmdcbcaaProg.lean LOADS. Nothing in Lean hashes anything: it is a label: what it is worth is what the hold of that sum in a sandbox is worth. -/
noncomputable def Try.pinned : Pinned := { name := "ytmmenedjmdcbcaa", sum := "586aebd1d7459a856da71633811e38ee4701f6989057e1dcb40440a159203215", checked := Try.checked }
namespace Rows
def none {H : Type} : Left H := { results := [], args := [] }

/-- 'laws.FnSectionsAlike': WHATEVER THE INPUT: true; the input reads as it did. -/
def fnSectionsAlikeSpec : ChangeSpec := { name := "fnSectionsAlike", fn := fun _ => fun
  | [d] => { results := [.lit (.bool true)], args := [d] }
  | _ => none }
def fnSectionsAlikeRow : OpenClaim := { program := "ytmmenedjmdcbcaa", sum := "586aebd1d7459a856da71633811e38ee4701f6989057e1dcb40440a159203215", func := "loop.example/objectlinker/laws.FnSectionsAlike", spec := "fnSectionsAlike", unfollowed := true, recurses := true, apart := false }
def FnSectionsAlikeSaid : Prop := fnSectionsAlikeRow.holds Try.pinned (OpenSpec.ofChange fnSectionsAlikeSpec)

/-- ITS FALSE NEIGHBOUR: 'it returns false'. Refute it at one input. -/
def fnSectionsAlikeWrong : ChangeSpec := { name := "fnSectionsAlike", fn := fun _ => fun
  | [d] => { results := [.lit (.bool false)], args := [d] }
  | _ => none }
def FnSectionsAlikeWrongFalsely : Prop := fnSectionsAlikeRow.holds Try.pinned (OpenSpec.ofChange fnSectionsAlikeWrong)

/-- 'laws.FnExactSectionsAlike': WHATEVER THE INPUT: true; the input reads as it did. -/
def fnExactSectionsAlikeSpec : ChangeSpec := { name := "fnExactSectionsAlike", fn := fun _ => fun
  | [d1, d2, d3] => { results := [.lit (.bool true)], args := [d1, d2, d3] }
  | _ => none }
def fnExactSectionsAlikeRow : OpenClaim := { program := "ytmmenedjmdcbcaa", sum := "586aebd1d7459a856da71633811e38ee4701f6989057e1dcb40440a159203215", func := "loop.example/objectlinker/laws.FnExactSectionsAlike", spec := "fnExactSectionsAlike", unfollowed := true, recurses := true, apart := false }
def FnExactSectionsAlikeSaid : Prop := fnExactSectionsAlikeRow.holds Try.pinned (OpenSpec.ofChange fnExactSectionsAlikeSpec)

/-- ITS FALSE NEIGHBOUR: 'it returns false'. Refute it at one input. -/
def fnExactSectionsAlikeWrong : ChangeSpec := { name := "fnExactSectionsAlike", fn := fun _ => fun
  | [d1, d2, d3] => { results := [.lit (.bool false)], args := [d1, d2, d3] }
  | _ => none }
def FnExactSectionsAlikeWrongFalsely : Prop := fnExactSectionsAlikeRow.holds Try.pinned (OpenSpec.ofChange fnExactSectionsAlikeWrong)

/-- 'laws.FnTwinsOf': WHATEVER THE INPUT: true; the input reads as it did. -/
def fnTwinsOfSpec : ChangeSpec := { name := "fnTwinsOf", fn := fun _ => fun
  | [d] => { results := [.lit (.bool true)], args := [d] }
  | _ => none }
def fnTwinsOfRow : OpenClaim := { program := "ytmmenedjmdcbcaa", sum := "586aebd1d7459a856da71633811e38ee4701f6989057e1dcb40440a159203215", func := "loop.example/objectlinker/laws.FnTwinsOf", spec := "fnTwinsOf", unfollowed := true, recurses := true, apart := false }
def FnTwinsOfSaid : Prop := fnTwinsOfRow.holds Try.pinned (OpenSpec.ofChange fnTwinsOfSpec)

/-- ITS FALSE NEIGHBOUR: 'it returns false'. Refute it at one input. -/
def fnTwinsOfWrong : ChangeSpec := { name := "fnTwinsOf", fn := fun _ => fun
  | [d] => { results := [.lit (.bool false)], args := [d] }
  | _ => none }
def FnTwinsOfWrongFalsely : Prop := fnTwinsOfRow.holds Try.pinned (OpenSpec.ofChange fnTwinsOfWrong)

/-- 'laws.FnExactTwinsOf': WHATEVER THE INPUT: true; the input reads as it did. -/
def fnExactTwinsOfSpec : ChangeSpec := { name := "fnExactTwinsOf", fn := fun _ => fun
  | [d] => { results := [.lit (.bool true)], args := [d] }
  | _ => none }
def fnExactTwinsOfRow : OpenClaim := { program := "ytmmenedjmdcbcaa", sum := "586aebd1d7459a856da71633811e38ee4701f6989057e1dcb40440a159203215", func := "loop.example/objectlinker/laws.FnExactTwinsOf", spec := "fnExactTwinsOf", unfollowed := true, recurses := true, apart := false }
def FnExactTwinsOfSaid : Prop := fnExactTwinsOfRow.holds Try.pinned (OpenSpec.ofChange fnExactTwinsOfSpec)

/-- ITS FALSE NEIGHBOUR: 'it returns false'. Refute it at one input. -/
def fnExactTwinsOfWrong : ChangeSpec := { name := "fnExactTwinsOf", fn := fun _ => fun
  | [d] => { results := [.lit (.bool false)], args := [d] }
  | _ => none }
def FnExactTwinsOfWrongFalsely : Prop := fnExactTwinsOfRow.holds Try.pinned (OpenSpec.ofChange fnExactTwinsOfWrong)

/-- 'laws.FnTwinBytes': WHATEVER THE INPUT: true; the input reads as it did. -/
def fnTwinBytesSpec : ChangeSpec := { name := "fnTwinBytes", fn := fun _ => fun
  | [d] => { results := [.lit (.bool true)], args := [d] }
  | _ => none }
def fnTwinBytesRow : OpenClaim := { program := "ytmmenedjmdcbcaa", sum := "586aebd1d7459a856da71633811e38ee4701f6989057e1dcb40440a159203215", func := "loop.example/objectlinker/laws.FnTwinBytes", spec := "fnTwinBytes", unfollowed := true, recurses := true, apart := false }
def FnTwinBytesSaid : Prop := fnTwinBytesRow.holds Try.pinned (OpenSpec.ofChange fnTwinBytesSpec)

/-- ITS FALSE NEIGHBOUR: 'it returns false'. Refute it at one input. -/
def fnTwinBytesWrong : ChangeSpec := { name := "fnTwinBytes", fn := fun _ => fun
  | [d] => { results := [.lit (.bool false)], args := [d] }
  | _ => none }
def FnTwinBytesWrongFalsely : Prop := fnTwinBytesRow.holds Try.pinned (OpenSpec.ofChange fnTwinBytesWrong)

/-- 'laws.FnExactTwinBytes': WHATEVER THE INPUT: true; the input reads as it did. -/
def fnExactTwinBytesSpec : ChangeSpec := { name := "fnExactTwinBytes", fn := fun _ => fun
  | [d] => { results := [.lit (.bool true)], args := [d] }
  | _ => none }
def fnExactTwinBytesRow : OpenClaim := { program := "ytmmenedjmdcbcaa", sum := "586aebd1d7459a856da71633811e38ee4701f6989057e1dcb40440a159203215", func := "loop.example/objectlinker/laws.FnExactTwinBytes", spec := "fnExactTwinBytes", unfollowed := true, recurses := true, apart := false }
def FnExactTwinBytesSaid : Prop := fnExactTwinBytesRow.holds Try.pinned (OpenSpec.ofChange fnExactTwinBytesSpec)

/-- ITS FALSE NEIGHBOUR: 'it returns false'. Refute it at one input. -/
def fnExactTwinBytesWrong : ChangeSpec := { name := "fnExactTwinBytes", fn := fun _ => fun
  | [d] => { results := [.lit (.bool false)], args := [d] }
  | _ => none }
def FnExactTwinBytesWrongFalsely : Prop := fnExactTwinBytesRow.holds Try.pinned (OpenSpec.ofChange fnExactTwinBytesWrong)

/- THE SECOND FORM. 'bulk': how many values and letters a reading holds, each counted each time it is reached (what is shared counts as often as it is met; a slice's spare places count too). A statement '..UptoSaid' is the law's where the arguments, and the package variables that the reading takes, are together of bulk at most 1048576: NARROWER than '..Said'. Prove '..Said' where nothing that the law and all that it calls make is longer than what came in: it says more and counts as full. Else prove '..UptoSaid'. A law counts once. -/
mutual
def uptoBulk {H : Type} : DataW H → Nat
  | .lit (.string bytes) => bytes.length + 1
  | .lit _ => 1
  | .nil => 1
  | .ptr d => uptoBulk d + 1
  | .slice elems spare => uptoBulkAll elems + uptoBulkAll spare + 1
  | .agg parts => uptoBulkAll parts + 1
  | .iface _ d => uptoBulk d + 1
  | .map entries => uptoBulkEntries entries + 1
  | .held _ => 1
def uptoBulkAll {H : Type} : List (DataW H) → Nat
  | [] => 0
  | d :: r => uptoBulk d + uptoBulkAll r
def uptoBulkEntries {H : Type} : List (Lit × DataW H) → Nat
  | [] => 0
  | x :: r => uptoBulkEntry x + uptoBulkEntries r
def uptoBulkEntry {H : Type} : Lit × DataW H → Nat
  | (.string bytes, d) => bytes.length + uptoBulk d + 1
  | (_, d) => uptoBulk d + 1
 end
def uptoSmall : (H : Type) → List (DataW H) → Bool := fun _ ds => decide (uptoBulkAll ds ≤ 1048576)
def OpenSpec.upto (s : _root_.Go.ChangeSpec) : _root_.Go.OpenSpec := { _root_.Go.OpenSpec.ofChange s with cond := some uptoSmall }

/-- 'laws.FnSectionsAlike', WHERE WHAT IT READS IS OF BULK AT MOST 1048576: true; the input reads as it did. -/
def fnSectionsAlikeUptoRow : OpenClaim := { program := "ytmmenedjmdcbcaa", sum := "586aebd1d7459a856da71633811e38ee4701f6989057e1dcb40440a159203215", func := "loop.example/objectlinker/laws.FnSectionsAlike", spec := "fnSectionsAlike", unfollowed := true, recurses := true, apart := false, narrowed := true }
def FnSectionsAlikeUptoSaid : Prop := fnSectionsAlikeUptoRow.holds Try.pinned (OpenSpec.upto fnSectionsAlikeSpec)

/-- 'laws.FnExactSectionsAlike', WHERE WHAT IT READS IS OF BULK AT MOST 1048576: true; the input reads as it did. -/
def fnExactSectionsAlikeUptoRow : OpenClaim := { program := "ytmmenedjmdcbcaa", sum := "586aebd1d7459a856da71633811e38ee4701f6989057e1dcb40440a159203215", func := "loop.example/objectlinker/laws.FnExactSectionsAlike", spec := "fnExactSectionsAlike", unfollowed := true, recurses := true, apart := false, narrowed := true }
def FnExactSectionsAlikeUptoSaid : Prop := fnExactSectionsAlikeUptoRow.holds Try.pinned (OpenSpec.upto fnExactSectionsAlikeSpec)

/-- 'laws.FnTwinsOf', WHERE WHAT IT READS IS OF BULK AT MOST 1048576: true; the input reads as it did. -/
def fnTwinsOfUptoRow : OpenClaim := { program := "ytmmenedjmdcbcaa", sum := "586aebd1d7459a856da71633811e38ee4701f6989057e1dcb40440a159203215", func := "loop.example/objectlinker/laws.FnTwinsOf", spec := "fnTwinsOf", unfollowed := true, recurses := true, apart := false, narrowed := true }
def FnTwinsOfUptoSaid : Prop := fnTwinsOfUptoRow.holds Try.pinned (OpenSpec.upto fnTwinsOfSpec)

/-- 'laws.FnExactTwinsOf', WHERE WHAT IT READS IS OF BULK AT MOST 1048576: true; the input reads as it did. -/
def fnExactTwinsOfUptoRow : OpenClaim := { program := "ytmmenedjmdcbcaa", sum := "586aebd1d7459a856da71633811e38ee4701f6989057e1dcb40440a159203215", func := "loop.example/objectlinker/laws.FnExactTwinsOf", spec := "fnExactTwinsOf", unfollowed := true, recurses := true, apart := false, narrowed := true }
def FnExactTwinsOfUptoSaid : Prop := fnExactTwinsOfUptoRow.holds Try.pinned (OpenSpec.upto fnExactTwinsOfSpec)

/-- 'laws.FnTwinBytes', WHERE WHAT IT READS IS OF BULK AT MOST 1048576: true; the input reads as it did. -/
def fnTwinBytesUptoRow : OpenClaim := { program := "ytmmenedjmdcbcaa", sum := "586aebd1d7459a856da71633811e38ee4701f6989057e1dcb40440a159203215", func := "loop.example/objectlinker/laws.FnTwinBytes", spec := "fnTwinBytes", unfollowed := true, recurses := true, apart := false, narrowed := true }
def FnTwinBytesUptoSaid : Prop := fnTwinBytesUptoRow.holds Try.pinned (OpenSpec.upto fnTwinBytesSpec)

/-- 'laws.FnExactTwinBytes', WHERE WHAT IT READS IS OF BULK AT MOST 1048576: true; the input reads as it did. -/
def fnExactTwinBytesUptoRow : OpenClaim := { program := "ytmmenedjmdcbcaa", sum := "586aebd1d7459a856da71633811e38ee4701f6989057e1dcb40440a159203215", func := "loop.example/objectlinker/laws.FnExactTwinBytes", spec := "fnExactTwinBytes", unfollowed := true, recurses := true, apart := false, narrowed := true }
def FnExactTwinBytesUptoSaid : Prop := fnExactTwinBytesUptoRow.holds Try.pinned (OpenSpec.upto fnExactTwinBytesSpec)

end Rows
end Go.Proofs.Ytmmenedjmdcbcaa
