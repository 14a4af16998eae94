/-
  DERIVED. GIVEN WITH THE SEED: THE CARDS: each row of YthjjbgpeajeneaaDoorRows.lean that lists a variable, with what it lists TIED to the program's text (the seventh form; the later family's looks); each row that meets fmt, with fmt's text TOLD by the authors' own Lean function (tested against real Go, not proved from fmt's source: count such statements apart). THE CARD IS WHAT COUNTS. Prove the row's statement (the work); the ties are given (YthjjbgpeajeneaaDoorTie.lean); close each card by the builder's one call (the guide's Derived/Test/ToyasCard.lean, 'card_holds'). Laid BY PROGRAM, IN A SANDBOX (cutbox-door.mjs). By AI agents, Wed Nov 11 2026. No macro, syntax, notation, axiom, sorry.
-/
import Derived.Test.YthjjbgpeajeneaaDoorRows
import GoSem.ClaimSeven
namespace Go.Proofs.YthjjbgpeajeneaaDoor
namespace Rows

/-- THE TIED CARD OF 'laws.FnExactScriptText'. -/
def fnExactScriptTextCard : Claim7 := { stood := { row := fnExactScriptTextRow, standIns := [], harness := (true, "3f1a82a27287f083aa748a85c3200d7a0ba4fc34d5ba21a64f8c1b11b6f0fc0e"), looks := true }, kinds := [], alts := [], laidByText := true, laidKinds := [.data, .data, .data, .widerDeep], laidTests := true, laidLooks := .later }
def FnExactScriptTextCardSaid : Prop := Claim7.holds Tryd.pinned (.plain (OpenSpec.ofChange fnExactScriptTextSpec)) fnExactScriptTextCard

/-- THE TIED CARD OF 'laws.FnScriptText'. -/
def fnScriptTextCard : Claim7 := { stood := { row := fnScriptTextRow, standIns := [], harness := (true, "3f1a82a27287f083aa748a85c3200d7a0ba4fc34d5ba21a64f8c1b11b6f0fc0e"), looks := true }, kinds := [], alts := [], laidByText := true, laidKinds := [.data, .data, .data, .data, .sentinel, .sentinel, .widerDeep, .pinned], laidTests := true, laidLooks := .later }
def FnScriptTextCardSaid : Prop := Claim7.holds Tryd.pinned (.plain (OpenSpec.ofChange fnScriptTextSpec)) fnScriptTextCard

/-- THE TIED CARD OF 'laws.FnExactReadScript'. -/
def fnExactReadScriptCard : Claim7 := { stood := { row := fnExactReadScriptRow, standIns := [], harness := (true, "3f1a82a27287f083aa748a85c3200d7a0ba4fc34d5ba21a64f8c1b11b6f0fc0e"), looks := true }, kinds := [], alts := [], laidByText := true, laidKinds := [.data, .data, .data, .data, .sentinel, .sentinel, .widerDeep, .pinned], laidTests := true, laidLooks := .later }
def FnExactReadScriptCardSaid : Prop := Claim7.holds Tryd.pinned (.plain (OpenSpec.ofChange fnExactReadScriptSpec)) fnExactReadScriptCard

/-- THE TIED CARD OF 'laws.FnReadScript'. -/
def fnReadScriptCard : Claim7 := { stood := { row := fnReadScriptRow, standIns := [], harness := (true, "3f1a82a27287f083aa748a85c3200d7a0ba4fc34d5ba21a64f8c1b11b6f0fc0e"), looks := true }, kinds := [], alts := [], laidByText := true, laidKinds := [.data, .data, .data, .data, .sentinel, .sentinel, .widerDeep, .pinned], laidTests := true, laidLooks := .later }
def FnReadScriptCardSaid : Prop := Claim7.holds Tryd.pinned (.plain (OpenSpec.ofChange fnReadScriptSpec)) fnReadScriptCard

/-- THE SECOND FORM's CARD OF 'laws.FnExactScriptText'. -/
def fnExactScriptTextUptoCard : Claim7 := { stood := { row := fnExactScriptTextUptoRow, standIns := [], harness := (true, "3f1a82a27287f083aa748a85c3200d7a0ba4fc34d5ba21a64f8c1b11b6f0fc0e"), looks := true }, kinds := [], alts := [], laidByText := true, laidKinds := [.data, .data, .data, .widerDeep], laidTests := true, laidLooks := .later }
def FnExactScriptTextUptoCardSaid : Prop := Claim7.holds Tryd.pinned (.plain (OpenSpec.upto fnExactScriptTextSpec)) fnExactScriptTextUptoCard

/-- THE SECOND FORM's CARD OF 'laws.FnScriptText'. -/
def fnScriptTextUptoCard : Claim7 := { stood := { row := fnScriptTextUptoRow, standIns := [], harness := (true, "3f1a82a27287f083aa748a85c3200d7a0ba4fc34d5ba21a64f8c1b11b6f0fc0e"), looks := true }, kinds := [], alts := [], laidByText := true, laidKinds := [.data, .data, .data, .data, .sentinel, .sentinel, .widerDeep, .pinned], laidTests := true, laidLooks := .later }
def FnScriptTextUptoCardSaid : Prop := Claim7.holds Tryd.pinned (.plain (OpenSpec.upto fnScriptTextSpec)) fnScriptTextUptoCard

/-- THE SECOND FORM's CARD OF 'laws.FnExactReadScript'. -/
def fnExactReadScriptUptoCard : Claim7 := { stood := { row := fnExactReadScriptUptoRow, standIns := [], harness := (true, "3f1a82a27287f083aa748a85c3200d7a0ba4fc34d5ba21a64f8c1b11b6f0fc0e"), looks := true }, kinds := [], alts := [], laidByText := true, laidKinds := [.data, .data, .data, .data, .sentinel, .sentinel, .widerDeep, .pinned], laidTests := true, laidLooks := .later }
def FnExactReadScriptUptoCardSaid : Prop := Claim7.holds Tryd.pinned (.plain (OpenSpec.upto fnExactReadScriptSpec)) fnExactReadScriptUptoCard

/-- THE SECOND FORM's CARD OF 'laws.FnReadScript'. -/
def fnReadScriptUptoCard : Claim7 := { stood := { row := fnReadScriptUptoRow, standIns := [], harness := (true, "3f1a82a27287f083aa748a85c3200d7a0ba4fc34d5ba21a64f8c1b11b6f0fc0e"), looks := true }, kinds := [], alts := [], laidByText := true, laidKinds := [.data, .data, .data, .data, .sentinel, .sentinel, .widerDeep, .pinned], laidTests := true, laidLooks := .later }
def FnReadScriptUptoCardSaid : Prop := Claim7.holds Tryd.pinned (.plain (OpenSpec.upto fnReadScriptSpec)) fnReadScriptUptoCard
end Rows
end Go.Proofs.YthjjbgpeajeneaaDoor
