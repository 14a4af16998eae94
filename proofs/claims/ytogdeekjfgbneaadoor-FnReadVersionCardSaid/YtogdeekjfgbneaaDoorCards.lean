/-
  DERIVED. GIVEN WITH THE SEED: THE CARDS: each row of YtogdeekjfgbneaaDoorRows.lean that lists a variable, with what it lists TIED to the program's text (the seventh form; the later family's looks); each row that meets fmt, with fmt's text TOLD by the authors' own Lean function (tested against real Go, not proved from fmt's source: count such statements apart). THE CARD IS WHAT COUNTS. Prove the row's statement (the work); the ties are given (YtogdeekjfgbneaaDoorTie.lean); close each card by the builder's one call (the guide's Derived/Test/ToyasCard.lean, 'card_holds'). Laid BY PROGRAM, IN A SANDBOX (cutbox-door.mjs). By AI agents, Wed Nov 11 2026. No macro, syntax, notation, axiom, sorry.
-/
import Derived.Test.YtogdeekjfgbneaaDoorRows
import GoSem.ClaimSeven
namespace Go.Proofs.YtogdeekjfgbneaaDoor
namespace Rows

/-- THE TIED CARD OF 'laws.FnExactVersionText'. -/
def fnExactVersionTextCard : Claim7 := { stood := { row := fnExactVersionTextRow, standIns := [], harness := (true, "952fbd9ce2db240a2e82e1924cc265e66fab2f847705a1d9596b5036dd6552f5"), looks := true }, kinds := [], alts := [], laidByText := true, laidKinds := [.data, .data, .data], laidTests := true, laidLooks := .later }
def FnExactVersionTextCardSaid : Prop := Claim7.holds Tryd.pinned (.plain (OpenSpec.ofChange fnExactVersionTextSpec)) fnExactVersionTextCard

/-- THE TIED CARD OF 'laws.FnVersionText'. -/
def fnVersionTextCard : Claim7 := { stood := { row := fnVersionTextRow, standIns := [], harness := (true, "952fbd9ce2db240a2e82e1924cc265e66fab2f847705a1d9596b5036dd6552f5"), looks := true }, kinds := [], alts := [], laidByText := true, laidKinds := [.data, .data, .data, .sentinel, .sentinel], laidTests := true, laidLooks := .later }
def FnVersionTextCardSaid : Prop := Claim7.holds Tryd.pinned (.plain (OpenSpec.ofChange fnVersionTextSpec)) fnVersionTextCard

/-- THE TIED CARD OF 'laws.FnExactReadVersion'. -/
def fnExactReadVersionCard : Claim7 := { stood := { row := fnExactReadVersionRow, standIns := [], harness := (true, "952fbd9ce2db240a2e82e1924cc265e66fab2f847705a1d9596b5036dd6552f5"), looks := true }, kinds := [], alts := [], laidByText := true, laidKinds := [.data, .data, .data, .sentinel, .sentinel], laidTests := true, laidLooks := .later }
def FnExactReadVersionCardSaid : Prop := Claim7.holds Tryd.pinned (.plain (OpenSpec.ofChange fnExactReadVersionSpec)) fnExactReadVersionCard

/-- THE TIED CARD OF 'laws.FnReadVersion'. -/
def fnReadVersionCard : Claim7 := { stood := { row := fnReadVersionRow, standIns := [], harness := (true, "952fbd9ce2db240a2e82e1924cc265e66fab2f847705a1d9596b5036dd6552f5"), looks := true }, kinds := [], alts := [], laidByText := true, laidKinds := [.data, .data, .data, .sentinel, .sentinel], laidTests := true, laidLooks := .later }
def FnReadVersionCardSaid : Prop := Claim7.holds Tryd.pinned (.plain (OpenSpec.ofChange fnReadVersionSpec)) fnReadVersionCard

/-- THE SECOND FORM's CARD OF 'laws.FnExactVersionText'. -/
def fnExactVersionTextUptoCard : Claim7 := { stood := { row := fnExactVersionTextUptoRow, standIns := [], harness := (true, "952fbd9ce2db240a2e82e1924cc265e66fab2f847705a1d9596b5036dd6552f5"), looks := true }, kinds := [], alts := [], laidByText := true, laidKinds := [.data, .data, .data], laidTests := true, laidLooks := .later }
def FnExactVersionTextUptoCardSaid : Prop := Claim7.holds Tryd.pinned (.plain (OpenSpec.upto fnExactVersionTextSpec)) fnExactVersionTextUptoCard

/-- THE SECOND FORM's CARD OF 'laws.FnVersionText'. -/
def fnVersionTextUptoCard : Claim7 := { stood := { row := fnVersionTextUptoRow, standIns := [], harness := (true, "952fbd9ce2db240a2e82e1924cc265e66fab2f847705a1d9596b5036dd6552f5"), looks := true }, kinds := [], alts := [], laidByText := true, laidKinds := [.data, .data, .data, .sentinel, .sentinel], laidTests := true, laidLooks := .later }
def FnVersionTextUptoCardSaid : Prop := Claim7.holds Tryd.pinned (.plain (OpenSpec.upto fnVersionTextSpec)) fnVersionTextUptoCard

/-- THE SECOND FORM's CARD OF 'laws.FnExactReadVersion'. -/
def fnExactReadVersionUptoCard : Claim7 := { stood := { row := fnExactReadVersionUptoRow, standIns := [], harness := (true, "952fbd9ce2db240a2e82e1924cc265e66fab2f847705a1d9596b5036dd6552f5"), looks := true }, kinds := [], alts := [], laidByText := true, laidKinds := [.data, .data, .data, .sentinel, .sentinel], laidTests := true, laidLooks := .later }
def FnExactReadVersionUptoCardSaid : Prop := Claim7.holds Tryd.pinned (.plain (OpenSpec.upto fnExactReadVersionSpec)) fnExactReadVersionUptoCard

/-- THE SECOND FORM's CARD OF 'laws.FnReadVersion'. -/
def fnReadVersionUptoCard : Claim7 := { stood := { row := fnReadVersionUptoRow, standIns := [], harness := (true, "952fbd9ce2db240a2e82e1924cc265e66fab2f847705a1d9596b5036dd6552f5"), looks := true }, kinds := [], alts := [], laidByText := true, laidKinds := [.data, .data, .data, .sentinel, .sentinel], laidTests := true, laidLooks := .later }
def FnReadVersionUptoCardSaid : Prop := Claim7.holds Tryd.pinned (.plain (OpenSpec.upto fnReadVersionSpec)) fnReadVersionUptoCard
end Rows
end Go.Proofs.YtogdeekjfgbneaaDoor
