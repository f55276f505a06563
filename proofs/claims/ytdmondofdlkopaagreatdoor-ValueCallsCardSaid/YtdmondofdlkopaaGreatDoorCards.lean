/-
  DERIVED. GIVEN WITH THE SEED: THE CARDS: each row of YtdmondofdlkopaaGreatDoorRows.lean that lists a variable, with what it lists TIED to the program's text (the seventh form; the later family's looks); each row that meets fmt, with fmt's text TOLD by the authors' own Lean function (tested against real Go, not proved from fmt's source: count such statements apart). THE CARD IS WHAT COUNTS. Prove the row's statement (the work); the ties are given (YtdmondofdlkopaaGreatDoorTie.lean); close each card by the builder's one call (the guide's Derived/Test/ToyasCard.lean, 'card_holds'). Laid BY PROGRAM, IN A SANDBOX (cutbox-door.mjs). By AI agents, Wed Nov 11 2026. No macro, syntax, notation, axiom, sorry.
-/
import Derived.Test.YtdmondofdlkopaaGreatDoorRows
import GoSem.ClaimSeven
namespace Go.Proofs.YtdmondofdlkopaaGreatDoor
namespace Rows

/-- THE TIED CARD OF 'lamplighterlaw21.ValueOrder'. -/
def valueOrderCard : Claim7 := { stood := { row := valueOrderRow, standIns := [], harness := (true, "bd796667ba35aa164508e0e4f46a4958008f6cfbefa2e43d762a710effc8f801"), looks := false }, kinds := [], alts := [], laidByText := true, laidKinds := [.data, .data], laidTests := true, laidLooks := .later }
def ValueOrderCardSaid : Prop := Claim7.holds Tryz.pinned (.plain (OpenSpec.ofChange valueOrderSpec)) valueOrderCard

/-- THE TIED CARD OF 'lamplighterlaw21.ValueOne'. -/
def valueOneCard : Claim7 := { stood := { row := valueOneRow, standIns := [], harness := (true, "bd796667ba35aa164508e0e4f46a4958008f6cfbefa2e43d762a710effc8f801"), looks := false }, kinds := [], alts := [], laidByText := true, laidKinds := [.data, .data], laidTests := true, laidLooks := .later }
def ValueOneCardSaid : Prop := Claim7.holds Tryz.pinned (.plain (OpenSpec.ofChange valueOneSpec)) valueOneCard

/-- THE TIED CARD OF 'lamplighterlaw21.ValueSound'. -/
def valueSoundCard : Claim7 := { stood := { row := valueSoundRow, standIns := [], harness := (true, "bd796667ba35aa164508e0e4f46a4958008f6cfbefa2e43d762a710effc8f801"), looks := false }, kinds := [], alts := [], laidByText := true, laidKinds := [.data, .data], laidTests := true, laidLooks := .later }
def ValueSoundCardSaid : Prop := Claim7.holds Tryz.pinned (.plain (OpenSpec.ofChange valueSoundSpec)) valueSoundCard

/-- THE TIED CARD OF 'lamplighterlaw21.ValueNames'. -/
def valueNamesCard : Claim7 := { stood := { row := valueNamesRow, standIns := [], harness := (true, "bd796667ba35aa164508e0e4f46a4958008f6cfbefa2e43d762a710effc8f801"), looks := false }, kinds := [], alts := [], laidByText := true, laidKinds := [.data, .data, .data, .data], laidTests := true, laidLooks := .later }
def ValueNamesCardSaid : Prop := Claim7.holds Tryz.pinned (.plain (OpenSpec.ofChange valueNamesSpec)) valueNamesCard

/-- THE TIED CARD OF 'lamplighterlaw21.ValueCalls'. -/
def valueCallsCard : Claim7 := { stood := { row := valueCallsRow, standIns := [], harness := (true, "bd796667ba35aa164508e0e4f46a4958008f6cfbefa2e43d762a710effc8f801"), looks := false }, kinds := [], alts := [], laidByText := true, laidKinds := [.data, .data, .data, .data], laidTests := true, laidLooks := .later }
def ValueCallsCardSaid : Prop := Claim7.holds Tryz.pinned (.plain (OpenSpec.ofChange valueCallsSpec)) valueCallsCard

/-- THE SECOND FORM's CARD OF 'lamplighterlaw21.ValueOrder'. -/
def valueOrderUptoCard : Claim7 := { stood := { row := valueOrderUptoRow, standIns := [], harness := (true, "bd796667ba35aa164508e0e4f46a4958008f6cfbefa2e43d762a710effc8f801"), looks := false }, kinds := [], alts := [], laidByText := true, laidKinds := [.data, .data], laidTests := true, laidLooks := .later }
def ValueOrderUptoCardSaid : Prop := Claim7.holds Tryz.pinned (.plain (OpenSpec.upto valueOrderSpec)) valueOrderUptoCard

/-- THE SECOND FORM's CARD OF 'lamplighterlaw21.ValueOne'. -/
def valueOneUptoCard : Claim7 := { stood := { row := valueOneUptoRow, standIns := [], harness := (true, "bd796667ba35aa164508e0e4f46a4958008f6cfbefa2e43d762a710effc8f801"), looks := false }, kinds := [], alts := [], laidByText := true, laidKinds := [.data, .data], laidTests := true, laidLooks := .later }
def ValueOneUptoCardSaid : Prop := Claim7.holds Tryz.pinned (.plain (OpenSpec.upto valueOneSpec)) valueOneUptoCard

/-- THE SECOND FORM's CARD OF 'lamplighterlaw21.ValueSound'. -/
def valueSoundUptoCard : Claim7 := { stood := { row := valueSoundUptoRow, standIns := [], harness := (true, "bd796667ba35aa164508e0e4f46a4958008f6cfbefa2e43d762a710effc8f801"), looks := false }, kinds := [], alts := [], laidByText := true, laidKinds := [.data, .data], laidTests := true, laidLooks := .later }
def ValueSoundUptoCardSaid : Prop := Claim7.holds Tryz.pinned (.plain (OpenSpec.upto valueSoundSpec)) valueSoundUptoCard

/-- THE SECOND FORM's CARD OF 'lamplighterlaw21.ValueNames'. -/
def valueNamesUptoCard : Claim7 := { stood := { row := valueNamesUptoRow, standIns := [], harness := (true, "bd796667ba35aa164508e0e4f46a4958008f6cfbefa2e43d762a710effc8f801"), looks := false }, kinds := [], alts := [], laidByText := true, laidKinds := [.data, .data, .data, .data], laidTests := true, laidLooks := .later }
def ValueNamesUptoCardSaid : Prop := Claim7.holds Tryz.pinned (.plain (OpenSpec.upto valueNamesSpec)) valueNamesUptoCard

/-- THE SECOND FORM's CARD OF 'lamplighterlaw21.ValueCalls'. -/
def valueCallsUptoCard : Claim7 := { stood := { row := valueCallsUptoRow, standIns := [], harness := (true, "bd796667ba35aa164508e0e4f46a4958008f6cfbefa2e43d762a710effc8f801"), looks := false }, kinds := [], alts := [], laidByText := true, laidKinds := [.data, .data, .data, .data], laidTests := true, laidLooks := .later }
def ValueCallsUptoCardSaid : Prop := Claim7.holds Tryz.pinned (.plain (OpenSpec.upto valueCallsSpec)) valueCallsUptoCard
end Rows
end Go.Proofs.YtdmondofdlkopaaGreatDoor
