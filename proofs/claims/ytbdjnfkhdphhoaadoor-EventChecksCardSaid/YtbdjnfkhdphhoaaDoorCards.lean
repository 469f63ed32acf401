/-
  DERIVED. GIVEN WITH THE SEED: THE CARDS: each row of YtbdjnfkhdphhoaaDoorRows.lean that lists a variable, with what it lists TIED to the program's text (the seventh form; the later family's looks); each row that meets fmt, with fmt's text TOLD by the authors' own Lean function (tested against real Go, not proved from fmt's source: count such statements apart). THE CARD IS WHAT COUNTS. Prove the row's statement (the work); the ties are given (YtbdjnfkhdphhoaaDoorTie.lean); close each card by the builder's one call (the guide's Derived/Test/ToyasCard.lean, 'card_holds'). Laid BY PROGRAM, IN A SANDBOX (cutbox-door.mjs). By AI agents, Wed Nov 11 2026. No macro, syntax, notation, axiom, sorry.
-/
import Derived.Test.YtbdjnfkhdphhoaaDoorRows
import GoSem.ClaimSeven
namespace Go.Proofs.YtbdjnfkhdphhoaaDoor
namespace Rows

/-- THE TIED CARD OF 'teasellaw12.EventKinds'. -/
def eventKindsCard : Claim7 := { stood := { row := eventKindsRow, standIns := [], harness := (true, "68a623d9340d12ed40fd61390dc8a0f15ac43e81934e7c3b4d67260328898766"), looks := true }, kinds := [], alts := [], laidByText := true, laidKinds := [.data, .data, .data, .handle], laidTests := true, laidLooks := .later }
def EventKindsCardSaid : Prop := Claim7.holds Tryd.pinned (.plain (OpenSpec.ofChange eventKindsSpec)) eventKindsCard

/-- THE TIED CARD OF 'teasellaw12.EventOne'. -/
def eventOneCard : Claim7 := { stood := { row := eventOneRow, standIns := [], harness := (true, "68a623d9340d12ed40fd61390dc8a0f15ac43e81934e7c3b4d67260328898766"), looks := true }, kinds := [], alts := [], laidByText := true, laidKinds := [.data, .data, .data, .handle], laidTests := true, laidLooks := .later }
def EventOneCardSaid : Prop := Claim7.holds Tryd.pinned (.plain (OpenSpec.ofChange eventOneSpec)) eventOneCard

/-- THE TIED CARD OF 'teasellaw12.EventFronts'. -/
def eventFrontsCard : Claim7 := { stood := { row := eventFrontsRow, standIns := [], harness := (true, "68a623d9340d12ed40fd61390dc8a0f15ac43e81934e7c3b4d67260328898766"), looks := true }, kinds := [], alts := [], laidByText := true, laidKinds := [.data, .data, .data, .handle], laidTests := true, laidLooks := .later }
def EventFrontsCardSaid : Prop := Claim7.holds Tryd.pinned (.plain (OpenSpec.ofChange eventFrontsSpec)) eventFrontsCard

/-- THE TIED CARD OF 'teasellaw12.EventChecks'. -/
def eventChecksCard : Claim7 := { stood := { row := eventChecksRow, standIns := [], harness := (true, "68a623d9340d12ed40fd61390dc8a0f15ac43e81934e7c3b4d67260328898766"), looks := true }, kinds := [], alts := [], laidByText := true, laidKinds := [.data, .data, .data, .handle], laidTests := true, laidLooks := .later }
def EventChecksCardSaid : Prop := Claim7.holds Tryd.pinned (.plain (OpenSpec.ofChange eventChecksSpec)) eventChecksCard

/-- THE TIED CARD OF 'teasellaw12.EventOpens'. -/
def eventOpensCard : Claim7 := { stood := { row := eventOpensRow, standIns := [], harness := (true, "68a623d9340d12ed40fd61390dc8a0f15ac43e81934e7c3b4d67260328898766"), looks := true }, kinds := [], alts := [], laidByText := true, laidKinds := [.data, .data, .data, .handle], laidTests := true, laidLooks := .later }
def EventOpensCardSaid : Prop := Claim7.holds Tryd.pinned (.plain (OpenSpec.ofChange eventOpensSpec)) eventOpensCard

/-- THE SECOND FORM's CARD OF 'teasellaw12.EventKinds'. -/
def eventKindsUptoCard : Claim7 := { stood := { row := eventKindsUptoRow, standIns := [], harness := (true, "68a623d9340d12ed40fd61390dc8a0f15ac43e81934e7c3b4d67260328898766"), looks := true }, kinds := [], alts := [], laidByText := true, laidKinds := [.data, .data, .data, .handle], laidTests := true, laidLooks := .later }
def EventKindsUptoCardSaid : Prop := Claim7.holds Tryd.pinned (.plain (OpenSpec.upto eventKindsSpec)) eventKindsUptoCard

/-- THE SECOND FORM's CARD OF 'teasellaw12.EventOne'. -/
def eventOneUptoCard : Claim7 := { stood := { row := eventOneUptoRow, standIns := [], harness := (true, "68a623d9340d12ed40fd61390dc8a0f15ac43e81934e7c3b4d67260328898766"), looks := true }, kinds := [], alts := [], laidByText := true, laidKinds := [.data, .data, .data, .handle], laidTests := true, laidLooks := .later }
def EventOneUptoCardSaid : Prop := Claim7.holds Tryd.pinned (.plain (OpenSpec.upto eventOneSpec)) eventOneUptoCard

/-- THE SECOND FORM's CARD OF 'teasellaw12.EventFronts'. -/
def eventFrontsUptoCard : Claim7 := { stood := { row := eventFrontsUptoRow, standIns := [], harness := (true, "68a623d9340d12ed40fd61390dc8a0f15ac43e81934e7c3b4d67260328898766"), looks := true }, kinds := [], alts := [], laidByText := true, laidKinds := [.data, .data, .data, .handle], laidTests := true, laidLooks := .later }
def EventFrontsUptoCardSaid : Prop := Claim7.holds Tryd.pinned (.plain (OpenSpec.upto eventFrontsSpec)) eventFrontsUptoCard

/-- THE SECOND FORM's CARD OF 'teasellaw12.EventChecks'. -/
def eventChecksUptoCard : Claim7 := { stood := { row := eventChecksUptoRow, standIns := [], harness := (true, "68a623d9340d12ed40fd61390dc8a0f15ac43e81934e7c3b4d67260328898766"), looks := true }, kinds := [], alts := [], laidByText := true, laidKinds := [.data, .data, .data, .handle], laidTests := true, laidLooks := .later }
def EventChecksUptoCardSaid : Prop := Claim7.holds Tryd.pinned (.plain (OpenSpec.upto eventChecksSpec)) eventChecksUptoCard

/-- THE SECOND FORM's CARD OF 'teasellaw12.EventOpens'. -/
def eventOpensUptoCard : Claim7 := { stood := { row := eventOpensUptoRow, standIns := [], harness := (true, "68a623d9340d12ed40fd61390dc8a0f15ac43e81934e7c3b4d67260328898766"), looks := true }, kinds := [], alts := [], laidByText := true, laidKinds := [.data, .data, .data, .handle], laidTests := true, laidLooks := .later }
def EventOpensUptoCardSaid : Prop := Claim7.holds Tryd.pinned (.plain (OpenSpec.upto eventOpensSpec)) eventOpensUptoCard
end Rows
end Go.Proofs.YtbdjnfkhdphhoaaDoor
