/-
  DERIVED. GIVEN WITH THE SEED: THE CARDS: each row of YtookojfigjdgcaaDoorRows.lean that lists a variable, with what it lists TIED to the program's text (the seventh form; the later family's looks); each row that meets fmt, with fmt's text TOLD by the authors' own Lean function (tested against real Go, not proved from fmt's source: count such statements apart). THE CARD IS WHAT COUNTS. Prove the row's statement (the work); the ties are given (YtookojfigjdgcaaDoorTie.lean); close each card by the builder's one call (the guide's Derived/Test/ToyasCard.lean, 'card_holds'). Laid BY PROGRAM, IN A SANDBOX (cutbox-door.mjs). By AI agents, Wed Nov 11 2026. No macro, syntax, notation, axiom, sorry.
-/
import Derived.Test.YtookojfigjdgcaaDoorRows
import GoSem.ClaimSeven
namespace Go.Proofs.YtookojfigjdgcaaDoor
namespace Rows

/-- THE TIED CARD OF 'teasellaw10.ChunkCuts'. -/
def chunkCutsCard : Claim7 := { stood := { row := chunkCutsRow, standIns := [], harness := (true, "99bd4135038e7add48397154717f9d729791203aabe5f9446ad382c926b608b6"), looks := true }, kinds := [], alts := [], laidByText := true, laidKinds := [.data, .data, .data, .handle], laidTests := true, laidLooks := .later }
def ChunkCutsCardSaid : Prop := Claim7.holds Tryd.pinned (.plain (OpenSpec.ofChange chunkCutsSpec)) chunkCutsCard

/-- THE TIED CARD OF 'teasellaw10.ChunkWhole'. -/
def chunkWholeCard : Claim7 := { stood := { row := chunkWholeRow, standIns := [], harness := (true, "99bd4135038e7add48397154717f9d729791203aabe5f9446ad382c926b608b6"), looks := true }, kinds := [], alts := [], laidByText := true, laidKinds := [.data, .data, .data, .handle], laidTests := true, laidLooks := .later }
def ChunkWholeCardSaid : Prop := Claim7.holds Tryd.pinned (.plain (OpenSpec.ofChange chunkWholeSpec)) chunkWholeCard

/-- THE TIED CARD OF 'teasellaw10.ChunkBuilds'. -/
def chunkBuildsCard : Claim7 := { stood := { row := chunkBuildsRow, standIns := [], harness := (true, "99bd4135038e7add48397154717f9d729791203aabe5f9446ad382c926b608b6"), looks := true }, kinds := [], alts := [], laidByText := true, laidKinds := [.data, .data, .data, .handle], laidTests := true, laidLooks := .later }
def ChunkBuildsCardSaid : Prop := Claim7.holds Tryd.pinned (.plain (OpenSpec.ofChange chunkBuildsSpec)) chunkBuildsCard

/-- THE TIED CARD OF 'teasellaw10.ChunkSums'. -/
def chunkSumsCard : Claim7 := { stood := { row := chunkSumsRow, standIns := [], harness := (true, "99bd4135038e7add48397154717f9d729791203aabe5f9446ad382c926b608b6"), looks := true }, kinds := [], alts := [], laidByText := true, laidKinds := [.data, .data, .data, .handle], laidTests := true, laidLooks := .later }
def ChunkSumsCardSaid : Prop := Claim7.holds Tryd.pinned (.plain (OpenSpec.ofChange chunkSumsSpec)) chunkSumsCard

/-- THE SECOND FORM's CARD OF 'teasellaw10.ChunkCuts'. -/
def chunkCutsUptoCard : Claim7 := { stood := { row := chunkCutsUptoRow, standIns := [], harness := (true, "99bd4135038e7add48397154717f9d729791203aabe5f9446ad382c926b608b6"), looks := true }, kinds := [], alts := [], laidByText := true, laidKinds := [.data, .data, .data, .handle], laidTests := true, laidLooks := .later }
def ChunkCutsUptoCardSaid : Prop := Claim7.holds Tryd.pinned (.plain (OpenSpec.upto chunkCutsSpec)) chunkCutsUptoCard

/-- THE SECOND FORM's CARD OF 'teasellaw10.ChunkWhole'. -/
def chunkWholeUptoCard : Claim7 := { stood := { row := chunkWholeUptoRow, standIns := [], harness := (true, "99bd4135038e7add48397154717f9d729791203aabe5f9446ad382c926b608b6"), looks := true }, kinds := [], alts := [], laidByText := true, laidKinds := [.data, .data, .data, .handle], laidTests := true, laidLooks := .later }
def ChunkWholeUptoCardSaid : Prop := Claim7.holds Tryd.pinned (.plain (OpenSpec.upto chunkWholeSpec)) chunkWholeUptoCard

/-- THE SECOND FORM's CARD OF 'teasellaw10.ChunkBuilds'. -/
def chunkBuildsUptoCard : Claim7 := { stood := { row := chunkBuildsUptoRow, standIns := [], harness := (true, "99bd4135038e7add48397154717f9d729791203aabe5f9446ad382c926b608b6"), looks := true }, kinds := [], alts := [], laidByText := true, laidKinds := [.data, .data, .data, .handle], laidTests := true, laidLooks := .later }
def ChunkBuildsUptoCardSaid : Prop := Claim7.holds Tryd.pinned (.plain (OpenSpec.upto chunkBuildsSpec)) chunkBuildsUptoCard

/-- THE SECOND FORM's CARD OF 'teasellaw10.ChunkSums'. -/
def chunkSumsUptoCard : Claim7 := { stood := { row := chunkSumsUptoRow, standIns := [], harness := (true, "99bd4135038e7add48397154717f9d729791203aabe5f9446ad382c926b608b6"), looks := true }, kinds := [], alts := [], laidByText := true, laidKinds := [.data, .data, .data, .handle], laidTests := true, laidLooks := .later }
def ChunkSumsUptoCardSaid : Prop := Claim7.holds Tryd.pinned (.plain (OpenSpec.upto chunkSumsSpec)) chunkSumsUptoCard
end Rows
end Go.Proofs.YtookojfigjdgcaaDoor
