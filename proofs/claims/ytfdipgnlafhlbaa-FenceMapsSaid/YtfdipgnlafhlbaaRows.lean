/-
  No cell of these rows narrows 'for every input' (looked for: loops, veiled, ifaces, maps, wideKeys, modest, calm, conditions, laid).
  DERIVED. THE GIVEN ROWS OF THIS SEAT. 4 by the template 'for every input the law returns true; each argument reads behind the call as it read before'; 0 by the template 'total and deterministic' (their statements: YtfdipgnlafhlbaaTotals.lean).
  GIVEN WITH THE SEED: the statements are not yours to turn. If you find one false, say at which input.
  Laid BY PROGRAM, IN A SANDBOX (cutbox-rows.mjs): the forced cells as the released guide's own fill.sh prints them over the translation f3293082a8b11476… (all of the seat's roots in one cut). By AI agents, Wed Nov 11 2026. No macro, syntax, notation, axiom, sorry.
-/
import Derived.Test.YtfdipgnlafhlbaaChecked
import GoSem.Claim
import GoSem.ClaimJoined
import GoSem.ClaimMapViews
import Derived.JoinedTies
import Derived.KernelRfl
namespace Go.Proofs.Ytfdipgnlafhlbaa
/- THE CELL 'sum', in the pinned program and in every row, IS THE sha256 OF THE DUMP (.gsa) THAT YtfdipgnlafhlbaaProg.lean LOADS. Nothing in Lean hashes anything: it is a label: what it is worth is what the hold of that sum in a sandbox is worth. -/
noncomputable def Try.pinned : Pinned := { name := "ytfdipgnlafhlbaa", sum := "f3293082a8b11476e17dc8fa79ff75000e408c11f47f4027023ef60c4dc7f7ac", checked := Try.checked }
namespace Rows
def none {H : Type} : Left H := { results := [], args := [] }

/-- 'teasellaw17.FenceRises': WHATEVER THE INPUT: true; the input reads as it did. -/
def fenceRisesSpec : ChangeSpec := { name := "fenceRises", fn := fun _ => fun
  | [d1, d2] => { results := [.lit (.bool true)], args := [d1, d2] }
  | _ => none }
def fenceRisesRow : OpenClaim := { program := "ytfdipgnlafhlbaa", sum := "f3293082a8b11476e17dc8fa79ff75000e408c11f47f4027023ef60c4dc7f7ac", func := "teasel/teasellaw17.FenceRises", spec := "fenceRises", apart := false }
def FenceRisesSaid : Prop := fenceRisesRow.holds Try.pinned (OpenSpec.ofChange fenceRisesSpec)

/-- ITS FALSE NEIGHBOUR: 'it returns false'. Refute it at one input. -/
def fenceRisesWrong : ChangeSpec := { name := "fenceRises", fn := fun _ => fun
  | [d1, d2] => { results := [.lit (.bool false)], args := [d1, d2] }
  | _ => none }
def FenceRisesWrongFalsely : Prop := fenceRisesRow.holds Try.pinned (OpenSpec.ofChange fenceRisesWrong)

/-- 'teasellaw17.FenceOne': WHATEVER THE INPUT: true; the input reads as it did. -/
def fenceOneSpec : ChangeSpec := { name := "fenceOne", fn := fun _ => fun
  | [d1, d2, d3, d4, d5] => { results := [.lit (.bool true)], args := [d1, d2, d3, d4, d5] }
  | _ => none }
def fenceOneRow : OpenClaim := { program := "ytfdipgnlafhlbaa", sum := "f3293082a8b11476e17dc8fa79ff75000e408c11f47f4027023ef60c4dc7f7ac", func := "teasel/teasellaw17.FenceOne", spec := "fenceOne", apart := false }
def FenceOneSaid : Prop := fenceOneRow.holds Try.pinned (OpenSpec.ofChange fenceOneSpec)

/-- ITS FALSE NEIGHBOUR: 'it returns false'. Refute it at one input. -/
def fenceOneWrong : ChangeSpec := { name := "fenceOne", fn := fun _ => fun
  | [d1, d2, d3, d4, d5] => { results := [.lit (.bool false)], args := [d1, d2, d3, d4, d5] }
  | _ => none }
def FenceOneWrongFalsely : Prop := fenceOneRow.holds Try.pinned (OpenSpec.ofChange fenceOneWrong)

/-- 'teasellaw17.FenceLeases': WHATEVER THE INPUT: true; the input reads as it did. -/
def fenceLeasesSpec : ChangeSpec := { name := "fenceLeases", fn := fun _ => fun
  | [d] => { results := [.lit (.bool true)], args := [d] }
  | _ => none }
def fenceLeasesRow : OpenClaim := { program := "ytfdipgnlafhlbaa", sum := "f3293082a8b11476e17dc8fa79ff75000e408c11f47f4027023ef60c4dc7f7ac", func := "teasel/teasellaw17.FenceLeases", spec := "fenceLeases", apart := false }
def FenceLeasesSaid : Prop := fenceLeasesRow.holds Try.pinned (OpenSpec.ofChange fenceLeasesSpec)

/-- ITS FALSE NEIGHBOUR: 'it returns false'. Refute it at one input. -/
def fenceLeasesWrong : ChangeSpec := { name := "fenceLeases", fn := fun _ => fun
  | [d] => { results := [.lit (.bool false)], args := [d] }
  | _ => none }
def FenceLeasesWrongFalsely : Prop := fenceLeasesRow.holds Try.pinned (OpenSpec.ofChange fenceLeasesWrong)

/-- 'teasellaw17.FenceMaps': WHATEVER THE INPUT: true; the input reads as it did. -/
def fenceMapsSpec : ChangeSpec := { name := "fenceMaps", fn := fun _ => fun
  | [d1, d2] => { results := [.lit (.bool true)], args := [d1, d2] }
  | _ => none }
def fenceMapsRow : OpenClaim := { program := "ytfdipgnlafhlbaa", sum := "f3293082a8b11476e17dc8fa79ff75000e408c11f47f4027023ef60c4dc7f7ac", func := "teasel/teasellaw17.FenceMaps", spec := "fenceMaps", apart := false }
def FenceMapsSaid : Prop := fenceMapsRow.holds Try.pinned (OpenSpec.ofChange fenceMapsSpec)

/-- ITS FALSE NEIGHBOUR: 'it returns false'. Refute it at one input. -/
def fenceMapsWrong : ChangeSpec := { name := "fenceMaps", fn := fun _ => fun
  | [d1, d2] => { results := [.lit (.bool false)], args := [d1, d2] }
  | _ => none }
def FenceMapsWrongFalsely : Prop := fenceMapsRow.holds Try.pinned (OpenSpec.ofChange fenceMapsWrong)

/- THE SECOND FORM. 'bulk': how many values and letters a reading holds, each counted each time it is reached (what is shared counts as often as it is met; a slice's spare places count too). A statement '..UptoSaid' is the law's where the arguments, and the package variables that the reading takes, are together of bulk at most 1048576: NARROWER than '..Said'. Prove '..Said' where nothing that the law and all that it calls make is longer than what came in: it says more and counts as full. Else prove '..UptoSaid'. A law counts once. -/
mutual
def uptoBulk {H : Type} : DataW H → Nat
  | .lit (.string bytes) => bytes.length + 1
  | .lit _ => 1
  | .nil => 1
  | .ptr d => uptoBulk d + 1
  | .slice elems spare => uptoBulkAll elems + uptoBulkAll spare + 1
  | .agg parts => uptoBulkAll parts + 1
  | .iface _ d => uptoBulk d + 1
  | .map entries => uptoBulkEntries entries + 1
  | .held _ => 1
def uptoBulkAll {H : Type} : List (DataW H) → Nat
  | [] => 0
  | d :: r => uptoBulk d + uptoBulkAll r
def uptoBulkEntries {H : Type} : List (Lit × DataW H) → Nat
  | [] => 0
  | x :: r => uptoBulkEntry x + uptoBulkEntries r
def uptoBulkEntry {H : Type} : Lit × DataW H → Nat
  | (.string bytes, d) => bytes.length + uptoBulk d + 1
  | (_, d) => uptoBulk d + 1
 end
def uptoSmall : (H : Type) → List (DataW H) → Bool := fun _ ds => decide (uptoBulkAll ds ≤ 1048576)
def OpenSpec.upto (s : _root_.Go.ChangeSpec) : _root_.Go.OpenSpec := { _root_.Go.OpenSpec.ofChange s with cond := some uptoSmall }

/-- 'teasellaw17.FenceRises', WHERE WHAT IT READS IS OF BULK AT MOST 1048576: true; the input reads as it did. -/
def fenceRisesUptoRow : OpenClaim := { program := "ytfdipgnlafhlbaa", sum := "f3293082a8b11476e17dc8fa79ff75000e408c11f47f4027023ef60c4dc7f7ac", func := "teasel/teasellaw17.FenceRises", spec := "fenceRises", apart := false, narrowed := true }
def FenceRisesUptoSaid : Prop := fenceRisesUptoRow.holds Try.pinned (OpenSpec.upto fenceRisesSpec)

/-- 'teasellaw17.FenceOne', WHERE WHAT IT READS IS OF BULK AT MOST 1048576: true; the input reads as it did. -/
def fenceOneUptoRow : OpenClaim := { program := "ytfdipgnlafhlbaa", sum := "f3293082a8b11476e17dc8fa79ff75000e408c11f47f4027023ef60c4dc7f7ac", func := "teasel/teasellaw17.FenceOne", spec := "fenceOne", apart := false, narrowed := true }
def FenceOneUptoSaid : Prop := fenceOneUptoRow.holds Try.pinned (OpenSpec.upto fenceOneSpec)

/-- 'teasellaw17.FenceLeases', WHERE WHAT IT READS IS OF BULK AT MOST 1048576: true; the input reads as it did. -/
def fenceLeasesUptoRow : OpenClaim := { program := "ytfdipgnlafhlbaa", sum := "f3293082a8b11476e17dc8fa79ff75000e408c11f47f4027023ef60c4dc7f7ac", func := "teasel/teasellaw17.FenceLeases", spec := "fenceLeases", apart := false, narrowed := true }
def FenceLeasesUptoSaid : Prop := fenceLeasesUptoRow.holds Try.pinned (OpenSpec.upto fenceLeasesSpec)

/-- 'teasellaw17.FenceMaps', WHERE WHAT IT READS IS OF BULK AT MOST 1048576: true; the input reads as it did. -/
def fenceMapsUptoRow : OpenClaim := { program := "ytfdipgnlafhlbaa", sum := "f3293082a8b11476e17dc8fa79ff75000e408c11f47f4027023ef60c4dc7f7ac", func := "teasel/teasellaw17.FenceMaps", spec := "fenceMaps", apart := false, narrowed := true }
def FenceMapsUptoSaid : Prop := fenceMapsUptoRow.holds Try.pinned (OpenSpec.upto fenceMapsSpec)

end Rows
end Go.Proofs.Ytfdipgnlafhlbaa
