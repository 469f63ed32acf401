/-
  No cell of these rows narrows 'for every input' (looked for: loops, veiled, ifaces, maps, wideKeys, modest, calm, conditions, laid).
  DERIVED. THE GIVEN ROWS OF THIS SEAT. 5 by the template 'for every input the law returns true; each argument reads behind the call as it read before'; 0 by the template 'total and deterministic' (their statements: YtnkelaohcbdjnaaTotals.lean).
  GIVEN WITH THE SEED: the statements are not yours to turn. If you find one false, say at which input.
  Laid BY PROGRAM, IN A SANDBOX (cutbox-rows.mjs): the forced cells as the released guide's own fill.sh prints them over the translation 9886a1c515b3ee0a… (all of the seat's roots in one cut). By AI agents, Wed Nov 11 2026. No macro, syntax, notation, axiom, sorry.
-/
import Derived.Test.YtnkelaohcbdjnaaChecked
import GoSem.Claim
import GoSem.ClaimJoined
import GoSem.ClaimMapViews
import Derived.JoinedTies
import Derived.KernelRfl
namespace Go.Proofs.Ytnkelaohcbdjnaa
/- THE CELL 'sum', in the pinned program and in every row, IS THE sha256 OF THE DUMP (.gsa) THAT YtnkelaohcbdjnaaProg.lean LOADS. Nothing in Lean hashes anything: it is a label: what it is worth is what the hold of that sum in a sandbox is worth. -/
noncomputable def Try.pinned : Pinned := { name := "ytnkelaohcbdjnaa", sum := "9886a1c515b3ee0a0cfc1353f5ed58c4583909fbf7b3c268e5ffdda63af73c87", checked := Try.checked }
namespace Rows
def none {H : Type} : Left H := { results := [], args := [] }

/-- 'teasellaw13.FlowDecisions': WHATEVER THE INPUT: true; the input reads as it did. -/
def flowDecisionsSpec : ChangeSpec := { name := "flowDecisions", fn := fun _ => fun
  | [d] => { results := [.lit (.bool true)], args := [d] }
  | _ => none }
def flowDecisionsRow : OpenClaim := { program := "ytnkelaohcbdjnaa", sum := "9886a1c515b3ee0a0cfc1353f5ed58c4583909fbf7b3c268e5ffdda63af73c87", func := "teasel/teasellaw13.FlowDecisions", spec := "flowDecisions", inPlace := ["maps.clone"], unfollowed := true, recurses := true, plainKeys := false, apart := false }
def FlowDecisionsSaid : Prop := flowDecisionsRow.holds Try.pinned (OpenSpec.ofChange flowDecisionsSpec)

/-- ITS FALSE NEIGHBOUR: 'it returns false'. Refute it at one input. -/
def flowDecisionsWrong : ChangeSpec := { name := "flowDecisions", fn := fun _ => fun
  | [d] => { results := [.lit (.bool false)], args := [d] }
  | _ => none }
def FlowDecisionsWrongFalsely : Prop := flowDecisionsRow.holds Try.pinned (OpenSpec.ofChange flowDecisionsWrong)

/-- 'teasellaw13.FlowLate': WHATEVER THE INPUT: true; the input reads as it did. -/
def flowLateSpec : ChangeSpec := { name := "flowLate", fn := fun _ => fun
  | [d1, d2, d3] => { results := [.lit (.bool true)], args := [d1, d2, d3] }
  | _ => none }
def flowLateRow : OpenClaim := { program := "ytnkelaohcbdjnaa", sum := "9886a1c515b3ee0a0cfc1353f5ed58c4583909fbf7b3c268e5ffdda63af73c87", func := "teasel/teasellaw13.FlowLate", spec := "flowLate", inPlace := ["maps.clone"], unfollowed := true, recurses := true, plainKeys := false, apart := false }
def FlowLateSaid : Prop := flowLateRow.holds Try.pinned (OpenSpec.ofChange flowLateSpec)

/-- ITS FALSE NEIGHBOUR: 'it returns false'. Refute it at one input. -/
def flowLateWrong : ChangeSpec := { name := "flowLate", fn := fun _ => fun
  | [d1, d2, d3] => { results := [.lit (.bool false)], args := [d1, d2, d3] }
  | _ => none }
def FlowLateWrongFalsely : Prop := flowLateRow.holds Try.pinned (OpenSpec.ofChange flowLateWrong)

/-- 'teasellaw13.FlowOnce': WHATEVER THE INPUT: true; the input reads as it did. -/
def flowOnceSpec : ChangeSpec := { name := "flowOnce", fn := fun _ => fun
  | [d1, d2] => { results := [.lit (.bool true)], args := [d1, d2] }
  | _ => none }
def flowOnceRow : OpenClaim := { program := "ytnkelaohcbdjnaa", sum := "9886a1c515b3ee0a0cfc1353f5ed58c4583909fbf7b3c268e5ffdda63af73c87", func := "teasel/teasellaw13.FlowOnce", spec := "flowOnce", inPlace := ["maps.clone"], unfollowed := true, recurses := true, plainKeys := false, apart := false }
def FlowOnceSaid : Prop := flowOnceRow.holds Try.pinned (OpenSpec.ofChange flowOnceSpec)

/-- ITS FALSE NEIGHBOUR: 'it returns false'. Refute it at one input. -/
def flowOnceWrong : ChangeSpec := { name := "flowOnce", fn := fun _ => fun
  | [d1, d2] => { results := [.lit (.bool false)], args := [d1, d2] }
  | _ => none }
def FlowOnceWrongFalsely : Prop := flowOnceRow.holds Try.pinned (OpenSpec.ofChange flowOnceWrong)

/-- 'teasellaw13.FlowCloses': WHATEVER THE INPUT: true; the input reads as it did. -/
def flowClosesSpec : ChangeSpec := { name := "flowCloses", fn := fun _ => fun
  | [d1, d2, d3] => { results := [.lit (.bool true)], args := [d1, d2, d3] }
  | _ => none }
def flowClosesRow : OpenClaim := { program := "ytnkelaohcbdjnaa", sum := "9886a1c515b3ee0a0cfc1353f5ed58c4583909fbf7b3c268e5ffdda63af73c87", func := "teasel/teasellaw13.FlowCloses", spec := "flowCloses", inPlace := ["maps.clone"], unfollowed := true, recurses := true, plainKeys := false, apart := false }
def FlowClosesSaid : Prop := flowClosesRow.holds Try.pinned (OpenSpec.ofChange flowClosesSpec)

/-- ITS FALSE NEIGHBOUR: 'it returns false'. Refute it at one input. -/
def flowClosesWrong : ChangeSpec := { name := "flowCloses", fn := fun _ => fun
  | [d1, d2, d3] => { results := [.lit (.bool false)], args := [d1, d2, d3] }
  | _ => none }
def FlowClosesWrongFalsely : Prop := flowClosesRow.holds Try.pinned (OpenSpec.ofChange flowClosesWrong)

/-- 'teasellaw13.FlowTurns': WHATEVER THE INPUT: true; the input reads as it did. -/
def flowTurnsSpec : ChangeSpec := { name := "flowTurns", fn := fun _ => fun
  | [d1, d2] => { results := [.lit (.bool true)], args := [d1, d2] }
  | _ => none }
def flowTurnsRow : OpenClaim := { program := "ytnkelaohcbdjnaa", sum := "9886a1c515b3ee0a0cfc1353f5ed58c4583909fbf7b3c268e5ffdda63af73c87", func := "teasel/teasellaw13.FlowTurns", spec := "flowTurns", inPlace := ["maps.clone"], unfollowed := true, recurses := true, plainKeys := false, apart := false }
def FlowTurnsSaid : Prop := flowTurnsRow.holds Try.pinned (OpenSpec.ofChange flowTurnsSpec)

/-- ITS FALSE NEIGHBOUR: 'it returns false'. Refute it at one input. -/
def flowTurnsWrong : ChangeSpec := { name := "flowTurns", fn := fun _ => fun
  | [d1, d2] => { results := [.lit (.bool false)], args := [d1, d2] }
  | _ => none }
def FlowTurnsWrongFalsely : Prop := flowTurnsRow.holds Try.pinned (OpenSpec.ofChange flowTurnsWrong)

/- THE SECOND FORM. 'bulk': how many values and letters a reading holds, each counted each time it is reached (what is shared counts as often as it is met; a slice's spare places count too). A statement '..UptoSaid' is the law's where the arguments, and the package variables that the reading takes, are together of bulk at most 1048576: NARROWER than '..Said'. Prove '..Said' where nothing that the law and all that it calls make is longer than what came in: it says more and counts as full. Else prove '..UptoSaid'. A law counts once. -/
mutual
def uptoBulk {H : Type} : DataW H → Nat
  | .lit (.string bytes) => bytes.length + 1
  | .lit _ => 1
  | .nil => 1
  | .ptr d => uptoBulk d + 1
  | .slice elems spare => uptoBulkAll elems + uptoBulkAll spare + 1
  | .agg parts => uptoBulkAll parts + 1
  | .iface _ d => uptoBulk d + 1
  | .map entries => uptoBulkEntries entries + 1
  | .held _ => 1
def uptoBulkAll {H : Type} : List (DataW H) → Nat
  | [] => 0
  | d :: r => uptoBulk d + uptoBulkAll r
def uptoBulkEntries {H : Type} : List (Lit × DataW H) → Nat
  | [] => 0
  | x :: r => uptoBulkEntry x + uptoBulkEntries r
def uptoBulkEntry {H : Type} : Lit × DataW H → Nat
  | (.string bytes, d) => bytes.length + uptoBulk d + 1
  | (_, d) => uptoBulk d + 1
 end
def uptoSmall : (H : Type) → List (DataW H) → Bool := fun _ ds => decide (uptoBulkAll ds ≤ 1048576)
def OpenSpec.upto (s : _root_.Go.ChangeSpec) : _root_.Go.OpenSpec := { _root_.Go.OpenSpec.ofChange s with cond := some uptoSmall }

/-- 'teasellaw13.FlowDecisions', WHERE WHAT IT READS IS OF BULK AT MOST 1048576: true; the input reads as it did. -/
def flowDecisionsUptoRow : OpenClaim := { program := "ytnkelaohcbdjnaa", sum := "9886a1c515b3ee0a0cfc1353f5ed58c4583909fbf7b3c268e5ffdda63af73c87", func := "teasel/teasellaw13.FlowDecisions", spec := "flowDecisions", inPlace := ["maps.clone"], unfollowed := true, recurses := true, plainKeys := false, apart := false, narrowed := true }
def FlowDecisionsUptoSaid : Prop := flowDecisionsUptoRow.holds Try.pinned (OpenSpec.upto flowDecisionsSpec)

/-- 'teasellaw13.FlowLate', WHERE WHAT IT READS IS OF BULK AT MOST 1048576: true; the input reads as it did. -/
def flowLateUptoRow : OpenClaim := { program := "ytnkelaohcbdjnaa", sum := "9886a1c515b3ee0a0cfc1353f5ed58c4583909fbf7b3c268e5ffdda63af73c87", func := "teasel/teasellaw13.FlowLate", spec := "flowLate", inPlace := ["maps.clone"], unfollowed := true, recurses := true, plainKeys := false, apart := false, narrowed := true }
def FlowLateUptoSaid : Prop := flowLateUptoRow.holds Try.pinned (OpenSpec.upto flowLateSpec)

/-- 'teasellaw13.FlowOnce', WHERE WHAT IT READS IS OF BULK AT MOST 1048576: true; the input reads as it did. -/
def flowOnceUptoRow : OpenClaim := { program := "ytnkelaohcbdjnaa", sum := "9886a1c515b3ee0a0cfc1353f5ed58c4583909fbf7b3c268e5ffdda63af73c87", func := "teasel/teasellaw13.FlowOnce", spec := "flowOnce", inPlace := ["maps.clone"], unfollowed := true, recurses := true, plainKeys := false, apart := false, narrowed := true }
def FlowOnceUptoSaid : Prop := flowOnceUptoRow.holds Try.pinned (OpenSpec.upto flowOnceSpec)

/-- 'teasellaw13.FlowCloses', WHERE WHAT IT READS IS OF BULK AT MOST 1048576: true; the input reads as it did. -/
def flowClosesUptoRow : OpenClaim := { program := "ytnkelaohcbdjnaa", sum := "9886a1c515b3ee0a0cfc1353f5ed58c4583909fbf7b3c268e5ffdda63af73c87", func := "teasel/teasellaw13.FlowCloses", spec := "flowCloses", inPlace := ["maps.clone"], unfollowed := true, recurses := true, plainKeys := false, apart := false, narrowed := true }
def FlowClosesUptoSaid : Prop := flowClosesUptoRow.holds Try.pinned (OpenSpec.upto flowClosesSpec)

/-- 'teasellaw13.FlowTurns', WHERE WHAT IT READS IS OF BULK AT MOST 1048576: true; the input reads as it did. -/
def flowTurnsUptoRow : OpenClaim := { program := "ytnkelaohcbdjnaa", sum := "9886a1c515b3ee0a0cfc1353f5ed58c4583909fbf7b3c268e5ffdda63af73c87", func := "teasel/teasellaw13.FlowTurns", spec := "flowTurns", inPlace := ["maps.clone"], unfollowed := true, recurses := true, plainKeys := false, apart := false, narrowed := true }
def FlowTurnsUptoSaid : Prop := flowTurnsUptoRow.holds Try.pinned (OpenSpec.upto flowTurnsSpec)

end Rows
end Go.Proofs.Ytnkelaohcbdjnaa
