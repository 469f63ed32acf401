/-
  No cell of these rows narrows 'for every input' (looked for: loops, veiled, ifaces, maps, wideKeys, modest, calm, conditions, laid).
  DERIVED. THE GIVEN ROWS OF THIS SEAT. 3 by the template 'for every input the law returns true; each argument reads behind the call as it read before'; 0 by the template 'total and deterministic' (their statements: YtkodkimfoihbhaaTotals.lean).
  GIVEN WITH THE SEED: the statements are not yours to turn. If you find one false, say at which input.
  Laid BY PROGRAM, IN A SANDBOX (cutbox-rows.mjs): the forced cells as the released guide's own fill.sh prints them over the translation 72d10394aad5e652… (all of the seat's roots in one cut). By AI agents, Wed Nov 11 2026. No macro, syntax, notation, axiom, sorry.
-/
import Derived.Test.YtkodkimfoihbhaaChecked
import GoSem.Claim
import GoSem.ClaimJoined
import GoSem.ClaimMapViews
import Derived.JoinedTies
import Derived.KernelRfl
namespace Go.Proofs.Ytkodkimfoihbhaa
/- THE CELL 'sum', in the pinned program and in every row, IS THE sha256 OF THE DUMP (.gsa) THAT YtkodkimfoihbhaaProg.lean LOADS. Nothing in Lean hashes anything: it is a label: what it is worth is what the hold of that sum in a sandbox is worth. -/
noncomputable def Try.pinned : Pinned := { name := "ytkodkimfoihbhaa", sum := "72d10394aad5e65291abab8bb232597685b64069f6cbcf1b37488246c318f230", checked := Try.checked }
namespace Rows
def none {H : Type} : Left H := { results := [], args := [] }

/-- 'teasellaw11.DedupOnce': WHATEVER THE INPUT: true; the input reads as it did. -/
def dedupOnceSpec : ChangeSpec := { name := "dedupOnce", fn := fun _ => fun
  | [d1, d2, d3, d4] => { results := [.lit (.bool true)], args := [d1, d2, d3, d4] }
  | _ => none }
def dedupOnceRow : OpenClaim := { program := "ytkodkimfoihbhaa", sum := "72d10394aad5e65291abab8bb232597685b64069f6cbcf1b37488246c318f230", func := "teasel/teasellaw11.DedupOnce", spec := "dedupOnce", plainKeys := false, apart := false }
def DedupOnceSaid : Prop := dedupOnceRow.holds Try.pinned (OpenSpec.ofChange dedupOnceSpec)

/-- ITS FALSE NEIGHBOUR: 'it returns false'. Refute it at one input. -/
def dedupOnceWrong : ChangeSpec := { name := "dedupOnce", fn := fun _ => fun
  | [d1, d2, d3, d4] => { results := [.lit (.bool false)], args := [d1, d2, d3, d4] }
  | _ => none }
def DedupOnceWrongFalsely : Prop := dedupOnceRow.holds Try.pinned (OpenSpec.ofChange dedupOnceWrong)

/-- 'teasellaw11.DedupWindow': WHATEVER THE INPUT: true; the input reads as it did. -/
def dedupWindowSpec : ChangeSpec := { name := "dedupWindow", fn := fun _ => fun
  | [d1, d2] => { results := [.lit (.bool true)], args := [d1, d2] }
  | _ => none }
def dedupWindowRow : OpenClaim := { program := "ytkodkimfoihbhaa", sum := "72d10394aad5e65291abab8bb232597685b64069f6cbcf1b37488246c318f230", func := "teasel/teasellaw11.DedupWindow", spec := "dedupWindow", unfollowed := true, recurses := true, plainKeys := false, apart := false }
def DedupWindowSaid : Prop := dedupWindowRow.holds Try.pinned (OpenSpec.ofChange dedupWindowSpec)

/-- ITS FALSE NEIGHBOUR: 'it returns false'. Refute it at one input. -/
def dedupWindowWrong : ChangeSpec := { name := "dedupWindow", fn := fun _ => fun
  | [d1, d2] => { results := [.lit (.bool false)], args := [d1, d2] }
  | _ => none }
def DedupWindowWrongFalsely : Prop := dedupWindowRow.holds Try.pinned (OpenSpec.ofChange dedupWindowWrong)

/-- 'teasellaw11.DedupSame': WHATEVER THE INPUT: true; the input reads as it did. -/
def dedupSameSpec : ChangeSpec := { name := "dedupSame", fn := fun _ => fun
  | [d1, d2, d3] => { results := [.lit (.bool true)], args := [d1, d2, d3] }
  | _ => none }
def dedupSameRow : OpenClaim := { program := "ytkodkimfoihbhaa", sum := "72d10394aad5e65291abab8bb232597685b64069f6cbcf1b37488246c318f230", func := "teasel/teasellaw11.DedupSame", spec := "dedupSame", unfollowed := true, recurses := true, plainKeys := false, apart := false }
def DedupSameSaid : Prop := dedupSameRow.holds Try.pinned (OpenSpec.ofChange dedupSameSpec)

/-- ITS FALSE NEIGHBOUR: 'it returns false'. Refute it at one input. -/
def dedupSameWrong : ChangeSpec := { name := "dedupSame", fn := fun _ => fun
  | [d1, d2, d3] => { results := [.lit (.bool false)], args := [d1, d2, d3] }
  | _ => none }
def DedupSameWrongFalsely : Prop := dedupSameRow.holds Try.pinned (OpenSpec.ofChange dedupSameWrong)

/- THE SECOND FORM. 'bulk': how many values and letters a reading holds, each counted each time it is reached (what is shared counts as often as it is met; a slice's spare places count too). A statement '..UptoSaid' is the law's where the arguments, and the package variables that the reading takes, are together of bulk at most 1048576: NARROWER than '..Said'. Prove '..Said' where nothing that the law and all that it calls make is longer than what came in: it says more and counts as full. Else prove '..UptoSaid'. A law counts once. -/
mutual
def uptoBulk {H : Type} : DataW H → Nat
  | .lit (.string bytes) => bytes.length + 1
  | .lit _ => 1
  | .nil => 1
  | .ptr d => uptoBulk d + 1
  | .slice elems spare => uptoBulkAll elems + uptoBulkAll spare + 1
  | .agg parts => uptoBulkAll parts + 1
  | .iface _ d => uptoBulk d + 1
  | .map entries => uptoBulkEntries entries + 1
  | .held _ => 1
def uptoBulkAll {H : Type} : List (DataW H) → Nat
  | [] => 0
  | d :: r => uptoBulk d + uptoBulkAll r
def uptoBulkEntries {H : Type} : List (Lit × DataW H) → Nat
  | [] => 0
  | x :: r => uptoBulkEntry x + uptoBulkEntries r
def uptoBulkEntry {H : Type} : Lit × DataW H → Nat
  | (.string bytes, d) => bytes.length + uptoBulk d + 1
  | (_, d) => uptoBulk d + 1
 end
def uptoSmall : (H : Type) → List (DataW H) → Bool := fun _ ds => decide (uptoBulkAll ds ≤ 1048576)
def OpenSpec.upto (s : _root_.Go.ChangeSpec) : _root_.Go.OpenSpec := { _root_.Go.OpenSpec.ofChange s with cond := some uptoSmall }

/-- 'teasellaw11.DedupOnce', WHERE WHAT IT READS IS OF BULK AT MOST 1048576: true; the input reads as it did. -/
def dedupOnceUptoRow : OpenClaim := { program := "ytkodkimfoihbhaa", sum := "72d10394aad5e65291abab8bb232597685b64069f6cbcf1b37488246c318f230", func := "teasel/teasellaw11.DedupOnce", spec := "dedupOnce", plainKeys := false, apart := false, narrowed := true }
def DedupOnceUptoSaid : Prop := dedupOnceUptoRow.holds Try.pinned (OpenSpec.upto dedupOnceSpec)

/-- 'teasellaw11.DedupWindow', WHERE WHAT IT READS IS OF BULK AT MOST 1048576: true; the input reads as it did. -/
def dedupWindowUptoRow : OpenClaim := { program := "ytkodkimfoihbhaa", sum := "72d10394aad5e65291abab8bb232597685b64069f6cbcf1b37488246c318f230", func := "teasel/teasellaw11.DedupWindow", spec := "dedupWindow", unfollowed := true, recurses := true, plainKeys := false, apart := false, narrowed := true }
def DedupWindowUptoSaid : Prop := dedupWindowUptoRow.holds Try.pinned (OpenSpec.upto dedupWindowSpec)

/-- 'teasellaw11.DedupSame', WHERE WHAT IT READS IS OF BULK AT MOST 1048576: true; the input reads as it did. -/
def dedupSameUptoRow : OpenClaim := { program := "ytkodkimfoihbhaa", sum := "72d10394aad5e65291abab8bb232597685b64069f6cbcf1b37488246c318f230", func := "teasel/teasellaw11.DedupSame", spec := "dedupSame", unfollowed := true, recurses := true, plainKeys := false, apart := false, narrowed := true }
def DedupSameUptoSaid : Prop := dedupSameUptoRow.holds Try.pinned (OpenSpec.upto dedupSameSpec)

end Rows
end Go.Proofs.Ytkodkimfoihbhaa
