/-
  No cell of these rows narrows 'for every input' (looked for: loops, veiled, ifaces, maps, wideKeys, modest, calm, conditions, laid).
  DERIVED. THE GIVEN ROWS OF THIS SEAT. 5 by the template 'for every input the law returns true; each argument reads behind the call as it read before'; 0 by the template 'total and deterministic' (their statements: YtjcnmlfkdfpjmaaTotals.lean).
  GIVEN WITH THE SEED: the statements are not yours to turn. If you find one false, say at which input.
  Laid BY PROGRAM, IN A SANDBOX (cutbox-rows.mjs): the forced cells as the released guide's own fill.sh prints them over the translation 6ecc237d4016803e… (all of the seat's roots in one cut). By AI agents, Wed Nov 11 2026. No macro, syntax, notation, axiom, sorry.
-/
import Derived.Test.YtjcnmlfkdfpjmaaChecked
import GoSem.Claim
import GoSem.ClaimJoined
import GoSem.ClaimMapViews
import Derived.JoinedTies
import Derived.KernelRfl
namespace Go.Proofs.Ytjcnmlfkdfpjmaa
/- THE CELL 'sum', in the pinned program and in every row, IS THE sha256 OF THE DUMP (.gsa) THAT YtjcnmlfkdfpjmaaProg.lean LOADS. Nothing in Lean hashes anything: it is a label: what it is worth is what the hold of that sum in a sandbox is worth. -/
noncomputable def Try.pinned : Pinned := { name := "ytjcnmlfkdfpjmaa", sum := "6ecc237d4016803ea76f01f927a3af2dcc83beded8b8827f3e42742c23dce619", checked := Try.checked }
namespace Rows
def none {H : Type} : Left H := { results := [], args := [] }

/-- 'teasellaw3.DrawsBounds': WHATEVER THE INPUT: true; the input reads as it did. -/
def drawsBoundsSpec : ChangeSpec := { name := "drawsBounds", fn := fun _ => fun
  | [d1, d2, d3, d4] => { results := [.lit (.bool true)], args := [d1, d2, d3, d4] }
  | _ => none }
def drawsBoundsRow : OpenClaim := { program := "ytjcnmlfkdfpjmaa", sum := "6ecc237d4016803ea76f01f927a3af2dcc83beded8b8827f3e42742c23dce619", func := "teasel/teasellaw3.DrawsBounds", spec := "drawsBounds", unfollowed := true, recurses := true, apart := false }
def DrawsBoundsSaid : Prop := drawsBoundsRow.holds Try.pinned (OpenSpec.ofChange drawsBoundsSpec)

/-- ITS FALSE NEIGHBOUR: 'it returns false'. Refute it at one input. -/
def drawsBoundsWrong : ChangeSpec := { name := "drawsBounds", fn := fun _ => fun
  | [d1, d2, d3, d4] => { results := [.lit (.bool false)], args := [d1, d2, d3, d4] }
  | _ => none }
def DrawsBoundsWrongFalsely : Prop := drawsBoundsRow.holds Try.pinned (OpenSpec.ofChange drawsBoundsWrong)

/-- 'teasellaw3.DrawsAlarms': WHATEVER THE INPUT: true; the input reads as it did. -/
def drawsAlarmsSpec : ChangeSpec := { name := "drawsAlarms", fn := fun _ => fun
  | [d1, d2] => { results := [.lit (.bool true)], args := [d1, d2] }
  | _ => none }
def drawsAlarmsRow : OpenClaim := { program := "ytjcnmlfkdfpjmaa", sum := "6ecc237d4016803ea76f01f927a3af2dcc83beded8b8827f3e42742c23dce619", func := "teasel/teasellaw3.DrawsAlarms", spec := "drawsAlarms", unfollowed := true, recurses := true, apart := false }
def DrawsAlarmsSaid : Prop := drawsAlarmsRow.holds Try.pinned (OpenSpec.ofChange drawsAlarmsSpec)

/-- ITS FALSE NEIGHBOUR: 'it returns false'. Refute it at one input. -/
def drawsAlarmsWrong : ChangeSpec := { name := "drawsAlarms", fn := fun _ => fun
  | [d1, d2] => { results := [.lit (.bool false)], args := [d1, d2] }
  | _ => none }
def DrawsAlarmsWrongFalsely : Prop := drawsAlarmsRow.holds Try.pinned (OpenSpec.ofChange drawsAlarmsWrong)

/-- 'teasellaw3.DrawsSource': WHATEVER THE INPUT: true; the input reads as it did. -/
def drawsSourceSpec : ChangeSpec := { name := "drawsSource", fn := fun _ => fun
  | [d1, d2] => { results := [.lit (.bool true)], args := [d1, d2] }
  | _ => none }
def drawsSourceRow : OpenClaim := { program := "ytjcnmlfkdfpjmaa", sum := "6ecc237d4016803ea76f01f927a3af2dcc83beded8b8827f3e42742c23dce619", func := "teasel/teasellaw3.DrawsSource", spec := "drawsSource", unfollowed := true, recurses := true, apart := false }
def DrawsSourceSaid : Prop := drawsSourceRow.holds Try.pinned (OpenSpec.ofChange drawsSourceSpec)

/-- ITS FALSE NEIGHBOUR: 'it returns false'. Refute it at one input. -/
def drawsSourceWrong : ChangeSpec := { name := "drawsSource", fn := fun _ => fun
  | [d1, d2] => { results := [.lit (.bool false)], args := [d1, d2] }
  | _ => none }
def DrawsSourceWrongFalsely : Prop := drawsSourceRow.holds Try.pinned (OpenSpec.ofChange drawsSourceWrong)

/-- 'teasellaw3.DrawsTwins': WHATEVER THE INPUT: true; the input reads as it did. -/
def drawsTwinsSpec : ChangeSpec := { name := "drawsTwins", fn := fun _ => fun
  | [d1, d2, d3] => { results := [.lit (.bool true)], args := [d1, d2, d3] }
  | _ => none }
def drawsTwinsRow : OpenClaim := { program := "ytjcnmlfkdfpjmaa", sum := "6ecc237d4016803ea76f01f927a3af2dcc83beded8b8827f3e42742c23dce619", func := "teasel/teasellaw3.DrawsTwins", spec := "drawsTwins", unfollowed := true, recurses := true, apart := false }
def DrawsTwinsSaid : Prop := drawsTwinsRow.holds Try.pinned (OpenSpec.ofChange drawsTwinsSpec)

/-- ITS FALSE NEIGHBOUR: 'it returns false'. Refute it at one input. -/
def drawsTwinsWrong : ChangeSpec := { name := "drawsTwins", fn := fun _ => fun
  | [d1, d2, d3] => { results := [.lit (.bool false)], args := [d1, d2, d3] }
  | _ => none }
def DrawsTwinsWrongFalsely : Prop := drawsTwinsRow.holds Try.pinned (OpenSpec.ofChange drawsTwinsWrong)

/-- 'teasellaw3.DrawsClocks': WHATEVER THE INPUT: true; the input reads as it did. -/
def drawsClocksSpec : ChangeSpec := { name := "drawsClocks", fn := fun _ => fun
  | [d] => { results := [.lit (.bool true)], args := [d] }
  | _ => none }
def drawsClocksRow : OpenClaim := { program := "ytjcnmlfkdfpjmaa", sum := "6ecc237d4016803ea76f01f927a3af2dcc83beded8b8827f3e42742c23dce619", func := "teasel/teasellaw3.DrawsClocks", spec := "drawsClocks", unfollowed := true, recurses := true, apart := false }
def DrawsClocksSaid : Prop := drawsClocksRow.holds Try.pinned (OpenSpec.ofChange drawsClocksSpec)

/-- ITS FALSE NEIGHBOUR: 'it returns false'. Refute it at one input. -/
def drawsClocksWrong : ChangeSpec := { name := "drawsClocks", fn := fun _ => fun
  | [d] => { results := [.lit (.bool false)], args := [d] }
  | _ => none }
def DrawsClocksWrongFalsely : Prop := drawsClocksRow.holds Try.pinned (OpenSpec.ofChange drawsClocksWrong)

/- THE SECOND FORM. 'bulk': how many values and letters a reading holds, each counted each time it is reached (what is shared counts as often as it is met; a slice's spare places count too). A statement '..UptoSaid' is the law's where the arguments, and the package variables that the reading takes, are together of bulk at most 1048576: NARROWER than '..Said'. Prove '..Said' where nothing that the law and all that it calls make is longer than what came in: it says more and counts as full. Else prove '..UptoSaid'. A law counts once. -/
mutual
def uptoBulk {H : Type} : DataW H → Nat
  | .lit (.string bytes) => bytes.length + 1
  | .lit _ => 1
  | .nil => 1
  | .ptr d => uptoBulk d + 1
  | .slice elems spare => uptoBulkAll elems + uptoBulkAll spare + 1
  | .agg parts => uptoBulkAll parts + 1
  | .iface _ d => uptoBulk d + 1
  | .map entries => uptoBulkEntries entries + 1
  | .held _ => 1
def uptoBulkAll {H : Type} : List (DataW H) → Nat
  | [] => 0
  | d :: r => uptoBulk d + uptoBulkAll r
def uptoBulkEntries {H : Type} : List (Lit × DataW H) → Nat
  | [] => 0
  | x :: r => uptoBulkEntry x + uptoBulkEntries r
def uptoBulkEntry {H : Type} : Lit × DataW H → Nat
  | (.string bytes, d) => bytes.length + uptoBulk d + 1
  | (_, d) => uptoBulk d + 1
 end
def uptoSmall : (H : Type) → List (DataW H) → Bool := fun _ ds => decide (uptoBulkAll ds ≤ 1048576)
def OpenSpec.upto (s : _root_.Go.ChangeSpec) : _root_.Go.OpenSpec := { _root_.Go.OpenSpec.ofChange s with cond := some uptoSmall }

/-- 'teasellaw3.DrawsBounds', WHERE WHAT IT READS IS OF BULK AT MOST 1048576: true; the input reads as it did. -/
def drawsBoundsUptoRow : OpenClaim := { program := "ytjcnmlfkdfpjmaa", sum := "6ecc237d4016803ea76f01f927a3af2dcc83beded8b8827f3e42742c23dce619", func := "teasel/teasellaw3.DrawsBounds", spec := "drawsBounds", unfollowed := true, recurses := true, apart := false, narrowed := true }
def DrawsBoundsUptoSaid : Prop := drawsBoundsUptoRow.holds Try.pinned (OpenSpec.upto drawsBoundsSpec)

/-- 'teasellaw3.DrawsAlarms', WHERE WHAT IT READS IS OF BULK AT MOST 1048576: true; the input reads as it did. -/
def drawsAlarmsUptoRow : OpenClaim := { program := "ytjcnmlfkdfpjmaa", sum := "6ecc237d4016803ea76f01f927a3af2dcc83beded8b8827f3e42742c23dce619", func := "teasel/teasellaw3.DrawsAlarms", spec := "drawsAlarms", unfollowed := true, recurses := true, apart := false, narrowed := true }
def DrawsAlarmsUptoSaid : Prop := drawsAlarmsUptoRow.holds Try.pinned (OpenSpec.upto drawsAlarmsSpec)

/-- 'teasellaw3.DrawsSource', WHERE WHAT IT READS IS OF BULK AT MOST 1048576: true; the input reads as it did. -/
def drawsSourceUptoRow : OpenClaim := { program := "ytjcnmlfkdfpjmaa", sum := "6ecc237d4016803ea76f01f927a3af2dcc83beded8b8827f3e42742c23dce619", func := "teasel/teasellaw3.DrawsSource", spec := "drawsSource", unfollowed := true, recurses := true, apart := false, narrowed := true }
def DrawsSourceUptoSaid : Prop := drawsSourceUptoRow.holds Try.pinned (OpenSpec.upto drawsSourceSpec)

/-- 'teasellaw3.DrawsTwins', WHERE WHAT IT READS IS OF BULK AT MOST 1048576: true; the input reads as it did. -/
def drawsTwinsUptoRow : OpenClaim := { program := "ytjcnmlfkdfpjmaa", sum := "6ecc237d4016803ea76f01f927a3af2dcc83beded8b8827f3e42742c23dce619", func := "teasel/teasellaw3.DrawsTwins", spec := "drawsTwins", unfollowed := true, recurses := true, apart := false, narrowed := true }
def DrawsTwinsUptoSaid : Prop := drawsTwinsUptoRow.holds Try.pinned (OpenSpec.upto drawsTwinsSpec)

/-- 'teasellaw3.DrawsClocks', WHERE WHAT IT READS IS OF BULK AT MOST 1048576: true; the input reads as it did. -/
def drawsClocksUptoRow : OpenClaim := { program := "ytjcnmlfkdfpjmaa", sum := "6ecc237d4016803ea76f01f927a3af2dcc83beded8b8827f3e42742c23dce619", func := "teasel/teasellaw3.DrawsClocks", spec := "drawsClocks", unfollowed := true, recurses := true, apart := false, narrowed := true }
def DrawsClocksUptoSaid : Prop := drawsClocksUptoRow.holds Try.pinned (OpenSpec.upto drawsClocksSpec)

end Rows
end Go.Proofs.Ytjcnmlfkdfpjmaa
