/-
  No cell of these rows narrows 'for every input' (looked for: loops, veiled, ifaces, maps, wideKeys, modest, calm, conditions, laid).
  DERIVED. THE GIVEN ROWS OF THIS SEAT. 5 by the template 'for every input the law returns true; each argument reads behind the call as it read before'; 0 by the template 'total and deterministic' (their statements: YtfeaoapjgcibmaaTotals.lean).
  GIVEN WITH THE SEED: the statements are not yours to turn. If you find one false, say at which input.
  Laid BY PROGRAM, IN A SANDBOX (cutbox-rows.mjs): the forced cells as the released guide's own fill.sh prints them over the translation aac20f1245f60f04… (all of the seat's roots in one cut). By AI agents, Wed Nov 11 2026. No macro, syntax, notation, axiom, sorry.
-/
import Derived.Test.YtfeaoapjgcibmaaChecked
import GoSem.Claim
import GoSem.ClaimJoined
import GoSem.ClaimMapViews
import Derived.JoinedTies
import Derived.KernelRfl
namespace Go.Proofs.Ytfeaoapjgcibmaa
/- THE CELL 'sum', in the pinned program and in every row, IS THE sha256 OF THE DUMP (.gsa) THAT YtfeaoapjgcibmaaProg.lean LOADS. Nothing in Lean hashes anything: it is a label: what it is worth is what the hold of that sum in a sandbox is worth. -/
noncomputable def Try.pinned : Pinned := { name := "ytfeaoapjgcibmaa", sum := "aac20f1245f60f04178814aab796c3c3c75329e63a3670721380b70fa28a376f", checked := Try.checked }
namespace Rows
def none {H : Type} : Left H := { results := [], args := [] }

/-- 'teasellaw8.QuorumOf': WHATEVER THE INPUT: true; the input reads as it did. -/
def quorumOfSpec : ChangeSpec := { name := "quorumOf", fn := fun _ => fun
  | [d1, d2] => { results := [.lit (.bool true)], args := [d1, d2] }
  | _ => none }
def quorumOfRow : OpenClaim := { program := "ytfeaoapjgcibmaa", sum := "aac20f1245f60f04178814aab796c3c3c75329e63a3670721380b70fa28a376f", func := "teasel/teasellaw8.QuorumOf", spec := "quorumOf", unfollowed := true, recurses := true, apart := false }
def QuorumOfSaid : Prop := quorumOfRow.holds Try.pinned (OpenSpec.ofChange quorumOfSpec)

/-- ITS FALSE NEIGHBOUR: 'it returns false'. Refute it at one input. -/
def quorumOfWrong : ChangeSpec := { name := "quorumOf", fn := fun _ => fun
  | [d1, d2] => { results := [.lit (.bool false)], args := [d1, d2] }
  | _ => none }
def QuorumOfWrongFalsely : Prop := quorumOfRow.holds Try.pinned (OpenSpec.ofChange quorumOfWrong)

/-- 'teasellaw8.QuorumIndex': WHATEVER THE INPUT: true; the input reads as it did. -/
def quorumIndexSpec : ChangeSpec := { name := "quorumIndex", fn := fun _ => fun
  | [d1, d2] => { results := [.lit (.bool true)], args := [d1, d2] }
  | _ => none }
def quorumIndexRow : OpenClaim := { program := "ytfeaoapjgcibmaa", sum := "aac20f1245f60f04178814aab796c3c3c75329e63a3670721380b70fa28a376f", func := "teasel/teasellaw8.QuorumIndex", spec := "quorumIndex", unfollowed := true, recurses := true, apart := false }
def QuorumIndexSaid : Prop := quorumIndexRow.holds Try.pinned (OpenSpec.ofChange quorumIndexSpec)

/-- ITS FALSE NEIGHBOUR: 'it returns false'. Refute it at one input. -/
def quorumIndexWrong : ChangeSpec := { name := "quorumIndex", fn := fun _ => fun
  | [d1, d2] => { results := [.lit (.bool false)], args := [d1, d2] }
  | _ => none }
def QuorumIndexWrongFalsely : Prop := quorumIndexRow.holds Try.pinned (OpenSpec.ofChange quorumIndexWrong)

/-- 'teasellaw8.QuorumVotes': WHATEVER THE INPUT: true; the input reads as it did. -/
def quorumVotesSpec : ChangeSpec := { name := "quorumVotes", fn := fun _ => fun
  | [d1, d2, d3, d4] => { results := [.lit (.bool true)], args := [d1, d2, d3, d4] }
  | _ => none }
def quorumVotesRow : OpenClaim := { program := "ytfeaoapjgcibmaa", sum := "aac20f1245f60f04178814aab796c3c3c75329e63a3670721380b70fa28a376f", func := "teasel/teasellaw8.QuorumVotes", spec := "quorumVotes", unfollowed := true, recurses := true, apart := false }
def QuorumVotesSaid : Prop := quorumVotesRow.holds Try.pinned (OpenSpec.ofChange quorumVotesSpec)

/-- ITS FALSE NEIGHBOUR: 'it returns false'. Refute it at one input. -/
def quorumVotesWrong : ChangeSpec := { name := "quorumVotes", fn := fun _ => fun
  | [d1, d2, d3, d4] => { results := [.lit (.bool false)], args := [d1, d2, d3, d4] }
  | _ => none }
def QuorumVotesWrongFalsely : Prop := quorumVotesRow.holds Try.pinned (OpenSpec.ofChange quorumVotesWrong)

/-- 'teasellaw8.QuorumMeets': WHATEVER THE INPUT: true; the input reads as it did. -/
def quorumMeetsSpec : ChangeSpec := { name := "quorumMeets", fn := fun _ => fun
  | [d1, d2, d3, d4, d5] => { results := [.lit (.bool true)], args := [d1, d2, d3, d4, d5] }
  | _ => none }
def quorumMeetsRow : OpenClaim := { program := "ytfeaoapjgcibmaa", sum := "aac20f1245f60f04178814aab796c3c3c75329e63a3670721380b70fa28a376f", func := "teasel/teasellaw8.QuorumMeets", spec := "quorumMeets", unfollowed := true, recurses := true, apart := false }
def QuorumMeetsSaid : Prop := quorumMeetsRow.holds Try.pinned (OpenSpec.ofChange quorumMeetsSpec)

/-- ITS FALSE NEIGHBOUR: 'it returns false'. Refute it at one input. -/
def quorumMeetsWrong : ChangeSpec := { name := "quorumMeets", fn := fun _ => fun
  | [d1, d2, d3, d4, d5] => { results := [.lit (.bool false)], args := [d1, d2, d3, d4, d5] }
  | _ => none }
def QuorumMeetsWrongFalsely : Prop := quorumMeetsRow.holds Try.pinned (OpenSpec.ofChange quorumMeetsWrong)

/-- 'teasellaw8.QuorumMembers': WHATEVER THE INPUT: true; the input reads as it did. -/
def quorumMembersSpec : ChangeSpec := { name := "quorumMembers", fn := fun _ => fun
  | [d1, d2, d3, d4, d5, d6] => { results := [.lit (.bool true)], args := [d1, d2, d3, d4, d5, d6] }
  | _ => none }
def quorumMembersRow : OpenClaim := { program := "ytfeaoapjgcibmaa", sum := "aac20f1245f60f04178814aab796c3c3c75329e63a3670721380b70fa28a376f", func := "teasel/teasellaw8.QuorumMembers", spec := "quorumMembers", unfollowed := true, recurses := true, apart := false }
def QuorumMembersSaid : Prop := quorumMembersRow.holds Try.pinned (OpenSpec.ofChange quorumMembersSpec)

/-- ITS FALSE NEIGHBOUR: 'it returns false'. Refute it at one input. -/
def quorumMembersWrong : ChangeSpec := { name := "quorumMembers", fn := fun _ => fun
  | [d1, d2, d3, d4, d5, d6] => { results := [.lit (.bool false)], args := [d1, d2, d3, d4, d5, d6] }
  | _ => none }
def QuorumMembersWrongFalsely : Prop := quorumMembersRow.holds Try.pinned (OpenSpec.ofChange quorumMembersWrong)

/- THE SECOND FORM. 'bulk': how many values and letters a reading holds, each counted each time it is reached (what is shared counts as often as it is met; a slice's spare places count too). A statement '..UptoSaid' is the law's where the arguments, and the package variables that the reading takes, are together of bulk at most 1048576: NARROWER than '..Said'. Prove '..Said' where nothing that the law and all that it calls make is longer than what came in: it says more and counts as full. Else prove '..UptoSaid'. A law counts once. -/
mutual
def uptoBulk {H : Type} : DataW H → Nat
  | .lit (.string bytes) => bytes.length + 1
  | .lit _ => 1
  | .nil => 1
  | .ptr d => uptoBulk d + 1
  | .slice elems spare => uptoBulkAll elems + uptoBulkAll spare + 1
  | .agg parts => uptoBulkAll parts + 1
  | .iface _ d => uptoBulk d + 1
  | .map entries => uptoBulkEntries entries + 1
  | .held _ => 1
def uptoBulkAll {H : Type} : List (DataW H) → Nat
  | [] => 0
  | d :: r => uptoBulk d + uptoBulkAll r
def uptoBulkEntries {H : Type} : List (Lit × DataW H) → Nat
  | [] => 0
  | x :: r => uptoBulkEntry x + uptoBulkEntries r
def uptoBulkEntry {H : Type} : Lit × DataW H → Nat
  | (.string bytes, d) => bytes.length + uptoBulk d + 1
  | (_, d) => uptoBulk d + 1
 end
def uptoSmall : (H : Type) → List (DataW H) → Bool := fun _ ds => decide (uptoBulkAll ds ≤ 1048576)
def OpenSpec.upto (s : _root_.Go.ChangeSpec) : _root_.Go.OpenSpec := { _root_.Go.OpenSpec.ofChange s with cond := some uptoSmall }

/-- 'teasellaw8.QuorumOf', WHERE WHAT IT READS IS OF BULK AT MOST 1048576: true; the input reads as it did. -/
def quorumOfUptoRow : OpenClaim := { program := "ytfeaoapjgcibmaa", sum := "aac20f1245f60f04178814aab796c3c3c75329e63a3670721380b70fa28a376f", func := "teasel/teasellaw8.QuorumOf", spec := "quorumOf", unfollowed := true, recurses := true, apart := false, narrowed := true }
def QuorumOfUptoSaid : Prop := quorumOfUptoRow.holds Try.pinned (OpenSpec.upto quorumOfSpec)

/-- 'teasellaw8.QuorumIndex', WHERE WHAT IT READS IS OF BULK AT MOST 1048576: true; the input reads as it did. -/
def quorumIndexUptoRow : OpenClaim := { program := "ytfeaoapjgcibmaa", sum := "aac20f1245f60f04178814aab796c3c3c75329e63a3670721380b70fa28a376f", func := "teasel/teasellaw8.QuorumIndex", spec := "quorumIndex", unfollowed := true, recurses := true, apart := false, narrowed := true }
def QuorumIndexUptoSaid : Prop := quorumIndexUptoRow.holds Try.pinned (OpenSpec.upto quorumIndexSpec)

/-- 'teasellaw8.QuorumVotes', WHERE WHAT IT READS IS OF BULK AT MOST 1048576: true; the input reads as it did. -/
def quorumVotesUptoRow : OpenClaim := { program := "ytfeaoapjgcibmaa", sum := "aac20f1245f60f04178814aab796c3c3c75329e63a3670721380b70fa28a376f", func := "teasel/teasellaw8.QuorumVotes", spec := "quorumVotes", unfollowed := true, recurses := true, apart := false, narrowed := true }
def QuorumVotesUptoSaid : Prop := quorumVotesUptoRow.holds Try.pinned (OpenSpec.upto quorumVotesSpec)

/-- 'teasellaw8.QuorumMeets', WHERE WHAT IT READS IS OF BULK AT MOST 1048576: true; the input reads as it did. -/
def quorumMeetsUptoRow : OpenClaim := { program := "ytfeaoapjgcibmaa", sum := "aac20f1245f60f04178814aab796c3c3c75329e63a3670721380b70fa28a376f", func := "teasel/teasellaw8.QuorumMeets", spec := "quorumMeets", unfollowed := true, recurses := true, apart := false, narrowed := true }
def QuorumMeetsUptoSaid : Prop := quorumMeetsUptoRow.holds Try.pinned (OpenSpec.upto quorumMeetsSpec)

/-- 'teasellaw8.QuorumMembers', WHERE WHAT IT READS IS OF BULK AT MOST 1048576: true; the input reads as it did. -/
def quorumMembersUptoRow : OpenClaim := { program := "ytfeaoapjgcibmaa", sum := "aac20f1245f60f04178814aab796c3c3c75329e63a3670721380b70fa28a376f", func := "teasel/teasellaw8.QuorumMembers", spec := "quorumMembers", unfollowed := true, recurses := true, apart := false, narrowed := true }
def QuorumMembersUptoSaid : Prop := quorumMembersUptoRow.holds Try.pinned (OpenSpec.upto quorumMembersSpec)

end Rows
end Go.Proofs.Ytfeaoapjgcibmaa
