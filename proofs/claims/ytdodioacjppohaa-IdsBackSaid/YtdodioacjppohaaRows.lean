/-
  No cell of these rows narrows 'for every input' (looked for: loops, veiled, ifaces, maps, wideKeys, modest, calm, conditions, laid).
  DERIVED. THE GIVEN ROWS OF THIS SEAT. 12 by the template 'for every input the law returns true; each argument reads behind the call as it read before'; 0 by the template 'total and deterministic' (their statements: YtdodioacjppohaaTotals.lean).
  GIVEN WITH THE SEED: the statements are not yours to turn. If you find one false, say at which input.
  Laid BY PROGRAM, IN A SANDBOX (cutbox-rows.mjs): the forced cells as the released guide's own fill.sh prints them over the translation dc61a748a5867871… (all of the seat's roots in one cut). By AI agents, Wed Nov 11 2026. No macro, syntax, notation, axiom, sorry.
-/
import Derived.Test.YtdodioacjppohaaChecked
import GoSem.Claim
import GoSem.ClaimJoined
import GoSem.ClaimMapViews
import Derived.JoinedTies
import Derived.KernelRfl
namespace Go.Proofs.Ytdodioacjppohaa
/- THE CELL 'sum', in the pinned program and in every row, IS THE sha256 OF THE DUMP (.gsa) THAT YtdodioacjppohaaProg.lean LOADS. Nothing in Lean hashes anything: it is a label: what it is worth is what the hold of that sum in a sandbox is worth. -/
noncomputable def Try.pinned : Pinned := { name := "ytdodioacjppohaa", sum := "dc61a748a586787164e821539f90b2c603cafd3e29d7cc6992acf6f95b2e3ca7", checked := Try.checked }
namespace Rows
def none {H : Type} : Left H := { results := [], args := [] }

/-- 'teasellaw2.IdsUnlike': WHATEVER THE INPUT: true; the input reads as it did. -/
def idsUnlikeSpec : ChangeSpec := { name := "idsUnlike", fn := fun _ => fun
  | [d1, d2, d3] => { results := [.lit (.bool true)], args := [d1, d2, d3] }
  | _ => none }
def idsUnlikeRow : OpenClaim := { program := "ytdodioacjppohaa", sum := "dc61a748a586787164e821539f90b2c603cafd3e29d7cc6992acf6f95b2e3ca7", func := "teasel/teasellaw2.IdsUnlike", spec := "idsUnlike", plainKeys := false, apart := false }
def IdsUnlikeSaid : Prop := idsUnlikeRow.holds Try.pinned (OpenSpec.ofChange idsUnlikeSpec)

/-- ITS FALSE NEIGHBOUR: 'it returns false'. Refute it at one input. -/
def idsUnlikeWrong : ChangeSpec := { name := "idsUnlike", fn := fun _ => fun
  | [d1, d2, d3] => { results := [.lit (.bool false)], args := [d1, d2, d3] }
  | _ => none }
def IdsUnlikeWrongFalsely : Prop := idsUnlikeRow.holds Try.pinned (OpenSpec.ofChange idsUnlikeWrong)

/-- 'teasellaw17.FenceRises': WHATEVER THE INPUT: true; the input reads as it did. -/
def fenceRisesSpec : ChangeSpec := { name := "fenceRises", fn := fun _ => fun
  | [d1, d2] => { results := [.lit (.bool true)], args := [d1, d2] }
  | _ => none }
def fenceRisesRow : OpenClaim := { program := "ytdodioacjppohaa", sum := "dc61a748a586787164e821539f90b2c603cafd3e29d7cc6992acf6f95b2e3ca7", func := "teasel/teasellaw17.FenceRises", spec := "fenceRises", plainKeys := false, apart := false }
def FenceRisesSaid : Prop := fenceRisesRow.holds Try.pinned (OpenSpec.ofChange fenceRisesSpec)

/-- ITS FALSE NEIGHBOUR: 'it returns false'. Refute it at one input. -/
def fenceRisesWrong : ChangeSpec := { name := "fenceRises", fn := fun _ => fun
  | [d1, d2] => { results := [.lit (.bool false)], args := [d1, d2] }
  | _ => none }
def FenceRisesWrongFalsely : Prop := fenceRisesRow.holds Try.pinned (OpenSpec.ofChange fenceRisesWrong)

/-- 'teasellaw17.FenceOne': WHATEVER THE INPUT: true; the input reads as it did. -/
def fenceOneSpec : ChangeSpec := { name := "fenceOne", fn := fun _ => fun
  | [d1, d2, d3, d4, d5] => { results := [.lit (.bool true)], args := [d1, d2, d3, d4, d5] }
  | _ => none }
def fenceOneRow : OpenClaim := { program := "ytdodioacjppohaa", sum := "dc61a748a586787164e821539f90b2c603cafd3e29d7cc6992acf6f95b2e3ca7", func := "teasel/teasellaw17.FenceOne", spec := "fenceOne", plainKeys := false, apart := false }
def FenceOneSaid : Prop := fenceOneRow.holds Try.pinned (OpenSpec.ofChange fenceOneSpec)

/-- ITS FALSE NEIGHBOUR: 'it returns false'. Refute it at one input. -/
def fenceOneWrong : ChangeSpec := { name := "fenceOne", fn := fun _ => fun
  | [d1, d2, d3, d4, d5] => { results := [.lit (.bool false)], args := [d1, d2, d3, d4, d5] }
  | _ => none }
def FenceOneWrongFalsely : Prop := fenceOneRow.holds Try.pinned (OpenSpec.ofChange fenceOneWrong)

/-- 'teasellaw2.IdsShards': WHATEVER THE INPUT: true; the input reads as it did. -/
def idsShardsSpec : ChangeSpec := { name := "idsShards", fn := fun _ => fun
  | [d1, d2, d3, d4] => { results := [.lit (.bool true)], args := [d1, d2, d3, d4] }
  | _ => none }
def idsShardsRow : OpenClaim := { program := "ytdodioacjppohaa", sum := "dc61a748a586787164e821539f90b2c603cafd3e29d7cc6992acf6f95b2e3ca7", func := "teasel/teasellaw2.IdsShards", spec := "idsShards", plainKeys := false, apart := false }
def IdsShardsSaid : Prop := idsShardsRow.holds Try.pinned (OpenSpec.ofChange idsShardsSpec)

/-- ITS FALSE NEIGHBOUR: 'it returns false'. Refute it at one input. -/
def idsShardsWrong : ChangeSpec := { name := "idsShards", fn := fun _ => fun
  | [d1, d2, d3, d4] => { results := [.lit (.bool false)], args := [d1, d2, d3, d4] }
  | _ => none }
def IdsShardsWrongFalsely : Prop := idsShardsRow.holds Try.pinned (OpenSpec.ofChange idsShardsWrong)

/-- 'teasellaw2.IdsNumbers': WHATEVER THE INPUT: true; the input reads as it did. -/
def idsNumbersSpec : ChangeSpec := { name := "idsNumbers", fn := fun _ => fun
  | [d1, d2, d3, d4, d5] => { results := [.lit (.bool true)], args := [d1, d2, d3, d4, d5] }
  | _ => none }
def idsNumbersRow : OpenClaim := { program := "ytdodioacjppohaa", sum := "dc61a748a586787164e821539f90b2c603cafd3e29d7cc6992acf6f95b2e3ca7", func := "teasel/teasellaw2.IdsNumbers", spec := "idsNumbers", plainKeys := false, apart := false }
def IdsNumbersSaid : Prop := idsNumbersRow.holds Try.pinned (OpenSpec.ofChange idsNumbersSpec)

/-- ITS FALSE NEIGHBOUR: 'it returns false'. Refute it at one input. -/
def idsNumbersWrong : ChangeSpec := { name := "idsNumbers", fn := fun _ => fun
  | [d1, d2, d3, d4, d5] => { results := [.lit (.bool false)], args := [d1, d2, d3, d4, d5] }
  | _ => none }
def IdsNumbersWrongFalsely : Prop := idsNumbersRow.holds Try.pinned (OpenSpec.ofChange idsNumbersWrong)

/-- 'teasellaw11.DedupOnce': WHATEVER THE INPUT: true; the input reads as it did. -/
def dedupOnceSpec : ChangeSpec := { name := "dedupOnce", fn := fun _ => fun
  | [d1, d2, d3, d4] => { results := [.lit (.bool true)], args := [d1, d2, d3, d4] }
  | _ => none }
def dedupOnceRow : OpenClaim := { program := "ytdodioacjppohaa", sum := "dc61a748a586787164e821539f90b2c603cafd3e29d7cc6992acf6f95b2e3ca7", func := "teasel/teasellaw11.DedupOnce", spec := "dedupOnce", plainKeys := false, apart := false }
def DedupOnceSaid : Prop := dedupOnceRow.holds Try.pinned (OpenSpec.ofChange dedupOnceSpec)

/-- ITS FALSE NEIGHBOUR: 'it returns false'. Refute it at one input. -/
def dedupOnceWrong : ChangeSpec := { name := "dedupOnce", fn := fun _ => fun
  | [d1, d2, d3, d4] => { results := [.lit (.bool false)], args := [d1, d2, d3, d4] }
  | _ => none }
def DedupOnceWrongFalsely : Prop := dedupOnceRow.holds Try.pinned (OpenSpec.ofChange dedupOnceWrong)

/-- 'teasellaw2.IdsTokens': WHATEVER THE INPUT: true; the input reads as it did. -/
def idsTokensSpec : ChangeSpec := { name := "idsTokens", fn := fun _ => fun
  | [d1, d2, d3] => { results := [.lit (.bool true)], args := [d1, d2, d3] }
  | _ => none }
def idsTokensRow : OpenClaim := { program := "ytdodioacjppohaa", sum := "dc61a748a586787164e821539f90b2c603cafd3e29d7cc6992acf6f95b2e3ca7", func := "teasel/teasellaw2.IdsTokens", spec := "idsTokens", unfollowed := true, recurses := true, plainKeys := false, apart := false }
def IdsTokensSaid : Prop := idsTokensRow.holds Try.pinned (OpenSpec.ofChange idsTokensSpec)

/-- ITS FALSE NEIGHBOUR: 'it returns false'. Refute it at one input. -/
def idsTokensWrong : ChangeSpec := { name := "idsTokens", fn := fun _ => fun
  | [d1, d2, d3] => { results := [.lit (.bool false)], args := [d1, d2, d3] }
  | _ => none }
def IdsTokensWrongFalsely : Prop := idsTokensRow.holds Try.pinned (OpenSpec.ofChange idsTokensWrong)

/-- 'teasellaw14.MatchOrder': WHATEVER THE INPUT: true; the input reads as it did. -/
def matchOrderSpec : ChangeSpec := { name := "matchOrder", fn := fun _ => fun
  | [d1, d2] => { results := [.lit (.bool true)], args := [d1, d2] }
  | _ => none }
def matchOrderRow : OpenClaim := { program := "ytdodioacjppohaa", sum := "dc61a748a586787164e821539f90b2c603cafd3e29d7cc6992acf6f95b2e3ca7", func := "teasel/teasellaw14.MatchOrder", spec := "matchOrder", plainKeys := false, apart := false }
def MatchOrderSaid : Prop := matchOrderRow.holds Try.pinned (OpenSpec.ofChange matchOrderSpec)

/-- ITS FALSE NEIGHBOUR: 'it returns false'. Refute it at one input. -/
def matchOrderWrong : ChangeSpec := { name := "matchOrder", fn := fun _ => fun
  | [d1, d2] => { results := [.lit (.bool false)], args := [d1, d2] }
  | _ => none }
def MatchOrderWrongFalsely : Prop := matchOrderRow.holds Try.pinned (OpenSpec.ofChange matchOrderWrong)

/-- 'teasellaw2.IdsBack': WHATEVER THE INPUT: true; the input reads as it did. -/
def idsBackSpec : ChangeSpec := { name := "idsBack", fn := fun _ => fun
  | [d1, d2, d3, d4, d5] => { results := [.lit (.bool true)], args := [d1, d2, d3, d4, d5] }
  | _ => none }
def idsBackRow : OpenClaim := { program := "ytdodioacjppohaa", sum := "dc61a748a586787164e821539f90b2c603cafd3e29d7cc6992acf6f95b2e3ca7", func := "teasel/teasellaw2.IdsBack", spec := "idsBack", unfollowed := true, recurses := true, plainKeys := false, apart := false }
def IdsBackSaid : Prop := idsBackRow.holds Try.pinned (OpenSpec.ofChange idsBackSpec)

/-- ITS FALSE NEIGHBOUR: 'it returns false'. Refute it at one input. -/
def idsBackWrong : ChangeSpec := { name := "idsBack", fn := fun _ => fun
  | [d1, d2, d3, d4, d5] => { results := [.lit (.bool false)], args := [d1, d2, d3, d4, d5] }
  | _ => none }
def IdsBackWrongFalsely : Prop := idsBackRow.holds Try.pinned (OpenSpec.ofChange idsBackWrong)

/-- 'teasellaw8.QuorumOf': WHATEVER THE INPUT: true; the input reads as it did. -/
def quorumOfSpec : ChangeSpec := { name := "quorumOf", fn := fun _ => fun
  | [d1, d2] => { results := [.lit (.bool true)], args := [d1, d2] }
  | _ => none }
def quorumOfRow : OpenClaim := { program := "ytdodioacjppohaa", sum := "dc61a748a586787164e821539f90b2c603cafd3e29d7cc6992acf6f95b2e3ca7", func := "teasel/teasellaw8.QuorumOf", spec := "quorumOf", unfollowed := true, recurses := true, plainKeys := false, apart := false }
def QuorumOfSaid : Prop := quorumOfRow.holds Try.pinned (OpenSpec.ofChange quorumOfSpec)

/-- ITS FALSE NEIGHBOUR: 'it returns false'. Refute it at one input. -/
def quorumOfWrong : ChangeSpec := { name := "quorumOf", fn := fun _ => fun
  | [d1, d2] => { results := [.lit (.bool false)], args := [d1, d2] }
  | _ => none }
def QuorumOfWrongFalsely : Prop := quorumOfRow.holds Try.pinned (OpenSpec.ofChange quorumOfWrong)

/-- 'teasellaw8.QuorumIndex': WHATEVER THE INPUT: true; the input reads as it did. -/
def quorumIndexSpec : ChangeSpec := { name := "quorumIndex", fn := fun _ => fun
  | [d1, d2] => { results := [.lit (.bool true)], args := [d1, d2] }
  | _ => none }
def quorumIndexRow : OpenClaim := { program := "ytdodioacjppohaa", sum := "dc61a748a586787164e821539f90b2c603cafd3e29d7cc6992acf6f95b2e3ca7", func := "teasel/teasellaw8.QuorumIndex", spec := "quorumIndex", unfollowed := true, recurses := true, plainKeys := false, apart := false }
def QuorumIndexSaid : Prop := quorumIndexRow.holds Try.pinned (OpenSpec.ofChange quorumIndexSpec)

/-- ITS FALSE NEIGHBOUR: 'it returns false'. Refute it at one input. -/
def quorumIndexWrong : ChangeSpec := { name := "quorumIndex", fn := fun _ => fun
  | [d1, d2] => { results := [.lit (.bool false)], args := [d1, d2] }
  | _ => none }
def QuorumIndexWrongFalsely : Prop := quorumIndexRow.holds Try.pinned (OpenSpec.ofChange quorumIndexWrong)

/-- 'teasellaw8.QuorumVotes': WHATEVER THE INPUT: true; the input reads as it did. -/
def quorumVotesSpec : ChangeSpec := { name := "quorumVotes", fn := fun _ => fun
  | [d1, d2, d3, d4] => { results := [.lit (.bool true)], args := [d1, d2, d3, d4] }
  | _ => none }
def quorumVotesRow : OpenClaim := { program := "ytdodioacjppohaa", sum := "dc61a748a586787164e821539f90b2c603cafd3e29d7cc6992acf6f95b2e3ca7", func := "teasel/teasellaw8.QuorumVotes", spec := "quorumVotes", unfollowed := true, recurses := true, plainKeys := false, apart := false }
def QuorumVotesSaid : Prop := quorumVotesRow.holds Try.pinned (OpenSpec.ofChange quorumVotesSpec)

/-- ITS FALSE NEIGHBOUR: 'it returns false'. Refute it at one input. -/
def quorumVotesWrong : ChangeSpec := { name := "quorumVotes", fn := fun _ => fun
  | [d1, d2, d3, d4] => { results := [.lit (.bool false)], args := [d1, d2, d3, d4] }
  | _ => none }
def QuorumVotesWrongFalsely : Prop := quorumVotesRow.holds Try.pinned (OpenSpec.ofChange quorumVotesWrong)

/- THE SECOND FORM. 'bulk': how many values and letters a reading holds, each counted each time it is reached (what is shared counts as often as it is met; a slice's spare places count too). A statement '..UptoSaid' is the law's where the arguments, and the package variables that the reading takes, are together of bulk at most 1048576: NARROWER than '..Said'. Prove '..Said' where nothing that the law and all that it calls make is longer than what came in: it says more and counts as full. Else prove '..UptoSaid'. A law counts once. -/
mutual
def uptoBulk {H : Type} : DataW H → Nat
  | .lit (.string bytes) => bytes.length + 1
  | .lit _ => 1
  | .nil => 1
  | .ptr d => uptoBulk d + 1
  | .slice elems spare => uptoBulkAll elems + uptoBulkAll spare + 1
  | .agg parts => uptoBulkAll parts + 1
  | .iface _ d => uptoBulk d + 1
  | .map entries => uptoBulkEntries entries + 1
  | .held _ => 1
def uptoBulkAll {H : Type} : List (DataW H) → Nat
  | [] => 0
  | d :: r => uptoBulk d + uptoBulkAll r
def uptoBulkEntries {H : Type} : List (Lit × DataW H) → Nat
  | [] => 0
  | x :: r => uptoBulkEntry x + uptoBulkEntries r
def uptoBulkEntry {H : Type} : Lit × DataW H → Nat
  | (.string bytes, d) => bytes.length + uptoBulk d + 1
  | (_, d) => uptoBulk d + 1
 end
def uptoSmall : (H : Type) → List (DataW H) → Bool := fun _ ds => decide (uptoBulkAll ds ≤ 1048576)
def OpenSpec.upto (s : _root_.Go.ChangeSpec) : _root_.Go.OpenSpec := { _root_.Go.OpenSpec.ofChange s with cond := some uptoSmall }

/-- 'teasellaw2.IdsUnlike', WHERE WHAT IT READS IS OF BULK AT MOST 1048576: true; the input reads as it did. -/
def idsUnlikeUptoRow : OpenClaim := { program := "ytdodioacjppohaa", sum := "dc61a748a586787164e821539f90b2c603cafd3e29d7cc6992acf6f95b2e3ca7", func := "teasel/teasellaw2.IdsUnlike", spec := "idsUnlike", plainKeys := false, apart := false, narrowed := true }
def IdsUnlikeUptoSaid : Prop := idsUnlikeUptoRow.holds Try.pinned (OpenSpec.upto idsUnlikeSpec)

/-- 'teasellaw17.FenceRises', WHERE WHAT IT READS IS OF BULK AT MOST 1048576: true; the input reads as it did. -/
def fenceRisesUptoRow : OpenClaim := { program := "ytdodioacjppohaa", sum := "dc61a748a586787164e821539f90b2c603cafd3e29d7cc6992acf6f95b2e3ca7", func := "teasel/teasellaw17.FenceRises", spec := "fenceRises", plainKeys := false, apart := false, narrowed := true }
def FenceRisesUptoSaid : Prop := fenceRisesUptoRow.holds Try.pinned (OpenSpec.upto fenceRisesSpec)

/-- 'teasellaw17.FenceOne', WHERE WHAT IT READS IS OF BULK AT MOST 1048576: true; the input reads as it did. -/
def fenceOneUptoRow : OpenClaim := { program := "ytdodioacjppohaa", sum := "dc61a748a586787164e821539f90b2c603cafd3e29d7cc6992acf6f95b2e3ca7", func := "teasel/teasellaw17.FenceOne", spec := "fenceOne", plainKeys := false, apart := false, narrowed := true }
def FenceOneUptoSaid : Prop := fenceOneUptoRow.holds Try.pinned (OpenSpec.upto fenceOneSpec)

/-- 'teasellaw2.IdsShards', WHERE WHAT IT READS IS OF BULK AT MOST 1048576: true; the input reads as it did. -/
def idsShardsUptoRow : OpenClaim := { program := "ytdodioacjppohaa", sum := "dc61a748a586787164e821539f90b2c603cafd3e29d7cc6992acf6f95b2e3ca7", func := "teasel/teasellaw2.IdsShards", spec := "idsShards", plainKeys := false, apart := false, narrowed := true }
def IdsShardsUptoSaid : Prop := idsShardsUptoRow.holds Try.pinned (OpenSpec.upto idsShardsSpec)

/-- 'teasellaw2.IdsNumbers', WHERE WHAT IT READS IS OF BULK AT MOST 1048576: true; the input reads as it did. -/
def idsNumbersUptoRow : OpenClaim := { program := "ytdodioacjppohaa", sum := "dc61a748a586787164e821539f90b2c603cafd3e29d7cc6992acf6f95b2e3ca7", func := "teasel/teasellaw2.IdsNumbers", spec := "idsNumbers", plainKeys := false, apart := false, narrowed := true }
def IdsNumbersUptoSaid : Prop := idsNumbersUptoRow.holds Try.pinned (OpenSpec.upto idsNumbersSpec)

/-- 'teasellaw11.DedupOnce', WHERE WHAT IT READS IS OF BULK AT MOST 1048576: true; the input reads as it did. -/
def dedupOnceUptoRow : OpenClaim := { program := "ytdodioacjppohaa", sum := "dc61a748a586787164e821539f90b2c603cafd3e29d7cc6992acf6f95b2e3ca7", func := "teasel/teasellaw11.DedupOnce", spec := "dedupOnce", plainKeys := false, apart := false, narrowed := true }
def DedupOnceUptoSaid : Prop := dedupOnceUptoRow.holds Try.pinned (OpenSpec.upto dedupOnceSpec)

/-- 'teasellaw2.IdsTokens', WHERE WHAT IT READS IS OF BULK AT MOST 1048576: true; the input reads as it did. -/
def idsTokensUptoRow : OpenClaim := { program := "ytdodioacjppohaa", sum := "dc61a748a586787164e821539f90b2c603cafd3e29d7cc6992acf6f95b2e3ca7", func := "teasel/teasellaw2.IdsTokens", spec := "idsTokens", unfollowed := true, recurses := true, plainKeys := false, apart := false, narrowed := true }
def IdsTokensUptoSaid : Prop := idsTokensUptoRow.holds Try.pinned (OpenSpec.upto idsTokensSpec)

/-- 'teasellaw14.MatchOrder', WHERE WHAT IT READS IS OF BULK AT MOST 1048576: true; the input reads as it did. -/
def matchOrderUptoRow : OpenClaim := { program := "ytdodioacjppohaa", sum := "dc61a748a586787164e821539f90b2c603cafd3e29d7cc6992acf6f95b2e3ca7", func := "teasel/teasellaw14.MatchOrder", spec := "matchOrder", plainKeys := false, apart := false, narrowed := true }
def MatchOrderUptoSaid : Prop := matchOrderUptoRow.holds Try.pinned (OpenSpec.upto matchOrderSpec)

/-- 'teasellaw2.IdsBack', WHERE WHAT IT READS IS OF BULK AT MOST 1048576: true; the input reads as it did. -/
def idsBackUptoRow : OpenClaim := { program := "ytdodioacjppohaa", sum := "dc61a748a586787164e821539f90b2c603cafd3e29d7cc6992acf6f95b2e3ca7", func := "teasel/teasellaw2.IdsBack", spec := "idsBack", unfollowed := true, recurses := true, plainKeys := false, apart := false, narrowed := true }
def IdsBackUptoSaid : Prop := idsBackUptoRow.holds Try.pinned (OpenSpec.upto idsBackSpec)

/-- 'teasellaw8.QuorumOf', WHERE WHAT IT READS IS OF BULK AT MOST 1048576: true; the input reads as it did. -/
def quorumOfUptoRow : OpenClaim := { program := "ytdodioacjppohaa", sum := "dc61a748a586787164e821539f90b2c603cafd3e29d7cc6992acf6f95b2e3ca7", func := "teasel/teasellaw8.QuorumOf", spec := "quorumOf", unfollowed := true, recurses := true, plainKeys := false, apart := false, narrowed := true }
def QuorumOfUptoSaid : Prop := quorumOfUptoRow.holds Try.pinned (OpenSpec.upto quorumOfSpec)

/-- 'teasellaw8.QuorumIndex', WHERE WHAT IT READS IS OF BULK AT MOST 1048576: true; the input reads as it did. -/
def quorumIndexUptoRow : OpenClaim := { program := "ytdodioacjppohaa", sum := "dc61a748a586787164e821539f90b2c603cafd3e29d7cc6992acf6f95b2e3ca7", func := "teasel/teasellaw8.QuorumIndex", spec := "quorumIndex", unfollowed := true, recurses := true, plainKeys := false, apart := false, narrowed := true }
def QuorumIndexUptoSaid : Prop := quorumIndexUptoRow.holds Try.pinned (OpenSpec.upto quorumIndexSpec)

/-- 'teasellaw8.QuorumVotes', WHERE WHAT IT READS IS OF BULK AT MOST 1048576: true; the input reads as it did. -/
def quorumVotesUptoRow : OpenClaim := { program := "ytdodioacjppohaa", sum := "dc61a748a586787164e821539f90b2c603cafd3e29d7cc6992acf6f95b2e3ca7", func := "teasel/teasellaw8.QuorumVotes", spec := "quorumVotes", unfollowed := true, recurses := true, plainKeys := false, apart := false, narrowed := true }
def QuorumVotesUptoSaid : Prop := quorumVotesUptoRow.holds Try.pinned (OpenSpec.upto quorumVotesSpec)

end Rows
end Go.Proofs.Ytdodioacjppohaa
