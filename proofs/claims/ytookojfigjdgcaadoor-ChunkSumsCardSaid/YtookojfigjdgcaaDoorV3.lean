/- The law ChunkSums, for the statement's own reading. -/
import Derived.Test.YtookojfigjdgcaaDoorV1
import Derived.Test.YtookojfigjdgcaaDoorSumsW
set_option linter.unusedVariables false
namespace Go.Proofs.YtookojfigjdgcaaDoor
open Go.ChangeShapes Go.WideShapes Go.RowKit
theorem sums_law (W : World) (hL : Laid W) (ao : Option Addr) (n cp : Nat) (l : List UInt8) (hl : RowY W ao l) (hn : l.length = n) (hcp : n ≤ cp) (hcm : cp ≤ maxLen) (h0 : ao = none → n = 0 ∧ cp = 0) (sz : Int) (_ : (Lit.int .i64 sz).wf = true) (at_ : Int) (_ : (Lit.int .i64 at_).wf = true) (t : Int) (ht : (Lit.int .u8 t).wf = true) :
    Calls Tryd.prog 6 #[.slice ao n cp, .int .i64 sz, .int .i64 at_, .int .u8 t] W fun e W' => e = .returned (.bool true) ∧ Below W.heap.size W W' :=
  Calls.mono (sums_any W hL ao n cp l hl hn hcp hcm h0 sz at_ t (wf_u8 ht).1 (wf_u8 ht).2) (fun e W' h => ⟨h.1, h.2.below (Nat.le_refl _) (fun k e => e.elim)⟩)
end Go.Proofs.YtookojfigjdgcaaDoor
