/- The law ChunkBuilds, for the statement's own reading. -/
import Derived.Test.YtookojfigjdgcaaDoorRO
import Derived.Test.YtookojfigjdgcaaDoorBuildsW
set_option linter.unusedVariables false
namespace Go.Proofs.YtookojfigjdgcaaDoor
open Go.ChangeShapes Go.WideShapes Go.RowKit
theorem builds_law (W : World) (hL : Laid W) (ao : Option Addr) (len cap : Nat) (L : List Ac) (hA : ActsW W ao len L) (hl : len ≤ 9223372036854775807) :
    Calls Tryd.prog 5 #[.slice ao len cap] W fun e W' => e = .returned (.bool true) ∧ Below W.heap.size W W' :=
  Calls.mono (builds_any W hL ao len cap L hA hl) (fun e W' h => ⟨h.1, h.2.below (Nat.le_refl _) (fun k e => e.elim)⟩)
end Go.Proofs.YtookojfigjdgcaaDoor
