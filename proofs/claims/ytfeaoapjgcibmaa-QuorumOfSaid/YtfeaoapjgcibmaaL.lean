/- The walk of QuorumOf. -/
import Derived.Test.YtfeaoapjgcibmaaK
set_option linter.unusedVariables false
set_option linter.unusedSimpArgs false
namespace Go.Proofs.Ytfeaoapjgcibmaa
open Go.RowKit Go.Shelf
attribute [local go_sem] Oper.semAt_some
set_option maxRecDepth 100000 in
set_option maxHeartbeats 4000000 in
theorem of_law (w : World) (a1 : Option Addr) (n1 c1 : Nat) (v1 : Nat → Int) (hl1 : n1 ≤ 9223372036854775807) (hr1 : Row w a1 n1 (fun j => .int .i64 (v1 j))) (hw1 : ∀ j, j < n1 → (Lit.int .i64 (v1 j)).wf = true)
    (a2 : Option Addr) (n2 c2 : Nat) (v2 : Nat → Int) (hl2 : n2 ≤ 9223372036854775807) (hr2 : Row w a2 n2 (fun j => .int .i64 (v2 j))) (hw2 : ∀ j, j < n2 → (Lit.int .i64 (v2 j)).wf = true) :
    Calls Try.prog 3 #[.slice a1 n1 c1, .slice a2 n2 c2] w fun e W' => e = .returned (.bool true) ∧ Below w.heap.size w W' := by
  go_enter Try.func3, Try.ntmps3
  go_wp2_with fail
  refine (known_any _).mono ?_
  rintro e w1 ⟨rfl, q1⟩
  have hs1 := q1.size
  by_cases hA : 100 < n1
  · have p1 : decide (100 < (n1 : Int)) = true := decide_eq_true (by omega)
    go_wp2
    go_ret
    exact ⟨rfl, q1⟩
  · have p1 : decide (100 < (n1 : Int)) = false := decide_eq_false (by omega)
    by_cases hB : 100 < n2
    · have p2 : decide (100 < (n2 : Int)) = true := decide_eq_true (by omega)
      go_wp2
      go_ret
      exact ⟨rfl, q1⟩
    · have p2 : decide (100 < (n2 : Int)) = false := decide_eq_false (by omega)
      go_wp2_with fail
      refine (of_any a1 n1 c1 v1 a2 n2 c2 v2 hl1 hl2 _ (hr1.below q1) (hr2.below q1)).mono ?_
      obtain ⟨R, hR⟩ : ∃ R, ofM v1 n1 v2 n2 = R := ⟨_, rfl⟩
      obtain ⟨E, hE⟩ : ∃ E, ofE v1 n1 v2 n2 = E := ⟨_, rfl⟩
      rw [hR, hE]
      rintro e w2 ⟨rfl, hb2⟩
      have q2 : Below w.heap.size w w2 := q1.trans (hb2.mono hs1)
      have hs2 := q2.size
      have q3 : Below w.heap.size w (w2.alloc (.cells (arr R) 25)) := q2.alloc hs2 _
      go_wp2_with fail
      refine (ofR_any a1 n1 c1 v1 a2 n2 c2 v2 (by omega) (by omega) _ (hr1.below q3) (hr2.below q3)).mono ?_
      rw [hR, hE]
      rintro e w3 ⟨rfl, hb3⟩
      clear hR hE
      have B3 : Blk w3 w2.heap.size 25 (arr R) := (Blk.new w2 25 (arr R)).below hb3
      have q4 : Below w.heap.size w w3 := q3.trans (hb3.mono (by simp; omega))
      have hs4 := q4.size
      obtain ⟨x0, x1, x2, x3, x4, x5, x6, x7, x8⟩ := cells9 B3
      have hlt := B3.lt
      have heq := fun W => eq9 24 Try.underlying24 R R W
      simp only [arr, same9_refl] at heq
      go_wp2
      go_ret
      exact ⟨by simp, q4.alloc hs4 _⟩
end Go.Proofs.Ytfeaoapjgcibmaa

