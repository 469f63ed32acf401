/- The same contracts, with the blocks that each call lays: one or two. -/
import Derived.Test.YtfdipgnlafhlbaaB
set_option linter.unusedVariables false
namespace Go.Proofs.Ytfdipgnlafhlbaa
open Go.RowKit
theorem acq_new (R O owner seen : Int) (w : World) (h0 : R ≤ 9223372036854775807) :
    Calls Try.prog 8 #[.agg #[.int .i64 R, .int .i64 O], .int .i64 owner, .int .i64 seen] w fun e w' => e = .returned (t3 (acqF R owner seen)) ∧ ∃ o1 o2, w' = (w.alloc o1).alloc o2 := by
  by_cases h1 : owner < 0
  · have e : acqF R owner seen = (0, 0, 1) := by unfold acqF; rw [if_pos (.inl h1)]
    rw [e]; clear e
    go_enter Try.func8, Try.ntmps8
    go_wp2
    go_returns
    exact ⟨rfl, _, _, rfl⟩
  by_cases h2 : 8 < owner
  · have e : acqF R owner seen = (0, 0, 1) := by unfold acqF; rw [if_pos (.inr (.inl h2))]
    rw [e]; clear e
    go_enter Try.func8, Try.ntmps8
    go_wp2
    go_returns
    exact ⟨rfl, _, _, rfl⟩
  by_cases h3 : seen < 0
  · have e : acqF R owner seen = (0, 0, 1) := by unfold acqF; rw [if_pos (.inr (.inr (.inl h3)))]
    rw [e]; clear e
    go_enter Try.func8, Try.ntmps8
    go_wp2
    go_returns
    exact ⟨rfl, _, _, rfl⟩
  by_cases h4 : 1099511627776 < R
  · have e : acqF R owner seen = (0, 0, 1) := by unfold acqF; rw [if_pos (.inr (.inr (.inr h4)))]
    rw [e]; clear e
    go_enter Try.func8, Try.ntmps8
    go_wp2
    go_returns
    exact ⟨rfl, _, _, rfl⟩
  by_cases h5 : seen = R
  · have e : acqF R owner seen = (R + 1, owner, 0) := by unfold acqF; rw [if_neg (by omega), if_pos h5]
    rw [e]; clear e
    have g0 : 0 ≤ R := by omega
    subst h5
    have g1 : (seen != seen) = false := by simp
    go_enter Try.func8, Try.ntmps8
    go_wp2
    go_returns
    exact ⟨rfl, _, _, rfl⟩
  · have e : acqF R owner seen = (0, 0, 25) := by unfold acqF; rw [if_neg (by omega), if_neg h5]
    rw [e]; clear e
    have g1 : (seen != R) = true := by rw [bne_iff_ne]; exact h5
    go_enter Try.func8, Try.ntmps8
    go_wp2
    go_returns
    exact ⟨rfl, _, _, rfl⟩
theorem chk_new (R O id : Int) (w : World) :
    Calls Try.prog 9 #[.agg #[.int .i64 R, .int .i64 O], .int .i64 id] w fun e w' => e = .returned (.int .i64 (chkF R id)) ∧ ∃ o1, w' = w.alloc o1 := by
  by_cases h1 : id = R
  · subst h1
    have g1 : (id != id) = false := by simp
    by_cases h2 : id = 0
    · have e : chkF id id = 25 := by unfold chkF; rw [if_neg (by omega)]
      rw [e]; clear e
      subst h2
      go_enter Try.func9, Try.ntmps9
      go_wp2
      go_returns
      exact ⟨rfl, _, rfl⟩
    · have e : chkF id id = 0 := by unfold chkF; rw [if_pos ⟨rfl, h2⟩]
      rw [e]; clear e
      have g2 : (id == 0) = false := beq_eq_false_iff_ne.2 h2
      go_enter Try.func9, Try.ntmps9
      go_wp2
      go_returns
      exact ⟨rfl, _, rfl⟩
  · have e : chkF R id = 25 := by unfold chkF; rw [if_neg (by omega)]
    rw [e]; clear e
    have g1 : (id != R) = true := by rw [bne_iff_ne]; exact h1
    go_enter Try.func9, Try.ntmps9
    go_wp2
    go_returns
    exact ⟨rfl, _, rfl⟩
end Go.Proofs.Ytfdipgnlafhlbaa
