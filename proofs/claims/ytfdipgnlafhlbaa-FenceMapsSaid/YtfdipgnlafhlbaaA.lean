/- Contracts of fence.Fence's methods, of Against, and of their references. -/
import Derived.Test.YtfdipgnlafhlbaaChecked
import Derived.WalkKit
import Derived.Handy
import Derived.OpenShut
import Derived.Lib.Hide
import Derived.WalkSmall
set_option linter.unusedVariables false
namespace Go.Proofs.Ytfdipgnlafhlbaa
open Go.RowKit
theorem ret_i {k : IntKind} {a b : Int} (h : a = b) : Ending.returned (.int k a) = .returned (.int k b) := by rw [h]
def acqF (R owner seen : Int) : Int × Int × Int := if owner < 0 ∨ 8 < owner ∨ seen < 0 ∨ 1099511627776 < R then (0, 0, 1) else if seen = R then (R + 1, owner, 0) else (0, 0, 25)
def relF (R O owner : Int) : Int × Int × Int := if owner = O ∧ ¬ R = 0 then (R, -1, 0) else (0, 0, 25)
def chkF (R id : Int) : Int := if id = R ∧ ¬ R = 0 then 0 else 25
def agaF (R S : Int) : Int := if R = 0 ∧ S = 0 then 0 else if R = S then 1 else if R < S then 2 else 3
/-- a struct of two numbers and a code -/
abbrev t3 (x : Int × Int × Int) : Value := .tuple #[.agg #[.int .i64 x.1, .int .i64 x.2.1], .int .i64 x.2.2]

theorem acq_any (R O owner seen : Int) (w : World) (h0 : R ≤ 9223372036854775807) :
    Calls Try.prog 8 #[.agg #[.int .i64 R, .int .i64 O], .int .i64 owner, .int .i64 seen] w fun e w' => e = .returned (t3 (acqF R owner seen)) ∧ Below w.heap.size w w' := by
  by_cases h1 : owner < 0
  · have e : acqF R owner seen = (0, 0, 1) := by unfold acqF; rw [if_pos (.inl h1)]
    rw [e]; clear e
    go_enter Try.func8, Try.ntmps8
    go_wp2
    go_returns
    exact ⟨rfl, by go_grown⟩
  by_cases h2 : 8 < owner
  · have e : acqF R owner seen = (0, 0, 1) := by unfold acqF; rw [if_pos (.inr (.inl h2))]
    rw [e]; clear e
    go_enter Try.func8, Try.ntmps8
    go_wp2
    go_returns
    exact ⟨rfl, by go_grown⟩
  by_cases h3 : seen < 0
  · have e : acqF R owner seen = (0, 0, 1) := by unfold acqF; rw [if_pos (.inr (.inr (.inl h3)))]
    rw [e]; clear e
    go_enter Try.func8, Try.ntmps8
    go_wp2
    go_returns
    exact ⟨rfl, by go_grown⟩
  by_cases h4 : 1099511627776 < R
  · have e : acqF R owner seen = (0, 0, 1) := by unfold acqF; rw [if_pos (.inr (.inr (.inr h4)))]
    rw [e]; clear e
    go_enter Try.func8, Try.ntmps8
    go_wp2
    go_returns
    exact ⟨rfl, by go_grown⟩
  by_cases h5 : seen = R
  · have e : acqF R owner seen = (R + 1, owner, 0) := by unfold acqF; rw [if_neg (by omega), if_pos h5]
    rw [e]; clear e
    have g0 : 0 ≤ R := by omega
    subst h5
    have g1 : (seen != seen) = false := by simp
    go_enter Try.func8, Try.ntmps8
    go_wp2
    go_returns
    exact ⟨rfl, by go_grown⟩
  · have e : acqF R owner seen = (0, 0, 25) := by unfold acqF; rw [if_neg (by omega), if_neg h5]
    rw [e]; clear e
    have g1 : (seen != R) = true := by rw [bne_iff_ne]; exact h5
    go_enter Try.func8, Try.ntmps8
    go_wp2
    go_returns
    exact ⟨rfl, by go_grown⟩
theorem racq_any (R O owner seen : Int) (w : World) (h0 : R ≤ 9223372036854775807) :
    Calls Try.prog 11 #[.agg #[.int .i64 R, .int .i64 O], .int .i64 owner, .int .i64 seen] w fun e w' => e = .returned (t3 (acqF R owner seen)) ∧ Below w.heap.size w w' := by
  by_cases h1 : owner < 0
  · have e : acqF R owner seen = (0, 0, 1) := by unfold acqF; rw [if_pos (.inl h1)]
    rw [e]; clear e
    go_enter Try.func11, Try.ntmps11
    go_wp2
    go_returns
    exact ⟨rfl, by go_grown⟩
  by_cases h2 : 8 < owner
  · have e : acqF R owner seen = (0, 0, 1) := by unfold acqF; rw [if_pos (.inr (.inl h2))]
    rw [e]; clear e
    go_enter Try.func11, Try.ntmps11
    go_wp2
    go_returns
    exact ⟨rfl, by go_grown⟩
  by_cases h3 : seen < 0
  · have e : acqF R owner seen = (0, 0, 1) := by unfold acqF; rw [if_pos (.inr (.inr (.inl h3)))]
    rw [e]; clear e
    go_enter Try.func11, Try.ntmps11
    go_wp2
    go_returns
    exact ⟨rfl, by go_grown⟩
  by_cases h4 : 1099511627776 < R
  · have e : acqF R owner seen = (0, 0, 1) := by unfold acqF; rw [if_pos (.inr (.inr (.inr h4)))]
    rw [e]; clear e
    go_enter Try.func11, Try.ntmps11
    go_wp2
    go_returns
    exact ⟨rfl, by go_grown⟩
  by_cases h5 : seen = R
  · have e : acqF R owner seen = (R + 1, owner, 0) := by unfold acqF; rw [if_neg (by omega), if_pos h5]
    rw [e]; clear e
    have g0 : 0 ≤ R := by omega
    subst h5
    have g1 : (seen != seen) = false := by simp
    go_enter Try.func11, Try.ntmps11
    go_wp2
    go_returns
    exact ⟨rfl, by go_grown⟩
  · have e : acqF R owner seen = (0, 0, 25) := by unfold acqF; rw [if_neg (by omega), if_neg h5]
    rw [e]; clear e
    have g1 : (seen != R) = true := by rw [bne_iff_ne]; exact h5
    go_enter Try.func11, Try.ntmps11
    go_wp2
    go_returns
    exact ⟨rfl, by go_grown⟩
theorem rel_any (R O owner : Int) (w : World) :
    Calls Try.prog 12 #[.agg #[.int .i64 R, .int .i64 O], .int .i64 owner] w fun e w' => e = .returned (t3 (relF R O owner)) ∧ Below w.heap.size w w' := by
  by_cases h1 : owner = O
  · subst h1
    have g1 : (owner != owner) = false := by simp
    by_cases h2 : R = 0
    · have e : relF R owner owner = (0, 0, 25) := by unfold relF; rw [if_neg (by omega)]
      rw [e]; clear e
      subst h2
      go_enter Try.func12, Try.ntmps12
      go_wp2
      go_returns
      exact ⟨rfl, by go_grown⟩
    · have e : relF R owner owner = (R, -1, 0) := by unfold relF; rw [if_pos ⟨rfl, h2⟩]
      rw [e]; clear e
      have g2 : (R == 0) = false := beq_eq_false_iff_ne.2 h2
      go_enter Try.func12, Try.ntmps12
      go_wp2
      go_returns
      exact ⟨rfl, by go_grown⟩
  · have e : relF R O owner = (0, 0, 25) := by unfold relF; rw [if_neg (by omega)]
    rw [e]; clear e
    have g1 : (owner != O) = true := by rw [bne_iff_ne]; exact h1
    go_enter Try.func12, Try.ntmps12
    go_wp2
    go_returns
    exact ⟨rfl, by go_grown⟩
theorem rrel_any (R O owner : Int) (w : World) :
    Calls Try.prog 13 #[.agg #[.int .i64 R, .int .i64 O], .int .i64 owner] w fun e w' => e = .returned (t3 (relF R O owner)) ∧ Below w.heap.size w w' := by
  by_cases h1 : owner = O
  · subst h1
    have g1 : (owner != owner) = false := by simp
    by_cases h2 : R = 0
    · have e : relF R owner owner = (0, 0, 25) := by unfold relF; rw [if_neg (by omega)]
      rw [e]; clear e
      subst h2
      go_enter Try.func13, Try.ntmps13
      go_wp2
      go_returns
      exact ⟨rfl, by go_grown⟩
    · have e : relF R owner owner = (R, -1, 0) := by unfold relF; rw [if_pos ⟨rfl, h2⟩]
      rw [e]; clear e
      have g2 : (R == 0) = false := beq_eq_false_iff_ne.2 h2
      go_enter Try.func13, Try.ntmps13
      go_wp2
      go_returns
      exact ⟨rfl, by go_grown⟩
  · have e : relF R O owner = (0, 0, 25) := by unfold relF; rw [if_neg (by omega)]
    rw [e]; clear e
    have g1 : (owner != O) = true := by rw [bne_iff_ne]; exact h1
    go_enter Try.func13, Try.ntmps13
    go_wp2
    go_returns
    exact ⟨rfl, by go_grown⟩
theorem chk_any (R O id : Int) (w : World) :
    Calls Try.prog 9 #[.agg #[.int .i64 R, .int .i64 O], .int .i64 id] w fun e w' => e = .returned (.int .i64 (chkF R id)) ∧ Below w.heap.size w w' := by
  by_cases h1 : id = R
  · subst h1
    have g1 : (id != id) = false := by simp
    by_cases h2 : id = 0
    · have e : chkF id id = 25 := by unfold chkF; rw [if_neg (by omega)]
      rw [e]; clear e
      subst h2
      go_enter Try.func9, Try.ntmps9
      go_wp2
      go_returns
      exact ⟨rfl, by go_grown⟩
    · have e : chkF id id = 0 := by unfold chkF; rw [if_pos ⟨rfl, h2⟩]
      rw [e]; clear e
      have g2 : (id == 0) = false := beq_eq_false_iff_ne.2 h2
      go_enter Try.func9, Try.ntmps9
      go_wp2
      go_returns
      exact ⟨rfl, by go_grown⟩
  · have e : chkF R id = 25 := by unfold chkF; rw [if_neg (by omega)]
    rw [e]; clear e
    have g1 : (id != R) = true := by rw [bne_iff_ne]; exact h1
    go_enter Try.func9, Try.ntmps9
    go_wp2
    go_returns
    exact ⟨rfl, by go_grown⟩
theorem rchk_any (R O id : Int) (w : World) :
    Calls Try.prog 14 #[.agg #[.int .i64 R, .int .i64 O], .int .i64 id] w fun e w' => e = .returned (.int .i64 (chkF R id)) ∧ Below w.heap.size w w' := by
  by_cases h1 : id = R
  · subst h1
    have g1 : (id != id) = false := by simp
    by_cases h2 : id = 0
    · have e : chkF id id = 25 := by unfold chkF; rw [if_neg (by omega)]
      rw [e]; clear e
      subst h2
      go_enter Try.func14, Try.ntmps14
      go_wp2
      go_returns
      exact ⟨rfl, by go_grown⟩
    · have e : chkF id id = 0 := by unfold chkF; rw [if_pos ⟨rfl, h2⟩]
      rw [e]; clear e
      have g2 : (id == 0) = false := beq_eq_false_iff_ne.2 h2
      go_enter Try.func14, Try.ntmps14
      go_wp2
      go_returns
      exact ⟨rfl, by go_grown⟩
  · have e : chkF R id = 25 := by unfold chkF; rw [if_neg (by omega)]
    rw [e]; clear e
    have g1 : (id != R) = true := by rw [bne_iff_ne]; exact h1
    go_enter Try.func14, Try.ntmps14
    go_wp2
    go_returns
    exact ⟨rfl, by go_grown⟩
theorem of_any (R O : Int) (w : World) :
    Calls Try.prog 10 #[.agg #[.int .i64 R, .int .i64 O]] w fun e w' => e = .returned (.agg #[.int .i64 R, .int .i64 O]) ∧ Below w.heap.size w w' := by
  go_enter Try.func10, Try.ntmps10
  go_wp2
  go_returns
  exact ⟨rfl, by go_grown⟩
theorem aga_any (R O S P : Int) (w : World) :
    Calls Try.prog 15 #[.agg #[.int .i64 R, .int .i64 O], .agg #[.int .i64 S, .int .i64 P]] w fun e w' => e = .returned (.int .i64 (agaF R S)) ∧ Below w.heap.size w w' := by
  by_cases h0 : R = 0 ∧ S = 0
  · have e : agaF R S = 0 := by unfold agaF; rw [if_pos h0]
    rw [e]; clear e
    obtain ⟨rfl, rfl⟩ := h0
    go_enter Try.func15, Try.ntmps15
    go_wp2
    go_returns
    exact ⟨rfl, by go_grown⟩
  have hz : ((R == 0) = true ∧ (S == 0) = false) ∨ (R == 0) = false := by
    by_cases h : R = 0
    · left; exact ⟨beq_iff_eq.2 h, beq_eq_false_iff_ne.2 (by omega)⟩
    · right; exact beq_eq_false_iff_ne.2 h
  by_cases h1 : R = S
  · have e : agaF R S = 1 := by unfold agaF; rw [if_neg h0, if_pos h1]
    rw [e]; clear e
    subst h1
    have g1 : (R == R) = true := by simp
    have g2 : (R == 0) = false := beq_eq_false_iff_ne.2 (by omega)
    clear hz
    go_enter Try.func15, Try.ntmps15
    go_wp2
    go_returns
    exact ⟨rfl, by go_grown⟩
  have g1 : (R == S) = false := beq_eq_false_iff_ne.2 h1
  by_cases h2 : R < S
  · have e : agaF R S = 2 := by unfold agaF; rw [if_neg h0, if_neg h1, if_pos h2]
    rw [e]; clear e
    rcases hz with ⟨z1, z2⟩ | z1
    all_goals
      go_enter Try.func15, Try.ntmps15
      go_wp2
      go_returns
      exact ⟨rfl, by go_grown⟩
  · have e : agaF R S = 3 := by unfold agaF; rw [if_neg h0, if_neg h1, if_neg h2]
    rw [e]; clear e
    have h3 : S < R := by omega
    rcases hz with ⟨z1, z2⟩ | z1
    all_goals
      go_enter Try.func15, Try.ntmps15
      go_wp2
      go_returns
      exact ⟨rfl, by go_grown⟩
theorem raga_any (R O S P : Int) (w : World) :
    Calls Try.prog 16 #[.agg #[.int .i64 R, .int .i64 O], .agg #[.int .i64 S, .int .i64 P]] w fun e w' => e = .returned (.int .i64 (agaF R S)) ∧ Below w.heap.size w w' := by
  by_cases h0 : R = 0 ∧ S = 0
  · have e : agaF R S = 0 := by unfold agaF; rw [if_pos h0]
    rw [e]; clear e
    obtain ⟨rfl, rfl⟩ := h0
    go_enter Try.func16, Try.ntmps16
    go_wp2
    go_returns
    exact ⟨rfl, by go_grown⟩
  have hz : ((R == 0) = true ∧ (S == 0) = false) ∨ (R == 0) = false := by
    by_cases h : R = 0
    · left; exact ⟨beq_iff_eq.2 h, beq_eq_false_iff_ne.2 (by omega)⟩
    · right; exact beq_eq_false_iff_ne.2 h
  by_cases h1 : R = S
  · have e : agaF R S = 1 := by unfold agaF; rw [if_neg h0, if_pos h1]
    rw [e]; clear e
    subst h1
    have g1 : (R == R) = true := by simp
    have g2 : (R == 0) = false := beq_eq_false_iff_ne.2 (by omega)
    clear hz
    go_enter Try.func16, Try.ntmps16
    go_wp2
    go_returns
    exact ⟨rfl, by go_grown⟩
  have g1 : (R == S) = false := beq_eq_false_iff_ne.2 h1
  by_cases h2 : R < S
  · have e : agaF R S = 2 := by unfold agaF; rw [if_neg h0, if_neg h1, if_pos h2]
    rw [e]; clear e
    rcases hz with ⟨z1, z2⟩ | z1
    all_goals
      go_enter Try.func16, Try.ntmps16
      go_wp2
      go_returns
      exact ⟨rfl, by go_grown⟩
  · have e : agaF R S = 3 := by unfold agaF; rw [if_neg h0, if_neg h1, if_neg h2]
    rw [e]; clear e
    have h3 : S < R := by omega
    rcases hz with ⟨z1, z2⟩ | z1
    all_goals
      go_enter Try.func16, Try.ntmps16
      go_wp2
      go_returns
      exact ⟨rfl, by go_grown⟩
end Go.Proofs.Ytfdipgnlafhlbaa
