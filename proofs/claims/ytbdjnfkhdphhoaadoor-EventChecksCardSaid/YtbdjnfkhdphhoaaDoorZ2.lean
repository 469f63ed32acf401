/- The invariant, event for event. -/
import Derived.Test.YtbdjnfkhdphhoaaDoorZ
set_option linter.unusedVariables false
set_option linter.unusedSimpArgs false
namespace Go.Proofs.YtbdjnfkhdphhoaaDoor
open Go.RowKit Go.Maps
theorem fault_none {s : Hi} {e : Ev} (hf : faultC s e = 0) : s.closed = 0 ∧ refB s e = true ∧ ¬ (e.k = 2 ∧ s.task ≠ 0) := by
  unfold faultC at hf
  split at hf
  · cases hf
  split at hf
  · cases hf
  split at hf
  · cases hf
  split at hf
  · cases hf
  rename_i h4
  split at hf
  · cases hf
  rename_i h5
  split at hf
  · cases hf
  rename_i h6
  exact ⟨Classical.byContradiction h4, by simpa using h5, h6⟩
theorem closes_flds (t : Hi) (e : Ev) : (closes t e).n = t.n ∧ (closes t e).at_ = t.at_ ∧ (closes t e).task = t.task ∧ (closes t e).begun = t.begun ∧ (closes t e).kinds = t.kinds ∧ (closes t e).ids = t.ids ∧ (closes t e).of_ = t.of_ ∧ (closes t e).from_ = t.from_ := by
  unfold closes
  split <;> exact ⟨rfl, rfl, rfl, rfl, rfl, rfl, rfl, rfl⟩
theorem turned_keep (t : Hi) (e : Ev) : (turned t e).n = t.n ∧ (turned t e).at_ = t.at_ ∧ (turned t e).closed = t.closed := by
  unfold turned
  repeat' split
  all_goals exact ⟨rfl, rfl, rfl⟩
def Inv2 (l : List Ev) (s : Hi) : Prop := Inv l s ∧ ∀ x v, s.from_ x = some v → x ≤ l.length
/-- what is needed of the history that is one event longer -/
structure Nxt (l : List Ev) (e : Ev) (t : Hi) : Prop where
  tk : (t.task = 0 ∧ t.begun = false ∧ (rLast (l ++ [e]) 2 = 0 ∨ (rLast (l ++ [e]) 2 ≤ rLast (l ++ [e]) 3 ∧ rNamed (l ++ [e]) (rLast (l ++ [e]) 3 : Int) [4, 5, 6] = true))) ∨
    (rLast (l ++ [e]) 2 ≠ 0 ∧ t.task = (rLast (l ++ [e]) 2 : Int) ∧ t.begun = false ∧ rLast (l ++ [e]) 3 < rLast (l ++ [e]) 2) ∨
    (rLast (l ++ [e]) 2 ≠ 0 ∧ t.task = (rLast (l ++ [e]) 3 : Int) ∧ t.begun = true ∧ rLast (l ++ [e]) 2 ≤ rLast (l ++ [e]) 3 ∧ rNamed (l ++ [e]) (rLast (l ++ [e]) 3 : Int) [4, 5, 6] = false)
  kd : ∀ x, t.kinds x = if rOpen (l ++ [e]) x = true then some (rKind (l ++ [e]) x) else none
  id : ∀ x, rOpen (l ++ [e]) x = true → (t.ids x).getD 0 = idAt (l ++ [e]) x
  fr : ∀ x, rOpen (l ++ [e]) x = true → rKind (l ++ [e]) x = 7 → t.from_ x = if rWorks (l ++ [e]) x = 0 then none else some (rWorks (l ++ [e]) x)
  of : ∀ w, t.of_ w = if rKind (l ++ [e]) w = 8 ∧ rOpen (l ++ [e]) (refAt (l ++ [e]) w) = true then some (refAt (l ++ [e]) w) else none
  fd : ∀ x v, t.from_ x = some v → x ≤ ((l ++ [e]).length : Int)
theorem works_snoc_no {l : List Ev} {e : Ev} {x : Int} (h : ¬ (e.k = 8 ∧ e.ref = x)) : rWorks (l ++ [e]) x = rWorks l x := by
  rw [rWorks_snoc]
  by_cases h0 : rWorks l x = 0
  · rw [if_neg (fun hh => hh h0), if_neg, h0]
    simp only [wkB, Bool.and_eq_true, beq_iff_eq]
    exact h
  · rw [if_pos h0]
theorem tk_same {l : List Ev} {e : Ev} {s t : Hi} (h : Inv l s) (h2 : e.k ≠ 2) (h3 : e.k ≠ 3) (h456 : ¬ (e.k = 4 ∨ e.k = 5 ∨ e.k = 6)) (ht : t.task = s.task) (hb : t.begun = s.begun) :
    (t.task = 0 ∧ t.begun = false ∧ (rLast (l ++ [e]) 2 = 0 ∨ (rLast (l ++ [e]) 2 ≤ rLast (l ++ [e]) 3 ∧ rNamed (l ++ [e]) (rLast (l ++ [e]) 3 : Int) [4, 5, 6] = true))) ∨
    (rLast (l ++ [e]) 2 ≠ 0 ∧ t.task = (rLast (l ++ [e]) 2 : Int) ∧ t.begun = false ∧ rLast (l ++ [e]) 3 < rLast (l ++ [e]) 2) ∨
    (rLast (l ++ [e]) 2 ≠ 0 ∧ t.task = (rLast (l ++ [e]) 3 : Int) ∧ t.begun = true ∧ rLast (l ++ [e]) 2 ≤ rLast (l ++ [e]) 3 ∧ rNamed (l ++ [e]) (rLast (l ++ [e]) 3 : Int) [4, 5, 6] = false) := by
  have e2 : rLast (l ++ [e]) 2 = rLast l 2 := by rw [rLast_snoc, if_neg h2]
  have e3 : rLast (l ++ [e]) 3 = rLast l 3 := by rw [rLast_snoc, if_neg h3]
  have en : ∀ y, rNamed (l ++ [e]) y [4, 5, 6] = rNamed l y [4, 5, 6] := fun y => by
    rw [rNamed_snoc]
    have : hitB y [4, 5, 6] e = false := by
      rw [Bool.eq_false_iff]
      intro hh
      simp [hitB] at hh
      omega
    rw [this, Bool.or_false]
  rw [e2, e3, en, ht, hb]
  exact h.tk
/-- kinds that neither open nor end anything -/
theorem nxt_plain {l : List Ev} {e : Ev} {s t : Hi} (h : Inv l s) (hd : ∀ x v, s.from_ x = some v → x ≤ (l.length : Int)) (hin : 0 ≤ e.ref ∧ e.ref ≤ l.length)
    (hk : ¬ (e.k = 7 ∨ e.k = 12 ∨ e.k = 17 ∨ e.k = 8 ∨ e.k = 9 ∨ e.k = 10 ∨ e.k = 11 ∨ e.k = 13 ∨ e.k = 14 ∨ e.k = 18)) (e1 : t.kinds = s.kinds) (e2 : t.ids = s.ids) (e3 : t.of_ = s.of_) (e4 : t.from_ = s.from_)
    (tk : (t.task = 0 ∧ t.begun = false ∧ (rLast (l ++ [e]) 2 = 0 ∨ (rLast (l ++ [e]) 2 ≤ rLast (l ++ [e]) 3 ∧ rNamed (l ++ [e]) (rLast (l ++ [e]) 3 : Int) [4, 5, 6] = true))) ∨
    (rLast (l ++ [e]) 2 ≠ 0 ∧ t.task = (rLast (l ++ [e]) 2 : Int) ∧ t.begun = false ∧ rLast (l ++ [e]) 3 < rLast (l ++ [e]) 2) ∨
    (rLast (l ++ [e]) 2 ≠ 0 ∧ t.task = (rLast (l ++ [e]) 3 : Int) ∧ t.begun = true ∧ rLast (l ++ [e]) 2 ≤ rLast (l ++ [e]) 3 ∧ rNamed (l ++ [e]) (rLast (l ++ [e]) 3 : Int) [4, 5, 6] = false)) : Nxt l e t := by
  have hn : rOpen (l ++ [e]) ((l.length : Int) + 1) = false := by
    rw [rOpen_new h.rf hin.2]
    simp; omega
  have ho : ∀ x, rOpen (l ++ [e]) x = rOpen l x := fun x => by
    by_cases hx : x = (l.length : Int) + 1
    · subst hx; rw [hn, rOpen_none (by omega)]
    · rw [rOpen_snoc h.rf hin.2 hx, dead_no (by omega)]; simp
  have hkk : ∀ x, rOpen l x = true → rKind (l ++ [e]) x = rKind l x := fun x hx => by
    have := open_in hx
    rw [rKind_snoc, if_neg (by omega)]
  refine ⟨tk, fun x => ?_, fun x hx => ?_, fun x hx h7 => ?_, fun w => ?_, fun x v hx => ?_⟩
  · rw [e1, h.kd, ho]
    by_cases hx : rOpen l x = true
    · rw [if_pos hx, if_pos hx, hkk x hx]
    · rw [if_neg hx, if_neg hx]
  · rw [ho] at hx
    have := open_in hx
    rw [e2, h.id x hx, idAt_snoc, if_neg (by omega)]
  · rw [ho] at hx
    rw [hkk x hx] at h7
    rw [e4, h.fr x hx h7, works_snoc_no (by omega)]
  · rw [e3, h.of, rKind_snoc]
    by_cases hw : w = (l.length : Int) + 1
    · rw [if_pos hw, if_neg (by rw [rKind_out (by omega)]; omega), if_neg (by omega)]
    · rw [if_neg hw]
      by_cases h8 : rKind l w = 8
      · have := kind_in (l := l) (x := w) (by omega)
        rw [refAt_snoc (by omega), if_neg hw, ho]
      · rw [if_neg (fun hh => h8 hh.1), if_neg (fun hh => h8 hh.1)]
  · rw [e4] at hx
    have := hd x v hx
    simp
    omega
end Go.Proofs.YtbdjnfkhdphhoaaDoor
