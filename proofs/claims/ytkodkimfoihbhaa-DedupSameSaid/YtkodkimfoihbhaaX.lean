/- Plain law: puts of one client, in whatever order beside those of others. -/
import Derived.Test.YtkodkimfoihbhaaP
set_option linter.unusedVariables false
set_option linter.unusedSimpArgs false
namespace Go.Proofs.Ytkodkimfoihbhaa
/-- what is remembered -/
abbrev St := (Int × Int → Option (List Value)) × (Int → Int)
abbrev Ac := Int × Int × List Value
def stepG (win : Int) (S : St) (a : Ac) : St := (Gput win S.1 S.2 a.1 a.2.1 a.2.2, Tput win S.1 S.2 a.1 a.2.1)
def runs (win : Int) (S : St) (l : List Ac) : St := l.foldl (stepG win) S
theorem runs_snoc (win : Int) (S : St) (l : List Ac) (a : Ac) : runs win S (l ++ [a]) = stepG win (runs win S l) a := by simp [runs]
/-- alike of one client -/
def Eqc (c : Int) (S S' : St) : Prop := (∀ s, S.1 (c, s) = S'.1 (c, s)) ∧ S.2 c = S'.2 c
theorem Eqc.refl (c : Int) (S : St) : Eqc c S S := ⟨fun _ => rfl, rfl⟩
theorem Eqc.trans {c : Int} {S S' S'' : St} (h : Eqc c S S') (k : Eqc c S' S'') : Eqc c S S'' := ⟨fun s => (h.1 s).trans (k.1 s), h.2.trans k.2⟩
theorem Eqc.symm {c : Int} {S S' : St} (h : Eqc c S S') : Eqc c S' S := ⟨fun s => (h.1 s).symm, h.2.symm⟩
theorem step_other {win : Int} {S : St} {a : Ac} {c : Int} (h : a.1 ≠ c) : Eqc c (stepG win S a) S := by
  have hc : ∀ s : Int, ¬ ((c, s) : Int × Int) = (a.1, a.2.1) := fun s e => h (congrArg Prod.fst e).symm
  constructor
  · intro s
    show Gput win S.1 S.2 a.1 a.2.1 a.2.2 (c, s) = _
    unfold Gput
    by_cases h0 : code win S.1 S.2 a.1 a.2.1 = 0
    · rw [if_pos h0]
      by_cases ht : S.2 a.1 < a.2.1
      · rw [if_pos ht]
        unfold del
        rw [if_neg (fun e => h e.1.symm)]
        unfold updG
        rw [if_neg (hc s)]
      · rw [if_neg ht]
        unfold updG
        rw [if_neg (hc s)]
    · rw [if_neg h0]
  · show Tput win S.1 S.2 a.1 a.2.1 c = _
    unfold Tput
    split
    · split
      · unfold updT
        rw [if_neg (fun e => h e.symm)]
      · rfl
    · rfl
theorem step_same {win : Int} {S S' : St} {a : Ac} (h : Eqc a.1 S S') : Eqc a.1 (stepG win S a) (stepG win S' a) := by
  have hcode : code win S.1 S.2 a.1 a.2.1 = code win S'.1 S'.2 a.1 a.2.1 := by unfold code; rw [h.2, h.1]
  have hlo : loOf win S.2 a.1 = loOf win S'.2 a.1 := by unfold loOf; rw [h.2]
  have hnum : numOf win S.2 a.1 a.2.1 = numOf win S'.2 a.1 a.2.1 := by unfold numOf; rw [h.2, hlo]
  have hupd : ∀ s, updG S.1 (a.1, a.2.1) (some a.2.2) (a.1, s) = updG S'.1 (a.1, a.2.1) (some a.2.2) (a.1, s) := fun s => by unfold updG; rw [h.1]
  constructor
  · intro s
    show Gput win S.1 S.2 a.1 a.2.1 a.2.2 (a.1, s) = Gput win S'.1 S'.2 a.1 a.2.1 a.2.2 (a.1, s)
    unfold Gput
    rw [hcode, h.2, hlo, hnum]
    split
    · split
      · unfold del
        rw [hupd]
      · exact hupd s
    · exact h.1 s
  · show Tput win S.1 S.2 a.1 a.2.1 a.1 = Tput win S'.1 S'.2 a.1 a.2.1 a.1
    unfold Tput
    rw [hcode, h.2]
    split
    · split
      · unfold updT; rw [if_pos rfl, if_pos rfl]
      · exact h.2
    · exact h.2
theorem runs_filter (win c : Int) : ∀ (l : List Ac) (S S' : St), Eqc c S S' → Eqc c (runs win S l) (runs win S' (l.filter (fun a => a.1 == c)))
  | [], S, S', h => h
  | a :: l, S, S', h => by
    by_cases e : a.1 = c
    · rw [List.filter_cons_of_pos (by simp [e])]
      subst e
      exact runs_filter win a.1 l _ _ (step_same h)
    · rw [List.filter_cons_of_neg (by simp [e])]
      exact runs_filter win c l _ _ ((step_other e).trans h)
theorem runs_perm {win : Int} {S : St} {l m : List Ac} (h : ∀ c, l.filter (fun a => a.1 == c) = m.filter (fun a => a.1 == c)) : runs win S l = runs win S m := by
  have hc : ∀ c, Eqc c (runs win S l) (runs win S m) := fun c => by
    have h1 := runs_filter win c l S S (Eqc.refl c S)
    rw [h c] at h1
    exact h1.trans (runs_filter win c m S S (Eqc.refl c S)).symm
  refine Prod.ext (funext fun k => ?_) (funext fun c => (hc c).2)
  exact (hc k.1).1 k.2
theorem step_bad {win : Int} {S : St} {a : Ac} (h : a.1 < 0) : stepG win S a = S := by
  have hc : code win S.1 S.2 a.1 a.2.1 ≠ 0 := by
    unfold code
    rw [if_pos (show Bad a.1 a.2.1 from .inl h)]
    decide
  show (Gput win S.1 S.2 a.1 a.2.1 a.2.2, Tput win S.1 S.2 a.1 a.2.1) = S
  unfold Gput Tput
  rw [if_neg hc, if_neg hc]
theorem runs_good (win : Int) : ∀ (l : List Ac) (S : St), runs win S l = runs win S (l.filter (fun a => decide (0 ≤ a.1)))
  | [], _ => rfl
  | a :: l, S => by
    by_cases e : 0 ≤ a.1
    · rw [List.filter_cons_of_pos (by simp [e])]
      exact runs_good win l _
    · rw [List.filter_cons_of_neg (by simp [e])]
      show runs win (stepG win S a) l = _
      rw [step_bad (by omega)]
      exact runs_good win l S
/-- the clients of group k -/
def grp (t k : Int) (a : Ac) : Bool := decide (0 ≤ a.1) && decide (a.1.tmod 3 = (k + t).tmod 3)
theorem groups (l : List Ac) (t : Int) (ht : 0 ≤ t ∧ t ≤ 3) (c : Int) : (l.filter (fun a => decide (0 ≤ a.1))).filter (fun a => a.1 == c) = (l.filter (grp t 0) ++ l.filter (grp t 1) ++ l.filter (grp t 2)).filter (fun a => a.1 == c) := by
  rw [List.filter_append, List.filter_append, List.filter_filter, List.filter_filter, List.filter_filter, List.filter_filter]
  have hk : ∀ k, l.filter (fun a => (a.1 == c) && grp t k a) = if 0 ≤ c ∧ c.tmod 3 = (k + t).tmod 3 then l.filter (fun a => a.1 == c) else [] := fun k => by
    by_cases h : 0 ≤ c ∧ c.tmod 3 = (k + t).tmod 3
    · rw [if_pos h]
      refine List.filter_congr fun a _ => ?_
      by_cases e : a.1 = c
      · simp [grp, e, h.1, h.2]
      · simp [e]
    · rw [if_neg h]
      refine List.filter_eq_nil_iff.2 fun a _ => ?_
      by_cases e : a.1 = c
      · simp only [grp, e, beq_self_eq_true, Bool.true_and, Bool.and_eq_true, decide_eq_true_eq]; exact h
      · simp [e]
  rw [hk, hk, hk]
  by_cases hc : 0 ≤ c
  · have e0 : l.filter (fun a => (a.1 == c) && decide (0 ≤ a.1)) = l.filter (fun a => a.1 == c) := List.filter_congr fun a _ => by
      by_cases e : a.1 = c
      · simp [e, hc]
      · simp [e]
    rw [e0]
    have hm : c.tmod 3 = 0 ∨ c.tmod 3 = 1 ∨ c.tmod 3 = 2 := by
      have h1 := Int.tmod_nonneg 3 hc
      have h2 := Int.tmod_lt_of_pos c (show (0 : Int) < 3 by decide)
      omega
    have htt : t = 0 ∨ t = 1 ∨ t = 2 ∨ t = 3 := by omega
    rcases htt with rfl | rfl | rfl | rfl <;> rcases hm with h | h | h <;> simp [h, hc]
  · have e0 : l.filter (fun a => (a.1 == c) && decide (0 ≤ a.1)) = [] := List.filter_eq_nil_iff.2 fun a _ => by
      by_cases e : a.1 = c
      · simp [e]; omega
      · simp [e]
    rw [e0, if_neg (fun h => hc h.1), if_neg (fun h => hc h.1), if_neg (fun h => hc h.1)]
    rfl
/-- THE LAW -/
theorem same_runs (win : Int) (S : St) (l : List Ac) (t : Int) (ht : 0 ≤ t ∧ t ≤ 3) : runs win S l = runs win S (l.filter (grp t 0) ++ l.filter (grp t 1) ++ l.filter (grp t 2)) := by
  rw [runs_good]
  exact runs_perm (groups l t ht)
end Go.Proofs.Ytkodkimfoihbhaa
