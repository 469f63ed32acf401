/- The document's looks and what is known of a history tell the same. -/
import Derived.Test.YtbdjnfkhdphhoaaDoorX
set_option linter.unusedVariables false
set_option linter.unusedSimpArgs false
namespace Go.Proofs.YtbdjnfkhdphhoaaDoor
open Go.RowKit Go.Maps
def idAt (l : List Ev) (x : Int) : Int := match evAt l x with | some e => e.id | none => 0
structure Inv (l : List Ev) (s : Hi) : Prop where
  n : s.n = l.length
  at_ : s.at_ = lastAt l
  cl : s.closed ≠ 0 ↔ (l.any fun x => closeB x.k) = true
  rf : RefsIn l
  tk : (s.task = 0 ∧ s.begun = false ∧ (rLast l 2 = 0 ∨ (rLast l 2 ≤ rLast l 3 ∧ rNamed l (rLast l 3 : Int) [4, 5, 6] = true))) ∨
    (rLast l 2 ≠ 0 ∧ s.task = (rLast l 2 : Int) ∧ s.begun = false ∧ rLast l 3 < rLast l 2) ∨
    (rLast l 2 ≠ 0 ∧ s.task = (rLast l 3 : Int) ∧ s.begun = true ∧ rLast l 2 ≤ rLast l 3 ∧ rNamed l (rLast l 3 : Int) [4, 5, 6] = false)
  kd : ∀ x, s.kinds x = if rOpen l x = true then some (rKind l x) else none
  id : ∀ x, rOpen l x = true → (s.ids x).getD 0 = idAt l x
  fr : ∀ x, rOpen l x = true → rKind l x = 7 → s.from_ x = if rWorks l x = 0 then none else some (rWorks l x)
  of : ∀ w, s.of_ w = if rKind l w = 8 ∧ rOpen l (refAt l w) = true then some (refAt l w) else none
  wk : ∀ w, rKind l w = 8 → rKind l (refAt l w) = 7 ∧ rWorks l (refAt l w) = w
theorem inv0 : Inv [] hi0 := by
  have hk : ∀ x, rKind [] x = 0 := fun x => by
    by_cases h : x < 1
    · exact rKind_out (.inl h)
    · exact rKind_out (.inr (by simp; omega))
  have ho : ∀ x, rOpen [] x = false := fun x => by unfold rOpen; rw [hk]; rfl
  refine ⟨rfl, rfl, by simp [hi0], fun y hy => (by cases hy), .inl ⟨rfl, rfl, .inl rfl⟩, fun x => ?_, fun x h => ?_, fun x h => ?_, fun w => ?_, fun w h => ?_⟩
  · rw [ho]; rfl
  · rw [ho] at h; cases h
  · rw [ho] at h; cases h
  · rw [if_neg (by rw [hk]; omega)]; rfl
  · rw [hk] at h; omega
theorem kind_in {l : List Ev} {x : Int} (h : rKind l x ≠ 0) : 1 ≤ x ∧ x ≤ l.length := by
  apply Classical.byContradiction
  intro hn
  exact h (rKind_out (by omega))
theorem open_in {l : List Ev} {x : Int} (h : rOpen l x = true) : 1 ≤ x ∧ x ≤ l.length := by
  apply Classical.byContradiction
  intro hn
  rw [rOpen_none (by omega)] at h
  cases h
theorem Inv.task {l : List Ev} {s : Hi} (h : Inv l s) : (s.task = 0 ∧ s.begun = false ∧ rTask l = (0, 0)) ∨ (s.task ≠ 0 ∧ s.begun = false ∧ rTask l = (1, s.task)) ∨ (s.task ≠ 0 ∧ s.begun = true ∧ rTask l = (2, s.task)) := by
  rcases h.tk with ⟨h1, h2, h3⟩ | ⟨h1, h2, h3, h4⟩ | ⟨h1, h2, h3, h4, h5⟩
  · refine .inl ⟨h1, h2, ?_⟩
    unfold rTask
    rcases h3 with h3 | ⟨h3, h4⟩
    · rw [if_pos h3]
    · by_cases h0 : rLast l 2 = 0
      · rw [if_pos h0]
      · rw [if_neg h0, if_neg (by omega), if_pos h4]
  · refine .inr (.inl ⟨by rw [h2]; omega, h3, ?_⟩)
    unfold rTask
    rw [if_neg h1, if_pos h4, h2]
  · refine .inr (.inr ⟨by rw [h2]; omega, h3, ?_⟩)
    unfold rTask
    rw [if_neg h1, if_neg (by omega), if_neg (by rw [h5]; decide), h2]
theorem Inv.refs {l : List Ev} {s : Hi} (h : Inv l s) (e : Ev) : refB s e = rRefs l e := by
  unfold refB rRefs
  by_cases h3 : e.k = 3
  · rw [if_pos h3, if_pos h3]
    rcases h.task with ⟨a, b, c⟩ | ⟨a, b, c⟩ | ⟨a, b, c⟩ <;> rw [c] <;> simp [a, b]
  rw [if_neg h3, if_neg h3]
  by_cases h4 : e.k = 4 ∨ e.k = 5 ∨ e.k = 6
  · rw [if_pos h4, if_pos h4]
    rcases h.task with ⟨a, b, c⟩ | ⟨a, b, c⟩ | ⟨a, b, c⟩ <;> rw [c] <;> simp [a, b]
  rw [if_neg h4, if_neg h4]
  by_cases h8 : e.k = 8
  · rw [if_pos h8, if_pos h8, h.kd]
    by_cases ho : rOpen l e.ref = true
    · rw [if_pos ho]
      by_cases h7 : rKind l e.ref = 7
      · rw [h.fr _ ho h7]
        by_cases hw : rWorks l e.ref = 0
        · simp [hw, h7]
        · simp [hw, h7]
      · have hq : (rKind l e.ref == 7) = false := by rw [Bool.eq_false_iff]; exact fun hh => h7 (by simpa using hh)
        show ((rKind l e.ref == 7) && _) = ((rKind l e.ref == 7) && _)
        rw [hq]; rfl
    · rw [if_neg ho]
      have : ¬ (rKind l e.ref = 7 ∧ rWorks l e.ref = 0) := fun hh => ho (by unfold rOpen; rw [if_pos hh.1, hh.2]; rfl)
      by_cases h7 : rKind l e.ref = 7
      · have hw : rWorks l e.ref ≠ 0 := fun hw => this ⟨h7, hw⟩
        simp [h7, hw]
      · simp [h7]
  rw [if_neg h8, if_neg h8]
  by_cases h9 : e.k = 9 ∨ e.k = 10 ∨ e.k = 11
  · rw [if_pos h9, if_pos h9, h.of]
    by_cases ho : rKind l e.ref = 8 ∧ rOpen l (refAt l e.ref) = true
    · rw [if_pos ho]
      have := open_in ho.2
      have hne : refAt l e.ref ≠ 0 := by omega
      simp [ho.1, ho.2, hne]
    · rw [if_neg ho]
      by_cases h8' : rKind l e.ref = 8
      · have : rOpen l (refAt l e.ref) = false := by
          rw [Bool.eq_false_iff]; exact fun hh => ho ⟨h8', hh⟩
        simp [this]
      · simp [h8']
  rw [if_neg h9, if_neg h9]
  have hk : ∀ k : Int, k ≠ 0 → ((s.kinds e.ref).getD 0 == k) = ((rKind l e.ref == k) && rOpen l e.ref) := fun k hk0 => by
    rw [h.kd]
    by_cases ho : rOpen l e.ref = true
    · rw [if_pos ho, ho]; simp
    · have : rOpen l e.ref = false := by rw [Bool.eq_false_iff]; exact ho
      rw [if_neg ho, this]
      have : ((0 : Int) == k) = false := by simp; omega
      simp [this]
  by_cases h13 : e.k = 13 ∨ e.k = 14
  · rw [if_pos h13, if_pos h13, hk 12 (by decide)]
  rw [if_neg h13, if_neg h13]
  by_cases h18 : e.k = 18
  · rw [if_pos h18, if_pos h18, hk 17 (by decide)]
  rw [if_neg h18, if_neg h18]
theorem Inv.uses {l : List Ev} {s : Hi} (h : Inv l s) (e : Ev) : usesB s e.k e.id = rUsed l e := by
  have h1 : (∃ x, s.kinds x = some e.k ∧ (s.ids x).getD 0 = e.id) ↔ rUsed l e = true := by
    constructor
    · rintro ⟨x, hx, hid⟩
      rw [h.kd] at hx
      by_cases ho : rOpen l x = true
      · rw [if_pos ho] at hx
        have hk := Option.some.inj hx
        rw [h.id x ho] at hid
        have hin := open_in ho
        obtain ⟨i, rfl⟩ : ∃ i : Nat, x = (i : Int) + 1 := ⟨(x - 1).toNat, by omega⟩
        obtain ⟨y, hy⟩ : ∃ y, l[i]? = some y := ⟨_, List.getElem?_eq_getElem (by omega)⟩
        have he : evAt l ((i : Int) + 1) = some y := by
          unfold evAt
          rw [if_neg (by omega), show ((i : Int) + 1 - 1).toNat = i by omega, hy]
        rw [rKind_ev, he] at hk
        unfold idAt at hid
        rw [he] at hid
        refine used_yes (i := i) (by omega) ?_
        unfold usedB
        rw [hy]
        have e1 : y.k = e.k := hk
        have e2 : y.id = e.id := hid
        simp [e1, e2, ho]
      · rw [if_neg ho] at hx; cases hx
    · intro hu
      obtain ⟨i, hi, hh⟩ := List.any_eq_true.1 hu
      unfold usedB at hh
      cases hy : l[i]? with
      | none => rw [hy] at hh; cases hh
      | some y =>
        rw [hy] at hh
        simp only [Bool.and_eq_true, beq_iff_eq] at hh
        obtain ⟨e1, e2, ho⟩ := hh
        have he : evAt l ((i : Int) + 1) = some y := by
          unfold evAt
          rw [if_neg (by omega), show ((i : Int) + 1 - 1).toNat = i by omega, hy]
        refine ⟨(i : Int) + 1, ?_, ?_⟩
        · rw [h.kd, if_pos ho, rKind_ev, he, ← e1]
        · rw [h.id _ ho]; unfold idAt; rw [he]; exact e2
  by_cases hu : rUsed l e = true
  · rw [hu]; exact usesB_true (h1.2 hu)
  · rw [usesB_false (fun hh => hu (h1.1 hh))]
    exact (Bool.eq_false_iff.2 hu).symm
theorem Inv.why {l : List Ev} {s : Hi} (h : Inv l s) (e : Ev) : rWhyC l e = faultC s e := by
  unfold rWhyC faultC
  by_cases h1 : rightB e = false
  · rw [if_pos h1, if_pos h1]
  rw [if_neg h1, if_neg h1]
  have h1' : rightB e = true := by simpa using h1
  have hat : 0 ≤ e.at_ := by
    simp only [rightB, Bool.and_eq_true, betB_iff] at h1'
    exact h1'.2.2.1.1
  have e2 : (0 < l.length ∧ e.at_ < lastAt l) ↔ e.at_ < s.at_ := by
    rw [h.at_]
    refine ⟨fun h => h.2, fun hh => ⟨?_, hh⟩⟩
    cases l with
    | nil => exact absurd hh (by show ¬ e.at_ < 0; omega)
    | cons a l => simp
  by_cases h2 : e.at_ < s.at_
  · rw [if_pos (e2.2 h2), if_pos h2]
  rw [if_neg (fun hh => h2 (e2.1 hh)), if_neg h2, h.n]
  by_cases h3 : (((l.length : Int) == 0) == (e.k == 1)) = false
  · rw [if_pos h3, if_pos h3]
  rw [if_neg h3, if_neg h3]
  by_cases h4 : s.closed ≠ 0
  · rw [if_pos (h.cl.1 h4), if_pos h4]
  rw [if_neg (fun hh => h4 (h.cl.2 hh)), if_neg h4, h.refs]
  by_cases h5 : rRefs l e = false
  · rw [if_pos h5, if_pos h5]
  rw [if_neg h5, if_neg h5]
  have e6 : (rTask l).1 ≠ 0 ↔ s.task ≠ 0 := by
    rcases h.task with ⟨a, b, c⟩ | ⟨a, b, c⟩ | ⟨a, b, c⟩ <;> rw [c] <;> simp [a]
  by_cases h6 : e.k = 2 ∧ s.task ≠ 0
  · rw [if_pos ⟨h6.1, e6.2 h6.2⟩, if_pos h6]
  rw [if_neg (fun hh => h6 ⟨hh.1, e6.1 hh.2⟩), if_neg h6, h.uses]
  by_cases h7 : (e.k = 7 ∨ e.k = 12 ∨ e.k = 17) ∧ rUsed l e = true
  · rw [if_pos h7]; exact (if_pos h7).symm
  · rw [if_neg h7]; exact (if_neg h7).symm
end Go.Proofs.YtbdjnfkhdphhoaaDoor
