/- The invariant is kept by an event that fits. -/
import Derived.Test.YtbdjnfkhdphhoaaDoorY
set_option linter.unusedVariables false
set_option linter.unusedSimpArgs false
namespace Go.Proofs.YtbdjnfkhdphhoaaDoor
open Go.RowKit Go.Maps
/-- does an event end what is open at a place? -/
def dead (l : List Ev) (e : Ev) (x : Int) : Bool :=
  (rKind l x == 7 && ([9, 10, 11].any (fun k => e.k == k) && (e.ref == rWorks l x && rWorks l x != 0))) ||
  ((rKind l x == 12 && ([13, 14].any (fun k => e.k == k) && e.ref == x)) || (rKind l x == 17 && ([18].any (fun k => e.k == k) && e.ref == x)))
theorem rOpen_snoc {l : List Ev} {e : Ev} (h : RefsIn l) (he : e.ref ≤ l.length) {x : Int} (hx : x ≠ (l.length : Int) + 1) : rOpen (l ++ [e]) x = (rOpen l x && !dead l e x) := by
  have hk : rKind (l ++ [e]) x = rKind l x := by rw [rKind_snoc, if_neg hx]
  unfold rOpen dead
  rw [hk]
  by_cases h7 : rKind l x = 7
  · rw [if_pos h7, if_pos h7, h7]
    by_cases hw : rWorks l x = 0
    · have h1 : rWorks (l ++ [e]) x = 0 ∨ rWorks (l ++ [e]) x = (l.length : Int) + 1 ∧ e.k = 8 := by
        rw [rWorks_snoc, if_neg (fun hh => hh hw)]
        by_cases hb : wkB x e = true
        · rw [if_pos hb]
          simp only [wkB, Bool.and_eq_true, beq_iff_eq] at hb
          exact .inr ⟨rfl, hb.1⟩
        · rw [if_neg hb]; exact .inl rfl
      rcases h1 with h1 | ⟨h1, h8⟩
      · rw [h1, hw]; simp
      · have hn : rNamed (l ++ [e]) ((l.length : Int) + 1) [9, 10, 11] = false := by
          rw [rNamed_snoc, named_past h (by omega)]
          simp [hitB, h8]
        rw [h1, hn, hw]; simp
    · have h1 : rWorks (l ++ [e]) x = rWorks l x := by rw [rWorks_snoc, if_pos hw]
      rw [h1, rNamed_snoc]
      have hw0 : (rWorks l x == 0) = false := by simp [hw]
      have hw1 : (rWorks l x != 0) = true := by simp [hw]
      rw [hw0, hw1]
      cases rNamed l (rWorks l x) [9, 10, 11] <;> simp [hitB, Bool.and_comm]
  rw [if_neg h7, if_neg h7]
  have q7 : (rKind l x == 7) = false := by rw [Bool.eq_false_iff]; exact fun hh => h7 (by simpa using hh)
  rw [q7]
  by_cases h12 : rKind l x = 12
  · rw [if_pos h12, if_pos h12, h12, rNamed_snoc]
    cases rNamed l x [13, 14] <;> simp [hitB, Bool.and_comm]
  rw [if_neg h12, if_neg h12]
  have q12 : (rKind l x == 12) = false := by rw [Bool.eq_false_iff]; exact fun hh => h12 (by simpa using hh)
  rw [q12]
  by_cases h17 : rKind l x = 17
  · rw [if_pos h17, if_pos h17, h17, rNamed_snoc]
    cases rNamed l x [18] <;> simp [hitB, Bool.and_comm]
  rw [if_neg h17, if_neg h17]
  rfl
theorem dead_no {l : List Ev} {e : Ev} (h : ¬ (e.k = 9 ∨ e.k = 10 ∨ e.k = 11 ∨ e.k = 13 ∨ e.k = 14 ∨ e.k = 18)) (x : Int) : dead l e x = false := by
  have h9 : ([9, 10, 11].any (fun k => e.k == k)) = false := by simp; omega
  have h13 : ([13, 14].any (fun k => e.k == k)) = false := by simp; omega
  have h18 : ([18].any (fun k => e.k == k)) = false := by simp; omega
  unfold dead
  rw [h9, h13, h18]
  simp
theorem ref_in {l : List Ev} {e : Ev} (hr : rRefs l e = true) (h0 : rLast l 2 ≤ l.length) : 0 ≤ e.ref ∧ e.ref ≤ l.length := by
  have hl2 := rLast_le l 2
  have hl3 := rLast_le l 3
  have ht : 0 ≤ (rTask l).2 ∧ (rTask l).2 ≤ l.length := by
    unfold rTask
    split
    · exact ⟨by decide, by omega⟩
    split
    · exact ⟨by omega, by omega⟩
    split
    · exact ⟨by decide, by omega⟩
    · exact ⟨by omega, by omega⟩
  have hk : ∀ k : Int, k ≠ 0 → rKind l e.ref = k → 0 ≤ e.ref ∧ e.ref ≤ l.length := fun k hk he => by
    have := kind_in (l := l) (x := e.ref) (by omega)
    omega
  unfold rRefs at hr
  split at hr
  · simp only [Bool.and_eq_true, beq_iff_eq] at hr; omega
  split at hr
  · simp only [Bool.and_eq_true, beq_iff_eq] at hr; omega
  split at hr
  · simp only [Bool.and_eq_true, beq_iff_eq] at hr; exact hk 7 (by decide) hr.1
  split at hr
  · simp only [Bool.and_eq_true, beq_iff_eq] at hr; exact hk 8 (by decide) hr.1
  split at hr
  · simp only [Bool.and_eq_true, beq_iff_eq] at hr; exact hk 12 (by decide) hr.1
  split at hr
  · simp only [Bool.and_eq_true, beq_iff_eq] at hr; exact hk 17 (by decide) hr.1
  · have : e.ref = 0 := by simpa using hr
    omega
theorem idAt_snoc (l : List Ev) (e : Ev) (x : Int) : idAt (l ++ [e]) x = if x = (l.length : Int) + 1 then e.id else idAt l x := by
  unfold idAt
  rw [evAt_snoc]
  by_cases h : x = (l.length : Int) + 1
  · rw [if_pos h, if_pos h]
  · rw [if_neg h, if_neg h]
theorem refAt_snoc {l : List Ev} {e : Ev} {x : Int} (h1 : 1 ≤ x) : refAt (l ++ [e]) x = if x = (l.length : Int) + 1 then e.ref else refAt l x := by
  rw [refAt_ev h1, refAt_ev h1, evAt_snoc]
  by_cases h : x = (l.length : Int) + 1
  · rw [if_pos h, if_pos h]
  · rw [if_neg h, if_neg h]
theorem refAt_in {l : List Ev} (h : RefsIn l) {x : Int} (h1 : 1 ≤ x) (h2 : x ≤ l.length) : 0 ≤ refAt l x ∧ refAt l x ≤ l.length := by
  obtain ⟨y, hy⟩ : ∃ y, l[(x - 1).toNat]? = some y := ⟨_, List.getElem?_eq_getElem (by omega)⟩
  unfold refAt
  rw [hy]
  exact h y (List.mem_of_getElem? hy)
end Go.Proofs.YtbdjnfkhdphhoaaDoor
