/- A history and one event more: the document's looks. -/
import Derived.Test.YtbdjnfkhdphhoaaDoorR3
set_option linter.unusedVariables false
set_option linter.unusedSimpArgs false
namespace Go.Proofs.YtbdjnfkhdphhoaaDoor
open Go.RowKit Go.Maps
def evAt (l : List Ev) (x : Int) : Option Ev := if x < 1 then none else l[(x - 1).toNat]?
theorem evAt_out {l : List Ev} {x : Int} (h : x < 1 ∨ (l.length : Int) < x) : evAt l x = none := by
  unfold evAt
  by_cases h1 : x < 1
  · exact if_pos h1
  · rw [if_neg h1]
    exact List.getElem?_eq_none (by omega)
theorem evAt_snoc (l : List Ev) (e : Ev) (x : Int) : evAt (l ++ [e]) x = if x = (l.length : Int) + 1 then some e else evAt l x := by
  by_cases h : x = (l.length : Int) + 1
  · rw [if_pos h]
    unfold evAt
    rw [if_neg (by omega), show (x - 1).toNat = l.length by omega]
    simp
  · rw [if_neg h]
    unfold evAt
    by_cases h1 : x < 1
    · rw [if_pos h1, if_pos h1]
    · rw [if_neg h1, if_neg h1]
      by_cases h2 : (x - 1).toNat < l.length
      · exact List.getElem?_append_left h2
      · rw [List.getElem?_eq_none (by simp; omega), List.getElem?_eq_none (by omega)]
theorem rKind_ev (l : List Ev) (x : Int) : rKind l x = match evAt l x with | some e => e.k | none => 0 := by
  by_cases h : x < 1 ∨ (l.length : Int) < x
  · rw [rKind_out h, evAt_out h]
  · unfold rKind evAt
    rw [if_neg h, if_neg (by omega)]
    cases l[(x - 1).toNat]? <;> rfl
theorem rKind_snoc (l : List Ev) (e : Ev) (x : Int) : rKind (l ++ [e]) x = if x = (l.length : Int) + 1 then e.k else rKind l x := by
  rw [rKind_ev, evAt_snoc]
  by_cases h : x = (l.length : Int) + 1
  · rw [if_pos h, if_pos h]
  · rw [if_neg h, if_neg h, rKind_ev]
theorem refAt_ev {l : List Ev} {x : Int} (h : 1 ≤ x) : refAt l x = match evAt l x with | some e => e.ref | none => 0 := by
  unfold refAt evAt
  rw [if_neg (by omega)]
  cases l[(x - 1).toNat]? <;> rfl
theorem rNamed_snoc (l : List Ev) (e : Ev) (y : Int) (ks : List Int) : rNamed (l ++ [e]) y ks = (rNamed l y ks || hitB y ks e) := by
  simp [rNamed]
theorem rWorks_snoc (l : List Ev) (e : Ev) (x : Int) : rWorks (l ++ [e]) x = if rWorks l x ≠ 0 then rWorks l x else if wkB x e = true then (l.length : Int) + 1 else 0 := by
  unfold rWorks
  rw [List.findIdx?_append]
  cases h : l.findIdx? (wkB x) with
  | some i =>
    rw [if_pos (by show (i : Int) + 1 ≠ 0; omega)]
    rfl
  | none =>
    rw [if_neg (by decide)]
    by_cases hw : wkB x e = true
    · simp [hw, List.findIdx?_cons]
    · simp [hw, List.findIdx?_cons]
theorem rWorks_spec (l : List Ev) (x : Int) (h : rWorks l x ≠ 0) : ∃ e, evAt l (rWorks l x) = some e ∧ e.k = 8 ∧ e.ref = x ∧ 1 ≤ rWorks l x ∧ rWorks l x ≤ l.length := by
  cases hi : l.findIdx? (wkB x) with
  | none => exact absurd (by unfold rWorks; rw [hi]) h
  | some i =>
    have hv : rWorks l x = (i : Int) + 1 := by unfold rWorks; rw [hi]
    rw [List.findIdx?_eq_some_iff_getElem] at hi
    obtain ⟨h1, h2, _⟩ := hi
    simp only [wkB, Bool.and_eq_true, beq_iff_eq] at h2
    rw [hv]
    refine ⟨l[i], ?_, h2.1, h2.2, by omega, by omega⟩
    unfold evAt
    rw [if_neg (by omega), show ((i : Int) + 1 - 1).toNat = i by omega]
    exact List.getElem?_eq_getElem h1
theorem rLastN_snoc (l : List Ev) (e : Ev) (k : Int) : ∀ n, n ≤ l.length → rLastN (l ++ [e]) k n = rLastN l k n
  | 0, _ => rfl
  | n + 1, h => by
    show (match (l ++ [e])[n]? with | some x => if x.k = k then n + 1 else rLastN (l ++ [e]) k n | none => rLastN (l ++ [e]) k n) = (match l[n]? with | some x => if x.k = k then n + 1 else rLastN l k n | none => rLastN l k n)
    rw [List.getElem?_append_left (by omega), rLastN_snoc l e k n (by omega)]
theorem rLast_snoc (l : List Ev) (e : Ev) (k : Int) : rLast (l ++ [e]) k = if e.k = k then l.length + 1 else rLast l k := by
  unfold rLast
  rw [List.length_append, show l.length + [e].length = l.length + 1 from rfl]
  show (match (l ++ [e])[l.length]? with | some x => if x.k = k then l.length + 1 else rLastN (l ++ [e]) k l.length | none => rLastN (l ++ [e]) k l.length) = _
  rw [show (l ++ [e])[l.length]? = some e by simp, rLastN_snoc l e k _ (Nat.le_refl _)]
theorem rLastN_le (l : List Ev) (k : Int) : ∀ n, rLastN l k n ≤ n
  | 0 => Nat.le_refl _
  | n + 1 => by
    have := rLastN_le l k n
    unfold rLastN
    split
    · split
      · exact Nat.le_refl _
      · exact Nat.le_succ_of_le this
    · exact Nat.le_succ_of_le this
theorem rLast_le (l : List Ev) (k : Int) : rLast l k ≤ l.length := rLastN_le l k _
theorem lastAt_snoc (l : List Ev) (e : Ev) : lastAt (l ++ [e]) = e.at_ := by simp [lastAt]
/-- no event refers past the end -/
def RefsIn (l : List Ev) : Prop := ∀ y ∈ l, 0 ≤ y.ref ∧ y.ref ≤ l.length
theorem works_past {l : List Ev} (h : RefsIn l) {x : Int} (hx : (l.length : Int) < x) : rWorks l x = 0 := by
  apply Classical.byContradiction
  intro hn
  obtain ⟨e, he, _, hr, h1, h2⟩ := rWorks_spec l x hn
  unfold evAt at he
  rw [if_neg (by omega)] at he
  have := h e (List.mem_of_getElem? he)
  omega
theorem named_past {l : List Ev} (h : RefsIn l) {x : Int} (hx : (l.length : Int) < x) (ks : List Int) : rNamed l x ks = false := by
  rw [Bool.eq_false_iff]
  intro ht
  obtain ⟨y, hy, hh⟩ := List.any_eq_true.1 ht
  simp only [hitB, Bool.and_eq_true, beq_iff_eq] at hh
  have := h y hy
  omega
/-- a new place -/
theorem rOpen_new {l : List Ev} {e : Ev} (h : RefsIn l) (he : e.ref ≤ l.length) : rOpen (l ++ [e]) ((l.length : Int) + 1) = (e.k == 7 || (e.k == 12 || e.k == 17)) := by
  have hk : rKind (l ++ [e]) ((l.length : Int) + 1) = e.k := by rw [rKind_snoc, if_pos rfl]
  have hw : rWorks (l ++ [e]) ((l.length : Int) + 1) = 0 := by
    rw [rWorks_snoc, works_past h (by omega), if_neg (by simp), if_neg]
    simp only [wkB, Bool.and_eq_true, beq_iff_eq]
    omega
  have hn : ∀ ks, rNamed (l ++ [e]) ((l.length : Int) + 1) ks = false := fun ks => by
    rw [rNamed_snoc, named_past h (by omega)]
    have : (e.ref == (l.length : Int) + 1) = false := by simp; omega
    simp [hitB, this]
  unfold rOpen
  rw [hk, hw, hn, hn]
  by_cases h7 : e.k = 7
  · simp [h7]
  · by_cases h12 : e.k = 12
    · simp [h12]
    · by_cases h17 : e.k = 17
      · simp [h17]
      · simp [h7, h12, h17]
theorem rOpen_none {l : List Ev} {x : Int} (h : x < 1 ∨ (l.length : Int) < x) : rOpen l x = false := by
  unfold rOpen
  rw [rKind_out h]
  rfl
end Go.Proofs.YtbdjnfkhdphhoaaDoor
