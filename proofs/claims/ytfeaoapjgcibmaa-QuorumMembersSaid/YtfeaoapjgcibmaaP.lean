/- Plain laws of votes and places: no program in sight. -/
import Derived.Test.YtfeaoapjgcibmaaC
set_option linter.unusedVariables false
namespace Go.Proofs.Ytfeaoapjgcibmaa
/-- how many of a row of nodes have so much -/
def hav (mt : Nat → Int) (n : Nat) (v : Int) (l : List (Fin 9)) : Nat := (l.filter (fun x => decide (x.val < n) && decide (v ≤ mt x.val))).length
def step (m : Nat → Int) (mt : Nat → Int) (n : Nat) (b : Int) (x : Fin 9) : Int :=
  if x.val < n ∧ b < mt x.val ∧ mst m ≤ hav mt n (mt x.val) (sel m 1 9) then mt x.val else b
def idx (m : Nat → Int) (mt : Nat → Int) (n : Nat) (l : List (Fin 9)) : Int := l.foldl (step m mt n) 0
theorem idx_snoc (m mt : Nat → Int) (n : Nat) (l : List (Fin 9)) (x : Fin 9) : idx m mt n (l ++ [x]) = step m mt n (idx m mt n l) x := by simp [idx]
theorem step_ge (m mt : Nat → Int) (n : Nat) (b : Int) (x : Fin 9) : b ≤ step m mt n b x := by
  unfold step; split <;> omega
theorem fold_ge (m mt : Nat → Int) (n : Nat) (l : List (Fin 9)) : ∀ b : Int, b ≤ l.foldl (step m mt n) b := by
  induction l with
  | nil => intro b; simp
  | cons x l ih => intro b; exact Int.le_trans (step_ge m mt n b x) (ih _)
theorem fold_mem (m mt : Nat → Int) (n : Nat) (l : List (Fin 9)) : ∀ (b : Int) (x : Fin 9), x ∈ l → x.val < n → mst m ≤ hav mt n (mt x.val) (sel m 1 9) → mt x.val ≤ l.foldl (step m mt n) b := by
  induction l with
  | nil => intro b x h; simp at h
  | cons y l ih =>
    intro b x h h1 h2
    rcases List.mem_cons.1 h with rfl | h
    · refine Int.le_trans ?_ (fold_ge m mt n l _)
      unfold step
      split <;> omega
    · exact ih _ x h h1 h2
theorem fold_is (m mt : Nat → Int) (n : Nat) (l : List (Fin 9)) : ∀ b : Int, l.foldl (step m mt n) b = b ∨ ∃ x ∈ l, x.val < n ∧ l.foldl (step m mt n) b = mt x.val ∧ mst m ≤ hav mt n (mt x.val) (sel m 1 9) ∧ b < mt x.val := by
  induction l with
  | nil => intro b; exact .inl rfl
  | cons y l ih =>
    intro b
    rw [List.foldl_cons]
    have hs : step m mt n b y = b ∨ (y.val < n ∧ step m mt n b y = mt y.val ∧ mst m ≤ hav mt n (mt y.val) (sel m 1 9) ∧ b < mt y.val) := by
      unfold step
      split
      · exact .inr ⟨by omega, rfl, by omega, by omega⟩
      · exact .inl rfl
    rcases ih (step m mt n b y) with h | ⟨x, hx, h1, h2, h3, h4⟩
    · rcases hs with hs | ⟨a1, a2, a3, a4⟩
      · exact .inl (h.trans hs)
      · exact .inr ⟨y, List.mem_cons_self, a1, h.trans a2, a3, a4⟩
    · have := step_ge m mt n b y
      exact .inr ⟨x, List.mem_cons_of_mem _ hx, h1, h2, h3, by omega⟩
theorem filter_le {α : Type} (p q : α → Bool) (l : List α) (h : ∀ x ∈ l, p x = true → q x = true) : (l.filter p).length ≤ (l.filter q).length := by
  induction l with
  | nil => simp
  | cons a l ih =>
    have ih' := ih (fun x hx => h x (List.mem_cons_of_mem _ hx))
    have ha := h a List.mem_cons_self
    rw [List.filter_cons, List.filter_cons]
    cases hp : p a <;> cases hq : q a <;> simp_all <;> omega
theorem least {α : Type} (f : α → Int) (l : List α) (h : l ≠ []) : ∃ y ∈ l, ∀ z ∈ l, f y ≤ f z := by
  induction l with
  | nil => exact absurd rfl h
  | cons a l ih =>
    by_cases hl : l = []
    · subst hl; exact ⟨a, by simp, by simp⟩
    · obtain ⟨y, hy, hz⟩ := ih hl
      by_cases hc : f a ≤ f y
      · refine ⟨a, by simp, fun z hz' => ?_⟩
        rcases List.mem_cons.1 hz' with rfl | h'
        · omega
        · have := hz z h'; omega
      · refine ⟨y, by simp [hy], fun z hz' => ?_⟩
        rcases List.mem_cons.1 hz' with rfl | h'
        · omega
        · exact hz z h'
def val (mt : Nat → Int) (n : Nat) (x : Nat) : Int := if x < n ∧ 0 < mt x then mt x else 0
theorem val_yes (mt : Nat → Int) (n x : Nat) (h1 : x < n) (h2 : 0 < mt x) : val mt n x = mt x := by unfold val; rw [if_pos ⟨h1, h2⟩]
theorem val_no (mt : Nat → Int) (n x : Nat) (h : ¬ (x < n ∧ 0 < mt x)) : val mt n x = 0 := by unfold val; rw [if_neg h]
theorem val_ge (mt : Nat → Int) (n x : Nat) : 0 ≤ val mt n x := by unfold val; split <;> omega
def atv (m mt : Nat → Int) (n : Nat) (i : Int) (k : Nat) : Nat := ((sel m 1 k).filter (fun x => decide (i ≤ val mt n x.val))).length
def morev (m mt : Nat → Int) (n : Nat) (i : Int) (k : Nat) : Nat := ((sel m 1 k).filter (fun x => decide (i < val mt n x.val))).length
theorem idx_law (m mt : Nat → Int) (n : Nat) (hr : 0 < cnt m 1) : 0 ≤ idx m mt n (sel m 1 9) ∧ mst m ≤ atv m mt n (idx m mt n (sel m 1 9)) 9 ∧ (morev m mt n (idx m mt n (sel m 1 9)) 9 : Int) < mst m := by
  have h0 : 0 ≤ idx m mt n (sel m 1 9) := fold_ge m mt n _ 0
  obtain ⟨i, hi⟩ : ∃ i, idx m mt n (sel m 1 9) = i := ⟨_, rfl⟩
  rw [hi] at h0 ⊢
  have hm : mst m = (cnt m 1 : Int) / 2 + 1 := rfl
  refine ⟨h0, ?_, ?_⟩
  · rcases fold_is m mt n (sel m 1 9) 0 with h | ⟨x, hx, h1, h2, h3, h4⟩
    · have h' : i = 0 := hi.symm.trans h
      subst h'
      have : atv m mt n 0 9 = cnt m 1 := by
        unfold atv cnt
        rw [List.filter_eq_self.2 (fun x _ => by simpa using val_ge mt n x.val)]
      rw [this]; omega
    · have h' : i = mt x.val := hi.symm.trans h2
      rw [h']
      have : hav mt n (mt x.val) (sel m 1 9) ≤ atv m mt n (mt x.val) 9 := by
        refine filter_le _ _ _ (fun z _ hz => ?_)
        simp only [Bool.and_eq_true, decide_eq_true_eq] at hz ⊢
        rw [val_yes mt n z.val hz.1 (by omega)]; exact hz.2
      omega
  · apply Classical.byContradiction
    intro hn
    have hL : (sel m 1 9).filter (fun x => decide (i < val mt n x.val)) ≠ [] := by
      intro e
      have : morev m mt n i 9 = 0 := by unfold morev; rw [e]; rfl
      omega
    have hin : ∀ z : Fin 9, z ∈ (sel m 1 9).filter (fun x => decide (i < val mt n x.val)) → z.val < n ∧ i < mt z.val := fun z hz => by
      have := (List.mem_filter.1 hz).2
      simp only [decide_eq_true_eq] at this
      by_cases hc : z.val < n ∧ 0 < mt z.val
      · rw [val_yes mt n z.val hc.1 hc.2] at this; exact ⟨hc.1, this⟩
      · rw [val_no mt n z.val hc] at this; omega
    obtain ⟨y, hy, hmin⟩ := least (fun x : Fin 9 => mt x.val) _ hL
    have hle : morev m mt n i 9 ≤ hav mt n (mt y.val) (sel m 1 9) := by
      refine filter_le _ _ _ (fun z hz hz2 => ?_)
      have hz3 : z ∈ (sel m 1 9).filter (fun x => decide (i < val mt n x.val)) := List.mem_filter.2 ⟨hz, hz2⟩
      have := hmin z hz3
      have := hin z hz3
      simp only [Bool.and_eq_true, decide_eq_true_eq]
      omega
    have hy2 := hin y hy
    have := fold_mem m mt n (sel m 1 9) 0 y (List.mem_filter.1 hy).1 hy2.1 (by omega)
    have e : (sel m 1 9).foldl (step m mt n) 0 = i := hi
    omega
/-- votes -/
theorem not_both (m : Nat → Int) (y : Nat → Bool) (n : Nat) (h1 : won m y n = true) (h2 : lost m y n = true) : False := by
  unfold won at h1; unfold lost at h2
  simp only [decide_eq_true_eq] at h1 h2
  have := told_both y n (sel m 1 9)
  have e : (sel m 1 9).length = cnt m 1 := rfl
  have hm : mst m = (cnt m 1 : Int) / 2 + 1 := rfl
  omega
theorem won_mono (m : Nat → Int) (y y' : Nat → Bool) (n n' : Nat) (h : ∀ x, x < n → y x = true → x < n' ∧ y' x = true) (hw : won m y n = true) : won m y' n' = true := by
  unfold won at *
  simp only [decide_eq_true_eq] at *
  have : told y n true (sel m 1 9) ≤ told y' n' true (sel m 1 9) := by
    refine filter_le _ _ _ (fun z _ hz => ?_)
    simp only [Bool.and_eq_true, decide_eq_true_eq, beq_iff_eq] at hz ⊢
    exact h z.val hz.1 hz.2
  omega
theorem lost_mono (m : Nat → Int) (y y' : Nat → Bool) (n n' : Nat) (h : ∀ x, x < n → y x = false → x < n' ∧ y' x = false) (hw : lost m y n = true) : lost m y' n' = true := by
  unfold lost at *
  simp only [decide_eq_true_eq] at *
  have : told y n false (sel m 1 9) ≤ told y' n' false (sel m 1 9) := by
    refine filter_le _ _ _ (fun z _ hz => ?_)
    simp only [Bool.and_eq_true, decide_eq_true_eq, beq_iff_eq] at hz ⊢
    exact h z.val hz.1 hz.2
  omega
end Go.Proofs.Ytfeaoapjgcibmaa
