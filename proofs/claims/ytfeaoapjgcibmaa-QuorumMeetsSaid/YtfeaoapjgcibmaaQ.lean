/- Two sets of most voters meet. -/
import Derived.Test.YtfeaoapjgcibmaaP
import Derived.Test.YtfeaoapjgcibmaaI
import Derived.Test.YtfeaoapjgcibmaaH
set_option linter.unusedVariables false
namespace Go.Proofs.Ytfeaoapjgcibmaa
def nb (p : Nat → Bool) (n : Nat) : Nat := ((List.range n).filter p).length
theorem nb_succ (p : Nat → Bool) (n : Nat) : nb p (n + 1) = nb p n + if p n = true then 1 else 0 := by
  unfold nb
  rw [List.range_succ, List.filter_append, List.length_append]
  cases h : p n <;> simp [List.filter, h]
theorem nb_both (p q : Nat → Bool) (n : Nat) : nb p n + nb q n = nb (fun k => p k && q k) n + nb (fun k => p k || q k) n := by
  induction n with
  | zero => rfl
  | succ n ih =>
    rw [nb_succ, nb_succ, nb_succ, nb_succ]
    cases hp : p n <;> cases hq : q n <;> simp <;> omega
theorem nb_mono (p q : Nat → Bool) (n : Nat) (h : ∀ k, k < n → p k = true → q k = true) : nb p n ≤ nb q n := by
  induction n with
  | zero => exact Nat.le_refl _
  | succ n ih =>
    have := ih (fun k hk => h k (by omega))
    have hn := h n (by omega)
    rw [nb_succ, nb_succ]
    cases hp : p n <;> cases hq : q n <;> simp_all <;> omega
theorem nb_one (p q : Nat → Bool) (x : Nat) (n : Nat) (h : ∀ k, k < n → k ≠ x → p k = true → q k = true) : nb p n ≤ nb q n + 1 ∧ (n ≤ x → nb p n ≤ nb q n) := by
  induction n with
  | zero => exact ⟨by simp [nb], fun _ => Nat.le_refl _⟩
  | succ n ih =>
    have ⟨i1, i2⟩ := ih (fun k hk => h k (by omega))
    rw [nb_succ, nb_succ]
    by_cases e : n = x
    · have := i2 (by omega)
      constructor
      · split <;> split <;> omega
      · intro; omega
    · have hn := h n (by omega) e
      constructor
      · cases hp : p n <;> cases hq : q n <;> simp_all <;> omega
      · intro hx
        have := i2 (by omega)
        cases hp : p n <;> cases hq : q n <;> simp_all <;> omega
theorem nb_pos (p : Nat → Bool) (n : Nat) (h : 0 < nb p n) : ∃ k, k < n ∧ p k = true := by
  induction n with
  | zero => simp [nb] at h
  | succ n ih =>
    rw [nb_succ] at h
    by_cases hp : p n = true
    · exact ⟨n, by omega, hp⟩
    · simp [hp] at h
      obtain ⟨k, hk, hpk⟩ := ih h
      exact ⟨k, by omega, hpk⟩
theorem sel_nb (m : Nat → Int) (p : Nat → Bool) (n : Nat) (hn : n ≤ 9) : ((sel m 1 n).filter (fun x => p x.val)).length = nb (fun k => decide (m k = 1) && p k) n := by
  induction n with
  | zero => rfl
  | succ n ih =>
    rw [filt_succ m p n (by omega), ih (by omega), nb_succ]
    congr 1
    simp
theorem cnt_nb (m : Nat → Int) : cnt m 1 = nb (fun k => decide (m k = 1)) 9 := by
  have := sel_nb m (fun _ => true) 9 (by omega)
  simp only [Bool.and_true] at this
  rw [← this]
  unfold cnt
  rw [List.filter_eq_self.2 (fun _ _ => rfl)]
theorem told_nb (m : Nat → Int) (y : Nat → Bool) : told y 9 true (sel m 1 9) = nb (fun k => decide (m k = 1) && y k) 9 := by
  have := sel_nb m y 9 (by omega)
  rw [← this]
  unfold told
  congr 1
  refine List.filter_congr (fun x _ => ?_)
  have := x.isLt
  cases y x.val <;> simp
/-- the law -/
theorem meet {m n : Nat → Int} {a b : Nat → Bool} (hw : won m a 9 = true) (hv : won n b 9 = true)
    (h : (∀ k, k < 9 → m k = 1 → n k = 1) ∧ cnt n 1 ≤ cnt m 1 + 1 ∨ (∀ k, k < 9 → n k = 1 → m k = 1) ∧ cnt m 1 ≤ cnt n 1 + 1) : ∃ k, k < 9 ∧ a k = true ∧ b k = true ∧ m k = 1 ∧ n k = 1 := by
  unfold won at hw hv
  simp only [decide_eq_true_eq] at hw hv
  rw [told_nb] at hw hv
  have e1 : mst m = (cnt m 1 : Int) / 2 + 1 := rfl
  have e2 : mst n = (cnt n 1 : Int) / 2 + 1 := rfl
  have hb := nb_both (fun k => decide (m k = 1) && a k) (fun k => decide (n k = 1) && b k) 9
  have hpos : 0 < nb (fun k => (decide (m k = 1) && a k) && (decide (n k = 1) && b k)) 9 := by
    rcases h with ⟨h1, h2⟩ | ⟨h1, h2⟩
    · have hu : nb (fun k => (decide (m k = 1) && a k) || (decide (n k = 1) && b k)) 9 ≤ cnt n 1 := by
        rw [cnt_nb]
        refine nb_mono _ _ 9 (fun k hk hp => ?_)
        simp only [Bool.or_eq_true, Bool.and_eq_true, decide_eq_true_eq] at hp ⊢
        rcases hp with ⟨hp, _⟩ | ⟨hp, _⟩
        · exact h1 k hk hp
        · exact hp
      have hmn : cnt m 1 ≤ cnt n 1 := by
        rw [cnt_nb, cnt_nb]
        exact nb_mono _ _ 9 (fun k hk hp => by simp only [decide_eq_true_eq] at hp ⊢; exact h1 k hk hp)
      omega
    · have hu : nb (fun k => (decide (m k = 1) && a k) || (decide (n k = 1) && b k)) 9 ≤ cnt m 1 := by
        rw [cnt_nb]
        refine nb_mono _ _ 9 (fun k hk hp => ?_)
        simp only [Bool.or_eq_true, Bool.and_eq_true, decide_eq_true_eq] at hp ⊢
        rcases hp with ⟨hp, _⟩ | ⟨hp, _⟩
        · exact hp
        · exact h1 k hk hp
      have hmn : cnt n 1 ≤ cnt m 1 := by
        rw [cnt_nb, cnt_nb]
        exact nb_mono _ _ 9 (fun k hk hp => by simp only [decide_eq_true_eq] at hp ⊢; exact h1 k hk hp)
      omega
  obtain ⟨k, hk, hp⟩ := nb_pos _ 9 hpos
  simp only [Bool.and_eq_true, decide_eq_true_eq] at hp
  exact ⟨k, hk, hp.1.2, hp.2.2, hp.1.1, hp.2.1⟩
/-- a legal change: the next members may be, and differ by one voter at most -/
theorem ch_legal {m : Nat → Int} {x r : Int} (hok : okM m = true) (h : chE m x r = 0) : okM (chM m x r) = true ∧
    ((∀ k, k < 9 → m k = 1 → chM m x r k = 1) ∧ cnt (chM m x r) 1 ≤ cnt m 1 + 1 ∨ (∀ k, k < 9 → chM m x r k = 1 → m k = 1) ∧ cnt m 1 ≤ cnt (chM m x r) 1 + 1) := by
  rw [ch_yes h]
  have h0 := h
  unfold chE at h
  by_cases c1 : x < 0 ∨ 9 ≤ x ∨ r < 0 ∨ 2 < r
  · rw [if_pos c1] at h; omega
  rw [if_neg c1] at h
  by_cases c2 : m x.toNat = r
  · rw [if_pos c2] at h; omega
  rw [if_neg c2] at h
  by_cases c3 : (m x.toNat = 0 ∧ r = 1) ∨ (m x.toNat = 1 ∧ r = 2) ∨ (m x.toNat = 1 ∧ cnt m 1 = 1)
  · rw [if_pos c3] at h; omega
  obtain ⟨q, rfl⟩ := Int.eq_ofNat_of_zero_le (show 0 ≤ x by omega)
  rw [Int.toNat_natCast] at *
  have hq : q < 9 := by omega
  unfold okM at hok
  simp only [Bool.and_eq_true, decide_eq_true_eq] at hok
  obtain ⟨ho1, ho2⟩ := hok
  have hlow := (lowM_of m 9).1 ho1
  have hput : ∀ k, k ≠ q → put m q r k = m k := fun k hk => by unfold put; rw [if_neg hk]
  have hputq : put m q r q = r := by unfold put; rw [if_pos rfl]
  have hlow2 : lowM (put m q r) 9 = true := (lowM_of _ 9).2 (fun k hk => by
    by_cases e : k = q
    · rw [e, hputq]; omega
    · rw [hput k e]; exact hlow k hk)
  by_cases hr1 : r = 1
  · have g1 : ∀ k, k < 9 → m k = 1 → put m q r k = 1 := fun k hk hmk => by
      by_cases e : k = q
      · rw [e, hputq]; exact hr1
      · rw [hput k e]; exact hmk
    have g2 : cnt m 1 ≤ cnt (put m q r) 1 := by
      rw [cnt_nb, cnt_nb]
      exact nb_mono _ _ 9 (fun k hk hp => by simp only [decide_eq_true_eq] at hp ⊢; exact g1 k hk hp)
    have g3 : cnt (put m q r) 1 ≤ cnt m 1 + 1 := by
      rw [cnt_nb, cnt_nb]
      exact (nb_one _ _ q 9 (fun k hk e hp => by simp only [decide_eq_true_eq] at hp ⊢; rw [← hput k e]; exact hp)).1
    refine ⟨?_, .inl ⟨g1, g3⟩⟩
    unfold okM
    simp only [Bool.and_eq_true, decide_eq_true_eq]
    exact ⟨hlow2, by omega⟩
  · have g1 : ∀ k, k < 9 → put m q r k = 1 → m k = 1 := fun k hk hmk => by
      by_cases e : k = q
      · rw [e, hputq] at hmk; exact absurd hmk hr1
      · rw [hput k e] at hmk; exact hmk
    have g3 : cnt m 1 ≤ cnt (put m q r) 1 + 1 := by
      rw [cnt_nb, cnt_nb]
      exact (nb_one _ _ q 9 (fun k hk e hp => by simp only [decide_eq_true_eq] at hp ⊢; rw [hput k e]; exact hp)).1
    refine ⟨?_, .inr ⟨g1, g3⟩⟩
    unfold okM
    simp only [Bool.and_eq_true, decide_eq_true_eq]
    refine ⟨hlow2, ?_⟩
    by_cases hm1 : m q = 1
    · omega
    · have g2 : cnt m 1 ≤ cnt (put m q r) 1 := by
        rw [cnt_nb, cnt_nb]
        refine nb_mono _ _ 9 (fun k hk hp => ?_)
        simp only [decide_eq_true_eq] at hp ⊢
        by_cases e : k = q
        · rw [e] at hp; exact absurd hp hm1
        · rw [hput k e]; exact hp
      omega
end Go.Proofs.Ytfeaoapjgcibmaa
