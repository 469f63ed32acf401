/- Plain law: the history of a run whose decision tasks are missed or faulty, so many times, can be one. -/
import Derived.Test.YtnkelaohcbdjnaaEvF
import Derived.Test.YtnkelaohcbdjnaaYx
set_option linter.unusedVariables false
set_option linter.unusedSimpArgs false
namespace Go.Proofs.Ytnkelaohcbdjnaa
open Ev
/-- the history behind t turns -/
def hist (f : Nat → Bool) : Nat → List Rv
  | 0 => [⟨1, 0, 0, 0, 0, 7, []⟩, ⟨2, 0, 0, 0, 0, 0, []⟩]
  | t + 1 => hist f t ++ [⟨3, (t : Int), ((2 + 3 * t : Nat) : Int), 0, 0, 0, []⟩] ++ [⟨if f t then 6 else 5, (t : Int), ((3 + 3 * t : Nat) : Int), 0, 0, if f t then 1 else 0, []⟩] ++ [⟨2, (t : Int), 0, 0, 0, ((t + 1 : Nat) : Int), []⟩]
theorem hist_len (f : Nat → Bool) : ∀ t, (hist f t).length = 2 + 3 * t
  | 0 => rfl
  | t + 1 => by
    simp only [hist, List.length_append, List.length_cons, List.length_nil, hist_len f t]
    omega
/-- an event as Check reads it -/
def ge (e : Rv) : Ev.Ev := ⟨e.k, e.a, e.r, e.i, e.l, e.n, none, e.d.length, 0⟩
/-- what is known of the task -/
structure TS (s : Hi) (n : Nat) (a task : Int) (begun : Bool) : Prop where
  n : s.n = n
  a : s.at_ = a
  c : s.closed = 0
  t : s.task = task
  b : s.begun = begun
theorem rightB_ge {e : Rv} (h1 : 1 ≤ e.k ∧ e.k ≤ 23) (h2 : 0 ≤ e.a ∧ e.a ≤ 1099511627776) (h3 : 0 ≤ e.r ∧ e.r ≤ 1099511627776) (h4 : 0 ≤ e.i ∧ e.i ≤ 1099511627776) (h5 : 0 ≤ e.l ∧ e.l ≤ 1099511627776) (h6 : 0 ≤ e.n ∧ e.n ≤ 1099511627776) (h7 : e.d.length ≤ 4096) : Ev.rightB (ge e) = true := by
  simp [Ev.rightB, ge, betB, h1.1, h1.2, h2.1, h2.2, h3.1, h3.2, h4.1, h4.2, h5.1, h5.2, h6.1, h6.2, h7]
theorem TS.sched {s : Hi} {n : Nat} {a : Int} (h : TS s n a 0 false) (hn : 1 ≤ n) (e : Rv) (hk : e.k = 2) (hr : Ev.rightB (ge e) = true) (ha : a ≤ e.a) (he : e.r = 0) : faultC s (ge e) = 0 ∧ TS (addO s (ge e)) (n + 1) e.a ((n + 1 : Nat) : Int) false := by
  have hf : faultC s (ge e) = 0 := by
    unfold faultC
    rw [hr, h.n, h.a, h.c, h.t]
    have h1 : ¬ (ge e).at_ < a := by simp [ge]; omega
    have h2 : (((n : Int) == 0) == ((ge e).k == 1)) = true := by simp [ge, hk]; omega
    have h3 : refB s (ge e) = true := by simp [refB, ge, hk, he]
    rw [h2, h3]
    simp [ge, hk, ha]
  refine ⟨hf, ?_⟩
  unfold addO
  rw [if_pos hf]
  unfold addH closes turned step1
  simp [ge, hk, closeB]
  exact ⟨by simp [h.n], rfl, h.c, by simp [h.n], rfl⟩
theorem TS.decides {s : Hi} {n : Nat} {a task : Int} (h : TS s n a task false) (hn : 1 ≤ n) (ht : task ≠ 0) (e : Rv) (hk : e.k = 3) (hr : Ev.rightB (ge e) = true) (ha : a ≤ e.a) (he : e.r = task) : faultC s (ge e) = 0 ∧ TS (addO s (ge e)) (n + 1) e.a ((n + 1 : Nat) : Int) true := by
  have hf : faultC s (ge e) = 0 := by
    unfold faultC
    rw [hr, h.n, h.a, h.c, h.t]
    have h1 : ¬ (ge e).at_ < a := by simp [ge]; omega
    have h2 : (((n : Int) == 0) == ((ge e).k == 1)) = true := by simp [ge, hk]; omega
    have h3 : refB s (ge e) = true := by simp [refB, ge, hk, he, h.t, h.b, ht]
    rw [h2, h3]
    simp [ge, hk, ha]
  refine ⟨hf, ?_⟩
  unfold addO
  rw [if_pos hf]
  unfold addH closes turned step1
  simp [ge, hk, closeB]
  exact ⟨by simp [h.n], rfl, h.c, by simp [h.n], rfl⟩
theorem TS.over {s : Hi} {n : Nat} {a task : Int} (h : TS s n a task true) (hn : 1 ≤ n) (ht : task ≠ 0) (e : Rv) (hk : e.k = 4 ∨ e.k = 5 ∨ e.k = 6) (hr : Ev.rightB (ge e) = true) (ha : a ≤ e.a) (he : e.r = task) : faultC s (ge e) = 0 ∧ TS (addO s (ge e)) (n + 1) e.a 0 false := by
  have hf : faultC s (ge e) = 0 := by
    unfold faultC
    rw [hr, h.n, h.a, h.c, h.t]
    have h1 : ¬ (ge e).at_ < a := by simp [ge]; omega
    have h2 : (((n : Int) == 0) == ((ge e).k == 1)) = true := by rcases hk with hk | hk | hk <;> (simp [ge, hk]; omega)
    have h3 : refB s (ge e) = true := by rcases hk with hk | hk | hk <;> simp [refB, ge, hk, he, h.t, h.b, ht]
    rw [h2, h3]
    rcases hk with hk | hk | hk <;> simp [ge, hk, ha]
  refine ⟨hf, ?_⟩
  unfold addO
  rw [if_pos hf]
  unfold addH closes turned step1
  rcases hk with hk | hk | hk
  · simp [ge, hk, closeB]
    exact ⟨by simp [h.n], rfl, h.c, rfl, rfl⟩
  · simp [ge, hk, closeB]
    exact ⟨by simp [h.n], rfl, h.c, rfl, rfl⟩
  · simp [ge, hk, closeB]
    exact ⟨by simp [h.n], rfl, h.c, rfl, rfl⟩
theorem TS.closing {s : Hi} {n : Nat} {a : Int} (h : TS s n a 0 false) (hn : 1 ≤ n) (e : Rv) (hk : e.k = 20) (hr : Ev.rightB (ge e) = true) (ha : a ≤ e.a) (he : e.r = 0) : faultC s (ge e) = 0 := by
  unfold faultC
  rw [hr, h.n, h.a, h.c, h.t]
  have h1 : ¬ (ge e).at_ < a := by simp [ge]; omega
  have h2 : (((n : Int) == 0) == ((ge e).k == 1)) = true := by simp [ge, hk]; omega
  have h3 : refB s (ge e) = true := by simp [refB, ge, hk, he]
  rw [h2, h3]
  simp [ge, hk, ha]
theorem good_snoc {l : List Ev.Ev} {e : Ev.Ev} (h : Ev.Good l l.length) (hf : faultC (feed hi0 l) e = 0) : Ev.Good (l ++ [e]) (l ++ [e]).length := fun j x hj hx => by
  rw [List.length_append] at hj
  simp only [List.length_cons, List.length_nil] at hj
  by_cases hlt : j < l.length
  · rw [List.getElem?_append_left hlt] at hx
    rw [List.take_append_of_le_length (by omega)]
    exact h j x hlt hx
  · have e1 : j = l.length := by omega
    subst e1
    rw [List.getElem?_append_right (Nat.le_refl _), Nat.sub_self] at hx
    cases hx
    rw [List.take_append_of_le_length (Nat.le_refl _), List.take_length]
    exact hf
def Gs (l : List Rv) : List Ev.Ev := l.map ge
theorem Gs_snoc (l : List Rv) (e : Rv) : Gs (l ++ [e]) = Gs l ++ [ge e] := by simp [Gs]
theorem hist_good (f : Nat → Bool) : ∀ t, t ≤ 1000 → Ev.Good (Gs (hist f t)) (Gs (hist f t)).length ∧ TS (feed hi0 (Gs (hist f t))) (2 + 3 * t) ((t - 1 : Nat) : Int) ((2 + 3 * t : Nat) : Int) false := by
  intro t
  induction t with
  | zero =>
    intro _
    have f1 : faultC hi0 (ge ⟨1, 0, 0, 0, 0, 7, []⟩) = 0 := by
      unfold faultC
      simp [Ev.rightB, ge, betB, hi0, refB]
    have s1 : TS (addO hi0 (ge ⟨1, 0, 0, 0, 0, 7, []⟩)) 1 0 0 false := by
      unfold addO
      rw [if_pos f1]
      unfold addH closes turned step1
      simp [ge, closeB, hi0]
      exact ⟨rfl, rfl, rfl, rfl, rfl⟩
    obtain ⟨f2, s2⟩ := s1.sched (by omega) ⟨2, 0, 0, 0, 0, 0, []⟩ rfl (rightB_ge (by simp) (by simp) (by simp) (by simp) (by simp) (by simp) (by simp)) (by simp) rfl
    have g1 : Ev.Good (Gs [⟨1, 0, 0, 0, 0, 7, []⟩]) 1 := fun j x hj hx => by
      have : j = 0 := by omega
      subst this
      simp [Gs] at hx
      subst hx
      exact f1
    exact ⟨good_snoc (l := Gs [⟨1, 0, 0, 0, 0, 7, []⟩]) g1 f2, s2⟩
  | succ t ih =>
    intro ht
    obtain ⟨g, s⟩ := ih (by omega)
    obtain ⟨f1, s1⟩ := s.decides (by omega) (by omega) ⟨3, (t : Int), ((2 + 3 * t : Nat) : Int), 0, 0, 0, []⟩ rfl (rightB_ge (by simp) (by simp; omega) (by simp; omega) (by simp) (by simp) (by simp) (by simp)) (by simp) rfl
    have g1 := good_snoc g f1
    rw [← Gs_snoc] at g1
    rw [← feed_snoc, ← Gs_snoc] at s1
    obtain ⟨f2, s2⟩ := s1.over (by omega) (by omega) ⟨if f t then 6 else 5, (t : Int), ((3 + 3 * t : Nat) : Int), 0, 0, if f t then 1 else 0, []⟩ (by cases f t <;> simp) (rightB_ge (by cases f t <;> simp) (by simp; omega) (by simp; omega) (by simp) (by simp) (by cases f t <;> simp) (by simp)) (by simp) (by simp; omega)
    have g2 := good_snoc g1 f2
    rw [← Gs_snoc] at g2
    rw [← feed_snoc, ← Gs_snoc] at s2
    obtain ⟨f3, s3⟩ := s2.sched (by omega) ⟨2, (t : Int), 0, 0, 0, ((t + 1 : Nat) : Int), []⟩ rfl (rightB_ge (by simp) (by simp; omega) (by simp) (by simp) (by simp) (by simp; omega) (by simp)) (by simp) rfl
    have g3 := good_snoc g2 f3
    rw [← Gs_snoc] at g3
    rw [← feed_snoc, ← Gs_snoc] at s3
    refine ⟨g3, ?_⟩
    have e1 : 2 + 3 * t + 1 + 1 + 1 = 2 + 3 * (t + 1) := by omega
    have e2 : ((t + 1 - 1 : Nat) : Int) = (t : Int) := by simp
    rw [e1] at s3
    rw [e2]
    exact s3
/-- and with the end -/
def histEnd (f : Nat → Bool) (t : Nat) : List Rv := hist f t ++ [⟨3, (t : Int), ((2 + 3 * t : Nat) : Int), 0, 0, 0, []⟩] ++ [⟨4, (t : Int), ((3 + 3 * t : Nat) : Int), 0, 0, 0, []⟩] ++ [⟨20, (t : Int), 0, 0, 0, 0, []⟩]
theorem histEnd_good (f : Nat → Bool) (t : Nat) (ht : t ≤ 1000) : Ev.Good (Gs (histEnd f t)) (Gs (histEnd f t)).length := by
  obtain ⟨g, s⟩ := hist_good f t ht
  obtain ⟨f1, s1⟩ := s.decides (by omega) (by omega) ⟨3, (t : Int), ((2 + 3 * t : Nat) : Int), 0, 0, 0, []⟩ rfl (rightB_ge (by simp) (by simp; omega) (by simp; omega) (by simp) (by simp) (by simp) (by simp)) (by simp) rfl
  have g1 := good_snoc g f1
  rw [← Gs_snoc] at g1
  rw [← feed_snoc, ← Gs_snoc] at s1
  obtain ⟨f2, s2⟩ := s1.over (by omega) (by omega) ⟨4, (t : Int), ((3 + 3 * t : Nat) : Int), 0, 0, 0, []⟩ (by simp) (rightB_ge (by simp) (by simp; omega) (by simp; omega) (by simp) (by simp) (by simp) (by simp)) (by simp) (by simp; omega)
  have g2 := good_snoc g1 f2
  rw [← Gs_snoc] at g2
  rw [← feed_snoc, ← Gs_snoc] at s2
  have f3 := s2.closing (by omega) ⟨20, (t : Int), 0, 0, 0, 0, []⟩ rfl (rightB_ge (by simp) (by simp; omega) (by simp) (by simp) (by simp) (by simp) (by simp)) (by simp) rfl
  have g3 := good_snoc g2 f3
  rw [← Gs_snoc] at g3
  exact g3
/-- events that differ in where their bytes lie alone -/
theorem good_same : ∀ (l : List Ev.Ev) (L : List Ev.Ev) (s : Hi), l.length = L.length → (∀ (i : Nat) (x y : Ev.Ev), l[i]? = some x → L[i]? = some y → y.k = x.k ∧ y.at_ = x.at_ ∧ y.ref = x.ref ∧ y.id = x.id ∧ y.list = x.list ∧ y.n = x.n ∧ y.dl = x.dl) → feed s l = feed s L ∧ ∀ (i : Nat) (x y : Ev.Ev), l[i]? = some x → L[i]? = some y → ∀ s, faultC s x = faultC s y := by
  have key : ∀ (x y : Ev.Ev) (s : Hi), (y.k = x.k ∧ y.at_ = x.at_ ∧ y.ref = x.ref ∧ y.id = x.id ∧ y.list = x.list ∧ y.n = x.n ∧ y.dl = x.dl) → faultC s x = faultC s y ∧ addO s x = addO s y := by
    rintro ⟨k, a, r, i, l, n, ao, dl, cp⟩ ⟨k', a', r', i', l', n', ao', dl', cp'⟩ s ⟨h1, h2, h3, h4, h5, h6, h7⟩
    dsimp only at h1 h2 h3 h4 h5 h6 h7
    subst h1 h2 h3 h4 h5 h6 h7
    have e1 : faultC s ⟨k', a', r', i', l', n', ao, dl', cp⟩ = faultC s ⟨k', a', r', i', l', n', ao', dl', cp'⟩ := rfl
    refine ⟨e1, ?_⟩
    unfold addO
    rw [e1]
    rfl
  intro l
  induction l with
  | nil =>
    intro L s hl h
    have : L = [] := List.eq_nil_of_length_eq_zero (by simpa using hl.symm)
    subst this
    exact ⟨rfl, fun i x y hx => by simp at hx⟩
  | cons a l ih =>
    intro L s hl h
    cases L with
    | nil => simp at hl
    | cons b L =>
      have hab := h 0 a b rfl rfl
      obtain ⟨k1, k2⟩ := key a b s hab
      obtain ⟨h1, h2⟩ := ih L (addO s a) (by simpa using hl) (fun i x y hx hy => h (i + 1) x y (by simpa using hx) (by simpa using hy))
      refine ⟨?_, fun i x y hx hy s => (key x y s (h i x y hx hy)).1⟩
      show feed (addO s a) l = feed (addO s b) L
      rw [h1, k2]
theorem good_shows {W : World} {v : Value} {l : List Rv} {L : List Ev.Ev} (h : Shows W v l L) (hl : L.length = l.length) (hg : Ev.Good (Gs l) (Gs l).length) : Ev.Good L L.length := fun j x hj hx => by
  have hj2 : j < l.length := by omega
  obtain ⟨e, he⟩ : ∃ e, l[j]? = some e := ⟨_, List.getElem?_eq_getElem hj2⟩
  have hge : (Gs l)[j]? = some (ge e) := by unfold Gs; rw [List.getElem?_map, he]; rfl
  have key : ∀ (i : Nat) (x y : Ev.Ev), (Gs l)[i]? = some x → L[i]? = some y → y.k = x.k ∧ y.at_ = x.at_ ∧ y.ref = x.ref ∧ y.id = x.id ∧ y.list = x.list ∧ y.n = x.n ∧ y.dl = x.dl := fun i x y hx hy => by
    unfold Gs at hx
    rw [List.getElem?_map, Option.map_eq_some_iff] at hx
    obtain ⟨e, he, rfl⟩ := hx
    obtain ⟨a, b, c, d, f, g, q, _⟩ := h i e y he hy
    exact ⟨a, b, c, d, f, g, q⟩
  have h1 := good_same ((Gs l).take j) (L.take j) hi0 (by simp [Gs]; omega) (fun i x y hx hy => by
    rw [List.getElem?_take] at hx hy
    split at hx
    · rename_i hij
      rw [if_pos hij] at hy
      exact key i x y hx hy
    · cases hx)
  have h2 := (good_same (Gs l) L hi0 (by simp [Gs]; omega) key).2 j _ x hge hx
  rw [← h1.1, ← h2]
  exact hg j _ (by simp [Gs]; omega) hge
end Go.Proofs.Ytnkelaohcbdjnaa
