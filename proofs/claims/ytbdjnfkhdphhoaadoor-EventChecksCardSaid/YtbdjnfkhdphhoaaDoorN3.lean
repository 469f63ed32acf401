/- What is open of a history: the state of Open's loops. -/
import Derived.Test.YtbdjnfkhdphhoaaDoorN1
import Derived.Test.YtbdjnfkhdphhoaaDoorF
set_option linter.unusedVariables false
set_option linter.unusedSimpArgs false
namespace Go.Proofs.YtbdjnfkhdphhoaaDoor
open Go.RowKit Go.Maps
theorem ranges_fr {S : Nat → Prop} {w w' : World} {P : Program} {k : TypeId} {R : Value → Option (DataW Value × List MemPlace)} {b r n : Nat} {D : DataW Value} {left : Lit → Bool} {cnt : Nat} (h : w.ranges P k R b r n D left cnt) (hf : Fr S w w') (hb : ¬ S b) (hr : ¬ S r) : w'.ranges P k R b r n D left cnt := by
  obtain ⟨es, clock, since, seen, c0, h1, h2, h3, h4, h5, h6⟩ := h
  exact ⟨es, clock, since, seen, c0, (hf.block b (Array.getElem?_eq_some_iff.1 h1).1 hb).trans h1, h2, h3, h4, (hf.block r (Array.getElem?_eq_some_iff.1 h5).1 hr).trans h5, h6⟩
theorem ranges_le {w : World} {P : Program} {k : TypeId} {R : Value → Option (DataW Value × List MemPlace)} {b r n : Nat} {D : DataW Value} {left : Lit → Bool} {cnt : Nat} (h : w.ranges P k R b r n D left cnt) : cnt ≤ n := by
  obtain ⟨es, clock, since, seen, c0, h1, h2, h3, h4, h5, h6, h7, h8⟩ := h
  rw [← h7]
  refine Nat.le_trans ?_ h3
  unfold leftOf
  exact Array.size_filter_le
def cls (v : Int) : Nat := if v = 12 then 1 else if v = 17 then 2 else 0
theorem cls_lt (v : Int) : cls v < 3 := by unfold cls; split <;> (try split) <;> omega
/-- what has been told so far of one class: by place, each once -/
def Got (s : Hi) (left : Lit → Bool) (c : Nat) (xs : List Int) : Prop :=
  ∃ ps : List Int, ps.Nodup ∧ (∀ p, p ∈ ps ↔ (∃ v, s.kinds p = some v ∧ cls v = c) ∧ left (.int .i64 p) = false) ∧ xs = ps.map fun p => (s.ids p).getD 0
structure OpenSt (W : World) (B : Nat) (left : Lit → Bool) (s : Hi) (V : Nat → Value) (X : Nat → List Int) : Prop where
  b : ∀ c, c < 3 → Blk W (B + c) 47 #[V c]
  o : ∀ c, c < 3 → OwnI W (B + 3) (V c) (X c)
  g : ∀ c, c < 3 → Got s left c (X c)
  d : ∀ c d k, c < 3 → d < 3 → c ≠ d → (V c).ownBlock = some k → (V d).ownBlock ≠ some k
theorem OpenSt.fr {S : Nat → Prop} {W W' : World} {B : Nat} {left : Lit → Bool} {s : Hi} {V : Nat → Value} {X : Nat → List Int} (h : OpenSt W B left s V X) (hf : Fr S W W') (h1 : ∀ c, c < 3 → ¬ S (B + c)) (h2 : ∀ c k, c < 3 → (V c).ownBlock = some k → ¬ S k) : OpenSt W' B left s V X :=
  ⟨fun c hc => (h.b c hc).fr hf (h1 c hc), fun c hc => (h.o c hc).fr hf (fun k hk => h2 c k hc hk), h.g, h.d⟩
def upc {α : Type} (V : Nat → α) (c : Nat) (v : α) : Nat → α := fun d => if d = c then v else V d
/-- one place more -/
theorem OpenSt.step {W W2 W3 : World} {B : Nat} {left left' : Lit → Bool} {s : Hi} {V : Nat → Value} {X : Nat → List Int} (h : OpenSt W B left s V X) (c : Nat) (hc : c < 3) (x t : Int) (hx : s.kinds x = some t) (ht : cls t = c)
    (hlx : left (.int .i64 x) = true) (hl' : ∀ y : Int, left' (.int .i64 y) = (left (.int .i64 y) && !(y == x))) (v' : Value) (hown : OwnI W2 (B + 3) v' (X c ++ [(s.ids x).getD 0])) (hf : Fr (fun k => (V c).ownBlock = some k) W W2)
    (hob : v'.ownBlock = (V c).ownBlock ∨ ∃ g, v'.ownBlock = some g ∧ W.heap.size ≤ g) (h3 : W3 = W2.setCell ⟨B + c, 0, none⟩ v') : OpenSt W3 B left' s (upc V c v') (upc X c (X c ++ [(s.ids x).getD 0])) := by
  have hb2 : ∀ d, d < 3 → Blk W2 (B + d) 47 #[V d] := fun d hd => (h.b d hd).fr hf (fun e => by
    obtain ⟨_, _, cs, h3⟩ := (h.o c hc).ob e
    have := (h.b d hd).symm.trans h3
    cases this)
  have hf3 : Fr (fun k => k = B + c) W2 W3 := by rw [h3]; exact Fr.setCell _ _ _ rfl
  have hne : ∀ d k, d < 3 → (upc V c v' d).ownBlock = some k → k ≠ B + c := fun d k hd hk e => by
    by_cases hdc : d = c
    · rw [upc, if_pos hdc] at hk
      obtain ⟨h4, _⟩ := hown.ob hk
      omega
    · rw [upc, if_neg hdc] at hk
      obtain ⟨h4, _⟩ := (h.o d hd).ob hk
      omega
  refine ⟨fun d hd => ?_, fun d hd => ?_, fun d hd => ?_, fun d e k hd he hde hk => ?_⟩
  · by_cases hdc : d = c
    · subst hdc
      rw [upc, if_pos rfl, h3]
      exact (hb2 d hd).set 0 v'
    · rw [upc, if_neg hdc]
      exact (hb2 d hd).fr hf3 (fun e => by omega)
  · by_cases hdc : d = c
    · subst hdc
      have := hown.fr hf3 (fun k hk => hne d k hd (by rw [upc, if_pos rfl]; exact hk))
      rw [upc, if_pos rfl, upc, if_pos rfl]
      exact this
    · have h4 := (h.o d hd).fr hf (fun k hk e => h.d d c k hd hc hdc hk e)
      have h5 := h4.fr hf3 (fun k hk => hne d k hd (by rw [upc, if_neg hdc]; exact hk))
      rw [upc, if_neg hdc, upc, if_neg hdc]
      exact h5
  · obtain ⟨ps, h4, h5, h6⟩ := h.g d hd
    by_cases hdc : d = c
    · subst hdc
      rw [upc, if_pos rfl]
      refine ⟨ps ++ [x], ?_, fun p => ?_, by rw [List.map_append, ← h6]; rfl⟩
      · rw [List.nodup_append]
        refine ⟨h4, by simp, fun a ha b hb => ?_⟩
        simp only [List.mem_singleton] at hb
        subst hb
        rintro rfl
        have := ((h5 a).1 ha).2
        rw [hlx] at this
        cases this
      · rw [List.mem_append, List.mem_singleton, h5 p, hl' p]
        constructor
        · rintro (⟨h7, h8⟩ | rfl)
          · exact ⟨h7, by rw [h8]; rfl⟩
          · exact ⟨⟨t, hx, ht⟩, by simp⟩
        · rintro ⟨h7, h8⟩
          by_cases hpx : p = x
          · exact .inr hpx
          · have : (p == x) = false := by simp [hpx]
            rw [this] at h8
            exact .inl ⟨h7, by simpa using h8⟩
    · rw [upc, if_neg hdc]
      refine ⟨ps, h4, fun p => ?_, h6⟩
      rw [h5 p, hl' p]
      constructor
      · rintro ⟨h7, h8⟩
        exact ⟨h7, by rw [h8]; rfl⟩
      · rintro ⟨⟨v, h7, h9⟩, h8⟩
        by_cases hpx : p = x
        · subst hpx
          rw [hx] at h7
          cases h7
          exact absurd (ht.symm.trans h9).symm hdc
        · have : (p == x) = false := by simp [hpx]
          rw [this] at h8
          exact ⟨⟨v, h7, h9⟩, by simpa using h8⟩
  · have hdl : ∀ j k, j < 3 → (V j).ownBlock = some k → k < W.heap.size := fun j k hj hk => ((h.o j hj).ob hk).2.1
    by_cases hdc : d = c
    · subst hdc
      have hed : e ≠ d := fun h => hde h.symm
      rw [upc, if_pos rfl] at hk
      rw [upc, if_neg hed]
      intro he2
      rcases hob with hob | ⟨g, hob, hg⟩
      · exact h.d d e k hd he hde (by rw [← hob]; exact hk) he2
      · rw [hob] at hk
        cases hk
        have := hdl e _ he he2
        omega
    · rw [upc, if_neg hdc] at hk
      by_cases hec : e = c
      · subst hec
        rw [upc, if_pos rfl]
        intro he2
        rcases hob with hob | ⟨g, hob, hg⟩
        · exact h.d d e k hd he hde hk (by rw [← hob]; exact he2)
        · rw [hob] at he2
          cases he2
          have := hdl d _ hd hk
          omega
      · rw [upc, if_neg hec]
        exact h.d d e k hd he hde hk
end Go.Proofs.YtbdjnfkhdphhoaaDoor
