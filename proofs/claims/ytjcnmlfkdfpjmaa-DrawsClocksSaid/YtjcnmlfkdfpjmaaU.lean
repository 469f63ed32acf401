/- The two clocks agree: plain. -/
import Derived.Test.YtjcnmlfkdfpjmaaS
set_option linter.unusedVariables false
set_option linter.unusedSimpArgs false
namespace Go.Proofs.Ytjcnmlfkdfpjmaa
open Go.RowKit Go.Maps Go.Sort
variable {F : Int → Option Int} {L L1 : List (Int × Int)} {T x at_ : Int}
/-- the reference's row shows F, by tick and number -/
structure Rel (F : Int → Option Int) (L : List (Int × Int)) : Prop where
  sorted : L.Pairwise lessP
  mem : ∀ x t, (x, t) ∈ L ↔ iKE.ok x ∧ F x = some t
theorem Rel.congr {F' : Int → Option Int} (h : Rel F L) (e : ∀ x, F x = F' x) : Rel F' L := by
  obtain rfl : F = F' := funext e
  exact h
theorem Rel.nil : Rel (fun _ => none) [] := ⟨List.Pairwise.nil, fun x t => by simp⟩
theorem lessP_irr (p : Int × Int) : ¬ lessP p p := by unfold lessP; omega
theorem lessP_trans {p q r : Int × Int} (h1 : lessP p q) (h2 : lessP q r) : lessP p r := by unfold lessP at *; omega
theorem lessP_tri {p q : Int × Int} (h1 : ¬ lessP p q) (h2 : p ≠ q) : lessP q p := by
  unfold lessP at *
  obtain ⟨a, b⟩ := p
  obtain ⟨c, d⟩ := q
  simp at h1 h2 ⊢
  by_cases e : b = d
  · subst e
    have : a ≠ c := fun e => h2 e rfl
    omega
  · omega
theorem split_at {i : Nat} {p : Int × Int} (h : L[i]? = some p) : L = L.take i ++ p :: L.drop (i + 1) := by
  obtain ⟨hi, hp⟩ := List.getElem?_eq_some_iff.1 h
  conv => lhs; rw [← List.take_append_drop i L, List.drop_eq_getElem_cons hi, hp]
/-- Drop -/
theorem Rel.drop (h : Rel F L) (hx : iKE.ok x) (hd : DropRel L x L1) : Rel (put1 F x none) L1 := by
  rcases hd with ⟨hno, rfl⟩ | ⟨i, p, hp, rfl, rfl⟩
  · refine ⟨h.sorted, fun y t => ?_⟩
    rw [h.mem]
    unfold put1
    by_cases e : y = x
    · subst e
      simp
      intro _ h2
      exact hno (y, t) ((h.mem y t).2 ⟨hx, h2⟩) rfl
    · simp [e]
  · have hs := split_at hp
    have hso := h.sorted
    rw [hs] at hso
    have h1 := List.pairwise_append.1 hso
    have h2 := List.pairwise_cons.1 h1.2.1
    refine ⟨List.pairwise_append.2 ⟨h1.1, h2.2, fun a ha b hb => h1.2.2 a ha b (List.mem_cons_of_mem _ hb)⟩, fun y t => ?_⟩
    have hm := h.mem y t
    conv at hm => lhs; rw [hs, List.mem_append, List.mem_cons]
    rw [List.mem_append]
    unfold put1
    by_cases e : y = p.1
    · subst e
      simp
      have hpm : p ∈ L := List.mem_of_getElem? hp
      have hpF := (h.mem p.1 p.2).1 hpm
      refine ⟨fun hh => ?_, fun hh => ?_⟩
      · have := hm.1 (.inl hh)
        have ht : t = p.2 := by have := this.2.symm.trans hpF.2; simpa using this
        subst ht
        exact lessP_irr p (h1.2.2 p hh p (List.mem_cons_self ..))
      · have := hm.1 (.inr (.inr hh))
        have ht : t = p.2 := by have := this.2.symm.trans hpF.2; simpa using this
        subst ht
        exact lessP_irr p (h2.1 p hh)
    · rw [if_neg e, ← hm]
      have : (y, t) ≠ p := fun e' => e (by rw [← e'])
      simp [this]
theorem Rel.dropB (h : Rel F L) (hx : iKE.ok x) : ((∀ p ∈ L, p.1 ≠ x) → (F x).isSome = false) ∧ (∀ (i : Nat) (p : Int × Int), L[i]? = some p → p.1 = x → (F x).isSome = true) := by
  refine ⟨fun hno => ?_, fun i p hp e => ?_⟩
  · cases hF : F x with
    | none => rfl
    | some t => exact absurd rfl (hno (x, t) ((h.mem x t).2 ⟨hx, hF⟩))
  · subst e
    have := (h.mem p.1 p.2).1 (List.mem_of_getElem? hp)
    rw [this.2]; rfl
/-- Set -/
theorem Rel.set (h : Rel (put1 F x none) L1) (hx : iKE.ok x) {i : Nat} (hi : i ≤ L1.length) (hlo : ∀ (j : Nat) (p : Int × Int), j < i → L1[j]? = some p → lessP p (x, at_)) (hhi : ∀ p : Int × Int, L1[i]? = some p → ¬ lessP p (x, at_)) :
    Rel (put1 F x (some at_)) (L1.take i ++ (x, at_) :: L1.drop i) := by
  have hnx : ∀ p ∈ L1, p.1 ≠ x := fun p hp e => by
    have := (h.mem p.1 p.2).1 hp
    rw [e] at this
    simp [put1] at this
  have hso := h.sorted
  rw [← List.take_append_drop i L1] at hso
  have h1 := List.pairwise_append.1 hso
  have hup : ∀ p ∈ L1.drop i, lessP (x, at_) p := by
    have h2 := h1.2.1
    cases hd : L1.drop i with
    | nil => intro p hp; cases hp
    | cons q r =>
      have hq : L1[i]? = some q := by
        have : (L1.drop i)[0]? = some q := by rw [hd]; rfl
        rw [List.getElem?_drop] at this; exact this
      have hqx : lessP (x, at_) q := lessP_tri (hhi q hq) (fun e => hnx q (List.mem_of_getElem? hq) (by rw [e]))
      rw [hd] at h2
      intro p hp
      rcases List.mem_cons.1 hp with rfl | hp
      · exact hqx
      · exact lessP_trans hqx ((List.pairwise_cons.1 h2).1 p hp)
  have hlow : ∀ p ∈ L1.take i, lessP p (x, at_) := fun p hp => by
    obtain ⟨j, hj⟩ := List.getElem?_of_mem hp
    have hji : j < i := by have := (List.getElem?_eq_some_iff.1 hj).1; rw [List.length_take] at this; omega
    rw [List.getElem?_take_of_lt hji] at hj
    exact hlo j p hji hj
  refine ⟨List.pairwise_append.2 ⟨h1.1, List.pairwise_cons.2 ⟨hup, h1.2.1⟩, fun a ha b hb => ?_⟩, fun y t => ?_⟩
  · rcases List.mem_cons.1 hb with rfl | hb
    · exact hlow a ha
    · exact h1.2.2 a ha b hb
  · have hm := h.mem y t
    rw [← List.take_append_drop i L1, List.mem_append] at hm
    rw [List.mem_append, List.mem_cons]
    unfold put1 at hm ⊢
    by_cases e : y = x
    · subst e
      simp at hm ⊢
      simp [hm]
      exact ⟨fun h => ⟨hx, h.symm⟩, fun h => h.2.symm⟩
    · rw [if_neg e] at hm ⊢
      have : (y, t) ≠ (x, at_) := fun e' => e (congrArg Prod.fst e')
      simp [this]
      exact hm
/-- two rows in strict order with the same members -/
theorem sorted_same {α : Type} {r : α → α → Prop} (irr : ∀ a, ¬ r a a) (tr : ∀ a b c, r a b → r b c → r a c) : ∀ {l m : List α}, l.Pairwise r → m.Pairwise r → (∀ a, a ∈ l ↔ a ∈ m) → l = m
  | [], [], _, _, _ => rfl
  | [], b :: m, _, _, h => by have := (h b).2 (by simp); cases this
  | a :: l, [], _, _, h => by have := (h a).1 (by simp); cases this
  | a :: l, b :: m, hl, hm, h => by
    have h1 := List.pairwise_cons.1 hl
    have h2 := List.pairwise_cons.1 hm
    obtain rfl : a = b := by
      rcases List.mem_cons.1 ((h a).1 (by simp)) with e | e
      · exact e
      rcases List.mem_cons.1 ((h b).2 (by simp)) with e' | e'
      · exact e'.symm
      · exact absurd (tr _ _ _ (h2.1 a e) (h1.1 b e')) (irr b)
    congr 1
    refine sorted_same irr tr h1.2 h2.2 fun c => ?_
    have hc := h c
    rw [List.mem_cons, List.mem_cons] at hc
    refine ⟨fun hh => ?_, fun hh => ?_⟩
    · rcases hc.1 (.inr hh) with e | e
      · subst e; exact absurd (h1.1 c hh) (irr c)
      · exact e
    · rcases hc.2 (.inr hh) with e | e
      · subst e; exact absurd (h2.1 c hh) (irr c)
      · exact e
theorem ltA_irr (a : Int) : ¬ ltA F a a := by unfold ltA; omega
theorem ltA_trans (a b c : Int) (h1 : ltA F a b) (h2 : ltA F b c) : ltA F a c := by unfold ltA at *; omega
/-- Due -/
theorem Rel.due (h : Rel F L) {l : List Int} (hl : DueL F T l) {k : Nat} (hk : k ≤ L.length) (h1 : ∀ (j : Nat) (a b : Int), j < k → L[j]? = some (a, b) → b ≤ T) (h2 : ∀ a b : Int, L[k]? = some (a, b) → T < b) :
    idsOf L k = l ∧ Rel (less F l) (L.drop k) := by
  have hso := h.sorted
  have hso2 := hso
  rw [← List.take_append_drop k L] at hso2
  have hp := List.pairwise_append.1 hso2
  have hlow : ∀ p ∈ L.take k, p.2 ≤ T := fun p hp => by
    obtain ⟨j, hj⟩ := List.getElem?_of_mem hp
    have hji : j < k := by have := (List.getElem?_eq_some_iff.1 hj).1; rw [List.length_take] at this; omega
    rw [List.getElem?_take_of_lt hji] at hj
    exact h1 j p.1 p.2 hji hj
  have hup : ∀ p ∈ L.drop k, T < p.2 := by
    have h3 := hp.2.1
    cases hd : L.drop k with
    | nil => intro p hp; cases hp
    | cons q r =>
      have hq : L[k]? = some q := by
        have : (L.drop k)[0]? = some q := by rw [hd]; rfl
        rw [List.getElem?_drop] at this; exact this
      have hqT := h2 q.1 q.2 hq
      rw [hd] at h3
      intro p hp
      rcases List.mem_cons.1 hp with rfl | hp
      · exact hqT
      · have := (List.pairwise_cons.1 h3).1 p hp
        unfold lessP at this
        omega
  have hmem : ∀ x, x ∈ idsOf L k ↔ x ∈ l := fun x => by
    rw [hl.2 x]
    unfold idsOf
    rw [List.mem_map]
    constructor
    · rintro ⟨p, hp, rfl⟩
      have := (h.mem p.1 p.2).1 (List.mem_of_mem_take hp)
      exact ⟨this.1, p.2, this.2, hlow p hp⟩
    · rintro ⟨hx, t, ht, htT⟩
      have := (h.mem x t).2 ⟨hx, ht⟩
      rw [← List.take_append_drop k L, List.mem_append] at this
      rcases this with h | h
      · exact ⟨_, h, rfl⟩
      · have := hup _ h; simp at this; omega
  have hids : (idsOf L k).Pairwise (ltA F) := by
    unfold idsOf
    rw [List.pairwise_map]
    refine hp.1.imp_of_mem fun {a b} ha hb hab => ?_
    have fa := (h.mem a.1 a.2).1 (List.mem_of_mem_take ha)
    have fb := (h.mem b.1 b.2).1 (List.mem_of_mem_take hb)
    unfold ltA atF
    rw [fa.2, fb.2]
    exact hab
  have he : idsOf L k = l := sorted_same (ltA_irr (F := F)) ltA_trans hids hl.1 hmem
  refine ⟨he, hp.2.1, fun x t => ?_⟩
  unfold less
  by_cases e : x ∈ l
  · rw [if_pos e]
    simp
    intro hh
    obtain ⟨_, t', ht', htT⟩ := (hl.2 x).1 e
    have := (h.mem x t).1 (List.mem_of_mem_drop hh)
    have e2 : t = t' := by have := this.2.symm.trans ht'; simpa using this
    have := hup _ hh
    simp at this
    omega
  · rw [if_neg e, ← h.mem]
    refine ⟨List.mem_of_mem_drop, fun hh => ?_⟩
    rw [← List.take_append_drop k L, List.mem_append] at hh
    rcases hh with hh | hh
    · exact absurd ((hmem x).1 (List.mem_map.2 ⟨_, hh, rfl⟩)) e
    · exact hh
/-- Next -/
theorem Rel.next (h : Rel F L) {v : Int} {q : Bool} (hn : NextOf F v q) : v = (L[0]?.map (·.2)).getD 0 ∧ q = (L[0]?).isSome := by
  cases L with
  | nil =>
    rcases hn with ⟨rfl, rfl, _⟩ | ⟨_, ⟨x, hx, hF⟩, _⟩
    · exact ⟨rfl, rfl⟩
    · have := (h.mem x v).2 ⟨hx, hF⟩; cases this
  | cons p L =>
    have hp := (h.mem p.1 p.2).1 (by simp)
    rcases hn with ⟨_, _, h0⟩ | ⟨rfl, ⟨x, hx, hF⟩, hle⟩
    · rw [h0 _ hp.1] at hp; cases hp.2
    · refine ⟨?_, rfl⟩
      have h1 := hle p.1 p.2 hp.1 hp.2
      have h2 := (h.mem x v).2 ⟨hx, hF⟩
      show v = p.2
      rcases List.mem_cons.1 h2 with e | e
      · rw [← e]
      · have := (List.pairwise_cons.1 h.sorted).1 _ e
        unfold lessP at this
        simp at this
        omega
end Go.Proofs.Ytjcnmlfkdfpjmaa
