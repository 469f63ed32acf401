/- Rows of integers: appends, the library's sort, are two the same. -/
import Derived.Test.YtbdjnfkhdphhoaaDoorT
import Derived.Test.YtbdjnfkhdphhoaaDoorT2
import Derived.Sort.OwnSortedInts
import Derived.Deep.Upon
set_option linter.unusedVariables false
set_option linter.unusedSimpArgs false
namespace Go.Proofs.YtbdjnfkhdphhoaaDoor
open Go.RowKit Go.Maps
def iv (xs : List Int) : List Value := xs.map (Value.int .i64)
/-- a row of integers of the call's own -/
def OwnI (W : World) (B : Nat) (v : Value) (xs : List Int) : Prop := W.ownsRow B 3 1 v xs.length (iv xs)
/-- integers that a slice shows -/
def RowI (W : World) (ao : Option Addr) (xs : List Int) : Prop :=
  xs = [] ∨ ∃ b o, ao = some ⟨b, o, none⟩ ∧ b < W.heap.size ∧ ∀ i x, xs[i]? = some x → W.cell? ⟨b, o + i, none⟩ = some (.int .i64 x)
theorem RowI.fr {S : Nat → Prop} {W W' : World} {ao : Option Addr} {xs : List Int} (h : RowI W ao xs) (hf : Fr S W W') (hS : ∀ a, ao = some a → ¬ S a.block) : RowI W' ao xs := by
  rcases h with h | ⟨b, o, rfl, h2, h3⟩
  · exact .inl h
  · exact .inr ⟨b, o, rfl, Nat.lt_of_lt_of_le h2 hf.size, fun i x hx => (World.cell?_of_block (hf.block b h2 (hS _ rfl))).trans (h3 i x hx)⟩
theorem RowI.take {W : World} {ao : Option Addr} {xs : List Int} (h : RowI W ao xs) (n : Nat) : RowI W ao (xs.take n) := by
  rcases h with h | ⟨b, o, rfl, h2, h3⟩
  · exact .inl (by rw [h]; simp)
  · refine .inr ⟨b, o, rfl, h2, fun i x hx => h3 i x ?_⟩
    rw [List.getElem?_take] at hx
    split at hx
    · exact hx
    · cases hx
theorem RowI.drop {W : World} {b o : Nat} {xs : List Int} (h : RowI W (some ⟨b, o, none⟩) xs) (n : Nat) : RowI W (some ⟨b, o + n, none⟩) (xs.drop n) := by
  rcases h with h | ⟨b', o', e, h2, h3⟩
  · exact .inl (by rw [h]; simp)
  · cases e
    refine .inr ⟨b, o + n, rfl, h2, fun i x hx => ?_⟩
    rw [List.getElem?_drop] at hx
    rw [show o + n + i = o + (n + i) by omega]
    exact h3 _ x hx
theorem OwnI.form {W : World} {B : Nat} {v : Value} {xs : List Int} (h : OwnI W B v xs) : (v = .slice none 0 0 ∧ xs = []) ∨ ∃ g cap, v = .slice (some ⟨g, 0, none⟩) xs.length cap ∧ B ≤ g ∧ g < W.heap.size ∧ xs.length ≤ cap ∧ cap ≤ maxLen ∧ ∀ i x, xs[i]? = some x → W.cell? ⟨g, i, none⟩ = some (.int .i64 x) := by
  obtain ⟨hl, ⟨h1, h2⟩ | ⟨g, cap, cur, h1, hb, hgb, hn, hcap, hcs, hct⟩⟩ := h
  · exact .inl ⟨h1, List.eq_nil_of_length_eq_zero h2⟩
  · refine .inr ⟨g, cap, h1, hb, (Array.getElem?_eq_some_iff.1 hgb).1, hn, hcap, fun i x hx => ?_⟩
    have hi := (List.getElem?_eq_some_iff.1 hx).1
    have : (cur.toList.take (xs.length * 1))[i]? = some (.int .i64 x) := by rw [hct]; unfold iv; rw [List.getElem?_map, hx]; rfl
    rw [Nat.mul_one, List.getElem?_take_of_lt hi, Array.getElem?_toList] at this
    simp only [World.cell?, hgb, Option.isSome_none, Bool.false_eq_true, if_false]
    exact this
theorem OwnI.row {W : World} {B : Nat} {v : Value} {xs : List Int} (h : OwnI W B v xs) : ∃ ao cap, v = .slice ao xs.length cap ∧ xs.length ≤ cap ∧ cap ≤ maxLen ∧ RowI W ao xs ∧ ∀ a, ao = some a → v.ownBlock = some a.block := by
  rcases h.form with ⟨rfl, rfl⟩ | ⟨g, cap, rfl, _, hlt, hn, hm, hc⟩
  · exact ⟨none, 0, rfl, Nat.le_refl _, by decide, .inl rfl, fun a e => by cases e⟩
  · exact ⟨_, cap, rfl, hn, hm, .inr ⟨g, 0, rfl, hlt, fun i x hx => by rw [Nat.zero_add]; exact hc i x hx⟩, fun a e => by cases e; rfl⟩
theorem OwnI.fr {S : Nat → Prop} {W W' : World} {B : Nat} {v : Value} {xs : List Int} (h : OwnI W B v xs) (hf : Fr S W W') (hS : ∀ k, v.ownBlock = some k → ¬ S k) : OwnI W' B v xs := by
  obtain ⟨hl, hown⟩ := h
  refine ⟨hl, ?_⟩
  rcases hown with h1 | ⟨g', cp', cur, h1, hb, hgb, r⟩
  · exact .inl h1
  · exact .inr ⟨g', cp', cur, h1, hb, (hf.block g' (Array.getElem?_eq_some_iff.1 hgb).1 (hS g' (by rw [h1]; rfl))).trans hgb, r⟩
theorem OwnI.ob {W : World} {B : Nat} {v : Value} {xs : List Int} (h : OwnI W B v xs) {k : Nat} (hk : v.ownBlock = some k) : B ≤ k ∧ k < W.heap.size ∧ ∃ cs, W.heap[k]? = some (.cells cs 3 (0, 0)) := by
  obtain ⟨hl, hown⟩ := h
  rcases hown with ⟨h1, _⟩ | ⟨g', cp', cur, h1, hb, hgb, r⟩
  · rw [h1] at hk; cases hk
  · rw [h1] at hk
    cases hk
    exact ⟨hb, (Array.getElem?_eq_some_iff.1 hgb).1, cur, hgb⟩
theorem OwnI.none (W : World) (B : Nat) : OwnI W B (.slice none 0 0) [] := ⟨rfl, .inl ⟨rfl, rfl⟩⟩
theorem OwnI.empty (W : World) (B : Nat) (hB : B ≤ W.heap.size) : OwnI (W.alloc (.cells #[] 3)) B (.slice (some ⟨W.heap.size, 0, Option.none⟩) 0 0) [] :=
  ⟨rfl, .inr ⟨_, 0, #[], rfl, hB, World.alloc_heap_new _ _, Nat.le_refl _, by decide, rfl, rfl⟩⟩
theorem infoI : (Tryd.prog.info? 3).map (fun i => (i.zero.map Value.cells, i.size, i.bytes)) = some (some #[.int .i64 0], 1, 8) := by kernel_rfl
theorem infoI' : ∃ (i : TypeInfo) (z : Value), Tryd.prog.info? 3 = some i ∧ i.zero = some z ∧ i.size = 1 ∧ i.bytes = 8 ∧ z.cells.size = 1 := by
  have h := infoI
  cases hi : Tryd.prog.info? 3 with
  | none => rw [hi] at h; cases h
  | some i =>
    rw [hi] at h
    simp only [Option.map_some, Option.some.injEq, Prod.mk.injEq] at h
    obtain ⟨h1, h2, h3⟩ := h
    cases hz : i.zero with
    | none => rw [hz] at h1; cases h1
    | some z =>
      rw [hz] at h1
      simp only [Option.map_some, Option.some.injEq] at h1
      exact ⟨i, z, rfl, hz, h2, h3, by rw [h1]; rfl⟩
/-- integers behind a row of one's own -/
theorem app_i (W : World) (B : Nat) (v : Value) (xs ys : List Int) (ty : TypeId) (hB : B ≤ W.heap.size) (hown : OwnI W B v xs) (ao : Option Addr) (cp m : Nat) (hr : RowI W ao ys) (hm : ys.length = m) (hn : xs.length + m ≤ 100000) :
    ∃ (v' : Value) (W' : World), (Builtin.append_ #[47, 47] ty #[v, .slice ao m cp]).run Tryd.prog W = .ok v' W' ∧ OwnI W' B v' (xs ++ ys) ∧ Fr (fun k => v.ownBlock = some k) W W' ∧ (v'.ownBlock = v.ownBlock ∨ v'.ownBlock = some W.heap.size) := by
  subst hm
  obtain ⟨i, z, hi, hz, hs, hby, hzs⟩ := infoI'
  cases ys with
  | nil =>
    refine ⟨v, W, ?_, by rw [List.append_nil]; exact hown, Fr.refl _ _, .inl rfl⟩
    have hsrc : Go.Src Tryd.prog i.size 47 (.slice ao 0 cp) 0 [] W := by
      cases ao with
      | none => exact Go.Src.ofNil _ Tryd.underlying47 cp
      | some a => exact Go.Src.ofSlice _ Tryd.underlying47 a 0 cp [] (by simp) (by simp) (by simp)
    rcases hown.form with ⟨rfl, rfl⟩ | ⟨g, cap, rfl, _, _, h4, _⟩
    · exact Go.run_append_nothing W 47 47 ty 3 i Tryd.underlying47 hi Option.none 0 0 (Nat.le_refl _) _ hsrc
    · exact Go.run_append_nothing W 47 47 ty 3 i Tryd.underlying47 hi _ _ cap h4 _ hsrc
  | cons y ys =>
    rcases hr with h | ⟨b, o, rfl, hbl, hc⟩
    · cases h
    obtain ⟨g, cap, W', h1, h2, h3, h4, h5⟩ := Go.run_append_lies (P := Tryd.prog) W 47 ty B 3 i z 1 8 Tryd.underlying47 hi hz hs hby hzs (by omega) v xs.length (iv xs) hown ⟨b, o, Option.none⟩ (y :: ys).length cp (iv (y :: ys)) (by simp [iv]) (fun j u hj => by
      unfold iv at hj
      rw [List.getElem?_map] at hj
      cases hx : (y :: ys)[j]? with
      | none => rw [hx] at hj; cases hj
      | some x => rw [hx] at hj; cases hj; rw [off_add]; exact hc j x hx) (by unfold iv; intro u hu; obtain ⟨x, _, rfl⟩ := List.mem_map.1 hu; rfl) (by simp) (by unfold maxLen; omega) (by omega) hB _ rfl
    refine ⟨_, W', h1, ?_, Fr.grown h3 (fun k e => e), ?_⟩
    · have e1 : iv xs ++ iv (y :: ys) = iv (xs ++ (y :: ys)) := by simp [iv]
      have e2 : xs.length + (y :: ys).length = (xs ++ (y :: ys)).length := by simp
      rw [e1, e2] at h2
      unfold OwnI
      rw [e2]
      exact h2
    · rcases h4 with h4 | h4
      · exact .inl h4.symm
      · exact .inr (by rw [h4]; rfl)
/-- the library's sort of a row of one's own -/
theorem sort_any (W : World) (B : Nat) (v : Value) (xs : List Int) (h : OwnI W B v xs) (hn : xs.length ≤ 100000) :
    Calls Tryd.prog 45 #[v] W fun r W' => r = .returned (.tuple #[]) ∧ OwnI W' B v (xs.mergeSort fun x y => decide (x ≤ y)) ∧ Fr (fun k => v.ownBlock = some k) W W' := by
  have hfm := h.form
  obtain ⟨hl, ⟨h1, h2⟩ | ⟨g, cap, cur, h1, hb, hgb, hn2, hcap, hcs, hct⟩⟩ := h
  · obtain rfl := List.eq_nil_of_length_eq_zero h2
    subst h1
    have hcon := Any.slices_Sort_int_none Tryd.sort45 Option.none 0 W
    change Calls Tryd.prog 45 _ _ _ at hcon
    refine hcon.mono ?_
    rintro r W' ⟨rfl, rfl⟩
    exact ⟨rfl, by rw [List.mergeSort_nil]; exact OwnI.none _ _, Fr.refl _ _⟩
  · subst h1
    rw [Nat.mul_one] at hct
    have hcon := Any.slices_Sort_int Tryd.sort45 g 0 cap xs W (Go.holds_of_blockI hgb hct) (Array.getElem?_eq_some_iff.1 hgb).1 (by omega)
    change Calls Tryd.prog 45 _ _ _ at hcon
    refine hcon.mono ?_
    rintro r W' ⟨rfl, n, os, rfl⟩
    refine ⟨rfl, ?_, Fr.grown (Go.grownBy_sortedI _) (fun k e => e)⟩
    have := Go.ownsRow_sortedI (w := W) (n := n) (os := os) (ss := xs) (ts := xs.mergeSort fun x y => decide (x ≤ y)) (by simp) hb hgb hn2 hcap hcs
    unfold OwnI
    rw [show (xs.mergeSort fun x y => decide (x ≤ y)).length = xs.length by simp]
    exact this
end Go.Proofs.YtbdjnfkhdphhoaaDoor
