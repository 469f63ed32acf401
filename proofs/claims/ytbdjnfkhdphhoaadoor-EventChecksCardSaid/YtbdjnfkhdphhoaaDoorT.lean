/- Rows that are laid behind one another; histories that are closed. -/
import Derived.Test.YtbdjnfkhdphhoaaDoorS
import Derived.Test.YtbdjnfkhdphhoaaDoorJ
import Derived.Deep.AppendLies
set_option linter.unusedVariables false
set_option linter.unusedSimpArgs false
namespace Go.Proofs.YtbdjnfkhdphhoaaDoor
open Go.RowKit Go.Maps
theorem infoE : (Tryd.prog.info? 24).map (fun i => (i.zero.map Value.cells, i.size, i.bytes)) = some (some #[.int .i64 0, .int .i64 0, .int .i64 0, .int .i64 0, .int .i64 0, .int .i64 0, .slice none 0 0], 7, 72) := by kernel_rfl
theorem infoE' : ∃ (i : TypeInfo) (z : Value), Tryd.prog.info? 24 = some i ∧ i.zero = some z ∧ i.size = 7 ∧ i.bytes = 72 ∧ z.cells.size = 7 := by
  obtain ⟨i, hi, he⟩ := Option.map_eq_some_iff.1 infoE
  simp only [Prod.mk.injEq] at he
  obtain ⟨h1, h2, h3⟩ := he
  obtain ⟨z, hz, hc⟩ := Option.map_eq_some_iff.1 h1
  exact ⟨i, z, hi, hz, h2, h3, by rw [hc]; rfl⟩
def flatE (l : List Ev) : List Value := l.flatMap (fun e => (evc e).toList)
theorem flatE_len : ∀ l : List Ev, (flatE l).length = l.length * 7
  | [] => rfl
  | e :: l => by
    show ((evc e).toList ++ flatE l).length = _
    rw [List.length_append, flatE_len l, List.length_cons]
    simp [evc]
    omega
theorem flatE_at : ∀ (l : List Ev) (i : Nat) (e : Ev) (j : Nat) (v : Value), l[i]? = some e → (evc e)[j]? = some v → (flatE l)[i * 7 + j]? = some v
  | [], i, e, j, v, h, _ => by simp at h
  | a :: l, 0, e, j, v, h, hj => by
    simp at h
    subst h
    show ((evc a).toList ++ flatE l)[0 * 7 + j]? = _
    have hj7 : j < (evc a).toList.length := by simpa using (Array.getElem?_eq_some_iff.1 hj).1
    rw [Nat.zero_mul, Nat.zero_add, List.getElem?_append_left hj7]
    simpa using hj
  | a :: l, i + 1, e, j, v, h, hj => by
    simp at h
    show ((evc a).toList ++ flatE l)[(i + 1) * 7 + j]? = _
    have h7 : (evc a).toList.length = 7 := by simp [evc]
    rw [List.getElem?_append_right (by rw [h7]; omega), h7, show (i + 1) * 7 + j - 7 = i * 7 + j by omega]
    exact flatE_at l i e j v h hj
theorem flatE_of : ∀ (l : List Ev) (j : Nat) (v : Value), (flatE l)[j]? = some v → ∃ i e k, l[i]? = some e ∧ (evc e)[k]? = some v ∧ j = i * 7 + k
  | [], j, v, h => by simp [flatE] at h
  | a :: l, j, v, h => by
    have h' : ((evc a).toList ++ flatE l)[j]? = some v := h
    have h7 : (evc a).toList.length = 7 := by simp [evc]
    by_cases hj : j < 7
    · rw [List.getElem?_append_left (by rw [h7]; exact hj)] at h'
      exact ⟨0, a, j, rfl, by simpa using h', by omega⟩
    · rw [List.getElem?_append_right (by rw [h7]; omega), h7] at h'
      obtain ⟨i, e, k, h1, h2, h3⟩ := flatE_of l (j - 7) v h'
      exact ⟨i + 1, e, k, by simpa using h1, h2, by omega⟩
theorem evc_one (e : Ev) : ∀ u ∈ (evc e).toList, u.oneCell' = true := by
  intro u hu
  simp [evc] at hu
  rcases hu with rfl | rfl | rfl | rfl | rfl | rfl | rfl <;> rfl
theorem flatE_one (l : List Ev) : ∀ u ∈ flatE l, u.oneCell' = true := by
  intro u hu
  obtain ⟨e, _, he⟩ := List.mem_flatMap.1 hu
  exact evc_one e u he
/-- a row of one's own, as rows that are shown -/
theorem rowV_own {W : World} {B g n cap : Nat} {l : List Ev} (h : W.ownsRow B 24 7 (.slice (some ⟨g, 0, none⟩) n cap) n (flatE l)) : RowV W (some ⟨g, 0, none⟩) l ∧ l.length = n ∧ n ≤ cap ∧ cap ≤ maxLen := by
  obtain ⟨hlen, hown⟩ := h
  have hn : l.length = n := by rw [flatE_len] at hlen; omega
  rcases hown with ⟨h1, _⟩ | ⟨g', cp', cur, h1, hb, hgb, hnc, hcm, hsz', ht⟩
  · cases h1
  · injection h1 with h1 h2 h3
    cases h1
    subst h3
    refine ⟨?_, hn, hnc, hcm⟩
    refine .inr ⟨g, 0, rfl, (Array.getElem?_eq_some_iff.1 hgb).1, fun i e he j v hj => ?_⟩
    have hf := flatE_at l i e j v he hj
    rw [Nat.zero_add, World.cell?]
    simp only [hgb]
    rw [← ht] at hf
    have hlt : i * 7 + j < n * 7 := by
      have h1 := (List.getElem?_eq_some_iff.1 he).1
      have h2 : j < 7 := by simpa [evc] using (Array.getElem?_eq_some_iff.1 hj).1
      rw [hn] at h1
      omega
    rw [List.getElem?_take_of_lt hlt] at hf
    simpa using hf
/-- one row of events behind another of one's own -/
theorem app_any (W : World) (base : Nat) (v : Value) (n : Nat) (xs l : List Ev) (ty : TypeId) (hbase : base ≤ W.heap.size) (hown : W.ownsRow base 24 7 v n (flatE xs)) (b o cp : Nat) (hr : RowV W (some ⟨b, o, none⟩) l) (h0 : 0 < l.length) (hn : n + l.length ≤ 10000) :
    ∃ (g cap : Nat) (W' : World), (Builtin.append_ #[30, 30] ty #[v, .slice (some ⟨b, o, none⟩) l.length cp]).run Tryd.prog W = .ok (.slice (some ⟨g, 0, none⟩) (n + l.length) cap) W' ∧ W'.ownsRow base 24 7 (.slice (some ⟨g, 0, none⟩) (n + l.length) cap) (n + l.length) (flatE (xs ++ l)) ∧ Fr (fun k => base ≤ k) W W' := by
  obtain ⟨i, z, hi, hz, hs, hby, hzs⟩ := infoE'
  have hnews : ∀ j u, (flatE l)[j]? = some u → W.cell? ((⟨b, o, none⟩ : Addr).add j) = some u := fun j u hj => by
    obtain ⟨i', e, k, h1, h2, rfl⟩ := flatE_of l j u hj
    rcases hr with h | ⟨b', o', h3, h4, h5⟩
    · rw [h] at h0; simp at h0
    · cases h3
      rw [off_add, ← Nat.add_assoc]
      exact h5 i' e h1 k u h2
  obtain ⟨g, cap, W', h1, h2, h3, h4, h5⟩ := Go.run_append_lies (P := Tryd.prog) W 30 ty base 24 i z 7 72 Tryd.underlying30 hi hz hs hby hzs (by omega) v n (flatE xs) hown ⟨b, o, none⟩ l.length cp (flatE l) (flatE_len l) hnews (flatE_one l) h0 (by unfold maxLen; omega) (by omega) hbase _ rfl
  refine ⟨g, cap, W', h1, ?_, Fr.grown h3 (fun k e => ?_)⟩
  · have : flatE xs ++ flatE l = flatE (xs ++ l) := by simp [flatE]
    rw [← this]; exact h2
  · obtain ⟨_, hown2⟩ := hown
    rcases hown2 with ⟨h1, _⟩ | ⟨g', cp', cur, h1, hb, _⟩
    · rw [h1] at e; cases e
    · rw [h1] at e
      have : g' = k := by simpa [Value.ownBlock] using e
      omega
theorem own_empty (W : World) (B : Nat) (hB : B ≤ W.heap.size) : (W.alloc (.cells #[] 24)).ownsRow B 24 7 (.slice (some ⟨W.heap.size, 0, none⟩) 0 0) 0 (flatE []) :=
  ⟨rfl, .inr ⟨_, 0, #[], rfl, hB, World.alloc_heap_new _ _, Nat.le_refl _, by decide, rfl, rfl⟩⟩
theorem own_fr {S : Nat → Prop} {W W' : World} {B g n cap : Nat} {xs : List Value} (h : W.ownsRow B 24 7 (.slice (some ⟨g, 0, none⟩) n cap) n xs) (hf : Fr S W W') (hS : ¬ S g) : W'.ownsRow B 24 7 (.slice (some ⟨g, 0, none⟩) n cap) n xs := by
  obtain ⟨hl, hown⟩ := h
  refine ⟨hl, ?_⟩
  rcases hown with ⟨h1, h2⟩ | ⟨g', cp', cur, h1, hb, hgb, r⟩
  · cases h1
  · have : g = g' := by injection h1 with h1 _ _; cases h1; rfl
    subst this
    exact .inr ⟨g, cp', cur, h1, hb, (hf.block g (Array.getElem?_eq_some_iff.1 hgb).1 hS).trans hgb, r⟩
theorem row1 {W : World} {b : Nat} {e : Ev} (h : Blk W b 24 (evc e)) : RowV W (some ⟨b, 0, none⟩) [e] := by
  refine .inr ⟨b, 0, rfl, h.lt, fun i e' he j v hj => ?_⟩
  have hi : i = 0 := by have := (List.getElem?_eq_some_iff.1 he).1; simp at this; exact this
  subst hi
  cases he
  rw [show 0 + 0 * 7 + j = j by omega, h.cell]
  exact hj
theorem closed_bad {s : Hi} {e : Ev} (h : s.closed ≠ 0) : faultC s e ≠ 0 := by
  unfold faultC
  split
  · decide
  split
  · decide
  split
  · decide
  decide
theorem good_closed {l : List Ev} (hg : Good l l.length) (h0 : statL l ≠ 0) (h1 : statL l ≠ 1) : (feed hi0 l).closed ≠ 0 := by
  rcases List.eq_nil_or_concat l with rfl | ⟨l', e, hle⟩
  · exact absurd rfl h0
  · rw [List.concat_eq_append] at hle
    subst hle
    have hs : statL (l' ++ [e]) = statK e.k := by simp [statL]
    rw [hs] at h1
    have hk : closeB e.k = true := by
      simp only [closeB, Bool.and_eq_true, decide_eq_true_eq]
      unfold statK at h1
      repeat' split at h1
      all_goals first | omega | exact absurd rfl h1
    have hf := hg l'.length e (by simp) (by simp)
    rw [List.take_left'] at hf
    · rw [feed_snoc, addO_0 hf, closes_yes hk]
      show e.k ≠ 0
      simp only [closeB, Bool.and_eq_true, decide_eq_true_eq] at hk
      omega
    · rfl
theorem Good.front {l : List Ev} {n : Nat} (hg : Good l l.length) : Good (l.take n) (l.take n).length := fun j e hj he => by
  have hj2 : j < n ∧ j < l.length := by rw [List.length_take] at hj; omega
  rw [List.getElem?_take, if_pos hj2.1] at he
  rw [List.take_take, Nat.min_eq_left (by omega)]
  exact hg j e hj2.2 he
/-- what Check says of a history that fits -/
theorem check_good (W : World) (ao : Option Addr) (cp n : Nat) (l : List Ev) (hl : RowV W ao l) (hlen : l.length = n) (hn : n ≤ 100000) (hg : Good l l.length) : Calls Tryd.prog 16 #[.slice ao n cp] W fun r W' => r = .returned .nilIface ∧ Fr (fun _ => False) W W' := by
  subst hlen
  refine (check_any W ao cp l hl hn).mono ?_
  rintro r W' ⟨hf, ⟨rfl, _⟩ | ⟨i, e, p, he, _, hbad, _⟩⟩
  · exact ⟨rfl, hf⟩
  · exact absurd (hg i e (List.getElem?_eq_some_iff.1 he).1 he) hbad
/-- and of one that does not -/
theorem check_bad (W : World) (ao : Option Addr) (cp n : Nat) (l : List Ev) (hl : RowV W ao l) (hlen : l.length = n) (hn : n ≤ 100000) (hg : ¬ Good l l.length) : Calls Tryd.prog 16 #[.slice ao n cp] W fun r W' => ∃ p : Nat, r = .returned (.iface 36 (.pointer (some ⟨p, 0, none⟩))) ∧ Fr (fun _ => False) W W' := by
  subst hlen
  refine (check_any W ao cp l hl hn).mono ?_
  rintro r W' ⟨hf, ⟨rfl, h⟩ | ⟨i, e, p, he, _, hbad, rfl, _⟩⟩
  · exact absurd h hg
  · exact ⟨p, rfl, hf⟩
theorem more_bad {l : List Ev} {e : Ev} (h : (feed hi0 l).closed ≠ 0) : ¬ Good (l ++ [e]) (l ++ [e]).length := fun hg => by
  have := hg l.length e (by simp) (by simp)
  rw [List.take_left'] at this
  · exact closed_bad h this
  · rfl
theorem lt_own {W : World} {B g n cap : Nat} {xs : List Value} (h : W.ownsRow B 24 7 (.slice (some ⟨g, 0, none⟩) n cap) n xs) : g < W.heap.size := by
  obtain ⟨_, hown⟩ := h
  rcases hown with ⟨h1, _⟩ | ⟨g', cp', cur, h1, hb, hgb, r⟩
  · cases h1
  · have : g = g' := by injection h1 with h1 _ _; cases h1; rfl
    subst this
    exact (Array.getElem?_eq_some_iff.1 hgb).1
/-- the first row behind an empty one: nothing but that empty one's block may turn -/
theorem app_kept (W : World) (base g0 : Nat) (l : List Ev) (ty : TypeId) (hbase : base ≤ W.heap.size) (hown : W.ownsRow base 24 7 (.slice (some ⟨g0, 0, none⟩) 0 0) 0 (flatE [])) (b o cp : Nat) (hr : RowV W (some ⟨b, o, none⟩) l) (h0 : 0 < l.length) (hn : l.length ≤ 10000) :
    ∃ (g cap : Nat) (W' : World), (Builtin.append_ #[30, 30] ty #[.slice (some ⟨g0, 0, none⟩) 0 0, .slice (some ⟨b, o, none⟩) l.length cp]).run Tryd.prog W = .ok (.slice (some ⟨g, 0, none⟩) l.length cap) W' ∧ W'.ownsRow base 24 7 (.slice (some ⟨g, 0, none⟩) l.length cap) l.length (flatE l) ∧ Fr (fun k => base ≤ k) W W' ∧ Fr (fun k => k = g0) W W' := by
  obtain ⟨i, z, hi, hz, hs, hby, hzs⟩ := infoE'
  have hnews : ∀ j u, (flatE l)[j]? = some u → W.cell? ((⟨b, o, none⟩ : Addr).add j) = some u := fun j u hj => by
    obtain ⟨i', e, k, h1, h2, rfl⟩ := flatE_of l j u hj
    rcases hr with h | ⟨b', o', h3, h4, h5⟩
    · rw [h] at h0; simp at h0
    · cases h3
      rw [off_add, ← Nat.add_assoc]
      exact h5 i' e h1 k u h2
  obtain ⟨g, cap, W', h1, h2, h3, h4, h5⟩ := Go.run_append_lies (P := Tryd.prog) W 30 ty base 24 i z 7 72 Tryd.underlying30 hi hz hs hby hzs (by omega) _ 0 (flatE []) hown ⟨b, o, none⟩ l.length cp (flatE l) (flatE_len l) hnews (flatE_one l) h0 (by unfold maxLen; omega) (by omega) hbase _ rfl
  rw [Nat.zero_add] at h1 h2
  have hk : Fr (fun k => k = g0) W W' := Fr.grown h3 (fun k e => by simpa [Value.ownBlock] using e.symm)
  refine ⟨g, cap, W', h1, ?_, hk.mono (fun k e => ?_), hk⟩
  · have : flatE [] ++ flatE l = flatE l := by simp [flatE]
    rw [← this]; exact h2
  · subst e
    obtain ⟨_, hown2⟩ := hown
    rcases hown2 with ⟨h1, _⟩ | ⟨g', cp', cur, h1, hb, _⟩
    · cases h1
    · injection h1 with h1 _ _
      cases h1
      exact hb
end Go.Proofs.YtbdjnfkhdphhoaaDoor
