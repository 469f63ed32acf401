/- The table of requests. -/
import Derived.Test.YtkodkimfoihbhaaK
set_option linter.unusedVariables false
set_option linter.unusedSimpArgs false
namespace Go.Proofs.Ytkodkimfoihbhaa
open Go.RowKit Go.Maps
def Ent (S : Nat → Prop) (W : World) (f : Option Value) (g : Option (List Value)) : Prop :=
  match g with | none => f = none | some r => ∃ v, f = some v ∧ RowB S W v r
theorem Ent.fr {S : Nat → Prop} {W W' : World} {f : Option Value} {g : Option (List Value)} (h : Ent S W f g) (hg : Fr S W W') : Ent S W' f g := by
  unfold Ent at *
  cases g with
  | none => exact h
  | some r => obtain ⟨v, h1, h2⟩ := h; exact ⟨v, h1, h2.fr hg⟩
def Tri (sb lb tb : Nat) : Nat → Prop := fun k => k = sb ∨ k = lb ∨ k = tb
def Two (lb tb : Nat) : Nat → Prop := fun k => k = lb ∨ k = tb
/-- THE TABLE: c answers -/
structure TB (W : World) (sb lb tb : Nat) (win : Int) (c N : Nat) (G : Int × Int → Option (List Value)) (T : Int → Int) : Prop where
  s : Blk W sb 48 #[.int .i64 win, .map (some lb), .map (some tb)]
  d : lb ≠ tb ∧ sb ≠ lb ∧ sb ≠ tb
  l : ∃ F, Mp kKE W lb c F ∧ ∀ x, okKey x → Ent (Tri sb lb tb) W (F x) (G x)
  t : ∃ c F, c ≤ N ∧ Mp iKE W tb c F ∧ ∀ x, iKE.ok x → F x = if T x = 0 then none else some (.int .i64 (T x))
  tr : ∀ x, 0 ≤ T x ∧ T x ≤ 1099511627776
  w : 1 ≤ win ∧ win ≤ 4096
  sm : ∀ x r, G x = some r → r.length ≤ 8192 ∧ ∀ u ∈ r, u.oneCell' = true
variable {sb lb tb : Nat} {win : Int} {c N : Nat} {G : Int × Int → Option (List Value)} {T : Int → Int}
theorem TB.fr {W W' : World} (h : TB W sb lb tb win c N G T) (hg : Fr (fun _ => False) W W') : TB W' sb lb tb win c N G T := by
  obtain ⟨F, h1, h2⟩ := h.l
  obtain ⟨c', F', h3, h4, h5⟩ := h.t
  exact ⟨h.s.fr hg id, h.d, ⟨F, h1.fr hg id, fun x hx => (h2 x hx).fr (hg.mono (fun _ e => e.elim))⟩, ⟨c', F', h3, h4.fr hg id, h5⟩, h.tr, h.w, h.sm⟩
theorem wf_of {x : Int} (h1 : -9223372036854775808 ≤ x) (h2 : x ≤ 9223372036854775807) : (Lit.int .i64 x).wf = true := WalkArith.wf_i64 ⟨h1, h2⟩
theorem TB.top {W : World} (h : TB W sb lb tb win c N G T) : ∃ c F, c ≤ N ∧ Mp iKE W tb c F ∧ ∀ x, iKE.ok x → (F x).getD (.int .i64 0) = .int .i64 (T x) := by
  obtain ⟨c', F', h3, h4, h5⟩ := h.t
  refine ⟨c', F', h3, h4, fun x hx => ?_⟩
  rw [h5 x hx]
  by_cases h0 : T x = 0
  · rw [if_pos h0, h0]; rfl
  · rw [if_neg h0]; rfl
theorem zero3 (W : World) : (zeroValue 3).run Try.prog W = .ok (.int .i64 0) W := by kernel_rfl
theorem zero30 (W : World) : (zeroValue 30).run Try.prog W = .ok (.slice none 0 0) W := by kernel_rfl
theorem infoE : (Try.prog.info? 5).map (fun i => (i.zero, i.size, i.bytes)) = some (some (.int .u8 0), 1, 1) := by kernel_rfl
set_option maxRecDepth 100000 in
/-- a copy -/
theorem clone_any (S S' : Nat → Prop) (W : World) (v : Value) (l : List Value) (h : RowB S W v l) (hle : l.length ≤ 1000000) (hone : ∀ u ∈ l, u.oneCell' = true) (hS : ∀ k, S' k → k < W.heap.size) :
    Calls Try.prog 17 #[v] W fun e W' => ∃ v', e = .returned v' ∧ RowB S' W' v' l ∧ Fr (fun _ => False) W W' := by
  obtain ⟨ao, cap, rfl, h1, h2, h3, h4⟩ := h
  have hnil := fun W => Lib.run_eql_slice_nil (P := Try.prog) W 30 5 ao l.length cap 0 0 Try.underlying30
  cases ao with
  | none =>
    obtain rfl := h3 rfl
    have hl : l = [] := List.eq_nil_of_length_eq_zero (by omega)
    subst hl
    simp only [Option.isNone_none, List.length_nil] at hnil
    rw [List.length_nil]
    clear h4 hone
    go_enter Try.func17, Try.ntmps17
    go_wp2
    go_ret
    exact ⟨_, rfl, RowB.nil _ _, Fr.refl _ _⟩
  | some a =>
    obtain ⟨i0, hi, hz0, hz1, hz2⟩ := info_parts infoE
    simp only [Option.isNone_some] at hnil
    have hown : (W.alloc (.cells #[] 5)).ownsRow W.heap.size 5 1 (.slice (some ⟨W.heap.size, 0, none⟩) 0 0) 0 [] := ⟨rfl, .inr ⟨_, 0, #[], rfl, Nat.le_refl _, World.alloc_heap_new _ _, Nat.le_refl _, by decide, rfl, rfl⟩⟩
    have hnews : ∀ (j : Nat) (u : Value), l[j]? = some u → (W.alloc (.cells #[] 5)).cell? (a.add j) = some u := fun j u h => by
      have h2 := (h4 a rfl).2 j u h
      rw [← h2]
      unfold World.cell?
      have := lt_of_cell h2
      rw [Below.heap_alloc W _ _ this]
    have hsz : W.heap.size ≤ (W.alloc (.cells #[] 5)).heap.size := by simp
    have b1 : 0 + l.length ≤ maxLen := by unfold maxLen; omega
    have b2 : (0 + l.length) * 1 ≤ 140737488355328 := by omega
    have HN := Lib.hid hnews
    have HO := Lib.hid hone
    clear h4 hnews hone h3
    go_enter Try.func17, Try.ntmps17
    go_wp2_with (at_builtin; refine wpList_append_own _ rfl _ _ _ rfl W.heap.size 5 i0 (.int .u8 0) 1 1 Try.underlying30 hi hz0 hz1 hz2 rfl Nat.zero_lt_one (.slice (some ⟨W.heap.size, 0, none⟩) 0 0) 0 [] rfl hown a l.length cap l rfl (Nat.mul_one _).symm HN.out HO.out b1 b2 hsz ?_; intro v' W1 hown1 hgrow1 hnil1)
    go_ret
    obtain ⟨_, hown2⟩ := hown1
    have hfr : Fr (fun _ => False) W W1 := ⟨hgrow1.os, hgrow1.tape, hgrow1.output, Nat.le_trans hsz hgrow1.size, fun k hk _ => (hgrow1.block k (by simp; omega) (fun e => by have := Option.some.inj e; simp at this; omega)).trans (Below.heap_alloc W _ k hk)⟩
    rcases hown2 with ⟨h1, _⟩ | ⟨g, cp, cur, h1, hb, hgb, hnc, hcm, hsz', ht⟩
    · have := hnil1.1 h1
      simp at this
    · refine ⟨v', rfl, ⟨some ⟨g, 0, none⟩, cp, by rw [h1]; simp, by simpa using hnc, hcm, fun h => (by cases h), fun x hx => ?_⟩, hfr⟩
      obtain rfl := Option.some.inj hx
      refine ⟨fun _ e => by have := hS _ e; simp at this; omega, fun j u hj => ?_⟩
      rw [off_add]
      simp only [List.nil_append, Nat.zero_add, Nat.mul_one] at ht
      have hj' : j < l.length := (List.getElem?_eq_some_iff.1 hj).1
      rw [← ht, List.getElem?_take_of_lt hj'] at hj
      simp only [World.cell?, hgb]
      simpa using hj
set_option maxRecDepth 100000 in
theorem new_yes (W : World) (win : Int) (h1 : 1 ≤ win) (h2 : win ≤ 4096) :
    Calls Try.prog 8 #[.int .i64 win] W fun e W' => e = .returned (.tuple #[.pointer (some ⟨W.heap.size + 2, 0, none⟩), .int .i64 0]) ∧ TB W' (W.heap.size + 2) W.heap.size (W.heap.size + 1) win 0 0 (fun _ => none) (fun _ => 0) ∧ Fr (fun _ => False) W W' := by
  have hmm := @run_makeMap Try.prog
  have p1 : decide (win < 1) = false := decide_eq_false (by omega)
  have p2 : decide (4096 < win) = false := decide_eq_false (by omega)
  go_enter Try.func8, Try.ntmps8
  go_wp2
  go_ret2
  have m1 := Mp.made kKE W
  have m2 := Mp.made iKE (W.alloc (.map #[] 0))
  have e1 : (W.alloc (.map #[] 0)).heap.size = W.heap.size + 1 := by simp
  have e2 : ((W.alloc (.map #[] 0)).alloc (.map #[] 0)).heap.size = W.heap.size + 2 := by simp
  rw [e1] at m2
  refine ⟨rfl, ⟨?_, ⟨by omega, by omega, by omega⟩, ⟨_, (m1.alloc _).alloc _, fun x _ => rfl⟩, ⟨0, _, Nat.le_refl _, m2.alloc _, fun x _ => rfl⟩, fun _ => ⟨by omega, by omega⟩, ⟨h1, h2⟩, fun x r h => by cases h⟩, ?_⟩
  · have := Blk.new ((W.alloc (.map #[] 0)).alloc (.map #[] 0)) 48 #[.int .i64 win, .map (some W.heap.size), .map (some (W.heap.size + 1))]
    rw [e2] at this
    exact this
  · exact ((Fr.alloc _ _ _).trans (Fr.alloc _ _ _)).trans (Fr.alloc _ _ _)
set_option maxRecDepth 100000 in
theorem top_any (W : World) (h : TB W sb lb tb win c N G T) (x : Int) (hx : iKE.ok x) :
    Calls Try.prog 11 #[.pointer (some ⟨sb, 0, none⟩), .int .i64 x] W fun e W' => e = .returned (.int .i64 (T x)) ∧ W = W' := by
  have c2 := h.s.cell 2
  simp only [List.getElem?_toArray, List.getElem?_cons_zero, List.getElem?_cons_succ] at c2
  obtain ⟨ct, F, hc, hM, hF⟩ := h.top
  have hu := hF x hx
  clear hF h
  go_enter Try.func11, Try.ntmps11
  go_wp2_with (at_lookup; refine wpLook rfl _ _ rfl Try.underlying37 (zero3 _) hM rfl (x := x) rfl hx hu ?_)
  go_ret
  exact ⟨rfl, rfl⟩
set_option maxRecDepth 100000 in
theorem len_any (W : World) (h : TB W sb lb tb win c N G T) (hc : c ≤ 1000000) :
    Calls Try.prog 16 #[.pointer (some ⟨sb, 0, none⟩)] W fun e W' => e = .returned (.int .i64 c) ∧ W = W' := by
  have c1 := h.s.cell 1
  simp only [List.getElem?_toArray, List.getElem?_cons_zero, List.getElem?_cons_succ] at c1
  obtain ⟨F, hM, hF⟩ := h.l
  have hlen := hM.len Try.underlying46 3
  clear hF h
  go_enter Try.func16, Try.ntmps16
  go_wp2
  go_ret
  exact ⟨rfl, rfl⟩
end Go.Proofs.Ytkodkimfoihbhaa
