/- Look. -/
import Derived.Test.YtkodkimfoihbhaaA
set_option linter.unusedVariables false
set_option linter.unusedSimpArgs false
namespace Go.Proofs.Ytkodkimfoihbhaa
open Go.RowKit Go.Maps
variable {sb lb tb : Nat} {win : Int} {c N : Nat} {G : Int × Int → Option (List Value)} {T : Int → Int}
def Bad (x y : Int) : Prop := x < 0 ∨ 1048576 < x ∨ y < 1 ∨ 1099511627776 < y
instance (x y : Int) : Decidable (Bad x y) := by unfold Bad; infer_instance
/-- what a request is -/
def code (win : Int) (G : Int × Int → Option (List Value)) (T : Int → Int) (x y : Int) : Int :=
  if Bad x y then 3 else if y ≤ T x - win then 2 else if (G (x, y)).isSome then 1 else 0
theorem ok_of {x y : Int} (h : ¬ Bad x y) : iKE.ok x ∧ okKey (x, y) := by
  unfold Bad at h
  have h1 := wf_of (x := x) (by omega) (by omega)
  exact ⟨h1, h1, wf_of (by omega) (by omega)⟩
set_option maxRecDepth 100000 in
theorem look_bad (W : World) (x y : Int) (h : Bad x y) :
    Calls Try.prog 10 #[.pointer (some ⟨sb, 0, none⟩), .int .i64 x, .int .i64 y] W fun e W' => e = .returned (.tuple #[.int .i64 3, .slice none 0 0]) ∧ W = W' := by
  unfold Bad at h
  by_cases h1 : x < 0
  · have p1 : decide (x < 0) = true := decide_eq_true h1
    clear h
    go_enter Try.func10, Try.ntmps10
    go_wp2
    go_ret2
    exact ⟨rfl, rfl⟩
  have p1 : decide (x < 0) = false := decide_eq_false h1
  by_cases h2 : 1048576 < x
  · have p2 : decide (1048576 < x) = true := decide_eq_true h2
    clear h
    go_enter Try.func10, Try.ntmps10
    go_wp2
    go_ret2
    exact ⟨rfl, rfl⟩
  have p2 : decide (1048576 < x) = false := decide_eq_false h2
  by_cases h3 : y < 1
  · have p3 : decide (y < 1) = true := decide_eq_true h3
    clear h
    go_enter Try.func10, Try.ntmps10
    go_wp2
    go_ret2
    exact ⟨rfl, rfl⟩
  have p3 : decide (y < 1) = false := decide_eq_false h3
  have p4 : decide (1099511627776 < y) = true := decide_eq_true (by omega)
  clear h
  go_enter Try.func10, Try.ntmps10
  go_wp2
  go_ret2
  exact ⟨rfl, rfl⟩
set_option maxRecDepth 100000 in
theorem look_old (W : World) (h : TB W sb lb tb win c N G T) (x y : Int) (hb : ¬ Bad x y) (h2 : y ≤ T x - win) :
    Calls Try.prog 10 #[.pointer (some ⟨sb, 0, none⟩), .int .i64 x, .int .i64 y] W fun e W' => e = .returned (.tuple #[.int .i64 2, .slice none 0 0]) ∧ Fr (fun _ => False) W W' := by
  have c0 := h.s.cell 0
  have c2 := h.s.cell 2
  simp only [List.getElem?_toArray, List.getElem?_cons_zero, List.getElem?_cons_succ] at c0 c2
  obtain ⟨ct, F, hc, hM, hF⟩ := h.top
  obtain ⟨hx, hk⟩ := ok_of hb
  have hrun : ∀ n, (Instr.lookup 37 (.map (some tb)) (.int .i64 x) false).run Try.prog (W.drewN n) = .ok (.int .i64 (T x)) (W.drewN n) := fun n => by
    have := (hM.fr (Fr.drewN (fun _ => False) W n) id).look Try.underlying37 (zero3 _) hx
    rw [hF x hx] at this
    exact this
  have hT := h.tr x
  have hw := h.w
  unfold Bad at hb
  have p1 : decide (x < 0) = false := decide_eq_false (by omega)
  have p2 : decide (1048576 < x) = false := decide_eq_false (by omega)
  have p3 : decide (y < 1) = false := decide_eq_false (by omega)
  have p4 : decide (1099511627776 < y) = false := decide_eq_false (by omega)
  have p5 : decide (y ≤ T x - win) = true := decide_eq_true (by omega)
  clear hF h hM hb
  go_enter Try.func10, Try.ntmps10
  go_wp2
  go_quiet (fail)
  go_wp2
  go_ret2
  exact ⟨rfl, Fr.drewN _ _ _⟩
set_option maxRecDepth 100000 in
theorem look_in (W : World) (h : TB W sb lb tb win c N G T) (x y : Int) (hb : ¬ Bad x y) (h2 : ¬ y ≤ T x - win) :
    Calls Try.prog 10 #[.pointer (some ⟨sb, 0, none⟩), .int .i64 x, .int .i64 y] W fun e W' => (match G (x, y) with | none => e = .returned (.tuple #[.int .i64 0, .slice none 0 0]) | some r => ∃ v, e = .returned (.tuple #[.int .i64 1, v]) ∧ RowB (Tri sb lb tb) W' v r) ∧ Fr (fun _ => False) W W' := by
  have c0 := h.s.cell 0
  have c1 := h.s.cell 1
  have c2 := h.s.cell 2
  simp only [List.getElem?_toArray, List.getElem?_cons_zero, List.getElem?_cons_succ] at c0 c1 c2
  obtain ⟨ct, F, hc, hM, hF⟩ := h.top
  obtain ⟨Fl, hMl, hFl⟩ := h.l
  obtain ⟨hx, hk⟩ := ok_of hb
  have hrun : ∀ n, (Instr.lookup 37 (.map (some tb)) (.int .i64 x) false).run Try.prog (W.drewN n) = .ok (.int .i64 (T x)) (W.drewN n) := fun n => by
    have := (hM.fr (Fr.drewN (fun _ => False) W n) id).look Try.underlying37 (zero3 _) hx
    rw [hF x hx] at this
    exact this
  have hrunl : ∀ n, (Instr.lookup 46 (.map (some lb)) (.agg #[.int .i64 x, .int .i64 y]) true).run Try.prog (W.drewN n) = .ok (.tuple #[(Fl (x, y)).getD (.slice none 0 0), .bool (Fl (x, y)).isSome]) (W.drewN n) := fun n =>
    (hMl.fr (Fr.drewN (fun _ => False) W n) id).look_ok Try.underlying46 (zero30 _) (x := (x, y)) hk
  have hT := h.tr x
  have hw := h.w
  have hE := hFl (x, y) hk
  have hsm := h.sm (x, y)
  have hbl : ∀ k, Tri sb lb tb k → k < W.heap.size := fun k hk => by
    rcases hk with rfl | rfl | rfl
    · exact h.s.lt
    · exact hMl.lt
    · exact hM.lt
  unfold Bad at hb
  have p1 : decide (x < 0) = false := decide_eq_false (by omega)
  have p2 : decide (1048576 < x) = false := decide_eq_false (by omega)
  have p3 : decide (y < 1) = false := decide_eq_false (by omega)
  have p4 : decide (1099511627776 < y) = false := decide_eq_false (by omega)
  have p5 : decide (y ≤ T x - win) = false := decide_eq_false (by omega)
  clear hF h hM hb hFl hMl
  cases hg : G (x, y) with
  | none =>
    rw [hg] at hE
    have hE' : Fl (x, y) = none := hE
    rw [hE'] at hrunl
    simp only [Option.getD_none, Option.isSome_none] at hrunl
    clear hE hE' hsm hbl hg
    go_enter Try.func10, Try.ntmps10
    go_wp2
    go_quiet (fail)
    go_wp2
    go_ret2
    exact ⟨rfl, Fr.drewN _ _ _⟩
  | some r =>
    rw [hg] at hE
    obtain ⟨v, hv, hr⟩ := hE
    rw [hv] at hrunl
    simp only [Option.getD_some, Option.isSome_some] at hrunl
    obtain ⟨hs1, hs2⟩ := hsm r hg
    have hcl : ∀ n, Calls Try.prog 17 #[v] (W.drewN n) fun e W' => ∃ v', e = .returned v' ∧ RowB (Tri sb lb tb) W' v' r ∧ Fr (fun _ => False) (W.drewN n) W' := fun n =>
      clone_any (Tri sb lb tb) (Tri sb lb tb) _ v r (hr.fr (Fr.drewN _ W n)) (by omega) hs2 hbl
    have HCL := Lib.hid hcl
    clear hv hr hs1 hs2 hsm hbl hg hcl
    go_enter Try.func10, Try.ntmps10
    go_wp2
    go_quiet (fail)
    go_wp2_with fail
    refine (HCL.out _).mono ?_
    rintro e W2 ⟨v', rfl, h1, h2⟩
    go_wp2
    go_ret2
    exact ⟨⟨_, rfl, h1⟩, (Fr.drewN _ _ _).trans h2⟩
/-- Look, in one -/
theorem look_any (W : World) (h : TB W sb lb tb win c N G T) (x y : Int) :
    Calls Try.prog 10 #[.pointer (some ⟨sb, 0, none⟩), .int .i64 x, .int .i64 y] W fun e W' => (∃ v, e = .returned (.tuple #[.int .i64 (code win G T x y), v]) ∧ ∀ r, G (x, y) = some r → code win G T x y = 1 → RowB (Tri sb lb tb) W' v r) ∧ Fr (fun _ => False) W W' := by
  unfold code
  by_cases hb : Bad x y
  · simp only [hb, if_true]
    refine (look_bad W x y hb).mono ?_
    rintro e W' ⟨rfl, rfl⟩
    exact ⟨⟨_, rfl, fun r _ e => by cases e⟩, Fr.refl _ _⟩
  · simp only [hb, if_false]
    by_cases h2 : y ≤ T x - win
    · simp only [h2, if_true]
      refine (look_old W h x y hb h2).mono ?_
      rintro e W' ⟨rfl, hf⟩
      exact ⟨⟨_, rfl, fun r _ e => by cases e⟩, hf⟩
    · simp only [h2, if_false]
      refine (look_in W h x y hb h2).mono ?_
      rintro e W' ⟨he, hf⟩
      refine ⟨?_, hf⟩
      cases hg : G (x, y) with
      | none =>
        rw [hg] at he
        exact ⟨_, he, fun r e => by cases e⟩
      | some r =>
        rw [hg] at he
        obtain ⟨v, he, hr⟩ := he
        exact ⟨v, he, fun r' e _ => by cases e; exact hr⟩
end Go.Proofs.Ytkodkimfoihbhaa
