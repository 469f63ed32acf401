/- The invariant, kinds that open and end. -/
import Derived.Test.YtbdjnfkhdphhoaaDoorZ2
set_option linter.unusedVariables false
set_option linter.unusedSimpArgs false
namespace Go.Proofs.YtbdjnfkhdphhoaaDoor
open Go.RowKit Go.Maps
theorem put1_same (G : Int → Option Int) (x : Int) (v : Option Int) : put1 G x v x = v := if_pos rfl
theorem put1_other (G : Int → Option Int) {x y : Int} (v : Option Int) (h : y ≠ x) : put1 G x v y = G y := if_neg h
theorem kind_keep {l : List Ev} {e : Ev} {x : Int} (h : rOpen l x = true) : rKind (l ++ [e]) x = rKind l x := by
  have := open_in h
  rw [rKind_snoc, if_neg (by omega)]
/-- one that opens -/
theorem nxt_open {l : List Ev} {e : Ev} {s t : Hi} (h : Inv l s) (hd : ∀ x v, s.from_ x = some v → x ≤ (l.length : Int)) (hin : 0 ≤ e.ref ∧ e.ref ≤ l.length)
    (hk : e.k = 7 ∨ e.k = 12 ∨ e.k = 17) (N : Int) (hN : N = (l.length : Int) + 1) (e1 : t.kinds = put1 s.kinds N (some e.k)) (e2 : t.ids = put1 s.ids N (some e.id)) (e3 : t.of_ = s.of_) (e4 : t.from_ = s.from_) (e5 : t.task = s.task) (e6 : t.begun = s.begun) : Nxt l e t := by
  have hn : rOpen (l ++ [e]) N = true := by
    rw [hN, rOpen_new h.rf hin.2]
    simp; omega
  have ho : ∀ x, x ≠ N → rOpen (l ++ [e]) x = rOpen l x := fun x hx => by
    rw [rOpen_snoc h.rf hin.2 (by rw [← hN]; exact hx), dead_no (by omega)]; simp
  refine ⟨tk_same h (by omega) (by omega) (by omega) e5 e6, fun x => ?_, fun x hx => ?_, fun x hx h7 => ?_, fun w => ?_, fun x v hx => ?_⟩
  · rw [e1]
    by_cases hx : x = N
    · subst hx
      rw [put1_same, if_pos hn, rKind_snoc, if_pos hN]
    · rw [put1_other _ _ hx, h.kd, ho x hx]
      by_cases hx2 : rOpen l x = true
      · rw [if_pos hx2, if_pos hx2, kind_keep hx2]
      · rw [if_neg hx2, if_neg hx2]
  · rw [e2]
    by_cases hx2 : x = N
    · subst hx2
      rw [put1_same, idAt_snoc, if_pos hN]; rfl
    · rw [put1_other _ _ hx2, idAt_snoc, if_neg (by rw [← hN]; exact hx2)]
      rw [ho x hx2] at hx
      exact h.id x hx
  · rw [e4, works_snoc_no (by omega)]
    by_cases hx2 : x = N
    · rw [works_past h.rf (by omega), if_pos rfl]
      cases hfx : s.from_ x with
      | none => rfl
      | some v => have := hd x v hfx; omega
    · rw [ho x hx2] at hx
      rw [kind_keep hx] at h7
      exact h.fr x hx h7
  · rw [e3, h.of, rKind_snoc]
    by_cases hw : w = (l.length : Int) + 1
    · rw [if_pos hw, if_neg (by rw [rKind_out (by omega)]; omega), if_neg (by omega)]
    · rw [if_neg hw]
      by_cases h8 : rKind l w = 8
      · have h1 := kind_in (l := l) (x := w) (by omega)
        have h2 := refAt_in h.rf h1.1 h1.2
        rw [refAt_snoc (by omega), if_neg hw, ho _ (by omega)]
      · rw [if_neg (fun hh => h8 hh.1), if_neg (fun hh => h8 hh.1)]
  · rw [e4] at hx
    have := hd x v hx
    simp
    omega
/-- an activity that begins -/
theorem nxt_works {l : List Ev} {e : Ev} {s t : Hi} (h : Inv l s) (hd : ∀ x v, s.from_ x = some v → x ≤ (l.length : Int)) (hin : 0 ≤ e.ref ∧ e.ref ≤ l.length)
    (hk : e.k = 8) (hr7 : rKind l e.ref = 7) (hw0 : rWorks l e.ref = 0) (N : Int) (hN : N = (l.length : Int) + 1) (e1 : t.kinds = s.kinds) (e2 : t.ids = s.ids) (e3 : t.of_ = put1 s.of_ N (some e.ref)) (e4 : t.from_ = put1 s.from_ e.ref (some N)) (e5 : t.task = s.task) (e6 : t.begun = s.begun) : Nxt l e t := by
  have hn : rOpen (l ++ [e]) N = false := by
    rw [hN, rOpen_new h.rf hin.2]
    simp; omega
  have ho : ∀ x, rOpen (l ++ [e]) x = rOpen l x := fun x => by
    by_cases hx : x = N
    · rw [hx, hn, rOpen_none (by omega)]
    · rw [rOpen_snoc h.rf hin.2 (by rw [← hN]; exact hx), dead_no (by omega)]; simp
  have hopen : rOpen l e.ref = true := by unfold rOpen; rw [if_pos hr7, hw0]; rfl
  refine ⟨tk_same h (by omega) (by omega) (by omega) e5 e6, fun x => ?_, fun x hx => ?_, fun x hx h7 => ?_, fun w => ?_, fun x v hx => ?_⟩
  · rw [e1, h.kd, ho]
    by_cases hx : rOpen l x = true
    · rw [if_pos hx, if_pos hx, kind_keep hx]
    · rw [if_neg hx, if_neg hx]
  · rw [ho] at hx
    have := open_in hx
    rw [e2, h.id x hx, idAt_snoc, if_neg (by omega)]
  · rw [ho] at hx
    rw [kind_keep hx] at h7
    rw [e4]
    by_cases hx2 : x = e.ref
    · have hw0 : rWorks l x = 0 := by rw [hx2]; exact hw0
      have hwk : rWorks (l ++ [e]) x = N := by rw [rWorks_snoc, if_neg (by rw [hw0]; simp), if_pos (by simp [wkB, hk, hx2]), hN]
      rw [hx2, put1_same, ← hx2, hwk, if_neg (by omega)]
    · rw [put1_other _ _ hx2, works_snoc_no (fun hh => hx2 hh.2.symm)]
      exact h.fr x hx h7
  · rw [e3]
    by_cases hw : w = N
    · have hkw : rKind (l ++ [e]) w = 8 := by rw [rKind_snoc, if_pos (by rw [← hN]; exact hw), hk]
      have hrw : refAt (l ++ [e]) w = e.ref := by rw [refAt_snoc (by omega), if_pos (by rw [← hN]; exact hw)]
      rw [hw, put1_same, ← hw, hkw, hrw, ho, if_pos ⟨rfl, hopen⟩]
    · have hkw : rKind (l ++ [e]) w = rKind l w := by rw [rKind_snoc, if_neg (by rw [← hN]; exact hw)]
      rw [put1_other _ _ hw, h.of, hkw]
      by_cases h8 : rKind l w = 8
      · have h1 := kind_in (l := l) (x := w) (by omega)
        have hrw : refAt (l ++ [e]) w = refAt l w := by rw [refAt_snoc (by omega), if_neg (by rw [← hN]; exact hw)]
        rw [hrw, ho]
      · rw [if_neg (fun hh => h8 hh.1), if_neg (fun hh => h8 hh.1)]
  · rw [e4] at hx
    by_cases hx2 : x = e.ref
    · simp; omega
    · rw [put1_other _ _ hx2] at hx
      have := hd x v hx
      simp
      omega
/-- one that ends what is open at x0 -/
theorem nxt_end {l : List Ev} {e : Ev} {s t : Hi} (h : Inv l s) (hd : ∀ x v, s.from_ x = some v → x ≤ (l.length : Int)) (hin : 0 ≤ e.ref ∧ e.ref ≤ l.length)
    (hk : e.k = 9 ∨ e.k = 10 ∨ e.k = 11 ∨ e.k = 13 ∨ e.k = 14 ∨ e.k = 18) (x0 : Int) (hx0 : 1 ≤ x0 ∧ x0 ≤ l.length) (hdead : ∀ x, rOpen l x = true → (dead l e x = true ↔ x = x0))
    (e1 : t.kinds = put1 s.kinds x0 none) (e2 : t.ids = put1 s.ids x0 none) (e3 : ∀ w, t.of_ w = if rKind l w = 8 ∧ rOpen l (refAt l w) = true ∧ refAt l w ≠ x0 then some (refAt l w) else none) (e4 : ∀ x, x ≠ x0 → t.from_ x = s.from_ x) (e4' : ∀ v, t.from_ x0 = some v → x0 ≤ (l.length : Int)) (e5 : t.task = s.task) (e6 : t.begun = s.begun) : Nxt l e t := by
  have hn : rOpen (l ++ [e]) ((l.length : Int) + 1) = false := by
    rw [rOpen_new h.rf hin.2]
    simp; omega
  have ho : ∀ x, rOpen (l ++ [e]) x = true ↔ rOpen l x = true ∧ x ≠ x0 := fun x => by
    by_cases hx : x = (l.length : Int) + 1
    · subst hx
      rw [hn, rOpen_none (by omega)]
      simp
    · rw [rOpen_snoc h.rf hin.2 hx]
      by_cases hx2 : rOpen l x = true
      · have := hdead x hx2
        rw [hx2]
        by_cases hx3 : x = x0
        · rw [this.2 hx3]; simp [hx3]
        · have hq : dead l e x = false := by rw [Bool.eq_false_iff]; exact fun hh => hx3 (this.1 hh)
          rw [hq]; simp [hx3]
      · have hq : rOpen l x = false := by rw [Bool.eq_false_iff]; exact hx2
        rw [hq]; simp
  refine ⟨tk_same h (by omega) (by omega) (by omega) e5 e6, fun x => ?_, fun x hx => ?_, fun x hx h7 => ?_, fun w => ?_, fun x v hx => ?_⟩
  · rw [e1]
    by_cases hx : x = x0
    · subst hx
      rw [put1_same, if_neg (fun hh => ((ho x).1 hh).2 rfl)]
    · rw [put1_other _ _ hx, h.kd]
      by_cases hx2 : rOpen l x = true
      · rw [if_pos hx2, if_pos ((ho x).2 ⟨hx2, hx⟩), kind_keep hx2]
      · rw [if_neg hx2, if_neg (fun hh => hx2 ((ho x).1 hh).1)]
  · obtain ⟨h1, h2⟩ := (ho x).1 hx
    have := open_in h1
    rw [e2, put1_other _ _ h2, h.id x h1, idAt_snoc, if_neg (by omega)]
  · obtain ⟨h1, h2⟩ := (ho x).1 hx
    rw [kind_keep h1] at h7
    rw [e4 x h2, works_snoc_no (by omega)]
    exact h.fr x h1 h7
  · rw [e3, rKind_snoc]
    by_cases hw : w = (l.length : Int) + 1
    · rw [if_pos hw, if_neg (fun hh => by have := kind_in (l := l) (x := w) (by omega); omega), if_neg (by omega)]
    · rw [if_neg hw]
      by_cases h8 : rKind l w = 8
      · have h1 := kind_in (l := l) (x := w) (by omega)
        rw [refAt_snoc (by omega), if_neg hw]
        by_cases hh : rOpen l (refAt l w) = true ∧ refAt l w ≠ x0
        · rw [if_pos ⟨h8, hh.1, hh.2⟩, if_pos ⟨h8, (ho _).2 hh⟩]
        · rw [if_neg (fun a => hh a.2), if_neg (fun a => hh ((ho _).1 a.2))]
      · rw [if_neg (fun hh => h8 hh.1), if_neg (fun hh => h8 hh.1)]
  · by_cases hx2 : x = x0
    · subst hx2
      have := e4' v hx
      simp
      omega
    · rw [e4 x hx2] at hx
      have := hd x v hx
      simp
      omega
end Go.Proofs.YtbdjnfkhdphhoaaDoor
