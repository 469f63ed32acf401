/- The walk of FenceOne. -/
import Derived.Test.YtfdipgnlafhlbaaA
import Derived.Deep.RegionHeld3
set_option linter.unusedVariables false
namespace Go.Proofs.Ytfdipgnlafhlbaa
open Go.RowKit
def At2 (w : World) (B : Nat) (a b : Int) : Prop := B < w.heap.size ∧ w.cell? ⟨B, 0, none⟩ = some (.int .i64 a) ∧ w.cell? ⟨B, 1, none⟩ = some (.int .i64 b)
theorem At2.below {w w' : World} {B N : Nat} {a b : Int} (h : At2 w B a b) (hb : Below N w w') (hN : B < N) : At2 w' B a b := by
  obtain ⟨h0, h1, h2⟩ := h
  have hs := hb.size
  exact ⟨by omega, (hb.cell (p := ⟨B, 0, none⟩) hN).trans h1, (hb.cell (p := ⟨B, 1, none⟩) hN).trans h2⟩
theorem At2.new (w : World) (a b : Int) (T : Nat) : At2 (w.alloc (.cells #[.int .i64 a, .int .i64 b] T)) w.heap.size a b :=
  ⟨by simp, by simp [go_sem], by simp [go_sem]⟩
theorem At2.alloc {w : World} {B : Nat} {a b : Int} (h : At2 w B a b) (o : Obj) : At2 (w.alloc o) B a b := h.below ((Below.refl w.heap.size w).alloc (Nat.le_refl _) _) h.1
theorem At2.next {w w' : World} {B : Nat} {a b : Int} (h : At2 w B a b) (hb : Below w.heap.size w w') : At2 w' B a b := h.below hb h.1
theorem bThen {N : Nat} {w w1 w2 : World} (h : Below N w w1) (h2 : Below w1.heap.size w1 w2) (hN : N ≤ w.heap.size) : Below N w w2 := h.trans (h2.mono (Nat.le_trans hN h.size))
theorem bAl {N : Nat} {w w1 : World} (h : Below N w w1) (hN : N ≤ w.heap.size) (o : Obj) : Below N w (w1.alloc o) := h.alloc (Nat.le_trans hN h.size) o

theorem sKeep {W w' w'' : World} {B5 B6 B11 B13 B15 B17 : Nat} {R O S P x1 x2 y1 y2 : Int} {X : Prop} (h0 : At2 W B5 R O) (h1 : At2 W B6 S P) (h2 : At2 W B11 x1 x2) (h3 : At2 W B13 x1 x2) (h4 : At2 W B15 y1 y2) (h5 : At2 W B17 y1 y2) (hb : Below w'.heap.size w' w'') (h : Below W.heap.size W w' ∧ X) : Below W.heap.size W w'' ∧ w''.cell? ⟨B5, 0, none⟩ = some (.int .i64 (R)) ∧ w''.cell? ⟨B5, 1, none⟩ = some (.int .i64 (O)) ∧ w''.cell? ⟨B6, 0, none⟩ = some (.int .i64 (S)) ∧ w''.cell? ⟨B6, 1, none⟩ = some (.int .i64 (P)) ∧ w''.cell? ⟨B11, 0, none⟩ = some (.int .i64 (x1)) ∧ w''.cell? ⟨B11, 1, none⟩ = some (.int .i64 (x2)) ∧ w''.cell? ⟨B13, 0, none⟩ = some (.int .i64 (x1)) ∧ w''.cell? ⟨B13, 1, none⟩ = some (.int .i64 (x2)) ∧ w''.cell? ⟨B15, 0, none⟩ = some (.int .i64 (y1)) ∧ w''.cell? ⟨B15, 1, none⟩ = some (.int .i64 (y2)) ∧ w''.cell? ⟨B17, 0, none⟩ = some (.int .i64 (y1)) ∧ w''.cell? ⟨B17, 1, none⟩ = some (.int .i64 (y2)) := by
  have H := h.1.trans (hb.mono h.1.size)

  obtain ⟨_, a0, b0⟩ := h0.below H h0.1
  obtain ⟨_, a1, b1⟩ := h1.below H h1.1
  obtain ⟨_, a2, b2⟩ := h2.below H h2.1
  obtain ⟨_, a3, b3⟩ := h3.below H h3.1
  obtain ⟨_, a4, b4⟩ := h4.below H h4.1
  obtain ⟨_, a5, b5⟩ := h5.below H h5.1
  exact ⟨H, a0, b0, a1, b1, a2, b2, a3, b3, a4, b4, a5, b5⟩
theorem sFin {w W w' : World} {R : Prop} (h : Below w.heap.size w W) (h2 : Below W.heap.size W w' ∧ R) : Below w.heap.size w w' := h.trans (h2.1.mono h.size)
theorem acq_as (R O owner seen a b c : Int) (h : Hid (acqF R owner seen = (a, b, c))) (h0 : R ≤ 9223372036854775807) (w : World) :
    Calls Try.prog 8 #[.agg #[.int .i64 R, .int .i64 O], .int .i64 owner, .int .i64 seen] w fun e w' => e = .returned (.tuple #[.agg #[.int .i64 a, .int .i64 b], .int .i64 c]) ∧ Below w.heap.size w w' := by
  have := acq_any R O owner seen w h0; rw [h.out] at this; exact this
theorem racq_as (R O owner seen a b c : Int) (h : Hid (acqF R owner seen = (a, b, c))) (h0 : R ≤ 9223372036854775807) (w : World) :
    Calls Try.prog 11 #[.agg #[.int .i64 R, .int .i64 O], .int .i64 owner, .int .i64 seen] w fun e w' => e = .returned (.tuple #[.agg #[.int .i64 a, .int .i64 b], .int .i64 c]) ∧ Below w.heap.size w w' := by
  have := racq_any R O owner seen w h0; rw [h.out] at this; exact this
theorem rel_as (R O owner a b c : Int) (h : Hid (relF R O owner = (a, b, c))) (w : World) :
    Calls Try.prog 12 #[.agg #[.int .i64 R, .int .i64 O], .int .i64 owner] w fun e w' => e = .returned (.tuple #[.agg #[.int .i64 a, .int .i64 b], .int .i64 c]) ∧ Below w.heap.size w w' := by
  have := rel_any R O owner w; rw [h.out] at this; exact this
theorem rrel_as (R O owner a b c : Int) (h : Hid (relF R O owner = (a, b, c))) (w : World) :
    Calls Try.prog 13 #[.agg #[.int .i64 R, .int .i64 O], .int .i64 owner] w fun e w' => e = .returned (.tuple #[.agg #[.int .i64 a, .int .i64 b], .int .i64 c]) ∧ Below w.heap.size w w' := by
  have := rrel_any R O owner w; rw [h.out] at this; exact this
theorem known_any (w : World) : Calls Try.prog 7 #[] w fun e w' => e = .returned (.bool true) ∧ Below w.heap.size w w' := by
  go_enter Try.func7, Try.ntmps7
  go_wp2_with (go_in)
  go_ret
  exact ⟨rfl, by go_grown⟩

set_option maxHeartbeats 1000000 in
theorem one_core (R O S P owner seen id x1 x2 x3 y1 y2 y3 : Int) (w : World) (hR : R ≤ 9223372036854775807) (hx : Hid (acqF R owner seen = (x1, x2, x3))) (hy : Hid (relF R O owner = (y1, y2, y3))) :
    Calls Try.prog 4 #[.agg #[.int .i64 R, .int .i64 O], .agg #[.int .i64 S, .int .i64 P], .int .i64 owner, .int .i64 seen, .int .i64 id] w fun e w' => e = .returned (.bool true) ∧ Below w.heap.size w w' := by
  go_enter Try.func4, Try.ntmps4
  go_wp2_with fail
  refine (known_any _).mono ?_
  rintro e' w1 ⟨rfl, hb1⟩
  have k5 := ((At2.new w R O 25).alloc (.cells #[.int .i64 S, .int .i64 P] 25)).next hb1
  have k6 := (At2.new (w.alloc (.cells #[.int .i64 R, .int .i64 O] 25)) S P 25).next hb1
  rw [World.size_alloc] at k6
  have p1 := bThen (bAl (bAl (Below.refl w.heap.size w) (Nat.le_refl _) (.cells #[.int .i64 R, .int .i64 O] 25)) (Nat.le_refl _) (.cells #[.int .i64 S, .int .i64 P] 25)) hb1 (Nat.le_refl _)
  have p := p1
  clear hb1 p1
  have q50 := k5.2.1
  have q51 := k5.2.2
  go_wp2_with fail
  refine (acq_as R O owner seen _ _ _ hx hR _).mono ?_
  rintro e' w2 ⟨rfl, hb⟩
  clear q50 q51
  replace k5 := k5.next hb
  replace k6 := k6.next hb
  replace p := bThen p hb (Nat.le_refl _)
  clear hb
  have k11 := At2.new w2 x1 x2 25
  replace k5 := k5.alloc (.cells #[.int .i64 x1, .int .i64 x2] 25)
  replace k6 := k6.alloc (.cells #[.int .i64 x1, .int .i64 x2] 25)
  replace p := bAl p (Nat.le_refl _) (.cells #[.int .i64 x1, .int .i64 x2] 25)
  have q50 := k5.2.1
  have q51 := k5.2.2
  go_wp2_with fail
  refine (of_any R O _).mono ?_
  rintro e' w3 ⟨rfl, hb⟩
  clear q50 q51
  replace k5 := k5.next hb
  replace k6 := k6.next hb
  replace k11 := k11.next hb
  replace p := bThen p hb (Nat.le_refl _)
  clear hb
  have q50 := k5.2.1
  have q51 := k5.2.2
  go_wp2_with fail
  refine (racq_as R O owner seen _ _ _ hx hR _).mono ?_
  rintro e' w4 ⟨rfl, hb⟩
  clear q50 q51
  replace k5 := k5.next hb
  replace k6 := k6.next hb
  replace k11 := k11.next hb
  replace p := bThen p hb (Nat.le_refl _)
  clear hb
  have k13 := At2.new w4 x1 x2 31
  replace k5 := k5.alloc (.cells #[.int .i64 x1, .int .i64 x2] 31)
  replace k6 := k6.alloc (.cells #[.int .i64 x1, .int .i64 x2] 31)
  replace k11 := k11.alloc (.cells #[.int .i64 x1, .int .i64 x2] 31)
  replace p := bAl p (Nat.le_refl _) (.cells #[.int .i64 x1, .int .i64 x2] 31)
  have q50 := k5.2.1
  have q51 := k5.2.2
  go_wp2_with fail
  refine (rel_as R O owner _ _ _ hy _).mono ?_
  rintro e' w5 ⟨rfl, hb⟩
  clear q50 q51
  replace k5 := k5.next hb
  replace k6 := k6.next hb
  replace k11 := k11.next hb
  replace k13 := k13.next hb
  replace p := bThen p hb (Nat.le_refl _)
  clear hb
  have k15 := At2.new w5 y1 y2 25
  replace k5 := k5.alloc (.cells #[.int .i64 y1, .int .i64 y2] 25)
  replace k6 := k6.alloc (.cells #[.int .i64 y1, .int .i64 y2] 25)
  replace k11 := k11.alloc (.cells #[.int .i64 y1, .int .i64 y2] 25)
  replace k13 := k13.alloc (.cells #[.int .i64 y1, .int .i64 y2] 25)
  replace p := bAl p (Nat.le_refl _) (.cells #[.int .i64 y1, .int .i64 y2] 25)
  have q50 := k5.2.1
  have q51 := k5.2.2
  go_wp2_with fail
  refine (of_any R O _).mono ?_
  rintro e' w6 ⟨rfl, hb⟩
  clear q50 q51
  replace k5 := k5.next hb
  replace k6 := k6.next hb
  replace k11 := k11.next hb
  replace k13 := k13.next hb
  replace k15 := k15.next hb
  replace p := bThen p hb (Nat.le_refl _)
  clear hb
  have q50 := k5.2.1
  have q51 := k5.2.2
  go_wp2_with fail
  refine (rrel_as R O owner _ _ _ hy _).mono ?_
  rintro e' w7 ⟨rfl, hb⟩
  clear q50 q51
  replace k5 := k5.next hb
  replace k6 := k6.next hb
  replace k11 := k11.next hb
  replace k13 := k13.next hb
  replace k15 := k15.next hb
  replace p := bThen p hb (Nat.le_refl _)
  clear hb
  have k17 := At2.new w7 y1 y2 31
  replace k5 := k5.alloc (.cells #[.int .i64 y1, .int .i64 y2] 31)
  replace k6 := k6.alloc (.cells #[.int .i64 y1, .int .i64 y2] 31)
  replace k11 := k11.alloc (.cells #[.int .i64 y1, .int .i64 y2] 31)
  replace k13 := k13.alloc (.cells #[.int .i64 y1, .int .i64 y2] 31)
  replace k15 := k15.alloc (.cells #[.int .i64 y1, .int .i64 y2] 31)
  replace p := bAl p (Nat.le_refl _) (.cells #[.int .i64 y1, .int .i64 y2] 31)
  go_wp2_with fail
  obtain ⟨W, hW⟩ : ∃ W, W = w7.alloc (.cells #[.int .i64 y1, .int .i64 y2] 31) := ⟨_, rfl⟩
  rw [← hW] at k5 k6 k11 k13 k15 k17 p ⊢
  clear hW hx hy
  go_region_held3 (fun w' => Below W.heap.size W w' ∧ w'.cell? ⟨w.heap.size, 0, none⟩ = some (.int .i64 (R)) ∧ w'.cell? ⟨w.heap.size, 1, none⟩ = some (.int .i64 (O)) ∧ w'.cell? ⟨(w.heap.size + 1), 0, none⟩ = some (.int .i64 (S)) ∧ w'.cell? ⟨(w.heap.size + 1), 1, none⟩ = some (.int .i64 (P)) ∧ w'.cell? ⟨w2.heap.size, 0, none⟩ = some (.int .i64 (x1)) ∧ w'.cell? ⟨w2.heap.size, 1, none⟩ = some (.int .i64 (x2)) ∧ w'.cell? ⟨w4.heap.size, 0, none⟩ = some (.int .i64 (x1)) ∧ w'.cell? ⟨w4.heap.size, 1, none⟩ = some (.int .i64 (x2)) ∧ w'.cell? ⟨w5.heap.size, 0, none⟩ = some (.int .i64 (y1)) ∧ w'.cell? ⟨w5.heap.size, 1, none⟩ = some (.int .i64 (y2)) ∧ w'.cell? ⟨w7.heap.size, 0, none⟩ = some (.int .i64 (y1)) ∧ w'.cell? ⟨w7.heap.size, 1, none⟩ = some (.int .i64 (y2)))
    (first | exact sKeep k5 k6 k11 k13 k15 k17 (by first | exact Below.refl _ _ | exact (Below.refl _ _).drew) ⟨Below.refl _ _, trivial⟩ | exact sKeep k5 k6 k11 k13 k15 k17 (by assumption) (by assumption))
    (first | (go_at_call 10; refine (of_any _ _ _).mono ?_; rintro e w' ⟨rfl, hbb⟩) | (go_at_call 9; refine (chk_any _ _ _ _).mono ?_; rintro e w' ⟨rfl, hbb⟩) | (go_at_call 14; refine (rchk_any _ _ _ _).mono ?_; rintro e w' ⟨rfl, hbb⟩) | (go_at_call 15; refine (aga_any _ _ _ _ _).mono ?_; rintro e w' ⟨rfl, hbb⟩) | (go_at_call 16; refine (raga_any _ _ _ _ _).mono ?_; rintro e w' ⟨rfl, hbb⟩))
  all_goals go_wp2
  all_goals go_ret
  all_goals exact ⟨rfl, sFin p (by assumption)⟩
theorem one (R : Int) (wR : (Lit.int .i64 R).wf = true) (O : Int) (_ : (Lit.int .i64 O).wf = true) (S : Int) (_ : (Lit.int .i64 S).wf = true) (P : Int) (_ : (Lit.int .i64 P).wf = true) (owner : Int) (_ : (Lit.int .i64 owner).wf = true) (seen : Int) (_ : (Lit.int .i64 seen).wf = true) (id : Int) (_ : (Lit.int .i64 id).wf = true) (w : World) :
    Calls Try.prog 4 #[.agg #[.int .i64 R, .int .i64 O], .agg #[.int .i64 S, .int .i64 P], .int .i64 owner, .int .i64 seen, .int .i64 id] w fun e w' => e = .returned (.bool true) ∧ Below w.heap.size w w' :=
  one_core R O S P owner seen id _ _ _ _ _ _ w (bounds_i64 wR).2 (Lib.hid rfl) (Lib.hid rfl)

end Go.Proofs.Ytfdipgnlafhlbaa
