/- The walk of IdsTokens. -/
import Derived.Test.YtdodioacjppohaaIdsH
import Derived.Deep.RegionHeld3
namespace Go.Proofs.Ytdodioacjppohaa
open Go.RowKit
def At4 (w : World) (B : Nat) (a b c d : Int) : Prop := B < w.heap.size ∧ w.cell? ⟨B, 0, none⟩ = some (.int .i64 a) ∧ w.cell? ⟨B, 1, none⟩ = some (.int .i64 b) ∧ w.cell? ⟨B, 2, none⟩ = some (.int .i64 c) ∧ w.cell? ⟨B, 3, none⟩ = some (.int .i64 d)
theorem At4.below {w w' : World} {B N : Nat} {a b c d : Int} (h : At4 w B a b c d) (hb : Below N w w') (hN : B < N) : At4 w' B a b c d := by
  obtain ⟨h0, h1, h2, h3, h4⟩ := h
  have hs := hb.size
  exact ⟨by omega, (hb.cell (p := ⟨B, 0, none⟩) hN).trans h1, (hb.cell (p := ⟨B, 1, none⟩) hN).trans h2, (hb.cell (p := ⟨B, 2, none⟩) hN).trans h3, (hb.cell (p := ⟨B, 3, none⟩) hN).trans h4⟩
theorem At4.new (w : World) (a b c d : Int) (T : Nat) : At4 (w.alloc (.cells #[.int .i64 a, .int .i64 b, .int .i64 c, .int .i64 d] T)) w.heap.size a b c d :=
  ⟨by simp, by simp [go_sem], by simp [go_sem], by simp [go_sem], by simp [go_sem]⟩
theorem sKeep {W w' w'' : World} {B0 B1 B2 B3 : Nat} {a b c d x y z t f r e u : Int} (h0 : At4 W B0 a b c d) (h1 : At4 W B1 x y z t) (h2 : At4 W B2 f r e u) (h3 : At4 W B3 f r e u)
    (h : Below W.heap.size W w') (hb : Below w'.heap.size w' w'') : Below W.heap.size W w'' ∧ w''.cell? ⟨B0, 0, none⟩ = some (.int .i64 a) ∧ w''.cell? ⟨B0, 1, none⟩ = some (.int .i64 b) ∧ w''.cell? ⟨B0, 2, none⟩ = some (.int .i64 c) ∧ w''.cell? ⟨B0, 3, none⟩ = some (.int .i64 d) ∧ w''.cell? ⟨B1, 0, none⟩ = some (.int .i64 x) ∧ w''.cell? ⟨B1, 1, none⟩ = some (.int .i64 y) ∧ w''.cell? ⟨B1, 2, none⟩ = some (.int .i64 z) ∧ w''.cell? ⟨B1, 3, none⟩ = some (.int .i64 t) ∧ w''.cell? ⟨B2, 0, none⟩ = some (.int .i64 f) ∧ w''.cell? ⟨B2, 1, none⟩ = some (.int .i64 r) ∧ w''.cell? ⟨B2, 2, none⟩ = some (.int .i64 e) ∧ w''.cell? ⟨B2, 3, none⟩ = some (.int .i64 u) ∧ w''.cell? ⟨B3, 0, none⟩ = some (.int .i64 f) ∧ w''.cell? ⟨B3, 1, none⟩ = some (.int .i64 r) ∧ w''.cell? ⟨B3, 2, none⟩ = some (.int .i64 e) ∧ w''.cell? ⟨B3, 3, none⟩ = some (.int .i64 u) := by
  have H := h.trans (hb.mono h.size)
  obtain ⟨_, a0, a1, a2, a3⟩ := h0.below H h0.1
  obtain ⟨_, b0, b1, b2, b3⟩ := h1.below H h1.1
  obtain ⟨_, c0, c1, c2, c3⟩ := h2.below H h2.1
  obtain ⟨_, d0, d1, d2, d3⟩ := h3.below H h3.1
  exact ⟨H, a0, a1, a2, a3, b0, b1, b2, b3, c0, c1, c2, c3, d0, d1, d2, d3⟩
theorem sKeep' {W w' w'' : World} {B0 B1 B2 B3 : Nat} {a b c d x y z t f r e u : Int} {R : Prop} (h0 : At4 W B0 a b c d) (h1 : At4 W B1 x y z t) (h2 : At4 W B2 f r e u) (h3 : At4 W B3 f r e u)
    (hb : Below w'.heap.size w' w'') (h : Below W.heap.size W w' ∧ R) : Below W.heap.size W w'' ∧ w''.cell? ⟨B0, 0, none⟩ = some (.int .i64 a) ∧ w''.cell? ⟨B0, 1, none⟩ = some (.int .i64 b) ∧ w''.cell? ⟨B0, 2, none⟩ = some (.int .i64 c) ∧ w''.cell? ⟨B0, 3, none⟩ = some (.int .i64 d) ∧ w''.cell? ⟨B1, 0, none⟩ = some (.int .i64 x) ∧ w''.cell? ⟨B1, 1, none⟩ = some (.int .i64 y) ∧ w''.cell? ⟨B1, 2, none⟩ = some (.int .i64 z) ∧ w''.cell? ⟨B1, 3, none⟩ = some (.int .i64 t) ∧ w''.cell? ⟨B2, 0, none⟩ = some (.int .i64 f) ∧ w''.cell? ⟨B2, 1, none⟩ = some (.int .i64 r) ∧ w''.cell? ⟨B2, 2, none⟩ = some (.int .i64 e) ∧ w''.cell? ⟨B2, 3, none⟩ = some (.int .i64 u) ∧ w''.cell? ⟨B3, 0, none⟩ = some (.int .i64 f) ∧ w''.cell? ⟨B3, 1, none⟩ = some (.int .i64 r) ∧ w''.cell? ⟨B3, 2, none⟩ = some (.int .i64 e) ∧ w''.cell? ⟨B3, 3, none⟩ = some (.int .i64 u) := sKeep h0 h1 h2 h3 h.1 hb
theorem sFin {w W w' : World} {R : Prop} (h : Below w.heap.size w W) (h2 : Below W.heap.size W w' ∧ R) : Below w.heap.size w w' := h.trans (h2.1.mono h.size)
set_option maxHeartbeats 1000000 in
theorem tokens_core (a b c d x y z t v f r e u k : Int) (w : World) (h0 : 0 ≤ v ∧ v < 18446744073709551616)
    (hv : Hid (ofVal v = .agg #[.int .i64 f, .int .i64 r, .int .i64 e, .int .i64 u])) (hk : Hid (ofErr v = k)) :
    Calls Try.prog 9 #[.agg #[.int .i64 a, .int .i64 b, .int .i64 c, .int .i64 d], .agg #[.int .i64 x, .int .i64 y, .int .i64 z, .int .i64 t], .int .u64 v] w fun e w' => e = .returned (.bool true) ∧ Below w.heap.size w w' := by
  go_enter Try.func9, Try.ntmps9
  go_wp2_with fail
  refine (known_any _).mono ?_
  rintro e' w1 ⟨rfl, hb1⟩
  go_wp2_with fail
  refine (of_any v _ h0.1 h0.2).mono ?_
  rw [hv.out, hk.out]
  rintro e' w2 ⟨rfl, hb2⟩
  go_wp2_with fail
  refine (refof_any v _ h0.1 h0.2).mono ?_
  rw [hv.out, hk.out]
  rintro e' w3 ⟨rfl, hb3⟩
  go_wp2_with fail
  have z1 : w.heap.size + 2 ≤ w1.heap.size := by have := hb1.size; simp at this; omega
  have z2 : w1.heap.size ≤ w2.heap.size := hb2.size
  have z3 : w2.heap.size + 1 ≤ w3.heap.size := by have := hb3.size; simp at this; omega
  obtain ⟨W, hW⟩ : ∃ W, W = (w3.alloc (.cells #[.int .i64 f, .int .i64 r, .int .i64 e, .int .i64 u] 70)) := ⟨_, rfl⟩
  have B3 : Below w3.heap.size w3 W := by rw [hW]; exact (Below.refl _ _).alloc (Nat.le_refl _) _
  have k3 : At4 W w3.heap.size f r e u := by rw [hW]; exact At4.new _ _ _ _ _ _
  have k2 : At4 W w2.heap.size f r e u := ((At4.new w2 f r e u 70).below hb3 (by simp)).below B3 (by omega)
  have k1 : At4 W (w.heap.size + 1) x y z t := by
    have := (((((At4.new (w.alloc (.cells #[.int .i64 a, .int .i64 b, .int .i64 c, .int .i64 d] 70)) x y z t 70).below hb1 (by simp)).below hb2 (by simp; omega)).below ((Below.refl w2.heap.size w2).alloc (Nat.le_refl _) _) (by simp; omega)).below hb3 (by simp; omega)).below B3 (by simp; omega)
    simpa using this
  have k0 : At4 W w.heap.size a b c d :=
    ((((((At4.new w a b c d 70).below ((Below.refl _ _).alloc (Nat.le_refl _) _) (by simp)).below hb1 (by simp; omega)).below hb2 (by omega)).below ((Below.refl w2.heap.size w2).alloc (Nat.le_refl _) _) (by omega)).below hb3 (by simp; omega)).below B3 (by omega)
  have hall : Below w.heap.size w W := by
    have h1 := ((((Below.refl w.heap.size w).alloc (Nat.le_refl _) (.cells #[.int .i64 a, .int .i64 b, .int .i64 c, .int .i64 d] 70)).alloc (by simp) (.cells #[.int .i64 x, .int .i64 y, .int .i64 z, .int .i64 t] 70)).trans (hb1.mono (by simp; omega))).trans (hb2.mono (by omega))
    exact ((h1.alloc (by omega) _).trans (hb3.mono (by simp; omega))).trans (B3.mono (by omega))
  rw [← hW]
  clear hb1 hb2 hb3 B3 hW
  go_region_held3 (fun w' => Below W.heap.size W w' ∧ w'.cell? ⟨w.heap.size, 0, none⟩ = some (.int .i64 a) ∧ w'.cell? ⟨w.heap.size, 1, none⟩ = some (.int .i64 b) ∧ w'.cell? ⟨w.heap.size, 2, none⟩ = some (.int .i64 c) ∧ w'.cell? ⟨w.heap.size, 3, none⟩ = some (.int .i64 d) ∧ w'.cell? ⟨(w.heap.size + 1), 0, none⟩ = some (.int .i64 x) ∧ w'.cell? ⟨(w.heap.size + 1), 1, none⟩ = some (.int .i64 y) ∧ w'.cell? ⟨(w.heap.size + 1), 2, none⟩ = some (.int .i64 z) ∧ w'.cell? ⟨(w.heap.size + 1), 3, none⟩ = some (.int .i64 t) ∧ w'.cell? ⟨w2.heap.size, 0, none⟩ = some (.int .i64 f) ∧ w'.cell? ⟨w2.heap.size, 1, none⟩ = some (.int .i64 r) ∧ w'.cell? ⟨w2.heap.size, 2, none⟩ = some (.int .i64 e) ∧ w'.cell? ⟨w2.heap.size, 3, none⟩ = some (.int .i64 u) ∧ w'.cell? ⟨w3.heap.size, 0, none⟩ = some (.int .i64 f) ∧ w'.cell? ⟨w3.heap.size, 1, none⟩ = some (.int .i64 r) ∧ w'.cell? ⟨w3.heap.size, 2, none⟩ = some (.int .i64 e) ∧ w'.cell? ⟨w3.heap.size, 3, none⟩ = some (.int .i64 u))
    (first | exact sKeep k0 k1 k2 k3 (Below.refl _ _) (by (first | exact Below.refl _ _ | exact (Below.refl _ _).drew)) | exact sKeep' k0 k1 k2 k3 (by assumption) (by assumption))
    (first | (go_at_call 44; refine (token_any _ _ _ _ _).mono ?_; rintro e w' ⟨rfl, hbb⟩) | (go_at_call 45; refine (rtoken_any _ _ _ _ _).mono ?_; rintro e w' ⟨rfl, hbb⟩) | (go_at_call 46; refine (less_any _ _ _ _ _ _ _ _ _).mono ?_; rintro e w' ⟨rfl, hbb⟩) | (go_at_call 47; refine (rless_any _ _ _ _ _ _ _ _ _).mono ?_; rintro e w' ⟨rfl, hbb⟩))
  all_goals go_wp2
  all_goals go_ret
  all_goals exact ⟨rfl, sFin hall (by assumption)⟩
theorem ofVal_form (v : Int) : ∃ f r e u, ofVal v = .agg #[.int .i64 f, .int .i64 r, .int .i64 e, .int .i64 u] := by
  unfold ofVal; split <;> exact ⟨_, _, _, _, rfl⟩
theorem tokens (a : Int) (_ : (Lit.int .i64 a).wf = true) (b : Int) (_ : (Lit.int .i64 b).wf = true) (c : Int) (_ : (Lit.int .i64 c).wf = true) (d : Int) (_ : (Lit.int .i64 d).wf = true)
    (x : Int) (_ : (Lit.int .i64 x).wf = true) (y : Int) (_ : (Lit.int .i64 y).wf = true) (z : Int) (_ : (Lit.int .i64 z).wf = true) (t : Int) (_ : (Lit.int .i64 t).wf = true) (v : Int) (wv : (Lit.int .u64 v).wf = true) (w : World) :
    Calls Try.prog 9 #[.agg #[.int .i64 a, .int .i64 b, .int .i64 c, .int .i64 d], .agg #[.int .i64 x, .int .i64 y, .int .i64 z, .int .i64 t], .int .u64 v] w fun e w' => e = .returned (.bool true) ∧ Below w.heap.size w w' := by
  obtain ⟨h0, h1⟩ := bounds_u64 wv
  obtain ⟨f, r, e, u, hf⟩ := ofVal_form v
  exact tokens_core a b c d x y z t v f r e u _ w ⟨h0, by omega⟩ (Lib.hid hf) (Lib.hid rfl)
end Go.Proofs.Ytdodioacjppohaa
