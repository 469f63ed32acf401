/- The walk of IdsBack. -/
import Derived.Test.YtdodioacjppohaaIdsI
set_option linter.unusedVariables false
namespace Go.Proofs.Ytdodioacjppohaa
open Go.RowKit
/-- a token's number leads back to it -/
theorem tok_back {f r e t : Int} (h : tokB f r e t = true) : 0 < tokF f r e t ∧ tokF f r e t < 18446744073709551616 ∧ ofVal (tokF f r e t) = .agg #[.int .i64 f, .int .i64 r, .int .i64 e, .int .i64 t] ∧ ofErr (tokF f r e t) = 0 := by
  have H := h
  unfold tokB at H
  simp only [Bool.and_eq_true, Bool.not_eq_true', Bool.and_eq_false_iff, beq_eq_false_iff_ne] at H
  obtain ⟨⟨⟨⟨h1, h2⟩, h3⟩, h4⟩, h5⟩ := H
  obtain ⟨a1, a2⟩ := fits20 h1
  obtain ⟨b1, b2⟩ := fits16 h2
  obtain ⟨c1, c2⟩ := fits16 h3
  obtain ⟨d1, d2⟩ := fits12 h4
  have hv : tokF f r e t = ((f * 65536 + r) * 65536 + e) * 4096 + t := by unfold tokF; rw [if_pos h]
  have e1 : ofFlow (tokF f r e t) = f := by rw [hv]; unfold ofFlow; omega
  have e2 : ofRun (tokF f r e t) = r := by rw [hv]; unfold ofRun; omega
  have e3 : ofEvent (tokF f r e t) = e := by rw [hv]; unfold ofEvent; omega
  have e4 : ofTurn (tokF f r e t) = t := by rw [hv]; unfold ofTurn; omega
  have hB : ofB (tokF f r e t) = true := by
    unfold ofB; rw [e1, e2]
    rcases h5 with h5 | h5
    · rw [beq_eq_false_iff_ne.2 h5]; rfl
    · rw [beq_eq_false_iff_ne.2 h5]; simp
  refine ⟨by rw [hv]; omega, by rw [hv]; omega, ?_, ?_⟩
  · unfold ofVal; rw [if_pos hB, e1, e2, e3, e4]
  · unfold ofErr; rw [if_pos hB]
theorem tok_less {f r e t x y z u : Int} (h : tokB f r e t = true) (h' : tokB x y z u = true) : decide (tokF f r e t < tokF x y z u) = lessB f r e t x y z u := by
  have hv : tokF f r e t = ((f * 65536 + r) * 65536 + e) * 4096 + t := by unfold tokF; rw [if_pos h]
  have hv' : tokF x y z u = ((x * 65536 + y) * 65536 + z) * 4096 + u := by unfold tokF; rw [if_pos h']
  unfold tokB at h h'
  simp only [Bool.and_eq_true] at h h'
  obtain ⟨⟨⟨⟨h1, h2⟩, h3⟩, h4⟩, h5⟩ := h
  obtain ⟨⟨⟨⟨g1, g2⟩, g3⟩, g4⟩, g5⟩ := h'
  obtain ⟨a1, a2⟩ := fits20 h1
  obtain ⟨b1, b2⟩ := fits16 h2
  obtain ⟨c1, c2⟩ := fits16 h3
  obtain ⟨d1, d2⟩ := fits12 h4
  obtain ⟨i1, i2⟩ := fits20 g1
  obtain ⟨j1, j2⟩ := fits16 g2
  obtain ⟨k1, k2⟩ := fits16 g3
  obtain ⟨l1, l2⟩ := fits12 g4
  rw [hv, hv']
  unfold lessB
  split
  · split
    · split
      · rw [decide_eq_decide]; omega
      · rw [decide_eq_decide]; omega
    · rw [decide_eq_decide]; omega
  · rw [decide_eq_decide]; omega
theorem tok_zero {f r e t : Int} (h : tokB f r e t = false) : tokF f r e t = 0 := by unfold tokF; rw [if_neg (by rw [h]; decide)]
theorem block_ok (r s at_ : Int) (h0 : 0 ≤ r) (hs : rightB s = true) (h1 : r ≤ 1099511627776) (h2 : 0 ≤ at_) : ownerF (r * s + at_ % s) s = (r, 0) := by
  obtain ⟨s1, s2⟩ := rightB_iff hs
  obtain ⟨m1, m2⟩ := mul_rng r s h0 h1 s1 s2
  have k0 : 0 ≤ at_ % s := Int.emod_nonneg _ (by omega)
  have k1 : at_ % s < s := Int.emod_lt_of_pos _ (by omega)
  have e : (r * s + at_ % s) / s = r := by
    rw [Int.add_comm, Int.add_mul_ediv_right _ _ (by omega), Int.ediv_eq_zero_of_lt k0 k1, Int.zero_add]
  unfold ownerF
  rw [e, if_neg (by simp [hs]; omega)]
/-- the part on the tokens: what may come before region 11 -/
def TokCase (X Y a b c d x y z t : Int) : Prop := ((X != 0) = false ∨ ((X != 0) = true ∧ 0 ≤ X ∧ X < 18446744073709551616 ∧ Hid (ofVal X = .agg #[.int .i64 a, .int .i64 b, .int .i64 c, .int .i64 d]) ∧ Hid (ofErr X = 0) ∧
    ((Y != 0) = false ∨ ((Y != 0) = true ∧ Hid (decide (X < Y) = lessB a b c d x y z t)))))
theorem tokCase (a b c d x y z t : Int) : TokCase (tokF a b c d) (tokF x y z t) a b c d x y z t := by
  unfold TokCase
  cases h : tokB a b c d with
  | false => left; rw [tok_zero h]; rfl
  | true =>
    right
    obtain ⟨h1, h2, h3, h4⟩ := tok_back h
    refine ⟨by rw [bne_iff_ne]; omega, by omega, h2, Lib.hid h3, Lib.hid h4, ?_⟩
    cases h' : tokB x y z t with
    | false => left; rw [tok_zero h']; rfl
    | true =>
      right
      obtain ⟨g1, _⟩ := tok_back h'
      exact ⟨by rw [bne_iff_ne]; omega, Lib.hid (tok_less h h')⟩
def BlockCase (r s at_ A B k : Int) : Prop := (A = 0 ∧ B = 0 ∧ k = 1) ∨ (k = 0 ∧ 0 ≤ A ∧ A ≤ 1152921504606846976 ∧ B = A + s ∧ 1 ≤ s ∧ s ≤ 1048576 ∧ (at_ < 0 ∨ (0 ≤ at_ ∧ 0 ≤ at_ % s ∧ at_ % s < s ∧ Hid (ownerF (A + at_ % s) s = (r, 0)))))
theorem blockCase (r s at_ : Int) : BlockCase r s at_ (blockF r s).1 (blockF r s).2.1 (blockF r s).2.2 := by
  unfold BlockCase blockF
  split
  · left; exact ⟨rfl, rfl, rfl⟩
  · rename_i h
    right
    simp only [not_or, Bool.not_eq_false] at h
    obtain ⟨h0, hs, h1⟩ := h
    obtain ⟨s1, s2⟩ := rightB_iff hs
    obtain ⟨m1, m2⟩ := mul_rng r s (by omega) (by omega) s1 s2
    refine ⟨rfl, m1, m2, by rw [Int.add_mul, Int.one_mul], s1, s2, ?_⟩
    by_cases ha : at_ < 0
    · exact .inl ha
    · exact .inr ⟨by omega, Int.emod_nonneg _ (by omega), Int.emod_lt_of_pos _ (by omega), Lib.hid (block_ok r s at_ (by omega) hs (by omega) (by omega))⟩
theorem token_as (a b c d X : Int) (hX : Hid (tokF a b c d = X)) (w : World) :
    Calls Try.prog 44 #[.agg #[.int .i64 a, .int .i64 b, .int .i64 c, .int .i64 d]] w fun e' w' => e' = .returned (.int .u64 X) ∧ Below w.heap.size w w' := by
  rw [← hX.out]; exact token_any a b c d w
theorem less_as (a b c d x y z t X Y : Int) (h : Hid (decide (X < Y) = lessB a b c d x y z t)) (w : World) :
    Calls Try.prog 46 #[.agg #[.int .i64 a, .int .i64 b, .int .i64 c, .int .i64 d], .agg #[.int .i64 x, .int .i64 y, .int .i64 z, .int .i64 t]] w fun e' w' => e' = .returned (.bool (decide (X < Y))) ∧ Below w.heap.size w w' := by
  rw [h.out]; exact less_any a b c d x y z t w
theorem of_as (X a b c d : Int) (h1 : 0 ≤ X) (h2 : X < 18446744073709551616) (h3 : Hid (ofVal X = .agg #[.int .i64 a, .int .i64 b, .int .i64 c, .int .i64 d])) (h4 : Hid (ofErr X = 0)) (w : World) :
    Calls Try.prog 42 #[.int .u64 X] w fun e w' => e = .returned (.tuple #[.agg #[.int .i64 a, .int .i64 b, .int .i64 c, .int .i64 d], .int .i64 0]) ∧ Below w.heap.size w w' := by
  rw [← h3.out, ← h4.out]; exact of_any X w h1 h2
theorem block_as (r s A B k : Int) (hA : Hid ((blockF r s).1 = A)) (hB : Hid ((blockF r s).2.1 = B)) (hk : Hid ((blockF r s).2.2 = k)) (w : World) :
    Calls Try.prog 29 #[.int .i64 r, .int .i64 s] w fun e w' => e = .returned (.tuple #[.int .i64 A, .int .i64 B, .int .i64 k]) ∧ w = w' := by
  rw [← hA.out, ← hB.out, ← hk.out]; exact block_any r s w
theorem owner_as (i s r : Int) (h : Hid (ownerF i s = (r, 0))) (hi : i ≤ 9223372036854775807) (w : World) :
    Calls Try.prog 31 #[.int .i64 i, .int .i64 s] w fun e w' => e = .returned (.tuple #[.int .i64 r, .int .i64 0]) ∧ w = w' := by
  have := owner_any i s w hi
  rw [h.out] at this; exact this
set_option maxHeartbeats 1000000 in
theorem back_core (X Y a b c d x y z t r s at_ A B k : Int) (w : World) (hX : Hid (tokF a b c d = X)) (hY : Hid (tokF x y z t = Y)) (hA : Hid ((blockF r s).1 = A)) (hB : Hid ((blockF r s).2.1 = B)) (hk : Hid ((blockF r s).2.2 = k))
    (hT : TokCase X Y a b c d x y z t) (hC : BlockCase r s at_ A B k) :
    Calls Try.prog 11 #[.agg #[.int .i64 a, .int .i64 b, .int .i64 c, .int .i64 d], .agg #[.int .i64 x, .int .i64 y, .int .i64 z, .int .i64 t], .int .i64 r, .int .i64 s, .int .i64 at_] w fun e w' => e = .returned (.bool true) ∧ Below w.heap.size w w' := by
  unfold TokCase at hT
  unfold BlockCase at hC
  rcases hT with x0 | ⟨x0, x1, x2, x3, x4, y0 | ⟨y0, y1⟩⟩
  · go_enter Try.func11, Try.ntmps11
    go_wp2_with fail
    refine (known_any _).mono ?_
    rintro e' w1 ⟨rfl, hb1⟩
    have z1 : w.heap.size + 2 ≤ w1.heap.size := by have := hb1.size; simp at this; omega
    have p1 : Below w.heap.size w w1 := (((Below.refl w.heap.size w).alloc (Nat.le_refl _) (.cells #[.int .i64 a, .int .i64 b, .int .i64 c, .int .i64 d] 70)).alloc (by simp) (.cells #[.int .i64 x, .int .i64 y, .int .i64 z, .int .i64 t] 70)).trans (hb1.mono (by simp; omega))
    obtain ⟨hc, _⟩ := bcell hb1
    have c0 := fun o => hc w.heap.size o (by simp; omega)
    have c1 := fun o => hc (w.heap.size + 1) o (by simp)
    clear hc hb1
    go_wp2_with fail
    refine (token_as _ _ _ _ X hX _).mono ?_
    rintro e' w2 ⟨rfl, hb2⟩
    have d0 := fun o => (hb2.cell (p := ⟨w.heap.size, o, none⟩) (by simp; omega)).trans (c0 o)
    have d1 := fun o => (hb2.cell (p := ⟨w.heap.size + 1, o, none⟩) (by simp; omega)).trans (c1 o)
    have z2 : w1.heap.size ≤ w2.heap.size := hb2.size
    have p2 : Below w.heap.size w w2 := p1.trans (hb2.mono (by omega))
    clear c0 c1 hb2 p1
    go_wp2_with fail
    refine (token_as _ _ _ _ Y hY _).mono ?_
    rintro e' w3 ⟨rfl, hb3⟩
    have e0 := fun o => (hb3.cell (p := ⟨w.heap.size, o, none⟩) (by simp; omega)).trans (d0 o)
    have e1 := fun o => (hb3.cell (p := ⟨w.heap.size + 1, o, none⟩) (by simp; omega)).trans (d1 o)
    have z3 : w2.heap.size ≤ w3.heap.size := hb3.size
    have p3 : Below w.heap.size w w3 := p2.trans (hb3.mono (by omega))
    clear d0 d1 hb3 p2
    go_wp2_with fail
    refine (block_as r s A B k hA hB hk _).mono ?_
    rintro e' w' ⟨rfl, rfl⟩
    clear hA hB hk
    rcases hC with ⟨rfl, rfl, rfl⟩ | ⟨rfl, g1, g2, rfl, g3, g4, g5 | ⟨g5, g6, g7, g8⟩⟩
    · go_wp2
      go_ret
      exact ⟨rfl, p3⟩
    · have q : (A + s - A == s) = true := by rw [beq_iff_eq]; omega
      go_wp2
      go_ret
      exact ⟨rfl, p3⟩
    · have q : (A + s - A == s) = true := by rw [beq_iff_eq]; omega
      have hne : (s == 0) = false := by rw [beq_eq_false_iff_ne]; omega
      go_wp2_with (go_at_call 31; refine (owner_as _ s r g8 (by omega) _).mono ?_; rintro e' w' ⟨rfl, rfl⟩)
      go_ret
      exact ⟨rfl, p3⟩
  · go_enter Try.func11, Try.ntmps11
    go_wp2_with fail
    refine (known_any _).mono ?_
    rintro e' w1 ⟨rfl, hb1⟩
    have z1 : w.heap.size + 2 ≤ w1.heap.size := by have := hb1.size; simp at this; omega
    have p1 : Below w.heap.size w w1 := (((Below.refl w.heap.size w).alloc (Nat.le_refl _) (.cells #[.int .i64 a, .int .i64 b, .int .i64 c, .int .i64 d] 70)).alloc (by simp) (.cells #[.int .i64 x, .int .i64 y, .int .i64 z, .int .i64 t] 70)).trans (hb1.mono (by simp; omega))
    obtain ⟨hc, _⟩ := bcell hb1
    have c0 := fun o => hc w.heap.size o (by simp; omega)
    have c1 := fun o => hc (w.heap.size + 1) o (by simp)
    clear hc hb1
    go_wp2_with fail
    refine (token_as _ _ _ _ X hX _).mono ?_
    rintro e' w2 ⟨rfl, hb2⟩
    have d0 := fun o => (hb2.cell (p := ⟨w.heap.size, o, none⟩) (by simp; omega)).trans (c0 o)
    have d1 := fun o => (hb2.cell (p := ⟨w.heap.size + 1, o, none⟩) (by simp; omega)).trans (c1 o)
    have z2 : w1.heap.size ≤ w2.heap.size := hb2.size
    have p2 : Below w.heap.size w w2 := p1.trans (hb2.mono (by omega))
    clear c0 c1 hb2 p1
    go_wp2_with fail
    refine (token_as _ _ _ _ Y hY _).mono ?_
    rintro e' w3 ⟨rfl, hb3⟩
    have e0 := fun o => (hb3.cell (p := ⟨w.heap.size, o, none⟩) (by simp; omega)).trans (d0 o)
    have e1 := fun o => (hb3.cell (p := ⟨w.heap.size + 1, o, none⟩) (by simp; omega)).trans (d1 o)
    have z3 : w2.heap.size ≤ w3.heap.size := hb3.size
    have p3 : Below w.heap.size w w3 := p2.trans (hb3.mono (by omega))
    clear d0 d1 hb3 p2
    go_wp2_with fail
    refine (of_as X a b c d x1 x2 x3 x4 _).mono ?_
    rintro e' w4 ⟨rfl, hb4⟩
    have f0 := fun o => (hb4.cell (p := ⟨w.heap.size, o, none⟩) (by simp; omega)).trans (e0 o)
    have f1 := fun o => (hb4.cell (p := ⟨w.heap.size + 1, o, none⟩) (by simp; omega)).trans (e1 o)
    have z4 : w.heap.size + 2 ≤ w4.heap.size := by have := hb4.size; omega
    have n4 : w.heap.size < w4.heap.size := by omega
    have m4 : w.heap.size + 1 < w4.heap.size := by omega
    have p4 : Below w.heap.size w w4 := p3.trans (hb4.mono (by omega))
    clear e0 e1 hb4 p3
    go_wp2_with fail
    refine (block_as r s A B k hA hB hk _).mono ?_
    rintro e' w' ⟨rfl, rfl⟩
    clear hA hB hk
    rcases hC with ⟨rfl, rfl, rfl⟩ | ⟨rfl, g1, g2, rfl, g3, g4, g5 | ⟨g5, g6, g7, g8⟩⟩
    · go_wp2
      go_ret
      exact ⟨rfl, p4.alloc (by omega) _⟩
    · have q : (A + s - A == s) = true := by rw [beq_iff_eq]; omega
      go_wp2
      go_ret
      exact ⟨rfl, p4.alloc (by omega) _⟩
    · have q : (A + s - A == s) = true := by rw [beq_iff_eq]; omega
      have hne : (s == 0) = false := by rw [beq_eq_false_iff_ne]; omega
      go_wp2_with (go_at_call 31; refine (owner_as _ s r g8 (by omega) _).mono ?_; rintro e' w' ⟨rfl, rfl⟩)
      go_ret
      exact ⟨rfl, p4.alloc (by omega) _⟩
  · go_enter Try.func11, Try.ntmps11
    go_wp2_with fail
    refine (known_any _).mono ?_
    rintro e' w1 ⟨rfl, hb1⟩
    have z1 : w.heap.size + 2 ≤ w1.heap.size := by have := hb1.size; simp at this; omega
    have p1 : Below w.heap.size w w1 := (((Below.refl w.heap.size w).alloc (Nat.le_refl _) (.cells #[.int .i64 a, .int .i64 b, .int .i64 c, .int .i64 d] 70)).alloc (by simp) (.cells #[.int .i64 x, .int .i64 y, .int .i64 z, .int .i64 t] 70)).trans (hb1.mono (by simp; omega))
    obtain ⟨hc, _⟩ := bcell hb1
    have c0 := fun o => hc w.heap.size o (by simp; omega)
    have c1 := fun o => hc (w.heap.size + 1) o (by simp)
    clear hc hb1
    go_wp2_with fail
    refine (token_as _ _ _ _ X hX _).mono ?_
    rintro e' w2 ⟨rfl, hb2⟩
    have d0 := fun o => (hb2.cell (p := ⟨w.heap.size, o, none⟩) (by simp; omega)).trans (c0 o)
    have d1 := fun o => (hb2.cell (p := ⟨w.heap.size + 1, o, none⟩) (by simp; omega)).trans (c1 o)
    have z2 : w1.heap.size ≤ w2.heap.size := hb2.size
    have p2 : Below w.heap.size w w2 := p1.trans (hb2.mono (by omega))
    clear c0 c1 hb2 p1
    go_wp2_with fail
    refine (token_as _ _ _ _ Y hY _).mono ?_
    rintro e' w3 ⟨rfl, hb3⟩
    have e0 := fun o => (hb3.cell (p := ⟨w.heap.size, o, none⟩) (by simp; omega)).trans (d0 o)
    have e1 := fun o => (hb3.cell (p := ⟨w.heap.size + 1, o, none⟩) (by simp; omega)).trans (d1 o)
    have z3 : w2.heap.size ≤ w3.heap.size := hb3.size
    have p3 : Below w.heap.size w w3 := p2.trans (hb3.mono (by omega))
    clear d0 d1 hb3 p2
    go_wp2_with fail
    refine (of_as X a b c d x1 x2 x3 x4 _).mono ?_
    rintro e' w4 ⟨rfl, hb4⟩
    have f0 := fun o => (hb4.cell (p := ⟨w.heap.size, o, none⟩) (by simp; omega)).trans (e0 o)
    have f1 := fun o => (hb4.cell (p := ⟨w.heap.size + 1, o, none⟩) (by simp; omega)).trans (e1 o)
    have z4 : w.heap.size + 2 ≤ w4.heap.size := by have := hb4.size; omega
    have n4 : w.heap.size < w4.heap.size := by omega
    have m4 : w.heap.size + 1 < w4.heap.size := by omega
    have p4 : Below w.heap.size w w4 := p3.trans (hb4.mono (by omega))
    clear e0 e1 hb4 p3
    go_wp2_with fail
    refine (less_as _ _ _ _ _ _ _ _ X Y y1 _).mono ?_
    rintro e' w5 ⟨rfl, hb5⟩
    have z5 : w4.heap.size + 1 ≤ w5.heap.size := by have := hb5.size; simp at this; omega
    have p5 : Below w.heap.size w w5 := (p4.alloc (by omega) _).trans (hb5.mono (by simp; omega))
    clear f0 f1 hb5 p4
    go_wp2_with fail
    refine (block_as r s A B k hA hB hk _).mono ?_
    rintro e' w' ⟨rfl, rfl⟩
    clear hA hB hk
    rcases hC with ⟨rfl, rfl, rfl⟩ | ⟨rfl, g1, g2, rfl, g3, g4, g5 | ⟨g5, g6, g7, g8⟩⟩
    · go_wp2
      go_ret
      exact ⟨rfl, p5⟩
    · have q : (A + s - A == s) = true := by rw [beq_iff_eq]; omega
      go_wp2
      go_ret
      exact ⟨rfl, p5⟩
    · have q : (A + s - A == s) = true := by rw [beq_iff_eq]; omega
      have hne : (s == 0) = false := by rw [beq_eq_false_iff_ne]; omega
      go_wp2_with (go_at_call 31; refine (owner_as _ s r g8 (by omega) _).mono ?_; rintro e' w' ⟨rfl, rfl⟩)
      go_ret
      exact ⟨rfl, p5⟩
theorem back (a : Int) (_ : (Lit.int .i64 a).wf = true) (b : Int) (_ : (Lit.int .i64 b).wf = true) (c : Int) (_ : (Lit.int .i64 c).wf = true) (d : Int) (_ : (Lit.int .i64 d).wf = true)
    (x : Int) (_ : (Lit.int .i64 x).wf = true) (y : Int) (_ : (Lit.int .i64 y).wf = true) (z : Int) (_ : (Lit.int .i64 z).wf = true) (t : Int) (_ : (Lit.int .i64 t).wf = true)
    (r : Int) (_ : (Lit.int .i64 r).wf = true) (s : Int) (_ : (Lit.int .i64 s).wf = true) (at_ : Int) (_ : (Lit.int .i64 at_).wf = true) (w : World) :
    Calls Try.prog 11 #[.agg #[.int .i64 a, .int .i64 b, .int .i64 c, .int .i64 d], .agg #[.int .i64 x, .int .i64 y, .int .i64 z, .int .i64 t], .int .i64 r, .int .i64 s, .int .i64 at_] w fun e w' => e = .returned (.bool true) ∧ Below w.heap.size w w' :=
  back_core _ _ a b c d x y z t r s at_ _ _ _ w (Lib.hid rfl) (Lib.hid rfl) (Lib.hid rfl) (Lib.hid rfl) (Lib.hid rfl) (tokCase a b c d x y z t) (blockCase r s at_)
end Go.Proofs.Ytdodioacjppohaa
