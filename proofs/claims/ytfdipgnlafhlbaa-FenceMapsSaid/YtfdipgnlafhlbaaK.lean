/- The contracts of the reference's map: it reads as the program's own. -/
import Derived.Test.YtfdipgnlafhlbaaG
set_option linter.unusedVariables false
namespace Go.Proofs.Ytfdipgnlafhlbaa
open Go.RowKit
theorem rthere_any (P L U g : Nat) (fr fo un : Nat → Int) (s : Int) (w : World) (h : IsMap w P L U g fr fo un) :
    Calls Try.prog 30 #[.pointer (some ⟨P, 0, none⟩), .int .i64 s] w fun e w' => e = .returned (.bool (isB g s)) ∧ w = w' := by
  have hc := h.c0
  cases hb : isB g s with
  | true =>
    obtain ⟨k, rfl, hk⟩ := isB_yes hb
    clear hb
    go_enter Try.func30, Try.ntmps30
    go_wp2
    go_ret
    exact ⟨ret_b (by simp <;> omega), rfl⟩
  | false =>
    rcases isB_no hb with h0 | ⟨h0, h1⟩
    all_goals
      clear hb
      go_enter Try.func30, Try.ntmps30
      go_wp2
      go_ret
      exact ⟨ret_b (by simp <;> omega), rfl⟩
theorem runtil_any (P L U g : Nat) (fr fo un : Nat → Int) (s : Int) (w : World) (h : IsMap w P L U g fr fo un) :
    Calls Try.prog 28 #[.pointer (some ⟨P, 0, none⟩), .int .i64 s] w fun e w' => e = .returned (.int .i64 (if isB g s = true then un s.toNat else 0)) ∧ w = w' := by
  have hc := h.c1
  have h8 := h.g8
  cases hb : isB g s with
  | true =>
    rw [if_pos rfl]
    obtain ⟨k, rfl, hk⟩ := isB_yes hb
    have hu := h.cu k hk
    go_enter Try.func28, Try.ntmps28
    go_wp2_with (go_at_call 30; refine (rthere_any P L U g fr fo un _ _ h).mono ?_; rintro e w' ⟨rfl, rfl⟩)
    go_ret
    exact ⟨rfl, rfl⟩
  | false =>
    rw [if_neg (by decide)]
    go_enter Try.func28, Try.ntmps28
    go_wp2_with (go_at_call 30; refine (rthere_any P L U g fr fo un _ _ h).mono ?_; rintro e w' ⟨rfl, rfl⟩)
    go_ret
    exact ⟨rfl, rfl⟩
theorem rget_any (P L U g : Nat) (fr fo un : Nat → Int) (s : Int) (w : World) (h : IsMap w P L U g fr fo un) :
    Calls Try.prog 25 #[.pointer (some ⟨P, 0, none⟩), .int .i64 s] w fun e w' => e = .returned (getV g fr fo s) ∧ ∃ o1, w' = w.alloc o1 := by
  have h' : IsMap (w.alloc (.cells #[.int .i64 0, .int .i64 0] 31)) P L U g fr fo un := h.turn (M := fun _ => False) ((Turn.of_below (Below.refl _ _)).alloc _) id id id
  have hc := h.c0
  have hl := h.ll
  have hp := h.lp
  have h8 := h.g8
  unfold getV
  cases hb : isB g s with
  | true =>
    rw [if_pos rfl, if_pos rfl]
    obtain ⟨k, rfl, hk⟩ := isB_yes hb
    have hu := h.cr k hk
    have hv := h.co k hk
    go_enter Try.func25, Try.ntmps25
    go_wp2_with (go_at_call 30; refine (rthere_any P L U g fr fo un _ _ h').mono ?_; rintro e w' ⟨rfl, rfl⟩)
    go_returns
    exact ⟨rfl, _, rfl⟩
  | false =>
    rw [if_neg (by decide), if_neg (by decide)]
    go_enter Try.func25, Try.ntmps25
    go_wp2_with (go_at_call 30; refine (rthere_any P L U g fr fo un _ _ h').mono ?_; rintro e w' ⟨rfl, rfl⟩)
    go_returns
    exact ⟨rfl, _, rfl⟩
theorem make67 (n : Nat) (h1 : 1 ≤ n) (h8 : n ≤ 8) (w : World) : (Instr.makeSlice 67 (.int .i64 (n : Int)) (.int .i64 (n : Int))).run Try.prog w = .ok (.slice (some ⟨w.heap.size, 0, none⟩) n n) (w.alloc (.cells (zeros (2 * n)) 31)) := by
  have : n = 1 ∨ n = 2 ∨ n = 3 ∨ n = 4 ∨ n = 5 ∨ n = 6 ∨ n = 7 ∨ n = 8 := by omega
  rcases this with rfl | rfl | rfl | rfl | rfl | rfl | rfl | rfl <;> (show _ = _; kernel_rfl)
theorem rnewmap_yes (n : Nat) (h1 : 1 ≤ n) (h8 : n ≤ 8) (w : World) : Calls Try.prog 22 #[.int .i64 (n : Int)] w (NewAt w n) := by
  have hm1 := make67 n h1 h8
  have hm2 := make22 n h1 h8
  go_enter Try.func22, Try.ntmps22
  go_wp2
  go_region
  all_goals go_wp2
  · go_ret2
    exact ⟨_, _, _, rfl, newA w n h8 31 69, by go_grown, by omega, by omega, by omega⟩
  · go_ret2
    exact ⟨_, _, _, rfl, newB w n h8 31 69, by go_grown, by omega, by omega, by omega⟩
theorem rnewmap_no (n : Int) (h : n < 1 ∨ (1 ≤ n ∧ 8 < n)) (w : World) : Calls Try.prog 22 #[.int .i64 n] w fun e w' => e = .returned (.tuple #[.pointer none, .int .i64 1]) ∧ w = w' := by
  rcases h with h | ⟨h0, h⟩
  all_goals
    go_enter Try.func22, Try.ntmps22
    go_wp2
    go_ret2
    exact ⟨rfl, rfl⟩
theorem IsMap.same {w : World} {P L U g : Nat} {fr fo un : Nat → Int} (h : IsMap w P L U g fr fo un) (k : Nat) (m : Int) (hm : un k = m) : IsMap w P L U g fr fo (upd un k m) := by
  have : upd un k m = un := by funext s; unfold upd; split <;> simp_all
  rw [this]; exact h
theorem rset_no (P L U g : Nat) (fr fo un : Nat → Int) (s R O : Int) (w : World) (h : IsMap w P L U g fr fo un) (hb : isB g s = false) :
    Calls Try.prog 23 #[.pointer (some ⟨P, 0, none⟩), .int .i64 s, .agg #[.int .i64 R, .int .i64 O]] w fun e w' => e = .returned (.int .i64 2) ∧ Left P L U g fr fo un w w' := by
  have t : Turn (fun b => b = L ∨ b = U) w (w.alloc (.cells #[.int .i64 R, .int .i64 O] 31)) := (Turn.of_below (Below.refl _ _)).alloc _
  have there := rthere_any P L U g fr fo un s _ (h.alloc (.cells #[.int .i64 R, .int .i64 O] 31))
  rw [hb] at there
  go_enter Try.func23, Try.ntmps23
  go_wp2_with (go_at_call 30; refine there.mono ?_; rintro e w' ⟨rfl, rfl⟩)
  go_ret
  exact ⟨rfl, h.alloc _, t⟩
theorem rset_new (P L U g : Nat) (fr fo un : Nat → Int) (k : Nat) (R O : Int) (w : World) (h : IsMap w P L U g fr fo un) (hk : k < g) (x y : Int) (h1 : fr k = x) (h2 : fo k = y) (hlt : ¬ R < x) (hne : ¬ R = x) :
    Calls Try.prog 23 #[.pointer (some ⟨P, 0, none⟩), .int .i64 (k : Int), .agg #[.int .i64 R, .int .i64 O]] w fun e w' => e = .returned (.int .i64 0) ∧ Left P L U g (upd fr k R) (upd fo k O) (upd un k 0) w w' := by
  have tn : Turn (fun b => b = L ∨ b = U) w (w.alloc (.cells #[.int .i64 R, .int .i64 O] 31)) := (Turn.of_below (Below.refl _ _)).alloc _
  have hn : IsMap (w.alloc (.cells #[.int .i64 R, .int .i64 O] 31)) P L U g fr fo un := h.alloc _
  have there := rthere_any P L U g fr fo un k _ hn
  rw [isB_of hk] at there
  have c0 := h.c0
  have c1 := h.c1
  have g1 := h.cr k hk
  have g2 := h.co k hk
  have g3 := h.cu k hk
  rw [h1] at g1
  rw [h2] at g2
  have h8 := h.g8
  have fl := h.fl
  have fu := h.fu
  have pl := h.pl
  have pu := h.pu
  have lU := h.lU
  have lp := h.lp
  have ll := h.ll
  have lu := h.lu
  have hne' : (R != x) = true := by rw [bne_iff_ne]; exact hne
  go_enter Try.func23, Try.ntmps23
  go_wp2_with (go_at_call 30; refine there.mono ?_; rintro e w' ⟨rfl, rfl⟩)
  go_quiet (fail)
  go_wp2
  go_quiet (fail)
  go_wp2
  go_region
  go_wp2
  go_ret
  exact ⟨rfl, ((((hn.drewN _).setU k hk 0).setL k hk R O)).drew, ((((tn.drewN _).setCell (.inl (.inr rfl)) _).setCell (.inl (.inl rfl)) _).setCell (.inl (.inl rfl)) _).drew⟩
theorem rset_low (P L U g : Nat) (fr fo un : Nat → Int) (k : Nat) (R O : Int) (w : World) (h : IsMap w P L U g fr fo un) (hk : k < g) (x y : Int) (h1 : fr k = x) (h2 : fo k = y) (hlt : R < x) :
    Calls Try.prog 23 #[.pointer (some ⟨P, 0, none⟩), .int .i64 (k : Int), .agg #[.int .i64 R, .int .i64 O]] w fun e w' => e = .returned (.int .i64 25) ∧ Left P L U g fr fo un w w' := by
  have tn : Turn (fun b => b = L ∨ b = U) w (w.alloc (.cells #[.int .i64 R, .int .i64 O] 31)) := (Turn.of_below (Below.refl _ _)).alloc _
  have hn : IsMap (w.alloc (.cells #[.int .i64 R, .int .i64 O] 31)) P L U g fr fo un := h.alloc _
  have there := rthere_any P L U g fr fo un k _ hn
  rw [isB_of hk] at there
  have c0 := h.c0
  have c1 := h.c1
  have g1 := h.cr k hk
  have g2 := h.co k hk
  have g3 := h.cu k hk
  rw [h1] at g1
  rw [h2] at g2
  have h8 := h.g8
  have fl := h.fl
  have fu := h.fu
  have pl := h.pl
  have pu := h.pu
  have lU := h.lU
  have lp := h.lp
  have ll := h.ll
  have lu := h.lu
  go_enter Try.func23, Try.ntmps23
  go_wp2_with (go_at_call 30; refine there.mono ?_; rintro e w' ⟨rfl, rfl⟩)
  go_quiet (fail)
  go_wp2
  go_ret
  exact ⟨rfl, hn.drewN _, tn.drewN _⟩
theorem rset_old (P L U g : Nat) (fr fo un : Nat → Int) (k : Nat) (R O : Int) (w : World) (h : IsMap w P L U g fr fo un) (hk : k < g) (x y : Int) (h1 : fr k = x) (h2 : fo k = y) (hR : R = x) :
    Calls Try.prog 23 #[.pointer (some ⟨P, 0, none⟩), .int .i64 (k : Int), .agg #[.int .i64 R, .int .i64 O]] w fun e w' => e = .returned (.int .i64 0) ∧ Left P L U g (upd fr k R) (upd fo k O) un w w' := by
  have tn : Turn (fun b => b = L ∨ b = U) w (w.alloc (.cells #[.int .i64 R, .int .i64 O] 31)) := (Turn.of_below (Below.refl _ _)).alloc _
  have hn : IsMap (w.alloc (.cells #[.int .i64 R, .int .i64 O] 31)) P L U g fr fo un := h.alloc _
  have there := rthere_any P L U g fr fo un k _ hn
  rw [isB_of hk] at there
  have c0 := h.c0
  have c1 := h.c1
  have g1 := h.cr k hk
  have g2 := h.co k hk
  have g3 := h.cu k hk
  rw [h1] at g1
  rw [h2] at g2
  have h8 := h.g8
  have fl := h.fl
  have fu := h.fu
  have pl := h.pl
  have pu := h.pu
  have lU := h.lU
  have lp := h.lp
  have ll := h.ll
  have lu := h.lu
  subst hR
  have q1 : (R != R) = false := by simp
  go_enter Try.func23, Try.ntmps23
  go_wp2_with (go_at_call 30; refine there.mono ?_; rintro e w' ⟨rfl, rfl⟩)
  go_quiet (fail)
  go_wp2
  go_quiet (fail)
  go_wp2
  go_region
  go_wp2
  go_ret
  exact ⟨rfl, (hn.drewN _).setL k hk R O, ((tn.drewN _).setCell (.inl (.inl rfl)) _).setCell (.inl (.inl rfl)) _⟩
theorem rlease_no (P L U g : Nat) (fr fo un : Nat → Int) (s owner now ticks : Int) (w : World) (h : IsMap w P L U g fr fo un) (hb : isB g s = false) :
    Calls Try.prog 24 #[.pointer (some ⟨P, 0, none⟩), .int .i64 s, .int .i64 owner, .int .i64 now, .int .i64 ticks] w fun e w' => e = .returned (.tuple #[.int .i64 0, .int .i64 2]) ∧ Left P L U g fr fo un w w' := by
  have there := rthere_any P L U g fr fo un s _ h
  rw [hb] at there
  go_enter Try.func24, Try.ntmps24
  go_wp2_with (go_at_call 30; refine there.mono ?_; rintro e w' ⟨rfl, rfl⟩)
  go_ret2
  exact ⟨rfl, h, Turn.of_below (Below.refl _ _)⟩
theorem rlease_arg (P L U g : Nat) (fr fo un : Nat → Int) (k : Nat) (owner now ticks : Int) (w : World) (h : IsMap w P L U g fr fo un) (hk : k < g) (x y z : Int) (h1 : fr k = x) (h2 : fo k = y) (h3 : un k = z) (ha : now < 0 ∨ ticks < 1 ∨ 1048576 < ticks ∨ 1099511627776 < now) :
    Calls Try.prog 24 #[.pointer (some ⟨P, 0, none⟩), .int .i64 (k : Int), .int .i64 owner, .int .i64 now, .int .i64 ticks] w fun e w' => e = .returned (.tuple #[.int .i64 0, .int .i64 1]) ∧ Left P L U g fr fo un w w' := by
  have there := rthere_any P L U g fr fo un k _ h
  rw [isB_of hk] at there
  have c0 := h.c0
  have c1 := h.c1
  have g1 := h.cr k hk
  have g2 := h.co k hk
  have g3 := h.cu k hk
  rw [h1] at g1
  rw [h2] at g2
  rw [h3] at g3
  have h8 := h.g8
  have fu := h.fu
  have pu := h.pu
  have lu := h.lu
  have ha' : now < 0 ∨ (0 ≤ now ∧ ticks < 1) ∨ (0 ≤ now ∧ 1 ≤ ticks ∧ 1048576 < ticks) ∨ (0 ≤ now ∧ 1 ≤ ticks ∧ ticks ≤ 1048576 ∧ 1099511627776 < now) := by omega
  clear ha
  rcases ha' with ha | ⟨ha, hb⟩ | ⟨ha, hb, hc⟩ | ⟨ha, hb, hc, hd⟩
  all_goals
    go_enter Try.func24, Try.ntmps24
    go_wp2_with (go_at_call 30; refine there.mono ?_; rintro e w' ⟨rfl, rfl⟩)
    go_ret2
    exact ⟨rfl, h, Turn.of_below (Below.refl _ _)⟩
theorem rlease_fen (P L U g : Nat) (fr fo un : Nat → Int) (k : Nat) (owner now ticks : Int) (w : World) (h : IsMap w P L U g fr fo un) (hk : k < g) (x y z : Int) (h1 : fr k = x) (h2 : fo k = y) (h3 : un k = z) (a1 : 0 ≤ now) (a2 : 1 ≤ ticks) (a3 : ticks ≤ 1048576) (a4 : now ≤ 1099511627776) (hf : ¬ y = owner ∨ x = 0) :
    Calls Try.prog 24 #[.pointer (some ⟨P, 0, none⟩), .int .i64 (k : Int), .int .i64 owner, .int .i64 now, .int .i64 ticks] w fun e w' => e = .returned (.tuple #[.int .i64 0, .int .i64 25]) ∧ Left P L U g fr fo un w w' := by
  have there := rthere_any P L U g fr fo un k _ h
  rw [isB_of hk] at there
  have c0 := h.c0
  have c1 := h.c1
  have g1 := h.cr k hk
  have g2 := h.co k hk
  have g3 := h.cu k hk
  rw [h1] at g1
  rw [h2] at g2
  rw [h3] at g3
  have h8 := h.g8
  have fu := h.fu
  have pu := h.pu
  have lu := h.lu
  have hf' : (x == 0) = true ∨ ((x == 0) = false ∧ (y != owner) = true) := by
    by_cases e : x = 0
    · left; exact beq_iff_eq.2 e
    · right; exact ⟨beq_eq_false_iff_ne.2 e, by rw [bne_iff_ne]; omega⟩
  clear hf
  rcases hf' with hf | ⟨hf, hg⟩
  all_goals
    go_enter Try.func24, Try.ntmps24
    go_wp2_with (go_at_call 30; refine there.mono ?_; rintro e w' ⟨rfl, rfl⟩)
    go_ret2
    exact ⟨rfl, h, Turn.of_below (Below.refl _ _)⟩
theorem rlease_yes (P L U g : Nat) (fr fo un : Nat → Int) (k : Nat) (owner now ticks : Int) (w : World) (h : IsMap w P L U g fr fo un) (hk : k < g) (x y z : Int) (h1 : fr k = x) (h2 : fo k = y) (h3 : un k = z) (a1 : 0 ≤ now) (a2 : 1 ≤ ticks) (a3 : ticks ≤ 1048576) (a4 : now ≤ 1099511627776) (hy : y = owner) (hx : ¬ x = 0) (m : Int) (hm : (m = z ∧ now + ticks ≤ z) ∨ (m = now + ticks ∧ z < now + ticks)) :
    Calls Try.prog 24 #[.pointer (some ⟨P, 0, none⟩), .int .i64 (k : Int), .int .i64 owner, .int .i64 now, .int .i64 ticks] w fun e w' => e = .returned (.tuple #[.int .i64 m, .int .i64 0]) ∧ Left P L U g fr fo (upd un k m) w w' := by
  have there := rthere_any P L U g fr fo un k _ h
  rw [isB_of hk] at there
  have c0 := h.c0
  have c1 := h.c1
  have g1 := h.cr k hk
  have g2 := h.co k hk
  have g3 := h.cu k hk
  rw [h1] at g1
  rw [h2] at g2
  rw [h3] at g3
  have h8 := h.g8
  have fu := h.fu
  have pu := h.pu
  have lu := h.lu
  subst hy
  have q1 : (y != y) = false := by simp
  have q2 : (x == 0) = false := beq_eq_false_iff_ne.2 hx
  rcases hm with ⟨rfl, hm⟩ | ⟨rfl, hm⟩
  · go_enter Try.func24, Try.ntmps24
    go_wp2_with (go_at_call 30; refine there.mono ?_; rintro e w' ⟨rfl, rfl⟩)
    go_ret2
    exact ⟨rfl, h.same k m h3, Turn.of_below (Below.refl _ _)⟩
  · go_enter Try.func24, Try.ntmps24
    go_wp2_with (go_at_call 30; refine there.mono ?_; rintro e w' ⟨rfl, rfl⟩)
    go_ret2
    exact ⟨rfl, h.setU k hk _, (Turn.of_below (M := fun b => b = L ∨ b = U) (Below.refl _ _)).setCell (p := ⟨U, k, none⟩) (.inl (.inr rfl)) _⟩
end Go.Proofs.Ytfdipgnlafhlbaa
