/- The contract of Lease. -/
import Derived.Test.YtfdipgnlafhlbaaF
set_option linter.unusedVariables false
namespace Go.Proofs.Ytfdipgnlafhlbaa
open Go.RowKit
theorem isB_of {g k : Nat} (hk : k < g) : isB g (k : Int) = true := by unfold isB; simp; omega
theorem get_no (P L U g : Nat) (fr fo un : Nat → Int) (s : Int) (w : World) (h : IsMap w P L U g fr fo un) (hb : isB g s = false) :
    Calls Try.prog 19 #[.pointer (some ⟨P, 0, none⟩), .int .i64 s] w fun e w' => e = .returned (.tuple #[.agg #[.int .i64 0, .int .i64 0], .bool false]) ∧ ∃ o1, w' = w.alloc o1 := by
  have := get_any P L U g fr fo un s w h
  unfold getV at this; rw [hb] at this; exact this
theorem get_yes (P L U g : Nat) (fr fo un : Nat → Int) (k : Nat) (x y : Int) (w : World) (h : IsMap w P L U g fr fo un) (hk : k < g) (h1 : fr k = x) (h2 : fo k = y) :
    Calls Try.prog 19 #[.pointer (some ⟨P, 0, none⟩), .int .i64 (k : Int)] w fun e w' => e = .returned (.tuple #[.agg #[.int .i64 x, .int .i64 y], .bool true]) ∧ ∃ o1, w' = w.alloc o1 := by
  have := get_any P L U g fr fo un k w h
  unfold getV at this; rw [isB_of hk, if_pos rfl, if_pos rfl, Int.toNat_natCast, h1, h2] at this; exact this
theorem lease_no (P L U g : Nat) (fr fo un : Nat → Int) (s owner now ticks : Int) (w : World) (h : IsMap w P L U g fr fo un) (hb : isB g s = false) :
    Calls Try.prog 21 #[.pointer (some ⟨P, 0, none⟩), .int .i64 s, .int .i64 owner, .int .i64 now, .int .i64 ticks] w fun e w' => e = .returned (.tuple #[.int .i64 0, .int .i64 2]) ∧ Left P L U g fr fo un w w' := by
  go_enter Try.func21, Try.ntmps21
  go_wp2_with (go_at_call 19; refine (get_no P L U g fr fo un s _ h hb).mono ?_; rintro e w' ⟨rfl, o1, rfl⟩)
  go_ret2
  exact ⟨rfl, (h.alloc _).alloc _, ((Turn.of_below (Below.refl _ _)).alloc _).alloc _⟩
theorem lease_arg (P L U g : Nat) (fr fo un : Nat → Int) (k : Nat) (owner now ticks : Int) (w : World) (h : IsMap w P L U g fr fo un) (hk : k < g) (x y z : Int) (h1 : fr k = x) (h2 : fo k = y) (h3 : un k = z) (ha : now < 0 ∨ ticks < 1 ∨ 1048576 < ticks ∨ 1099511627776 < now) :
    Calls Try.prog 21 #[.pointer (some ⟨P, 0, none⟩), .int .i64 (k : Int), .int .i64 owner, .int .i64 now, .int .i64 ticks] w fun e w' => e = .returned (.tuple #[.int .i64 0, .int .i64 1]) ∧ Left P L U g fr fo un w w' := by
  have get := get_yes P L U g fr fo un k x y w h hk h1 h2
  have ha' : now < 0 ∨ (0 ≤ now ∧ ticks < 1) ∨ (0 ≤ now ∧ 1 ≤ ticks ∧ 1048576 < ticks) ∨ (0 ≤ now ∧ 1 ≤ ticks ∧ ticks ≤ 1048576 ∧ 1099511627776 < now) := by omega
  clear ha
  rcases ha' with ha | ⟨ha, hb⟩ | ⟨ha, hb, hc⟩ | ⟨ha, hb, hc, hd⟩
  all_goals
    go_enter Try.func21, Try.ntmps21
    go_wp2_with (go_at_call 19; refine get.mono ?_; rintro e w' ⟨rfl, o1, rfl⟩)
    go_ret2
    exact ⟨rfl, (h.alloc _).alloc _, ((Turn.of_below (Below.refl _ _)).alloc _).alloc _⟩
theorem lease_fen (P L U g : Nat) (fr fo un : Nat → Int) (k : Nat) (owner now ticks : Int) (w : World) (h : IsMap w P L U g fr fo un) (hk : k < g) (x y z : Int) (h1 : fr k = x) (h2 : fo k = y) (h3 : un k = z) (a1 : 0 ≤ now) (a2 : 1 ≤ ticks) (a3 : ticks ≤ 1048576) (a4 : now ≤ 1099511627776) (hf : ¬ y = owner ∨ x = 0) :
    Calls Try.prog 21 #[.pointer (some ⟨P, 0, none⟩), .int .i64 (k : Int), .int .i64 owner, .int .i64 now, .int .i64 ticks] w fun e w' => e = .returned (.tuple #[.int .i64 0, .int .i64 25]) ∧ Left P L U g fr fo un w w' := by
  have get := get_yes P L U g fr fo un k x y w h hk h1 h2
  have hf' : (y != owner) = true ∨ ((y != owner) = false ∧ (x == 0) = true) := by
    by_cases e : y = owner
    · right; exact ⟨by rw [e]; simp, beq_iff_eq.2 (by omega)⟩
    · left; rw [bne_iff_ne]; exact e
  clear hf
  rcases hf' with hf | ⟨hf, hg⟩
  all_goals
    go_enter Try.func21, Try.ntmps21
    go_wp2_with (go_at_call 19; refine get.mono ?_; rintro e w' ⟨rfl, o1, rfl⟩)
    go_ret2
    exact ⟨rfl, (h.alloc _).alloc _, ((Turn.of_below (Below.refl _ _)).alloc _).alloc _⟩
theorem lease_yes (P L U g : Nat) (fr fo un : Nat → Int) (k : Nat) (owner now ticks : Int) (w : World) (h : IsMap w P L U g fr fo un) (hk : k < g) (x y z : Int) (h1 : fr k = x) (h2 : fo k = y) (h3 : un k = z) (a1 : 0 ≤ now) (a2 : 1 ≤ ticks) (a3 : ticks ≤ 1048576) (a4 : now ≤ 1099511627776) (hy : y = owner) (hx : ¬ x = 0) (m : Int) (hm : (m = z ∧ now + ticks ≤ z) ∨ (m = now + ticks ∧ z < now + ticks)) :
    Calls Try.prog 21 #[.pointer (some ⟨P, 0, none⟩), .int .i64 (k : Int), .int .i64 owner, .int .i64 now, .int .i64 ticks] w fun e w' => e = .returned (.tuple #[.int .i64 m, .int .i64 0]) ∧ Left P L U g fr fo (upd un k m) w w' := by
  have get := get_yes P L U g fr fo un k x y w h hk h1 h2
  subst hy
  have q1 : (y != y) = false := by simp
  have q2 : (x == 0) = false := beq_eq_false_iff_ne.2 hx
  have c1 := h.c1
  have g3 := h.cu k hk
  rw [h3] at g3
  have h8 := h.g8
  have fu := h.fu
  have pu := h.pu
  have lp := h.lp
  have lu := h.lu
  rcases hm with ⟨rfl, hm⟩ | ⟨rfl, hm⟩
  all_goals
    go_enter Try.func21, Try.ntmps21
    go_wp2_with (go_at_call 19; refine get.mono ?_; rintro e w' ⟨rfl, o1, rfl⟩)
    go_region
    all_goals go_wp2
    all_goals go_ret2
    all_goals exact ⟨rfl, (((h.setU k hk _).alloc _).alloc _).drew, (((((Turn.of_below (M := fun b => b = L ∨ b = U) (Below.refl _ _)).setCell (p := ⟨U, k, none⟩) (.inl (.inr rfl)) _).alloc _).alloc _)).drew⟩
end Go.Proofs.Ytfdipgnlafhlbaa
