/- The contracts of Set and Lease. -/
import Derived.Test.YtfdipgnlafhlbaaE
set_option linter.unusedVariables false
namespace Go.Proofs.Ytfdipgnlafhlbaa
open Go.RowKit
def upd (f : Nat → Int) (k : Nat) (v : Int) : Nat → Int := fun s => if s = k then v else f s
theorem upd_same (f : Nat → Int) (k : Nat) (v : Int) : upd f k v k = v := by unfold upd; rw [if_pos rfl]
theorem upd_other (f : Nat → Int) (k s : Nat) (v : Int) (h : s ≠ k) : upd f k v s = f s := by unfold upd; rw [if_neg h]
theorem setCell_self {w : World} {a : Addr} {u : Value} (v : Value) (h : w.cell? a = some u) : (w.setCell a v).cell? a = some v := World.cell?_setCell_same w a v h
theorem setCell_block {w : World} {a b : Addr} (v : Value) (h : a.block ≠ b.block) : (w.setCell a v).cell? b = w.cell? b := World.cell?_setCell_other w a b v (fun e => h (by rw [e]))
theorem setCell_off {w : World} {B i j : Nat} (v : Value) (h : i ≠ j) : (w.setCell ⟨B, i, none⟩ v).cell? ⟨B, j, none⟩ = w.cell? ⟨B, j, none⟩ := World.cell?_setCell_other w _ _ v (fun e => h (congrArg Addr.off e))
theorem setCell_fr (w : World) (a b : Addr) (v : Value) : (w.setCell a v).frozen? b = w.frozen? b := by simp [go_sem]
theorem setCell_sz (w : World) (a : Addr) (v : Value) : (w.setCell a v).heap.size = w.heap.size := by simp [World.setCell]
theorem IsMap.setU {w : World} {P L U g : Nat} {fr fo un : Nat → Int} (h : IsMap w P L U g fr fo un) (k : Nat) (hk : k < g) (v : Int) : IsMap (w.setCell ⟨U, k, none⟩ (.int .i64 v)) P L U g fr fo (upd un k v) := by
  refine ⟨by rw [setCell_sz]; exact h.lp, by rw [setCell_sz]; exact h.ll, by rw [setCell_sz]; exact h.lu, h.pl, h.pu, h.lU, h.g8, ?_, ?_, fun s hs => ?_, fun s hs => ?_, fun s hs => ?_, fun o => ?_, fun o => ?_⟩
  · rw [setCell_block _ (Ne.symm h.pu)]; exact h.c0
  · rw [setCell_block _ (Ne.symm h.pu)]; exact h.c1
  · rw [setCell_block _ (Ne.symm h.lU)]; exact h.cr s hs
  · rw [setCell_block _ (Ne.symm h.lU)]; exact h.co s hs
  · by_cases e : s = k
    · subst e; rw [upd_same]; exact setCell_self _ (h.cu s hs)
    · rw [upd_other _ _ _ _ e, setCell_off _ (Ne.symm e)]; exact h.cu s hs
  · rw [setCell_fr]; exact h.fl o
  · rw [setCell_fr]; exact h.fu o
theorem IsMap.setL {w : World} {P L U g : Nat} {fr fo un : Nat → Int} (h : IsMap w P L U g fr fo un) (k : Nat) (hk : k < g) (R O : Int) : IsMap ((w.setCell ⟨L, k * 2, none⟩ (.int .i64 R)).setCell ⟨L, k * 2 + 1, none⟩ (.int .i64 O)) P L U g (upd fr k R) (upd fo k O) un := by
  refine ⟨by rw [setCell_sz, setCell_sz]; exact h.lp, by rw [setCell_sz, setCell_sz]; exact h.ll, by rw [setCell_sz, setCell_sz]; exact h.lu, h.pl, h.pu, h.lU, h.g8, ?_, ?_, fun s hs => ?_, fun s hs => ?_, fun s hs => ?_, fun o => ?_, fun o => ?_⟩
  · rw [setCell_block _ (Ne.symm h.pl), setCell_block _ (Ne.symm h.pl)]; exact h.c0
  · rw [setCell_block _ (Ne.symm h.pl), setCell_block _ (Ne.symm h.pl)]; exact h.c1
  · rw [setCell_off _ (by omega)]
    by_cases e : s = k
    · subst e; rw [upd_same]; exact setCell_self _ (h.cr s hs)
    · rw [upd_other _ _ _ _ e, setCell_off _ (by omega)]; exact h.cr s hs
  · by_cases e : s = k
    · subst e; rw [upd_same]; refine setCell_self (u := .int .i64 (fo s)) _ ?_
      rw [setCell_off _ (by omega)]; exact h.co s hs
    · rw [upd_other _ _ _ _ e, setCell_off _ (by omega), setCell_off _ (by omega)]; exact h.co s hs
  · rw [setCell_block _ h.lU, setCell_block _ h.lU]; exact h.cu s hs
  · rw [setCell_fr, setCell_fr]; exact h.fl o
  · rw [setCell_fr, setCell_fr]; exact h.fu o
/-- what a call leaves of a map: its code, the new rows, no other block -/
def Left (P L U g : Nat) (fr fo un : Nat → Int) (w w' : World) : Prop := IsMap w' P L U g fr fo un ∧ Turn (fun b => b = L ∨ b = U) w w'
theorem IsMap.drewN {w : World} {P L U g : Nat} {fr fo un : Nat → Int} (h : IsMap w P L U g fr fo un) (n : Nat) : IsMap (w.drewN n) P L U g fr fo un := h.turn (M := fun _ => False) ((Turn.of_below (Below.refl _ _)).drewN n) id id id
theorem IsMap.drew {w : World} {P L U g : Nat} {fr fo un : Nat → Int} (h : IsMap w P L U g fr fo un) : IsMap w.drew P L U g fr fo un := h.turn (M := fun _ => False) ((Turn.of_below (Below.refl _ _)).drew) id id id
theorem IsMap.alloc {w : World} {P L U g : Nat} {fr fo un : Nat → Int} (h : IsMap w P L U g fr fo un) (o : Obj) : IsMap (w.alloc o) P L U g fr fo un := h.turn (M := fun _ => False) ((Turn.of_below (Below.refl _ _)).alloc o) id id id
theorem set_no (P L U g : Nat) (fr fo un : Nat → Int) (s R O : Int) (w : World) (h : IsMap w P L U g fr fo un) (hb : isB g s = false) :
    Calls Try.prog 20 #[.pointer (some ⟨P, 0, none⟩), .int .i64 s, .agg #[.int .i64 R, .int .i64 O]] w fun e w' => e = .returned (.int .i64 2) ∧ Left P L U g fr fo un w w' := by
  have t : Turn (fun b => b = L ∨ b = U) w (w.alloc (.cells #[.int .i64 R, .int .i64 O] 25)) := (Turn.of_below (Below.refl _ _)).alloc _
  have h' : IsMap (w.alloc (.cells #[.int .i64 R, .int .i64 O] 25)) P L U g fr fo un := h.turn (M := fun _ => False) ((Turn.of_below (Below.refl _ _)).alloc _) id id id
  have there := there_any P L U g fr fo un s _ h'
  rw [hb] at there
  go_enter Try.func20, Try.ntmps20
  go_wp2_with (go_at_call 29; refine there.mono ?_; rintro e w' ⟨rfl, rfl⟩)
  go_ret
  exact ⟨rfl, h', t⟩
theorem set_new (P L U g : Nat) (fr fo un : Nat → Int) (k : Nat) (R O : Int) (w : World) (h : IsMap w P L U g fr fo un) (hk : k < g) (x y : Int) (h1 : fr k = x) (h2 : fo k = y) (hlt : ¬ R < x) (hne : ¬ R = x) :
    Calls Try.prog 20 #[.pointer (some ⟨P, 0, none⟩), .int .i64 (k : Int), .agg #[.int .i64 R, .int .i64 O]] w fun e w' => e = .returned (.int .i64 0) ∧ Left P L U g (upd fr k R) (upd fo k O) (upd un k 0) w w' := by
  have tn : Turn (fun b => b = L ∨ b = U) w (w.alloc (.cells #[.int .i64 R, .int .i64 O] 25)) := (Turn.of_below (Below.refl _ _)).alloc _
  have hn : IsMap (w.alloc (.cells #[.int .i64 R, .int .i64 O] 25)) P L U g fr fo un := h.alloc _
  have there := there_any P L U g fr fo un k _ hn
  rw [show isB g k = true by unfold isB; simp; omega] at there
  have c0 := h.c0
  have c1 := h.c1
  have g1 := h.cr k hk
  have g2 := h.co k hk
  have g3 := h.cu k hk
  rw [h1] at g1
  rw [h2] at g2
  have h8 := h.g8
  have fl := h.fl
  have fu := h.fu
  have pl := h.pl
  have pu := h.pu
  have lU := h.lU
  have lp := h.lp
  have ll := h.ll
  have lu := h.lu
  have hne' : (R != x) = true := by rw [bne_iff_ne]; exact hne
  have heq : (R == x) = false := beq_eq_false_iff_ne.2 hne
  go_enter Try.func20, Try.ntmps20
  go_wp2_with (go_at_call 29; refine there.mono ?_; rintro e w' ⟨rfl, rfl⟩)
  go_quiet (fail)
  go_wp2
  go_quiet (fail)
  go_wp2
  go_region
  go_wp2
  go_ret
  exact ⟨rfl, ((((hn.drewN _).setU k hk 0).setL k hk R O)).drew, ((((tn.drewN _).setCell (.inl (.inr rfl)) _).setCell (.inl (.inl rfl)) _).setCell (.inl (.inl rfl)) _).drew⟩
theorem set_low (P L U g : Nat) (fr fo un : Nat → Int) (k : Nat) (R O : Int) (w : World) (h : IsMap w P L U g fr fo un) (hk : k < g) (x y : Int) (h1 : fr k = x) (h2 : fo k = y) (hlt : R < x) :
    Calls Try.prog 20 #[.pointer (some ⟨P, 0, none⟩), .int .i64 (k : Int), .agg #[.int .i64 R, .int .i64 O]] w fun e w' => e = .returned (.int .i64 25) ∧ Left P L U g fr fo un w w' := by
  have tn : Turn (fun b => b = L ∨ b = U) w (w.alloc (.cells #[.int .i64 R, .int .i64 O] 25)) := (Turn.of_below (Below.refl _ _)).alloc _
  have hn : IsMap (w.alloc (.cells #[.int .i64 R, .int .i64 O] 25)) P L U g fr fo un := h.alloc _
  have there := there_any P L U g fr fo un k _ hn
  rw [show isB g k = true by unfold isB; simp; omega] at there
  have c0 := h.c0
  have c1 := h.c1
  have g1 := h.cr k hk
  have g2 := h.co k hk
  have g3 := h.cu k hk
  rw [h1] at g1
  rw [h2] at g2
  have h8 := h.g8
  have fl := h.fl
  have fu := h.fu
  have pl := h.pl
  have pu := h.pu
  have lU := h.lU
  have lp := h.lp
  have ll := h.ll
  have lu := h.lu
  go_enter Try.func20, Try.ntmps20
  go_wp2_with (go_at_call 29; refine there.mono ?_; rintro e w' ⟨rfl, rfl⟩)
  go_quiet (fail)
  go_wp2
  go_ret
  exact ⟨rfl, hn.drewN _, tn.drewN _⟩
theorem set_old (P L U g : Nat) (fr fo un : Nat → Int) (k : Nat) (R O : Int) (w : World) (h : IsMap w P L U g fr fo un) (hk : k < g) (x y : Int) (h1 : fr k = x) (h2 : fo k = y) (hR : R = x) :
    Calls Try.prog 20 #[.pointer (some ⟨P, 0, none⟩), .int .i64 (k : Int), .agg #[.int .i64 R, .int .i64 O]] w fun e w' => e = .returned (.int .i64 0) ∧ Left P L U g (upd fr k R) (upd fo k O) un w w' := by
  have tn : Turn (fun b => b = L ∨ b = U) w (w.alloc (.cells #[.int .i64 R, .int .i64 O] 25)) := (Turn.of_below (Below.refl _ _)).alloc _
  have hn : IsMap (w.alloc (.cells #[.int .i64 R, .int .i64 O] 25)) P L U g fr fo un := h.alloc _
  have there := there_any P L U g fr fo un k _ hn
  rw [show isB g k = true by unfold isB; simp; omega] at there
  have c0 := h.c0
  have c1 := h.c1
  have g1 := h.cr k hk
  have g2 := h.co k hk
  have g3 := h.cu k hk
  rw [h1] at g1
  rw [h2] at g2
  have h8 := h.g8
  have fl := h.fl
  have fu := h.fu
  have pl := h.pl
  have pu := h.pu
  have lU := h.lU
  have lp := h.lp
  have ll := h.ll
  have lu := h.lu
  subst hR
  have q1 : (R != R) = false := by simp
  have q2 : (R == R) = true := by simp
  go_enter Try.func20, Try.ntmps20
  go_wp2_with (go_at_call 29; refine there.mono ?_; rintro e w' ⟨rfl, rfl⟩)
  go_quiet (fail)
  go_wp2
  by_cases hO : O = y
  · subst hO
    have q3 : (O == O) = true := by simp
    go_quiet (fail)
    go_wp2
    go_region
    go_wp2
    go_ret
    exact ⟨rfl, (hn.drewN _).setL k hk R O, ((tn.drewN _).setCell (.inl (.inl rfl)) _).setCell (.inl (.inl rfl)) _⟩
  · have q3 : (O == y) = false := beq_eq_false_iff_ne.2 hO
    go_quiet (fail)
    go_wp2
    go_region
    go_wp2
    go_ret
    exact ⟨rfl, (hn.drewN _).setL k hk R O, ((tn.drewN _).setCell (.inl (.inl rfl)) _).setCell (.inl (.inl rfl)) _⟩
end Go.Proofs.Ytfdipgnlafhlbaa
