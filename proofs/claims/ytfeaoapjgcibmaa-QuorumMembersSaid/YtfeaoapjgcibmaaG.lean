/- known: three voters and a learner. -/
import Derived.Test.YtfeaoapjgcibmaaF
set_option linter.unusedVariables false
set_option linter.unusedSimpArgs false
namespace Go.Proofs.Ytfeaoapjgcibmaa
open Go.RowKit Go.Shelf
attribute [local go_sem] Oper.semAt_some
def kV (j : Nat) : Int := [0, 2, 5].getD j 0
def kL (j : Nat) : Int := [7].getD j 0
def kY (j : Nat) : Bool := [true, false, true].getD j false
def kM (j : Nat) : Int := [4, 9, 3, 0, 0, 1, 0, 9].getD j 0
def kn : Nat → Int := ofM kV 3 kL 1
theorem kn_e : ofE kV 3 kL 1 = 0 := by decide +kernel
theorem kn_bd (k : Nat) (_ : k < 9) : 0 ≤ kn k ∧ kn k ≤ 255 := ofM_bd _ _ _ _ k
theorem kn_ok : okM kn = true := by decide +kernel
theorem kn_most : mst kn = 2 := by decide +kernel
theorem kn_won : won kn kY 3 = true := by decide +kernel
theorem kn_lost : lost kn kY 3 = false := by decide +kernel
theorem kn_idx : idx kn kM 8 (sel kn 1 9) = 3 := by decide +kernel
theorem row_of {W : World} {b : Nat} {cs : Array Value} {t : TypeId} (h : Blk W b t cs) (n : Nat) (f : Nat → Value) (hc : ∀ j, j < n → cs[j]? = some (f j)) : Row W (some ⟨b, 0, none⟩) n f :=
  .inr ⟨b, 0, rfl, h.lt, fun j hj => by rw [h.cell, Nat.zero_add]; exact hc j hj⟩
theorem lt3 {p : Nat → Prop} (h0 : p 0) (h1 : p 1) (h2 : p 2) : ∀ j, j < 3 → p j := fun j hj => by
  have : j = 0 ∨ j = 1 ∨ j = 2 := by omega
  rcases this with rfl | rfl | rfl <;> assumption
theorem cells9 {W : World} {B : Nat} {t : TypeId} {m : Nat → Int} (h : Blk W B t (arr m)) : W.cell? ⟨B, 0, none⟩ = some (.int .u8 (m 0)) ∧ W.cell? ⟨B, 1, none⟩ = some (.int .u8 (m 1)) ∧ W.cell? ⟨B, 2, none⟩ = some (.int .u8 (m 2)) ∧ W.cell? ⟨B, 3, none⟩ = some (.int .u8 (m 3)) ∧ W.cell? ⟨B, 4, none⟩ = some (.int .u8 (m 4)) ∧ W.cell? ⟨B, 5, none⟩ = some (.int .u8 (m 5)) ∧ W.cell? ⟨B, 6, none⟩ = some (.int .u8 (m 6)) ∧ W.cell? ⟨B, 7, none⟩ = some (.int .u8 (m 7)) ∧ W.cell? ⟨B, 8, none⟩ = some (.int .u8 (m 8)) :=
  ⟨h.cell 0, h.cell 1, h.cell 2, h.cell 3, h.cell 4, h.cell 5, h.cell 6, h.cell 7, h.cell 8⟩
theorem lt8 {p : Nat → Prop} (h0 : p 0) (h1 : p 1) (h2 : p 2) (h3 : p 3) (h4 : p 4) (h5 : p 5) (h6 : p 6) (h7 : p 7) : ∀ j, j < 8 → p j := fun j hj => by
  have : j = 0 ∨ j = 1 ∨ j = 2 ∨ j = 3 ∨ j = 4 ∨ j = 5 ∨ j = 6 ∨ j = 7 := by omega
  rcases this with rfl | rfl | rfl | rfl | rfl | rfl | rfl | rfl <;> assumption
set_option maxRecDepth 100000 in
set_option maxHeartbeats 2000000 in
theorem known_any (w : World) : Calls Try.prog 8 #[] w fun e W' => e = .returned (.bool true) ∧ Below w.heap.size w W' := by
  go_enter Try.func8, Try.ntmps8
  go_wp2_with fail
  refine (of_any _ 3 3 kV _ 1 1 kL (by omega) (by omega) _ ?_ ?_).mono ?_
  · refine row_of (t := 3) (cs := #[.int .i64 0, .int .i64 2, .int .i64 5]) ((Blk.new w 3 _).alloc _) 3 _ (lt3 rfl rfl rfl)
  · refine row_of (t := 3) (cs := #[.int .i64 7]) (by have := Blk.new (w.alloc (.cells #[.int .i64 0, .int .i64 2, .int .i64 5] 3)) 3 #[.int .i64 7]; rw [World.size_alloc] at this; exact this) 1 _ (fun j hj => by (obtain rfl : j = 0 := by omega); rfl)
  rw [show ofM kV 3 kL 1 = kn from rfl, kn_e]
  rintro e w1 ⟨rfl, hb1⟩
  go_wp2_with fail
  have hs1 := hb1.size
  simp only [World.size_alloc] at hs1
  have B1 := Blk.new w1 25 (arr kn)
  refine (votes_any kn kn_bd _ 3 3 (by omega) kY _ ?_).mono ?_
  · refine row_of (t := 4) (cs := #[.bool true, .bool false, .bool true]) (by have := Blk.new (w1.alloc (.cells (arr kn) 25)) 4 #[.bool true, .bool false, .bool true]; rw [World.size_alloc] at this; exact this) 3 _ (lt3 rfl rfl rfl)
  rw [kn_won, kn_lost]
  rintro e w2 ⟨rfl, hb2⟩
  have B2 : Blk w2 w1.heap.size 25 (arr kn) := (B1.alloc _).below hb2
  have hs2 := hb2.size
  simp only [World.size_alloc] at hs2
  obtain ⟨a0, a1, a2, a3, a4, a5, a6, a7, a8⟩ := cells9 B2
  clear B1
  go_wp2_with fail
  refine (right_any kn kn_bd _).mono ?_
  rw [kn_ok]
  rintro e w3 ⟨rfl, hb3⟩
  have B3 : Blk w3 w1.heap.size 25 (arr kn) := B2.below hb3
  have hs3 := hb3.size
  clear a0 a1 a2 a3 a4 a5 a6 a7 a8
  obtain ⟨a0, a1, a2, a3, a4, a5, a6, a7, a8⟩ := cells9 B3
  go_wp2_with fail
  refine (most_any kn kn_bd _).mono ?_
  rw [kn_most]
  rintro e w4 ⟨rfl, hb4⟩
  have B4 : Blk w4 w1.heap.size 25 (arr kn) := B3.below hb4
  have hs4 := hb4.size
  clear a0 a1 a2 a3 a4 a5 a6 a7 a8
  obtain ⟨a0, a1, a2, a3, a4, a5, a6, a7, a8⟩ := cells9 B4
  go_wp2_with fail
  refine (index_any kn kn_bd _ 8 8 (by omega) kM _ ?_).mono ?_
  · exact row_of (Blk.new w4 3 _) 8 _ (lt8 rfl rfl rfl rfl rfl rfl rfl rfl)
  rw [kn_idx]
  rintro e w5 ⟨rfl, hb5⟩
  go_wp2
  go_ret
  refine ⟨rfl, ?_⟩
  have q1 : Below w.heap.size w w1 := (((Below.refl _ w).alloc (Nat.le_refl _) _).alloc (by simp) _).trans (hb1.mono (by simp; omega))
  have q2 : Below w.heap.size w w2 := ((q1.alloc (by omega) _).alloc (by simp; omega) _).trans (hb2.mono (by simp; omega))
  have q3 : Below w.heap.size w w3 := q2.trans (hb3.mono (by omega))
  have q4 : Below w.heap.size w w4 := q3.trans (hb4.mono (by omega))
  exact (q4.alloc (by omega) _).trans (hb5.mono (by simp; omega))
end Go.Proofs.Ytfeaoapjgcibmaa

