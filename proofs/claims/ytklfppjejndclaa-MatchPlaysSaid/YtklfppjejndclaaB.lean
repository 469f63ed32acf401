/- known: two lists. -/
import Derived.Test.YtklfppjejndclaaA
set_option linter.unusedVariables false
set_option linter.unusedSimpArgs false
namespace Go.Proofs.Ytklfppjejndclaa
open Go.RowKit Go.Maps
theorem LS.drewN {TS : TypeId} {W : World} {sb mb : Nat} {most : Int} {N : Nat} {L : Int → List Value} (h : LS TS W sb mb most N L) (n : Nat) : LS TS (W.drewN n) sb mb most N L := h.kept ⟨rfl, rfl, rfl, Nat.le_refl _, fun _ _ _ => rfl⟩
theorem LS.congr {TS : TypeId} {W : World} {sb mb : Nat} {most : Int} {N : Nat} {L L' : Int → List Value} (h : LS TS W sb mb most N L) (e : ∀ x, L x = L' x) : LS TS W sb mb most N L' := by
  have : L = L' := funext e
  rw [← this]; exact h
def sv (k : UInt8) : ByteArray := ⟨#[k]⟩
def kL (a b : List Value) : Int → List Value := fun x => if x = 1 then a else if x = 2 then b else []
theorem drewN_below {w W : World} (h : Below w.heap.size w W) (n : Nat) : Below w.heap.size w (W.drewN n) :=
  h.grown (row := none) ⟨rfl, rfl, rfl, Nat.le_refl _, fun _ _ _ => rfl⟩ h.size (fun j e => nomatch e)
set_option maxRecDepth 100000 in
set_option maxHeartbeats 1000000 in
theorem known_any (w : World) : Calls Try.prog 6 #[] w fun e W' => e = .returned (.bool true) ∧ Below w.heap.size w W' := by
  have ok1 : iKE.ok 1 := show (Lit.int .i64 1).wf = true by decide
  have ok2 : iKE.ok 2 := show (Lit.int .i64 2).wf = true by decide
  have ok3 : iKE.ok 3 := show (Lit.int .i64 3).wf = true by decide
  have hM : ∀ n : Nat, n < 100 → n < maxLen := fun n h => by unfold maxLen; omega
  have hsv : ((sv 97).toList == [97]) = true := by decide +kernel
  go_enter Try.func6, Try.ntmps6
  go_wp2_with fail
  refine (newS_yes _ 2 (by omega) (by omega)).mono ?_
  rintro e w1 ⟨rfl, h1, hw1⟩
  have b1 : Below w.heap.size w w1 := by rw [hw1]; exact ((Below.refl _ w).alloc (Nat.le_refl _) _).alloc (by simp) _
  clear hw1
  go_wp2_with fail
  refine (pushS_room _ _ _ _ _ _ h1 (hM _ (by omega)) (by omega) 1 ok1 (sv 97) (by decide)).mono ?_
  rintro e w2 ⟨rfl, h2, g2⟩
  replace h2 := h2.congr (L' := kL [.string (sv 97)] []) (fun x => by unfold kL; by_cases e : x = 1 <;> simp [e])
  have b2 := b1.grown g2 b1.size (fun j e => Nat.le_of_eq (Option.some.inj e))
  clear h1 g2 b1
  go_wp2_with fail
  refine (pushS_room _ _ _ _ _ _ h2 (hM _ (by omega)) (by omega) 2 ok2 (sv 98) (by decide)).mono ?_
  rintro e w3 ⟨rfl, h3, g3⟩
  replace h3 := h3.congr (L' := kL [.string (sv 97)] [.string (sv 98)]) (fun x => by unfold kL; by_cases e : x = 2 <;> by_cases e' : x = 1 <;> simp [e, e'] <;> omega)
  have b3 := b2.grown g3 b2.size (fun j e => Nat.le_of_eq (Option.some.inj e))
  clear h2 g3 b2
  go_wp2_with fail
  refine (pushS_room _ _ _ _ _ _ h3 (hM _ (by omega)) (by omega) 1 ok1 (sv 99) (by decide)).mono ?_
  rintro e w4 ⟨rfl, h4, g4⟩
  replace h4 := h4.congr (L' := kL [.string (sv 97), .string (sv 99)] [.string (sv 98)]) (fun x => by unfold kL; by_cases e : x = 1 <;> simp [e])
  have b4 := b3.grown g4 b3.size (fun j e => Nat.le_of_eq (Option.some.inj e))
  clear h3 g4 b3
  go_wp2_with fail
  refine (pushS_full _ _ _ _ _ _ h4 1 ok1 (sv 100) (by decide)).mono ?_
  rintro e w5 ⟨rfl, nd, rfl⟩
  replace h4 := h4.drewN nd
  have b5 := drewN_below b4 nd
  clear b4
  go_wp2_with fail
  refine (popS_some _ _ _ _ _ _ h4 (hM _ (by omega)) 1 ok1 (.string (sv 97)) [.string (sv 99)] rfl (by decide)).mono ?_
  rintro e w6 ⟨rfl, h6, g6⟩
  replace h6 := h6.congr (L' := kL [.string (sv 99)] [.string (sv 98)]) (fun x => by unfold kL; by_cases e : x = 1 <;> simp [e])
  have b6 := b5.grown g6 b5.size (fun j e => Nat.le_of_eq (Option.some.inj e))
  clear h4 g6 b5
  go_wp2_with fail
  refine (peekS_none _ _ _ _ _ _ h6 3 ok3 rfl).mono ?_
  rintro e w7 ⟨rfl, rfl⟩
  go_wp2_with fail
  refine (lenS_any _ _ _ _ _ _ h6 1 ok1).mono ?_
  rw [show (kL [.string (sv 99)] [.string (sv 98)] 1).length = 1 from rfl]
  rintro e w8 ⟨rfl, rfl⟩
  go_wp2_with fail
  refine (fullS_any _ _ _ _ _ _ h6 1 ok1).mono ?_
  rw [show decide ((2 : Int) ≤ (kL [.string (sv 99)] [.string (sv 98)] 1).length) = false from rfl]
  rintro e w9 ⟨rfl, nd9, rfl⟩
  go_wp2
  go_ret
  exact ⟨rfl, drewN_below b6 nd9⟩
end Go.Proofs.Ytklfppjejndclaa
