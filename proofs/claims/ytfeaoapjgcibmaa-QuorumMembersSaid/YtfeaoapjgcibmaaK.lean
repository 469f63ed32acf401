/- Arrays of nine bytes compared. -/
import Derived.Test.YtfeaoapjgcibmaaJ
import Derived.Test.YtfeaoapjgcibmaaG
import Derived.Test.YtfeaoapjgcibmaaI
import Derived.Laws.StructEq
import Derived.ChangeKeysEq
set_option linter.unusedVariables false
set_option linter.unusedSimpArgs false
namespace Go.Proofs.Ytfeaoapjgcibmaa
open Go.RowKit Go.Shelf
theorem part9 (m : Nat → Int) (i : Nat) (w : World) (v : Value) (h : (arr m)[i]? = some v) : (part 5 (arr m) i).run Try.prog w = .ok v w := by
  unfold part
  simp [go_sem, h]
theorem cells5 : Try.prog.cellsOf 5 = 1 := by kernel_rfl
theorem eqItems9 (x y : Nat → Int) (w : World) : ∀ is : List Nat, (∀ i ∈ is, i < 9) → (Op.eqItems 9999 5 1 (arr x) (arr y) is).run Try.prog w = .ok (is.all fun i => x i == y i) w
  | [], _ => rfl
  | i :: is, h => by
    have hi := h i List.mem_cons_self
    simp only [Op.eqItems, Sem.run_bind, Nat.mul_one]
    rw [part9 x i w _ (arr_at x hi)]
    simp only [Result.andThen_ok]
    rw [part9 y i w _ (arr_at y hi)]
    simp only [Result.andThen_ok]
    rw [show (9999 : Nat) = 9998 + 1 from rfl, run_equalIn_int (P := Try.prog) w 9998 5 .u8 .u8 (x i) (y i) Try.underlying5]
    simp only [Result.andThen_ok]
    cases hxy : x i == y i
    · simp [hxy]
    · simp only [Bool.not_true, Bool.false_eq_true, if_false, List.all_cons, hxy, Bool.true_and]
      exact eqItems9 x y w is (fun j hj => h j (List.mem_cons_of_mem _ hj))
def same9 (x y : Nat → Int) : Bool := (List.range 9).all fun i => x i == y i
theorem same9_refl (x : Nat → Int) : same9 x x = true := by simp [same9]
theorem info5 : ∃ i, Try.prog.info? 5 = some i := by
  cases h : Try.prog.info? 5 with
  | some i => exact ⟨i, rfl⟩
  | none =>
    have : (Try.prog.info? 5).isSome = true := by kernel_rfl
    rw [h] at this; cases this
theorem eq9 (T : TypeId) (hT : Try.prog.underlying T = some (.array 9 5)) (x y : Nat → Int) (w : World) : (binOp .eql T (.agg (arr x)) (.agg (arr y))).run Try.prog w = .ok (.bool (same9 x y)) w := by
  obtain ⟨i5, hi⟩ := info5
  rw [run_eql_struct, show (10000 : Nat) = 9999 + 1 from rfl, run_equalIn_array w 9999 _ _ hT hi, cells5, eqItems9 x y w (List.range 9) (fun i hi => List.mem_range.1 hi)]
  rfl
theorem ne9 (T : TypeId) (hT : Try.prog.underlying T = some (.array 9 5)) (x y : Nat → Int) (w : World) : (binOp .neq T (.agg (arr x)) (.agg (arr y))).run Try.prog w = .ok (.bool (!same9 x y)) w := by
  obtain ⟨i5, hi⟩ := info5
  rw [run_neq_struct, show (10000 : Nat) = 9999 + 1 from rfl, run_equalIn_array w 9999 _ _ hT hi, cells5, eqItems9 x y w (List.range 9) (fun i hi => List.mem_range.1 hi)]
  rfl
end Go.Proofs.Ytfeaoapjgcibmaa
