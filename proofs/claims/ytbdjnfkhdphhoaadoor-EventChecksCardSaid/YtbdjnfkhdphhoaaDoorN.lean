/- Names. -/
import Derived.Test.YtbdjnfkhdphhoaaDoorI
set_option linter.unusedVariables false
set_option linter.unusedSimpArgs false
namespace Go.Proofs.YtbdjnfkhdphhoaaDoor
open Go.RowKit Go.Maps
def namesL : List ByteArray := [⟨#[]⟩, ⟨#[115, 116, 97, 114, 116, 101, 100]⟩, ⟨#[115, 99, 104, 101, 100, 117, 108, 101, 100]⟩, ⟨#[100, 101, 99, 105, 100, 101, 115]⟩, ⟨#[100, 101, 99, 105, 100, 101, 100]⟩, ⟨#[109, 105, 115, 115, 101, 100]⟩, ⟨#[102, 97, 117, 108, 116, 121]⟩, ⟨#[97, 99, 116, 105, 118, 105, 116, 121]⟩, ⟨#[119, 111, 114, 107, 115]⟩, ⟨#[119, 111, 114, 107, 101, 100]⟩, ⟨#[98, 114, 111, 107, 101]⟩, ⟨#[108, 97, 112, 115, 101, 100]⟩, ⟨#[116, 105, 109, 101, 114]⟩, ⟨#[102, 105, 114, 101, 100]⟩, ⟨#[117, 110, 115, 101, 116]⟩, ⟨#[115, 105, 103, 110, 97, 108]⟩, ⟨#[99, 97, 110, 99, 101, 108]⟩, ⟨#[99, 104, 105, 108, 100]⟩, ⟨#[99, 104, 105, 108, 100, 101, 110, 100, 115]⟩, ⟨#[99, 111, 110, 116, 105, 110, 117, 101, 100]⟩, ⟨#[99, 111, 109, 112, 108, 101, 116, 101, 100]⟩, ⟨#[102, 97, 105, 108, 101, 100]⟩, ⟨#[99, 97, 110, 99, 101, 108, 101, 100]⟩, ⟨#[116, 101, 114, 109, 105, 110, 97, 116, 101, 100]⟩]
def nameS (k : Int) : ByteArray := if 1 ≤ k ∧ k ≤ 23 then namesL.getD k.toNat ⟨#[]⟩ else ⟨#[]⟩
theorem kind_cases {k : Int} (h : 1 ≤ k ∧ k ≤ 23) : k = 1 ∨ k = 2 ∨ k = 3 ∨ k = 4 ∨ k = 5 ∨ k = 6 ∨ k = 7 ∨ k = 8 ∨ k = 9 ∨ k = 10 ∨ k = 11 ∨ k = 12 ∨ k = 13 ∨ k = 14 ∨ k = 15 ∨ k = 16 ∨ k = 17 ∨ k = 18 ∨ k = 19 ∨ k = 20 ∨ k = 21 ∨ k = 22 ∨ k = 23 := by omega
theorem name_empty (k : Int) : (nameS k).toList.isEmpty = !(decide (1 ≤ k) && decide (k ≤ 23)) := by
  by_cases h : 1 ≤ k ∧ k ≤ 23
  · rcases kind_cases h with rfl | rfl | rfl | rfl | rfl | rfl | rfl | rfl | rfl | rfl | rfl | rfl | rfl | rfl | rfl | rfl | rfl | rfl | rfl | rfl | rfl | rfl | rfl <;> kernel_rfl
  · unfold nameS
    rw [if_neg h, show (decide (1 ≤ k) && decide (k ≤ 23)) = false by simp; omega]
    kernel_rfl
set_option maxRecDepth 100000 in
set_option maxHeartbeats 4000000 in
theorem name_any (W : World) (k : Int) : Calls Tryd.prog 9 #[.int .i64 k] W fun e W' => e = .returned (.string (nameS k)) ∧ Fr (fun _ => False) W W' := by
  by_cases h : 1 ≤ k ∧ k ≤ 23
  · rcases kind_cases h with rfl | rfl | rfl | rfl | rfl | rfl | rfl | rfl | rfl | rfl | rfl | rfl | rfl | rfl | rfl | rfl | rfl | rfl | rfl | rfl | rfl | rfl | rfl
    all_goals
      clear h
      go_enter Tryd.func9, Tryd.ntmps9
      go_wp2
      go_ret
      exact ⟨rfl, Fr.alloc _ _ _⟩
  · rw [show nameS k = ⟨#[]⟩ from if_neg h]
    by_cases h1 : k < 1
    · have p1 : decide (k < 1) = true := decide_eq_true h1
      go_enter Tryd.func9, Tryd.ntmps9
      go_wp2
      go_ret
      exact ⟨rfl, Fr.refl _ _⟩
    · have p1 : decide (k < 1) = false := decide_eq_false h1
      have p2 : decide (23 < k) = true := decide_eq_true (by omega)
      go_enter Tryd.func9, Tryd.ntmps9
      go_wp2
      go_ret
      exact ⟨rfl, Fr.refl _ _⟩
set_option maxRecDepth 100000 in
set_option maxHeartbeats 4000000 in
theorem rname_any (W : World) (k : Int) : Calls Tryd.prog 10 #[.int .i64 k] W fun e W' => e = .returned (.string (nameS k)) ∧ Fr (fun _ => False) W W' := by
  by_cases h : 1 ≤ k ∧ k ≤ 23
  · rcases kind_cases h with rfl | rfl | rfl | rfl | rfl | rfl | rfl | rfl | rfl | rfl | rfl | rfl | rfl | rfl | rfl | rfl | rfl | rfl | rfl | rfl | rfl | rfl | rfl
    all_goals
      clear h
      go_enter Tryd.func10, Tryd.ntmps10
      go_wp2
      go_ret
      exact ⟨rfl, Fr.alloc _ _ _⟩
  · rw [show nameS k = ⟨#[]⟩ from if_neg h]
    by_cases h1 : k < 1
    · have p1 : decide (k < 1) = true := decide_eq_true h1
      go_enter Tryd.func10, Tryd.ntmps10
      go_wp2
      go_ret
      exact ⟨rfl, Fr.alloc _ _ _⟩
    · have p1 : decide (k < 1) = false := decide_eq_false h1
      have p2 : decide (24 ≤ k) = true := decide_eq_true (by omega)
      go_enter Tryd.func10, Tryd.ntmps10
      go_wp2
      go_ret
      exact ⟨rfl, Fr.alloc _ _ _⟩
end Go.Proofs.YtbdjnfkhdphhoaaDoor
