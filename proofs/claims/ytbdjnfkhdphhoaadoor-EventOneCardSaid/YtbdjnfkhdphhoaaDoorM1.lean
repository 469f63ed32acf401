/- Numbers below 62 as texts. -/
import Derived.Test.YtbdjnfkhdphhoaaDoorS
import Derived.Test.YtbdjnfkhdphhoaaDoorI
set_option linter.unusedVariables false
set_option linter.unusedSimpArgs false
namespace Go.Proofs.YtbdjnfkhdphhoaaDoor
open Go.RowKit Go.Maps
theorem byte_str (W : World) (d : UInt8) : (convert 22 9 (.slice (some ⟨W.heap.size, 0, none⟩) 1 1)).run Tryd.prog (W.alloc (.cells #[.int .u8 (d.toNat : Int)] 5)) = .ok (.string ⟨#[d]⟩) (W.alloc (.cells #[.int .u8 (d.toNat : Int)] 5)) := by
  refine str_of (S := fun _ => False) [d] ?_
  refine ⟨some ⟨W.heap.size, 0, none⟩, 1, rfl, by simp, by decide, fun h => (by cases h), fun a ha => ?_⟩
  cases ha
  refine ⟨fun _ e => e, fun j u hj => ?_⟩
  rw [off_add, Nat.zero_add, (Blk.new W 5 _).cell]
  simpa using hj
theorem byte_0 (W : World) : (convert 22 9 (.slice (some ⟨W.heap.size, 0, none⟩) 1 1)).run Tryd.prog (W.alloc (.cells #[.int .u8 48] 5)) = .ok (.string ⟨#[48]⟩) (W.alloc (.cells #[.int .u8 48] 5)) := byte_str W 48
theorem byte_1 (W : World) : (convert 22 9 (.slice (some ⟨W.heap.size, 0, none⟩) 1 1)).run Tryd.prog (W.alloc (.cells #[.int .u8 49] 5)) = .ok (.string ⟨#[49]⟩) (W.alloc (.cells #[.int .u8 49] 5)) := byte_str W 49
theorem byte_2 (W : World) : (convert 22 9 (.slice (some ⟨W.heap.size, 0, none⟩) 1 1)).run Tryd.prog (W.alloc (.cells #[.int .u8 50] 5)) = .ok (.string ⟨#[50]⟩) (W.alloc (.cells #[.int .u8 50] 5)) := byte_str W 50
theorem byte_3 (W : World) : (convert 22 9 (.slice (some ⟨W.heap.size, 0, none⟩) 1 1)).run Tryd.prog (W.alloc (.cells #[.int .u8 51] 5)) = .ok (.string ⟨#[51]⟩) (W.alloc (.cells #[.int .u8 51] 5)) := byte_str W 51
theorem byte_4 (W : World) : (convert 22 9 (.slice (some ⟨W.heap.size, 0, none⟩) 1 1)).run Tryd.prog (W.alloc (.cells #[.int .u8 52] 5)) = .ok (.string ⟨#[52]⟩) (W.alloc (.cells #[.int .u8 52] 5)) := byte_str W 52
theorem byte_5 (W : World) : (convert 22 9 (.slice (some ⟨W.heap.size, 0, none⟩) 1 1)).run Tryd.prog (W.alloc (.cells #[.int .u8 53] 5)) = .ok (.string ⟨#[53]⟩) (W.alloc (.cells #[.int .u8 53] 5)) := byte_str W 53
theorem byte_6 (W : World) : (convert 22 9 (.slice (some ⟨W.heap.size, 0, none⟩) 1 1)).run Tryd.prog (W.alloc (.cells #[.int .u8 54] 5)) = .ok (.string ⟨#[54]⟩) (W.alloc (.cells #[.int .u8 54] 5)) := byte_str W 54
theorem byte_7 (W : World) : (convert 22 9 (.slice (some ⟨W.heap.size, 0, none⟩) 1 1)).run Tryd.prog (W.alloc (.cells #[.int .u8 55] 5)) = .ok (.string ⟨#[55]⟩) (W.alloc (.cells #[.int .u8 55] 5)) := byte_str W 55
theorem byte_8 (W : World) : (convert 22 9 (.slice (some ⟨W.heap.size, 0, none⟩) 1 1)).run Tryd.prog (W.alloc (.cells #[.int .u8 56] 5)) = .ok (.string ⟨#[56]⟩) (W.alloc (.cells #[.int .u8 56] 5)) := byte_str W 56
theorem byte_9 (W : World) : (convert 22 9 (.slice (some ⟨W.heap.size, 0, none⟩) 1 1)).run Tryd.prog (W.alloc (.cells #[.int .u8 57] 5)) = .ok (.string ⟨#[57]⟩) (W.alloc (.cells #[.int .u8 57] 5)) := byte_str W 57
set_option maxRecDepth 100000 in
theorem itoa_1 (W : World) : Calls Tryd.prog 42 #[.int .i64 1] W fun e W' => e = .returned (.string ⟨#[49]⟩) ∧ W = W' := by
  go_enter Tryd.func42, Tryd.ntmps42
  go_wp2
  go_ret
  exact ⟨rfl, rfl⟩
set_option maxRecDepth 100000 in
theorem place_1 (W : World) : Calls Tryd.prog 20 #[.int .i64 1] W fun e W' => e = .returned (.string ⟨#[49]⟩) ∧ Fr (fun _ => False) W W' := by
  have b1 := byte_1
  go_enter Tryd.func20, Tryd.ntmps20
  go_wp2_with fail
  refine wp_loop_rounds 1 ?_
  rw [rounds_succ]
  go_wp2
  go_ret
  exact ⟨rfl, Fr.alloc _ _ _⟩
set_option maxRecDepth 100000 in
theorem itoa_2 (W : World) : Calls Tryd.prog 42 #[.int .i64 2] W fun e W' => e = .returned (.string ⟨#[50]⟩) ∧ W = W' := by
  go_enter Tryd.func42, Tryd.ntmps42
  go_wp2
  go_ret
  exact ⟨rfl, rfl⟩
set_option maxRecDepth 100000 in
theorem place_2 (W : World) : Calls Tryd.prog 20 #[.int .i64 2] W fun e W' => e = .returned (.string ⟨#[50]⟩) ∧ Fr (fun _ => False) W W' := by
  have b2 := byte_2
  go_enter Tryd.func20, Tryd.ntmps20
  go_wp2_with fail
  refine wp_loop_rounds 1 ?_
  rw [rounds_succ]
  go_wp2
  go_ret
  exact ⟨rfl, Fr.alloc _ _ _⟩
set_option maxRecDepth 100000 in
theorem itoa_3 (W : World) : Calls Tryd.prog 42 #[.int .i64 3] W fun e W' => e = .returned (.string ⟨#[51]⟩) ∧ W = W' := by
  go_enter Tryd.func42, Tryd.ntmps42
  go_wp2
  go_ret
  exact ⟨rfl, rfl⟩
set_option maxRecDepth 100000 in
theorem place_3 (W : World) : Calls Tryd.prog 20 #[.int .i64 3] W fun e W' => e = .returned (.string ⟨#[51]⟩) ∧ Fr (fun _ => False) W W' := by
  have b3 := byte_3
  go_enter Tryd.func20, Tryd.ntmps20
  go_wp2_with fail
  refine wp_loop_rounds 1 ?_
  rw [rounds_succ]
  go_wp2
  go_ret
  exact ⟨rfl, Fr.alloc _ _ _⟩
set_option maxRecDepth 100000 in
theorem itoa_4 (W : World) : Calls Tryd.prog 42 #[.int .i64 4] W fun e W' => e = .returned (.string ⟨#[52]⟩) ∧ W = W' := by
  go_enter Tryd.func42, Tryd.ntmps42
  go_wp2
  go_ret
  exact ⟨rfl, rfl⟩
set_option maxRecDepth 100000 in
theorem place_4 (W : World) : Calls Tryd.prog 20 #[.int .i64 4] W fun e W' => e = .returned (.string ⟨#[52]⟩) ∧ Fr (fun _ => False) W W' := by
  have b4 := byte_4
  go_enter Tryd.func20, Tryd.ntmps20
  go_wp2_with fail
  refine wp_loop_rounds 1 ?_
  rw [rounds_succ]
  go_wp2
  go_ret
  exact ⟨rfl, Fr.alloc _ _ _⟩
set_option maxRecDepth 100000 in
theorem itoa_5 (W : World) : Calls Tryd.prog 42 #[.int .i64 5] W fun e W' => e = .returned (.string ⟨#[53]⟩) ∧ W = W' := by
  go_enter Tryd.func42, Tryd.ntmps42
  go_wp2
  go_ret
  exact ⟨rfl, rfl⟩
set_option maxRecDepth 100000 in
theorem place_5 (W : World) : Calls Tryd.prog 20 #[.int .i64 5] W fun e W' => e = .returned (.string ⟨#[53]⟩) ∧ Fr (fun _ => False) W W' := by
  have b5 := byte_5
  go_enter Tryd.func20, Tryd.ntmps20
  go_wp2_with fail
  refine wp_loop_rounds 1 ?_
  rw [rounds_succ]
  go_wp2
  go_ret
  exact ⟨rfl, Fr.alloc _ _ _⟩
set_option maxRecDepth 100000 in
theorem itoa_6 (W : World) : Calls Tryd.prog 42 #[.int .i64 6] W fun e W' => e = .returned (.string ⟨#[54]⟩) ∧ W = W' := by
  go_enter Tryd.func42, Tryd.ntmps42
  go_wp2
  go_ret
  exact ⟨rfl, rfl⟩
set_option maxRecDepth 100000 in
theorem place_6 (W : World) : Calls Tryd.prog 20 #[.int .i64 6] W fun e W' => e = .returned (.string ⟨#[54]⟩) ∧ Fr (fun _ => False) W W' := by
  have b6 := byte_6
  go_enter Tryd.func20, Tryd.ntmps20
  go_wp2_with fail
  refine wp_loop_rounds 1 ?_
  rw [rounds_succ]
  go_wp2
  go_ret
  exact ⟨rfl, Fr.alloc _ _ _⟩
set_option maxRecDepth 100000 in
theorem itoa_7 (W : World) : Calls Tryd.prog 42 #[.int .i64 7] W fun e W' => e = .returned (.string ⟨#[55]⟩) ∧ W = W' := by
  go_enter Tryd.func42, Tryd.ntmps42
  go_wp2
  go_ret
  exact ⟨rfl, rfl⟩
set_option maxRecDepth 100000 in
theorem place_7 (W : World) : Calls Tryd.prog 20 #[.int .i64 7] W fun e W' => e = .returned (.string ⟨#[55]⟩) ∧ Fr (fun _ => False) W W' := by
  have b7 := byte_7
  go_enter Tryd.func20, Tryd.ntmps20
  go_wp2_with fail
  refine wp_loop_rounds 1 ?_
  rw [rounds_succ]
  go_wp2
  go_ret
  exact ⟨rfl, Fr.alloc _ _ _⟩
set_option maxRecDepth 100000 in
theorem itoa_8 (W : World) : Calls Tryd.prog 42 #[.int .i64 8] W fun e W' => e = .returned (.string ⟨#[56]⟩) ∧ W = W' := by
  go_enter Tryd.func42, Tryd.ntmps42
  go_wp2
  go_ret
  exact ⟨rfl, rfl⟩
set_option maxRecDepth 100000 in
theorem place_8 (W : World) : Calls Tryd.prog 20 #[.int .i64 8] W fun e W' => e = .returned (.string ⟨#[56]⟩) ∧ Fr (fun _ => False) W W' := by
  have b8 := byte_8
  go_enter Tryd.func20, Tryd.ntmps20
  go_wp2_with fail
  refine wp_loop_rounds 1 ?_
  rw [rounds_succ]
  go_wp2
  go_ret
  exact ⟨rfl, Fr.alloc _ _ _⟩
set_option maxRecDepth 100000 in
theorem itoa_9 (W : World) : Calls Tryd.prog 42 #[.int .i64 9] W fun e W' => e = .returned (.string ⟨#[57]⟩) ∧ W = W' := by
  go_enter Tryd.func42, Tryd.ntmps42
  go_wp2
  go_ret
  exact ⟨rfl, rfl⟩
set_option maxRecDepth 100000 in
theorem place_9 (W : World) : Calls Tryd.prog 20 #[.int .i64 9] W fun e W' => e = .returned (.string ⟨#[57]⟩) ∧ Fr (fun _ => False) W W' := by
  have b9 := byte_9
  go_enter Tryd.func20, Tryd.ntmps20
  go_wp2_with fail
  refine wp_loop_rounds 1 ?_
  rw [rounds_succ]
  go_wp2
  go_ret
  exact ⟨rfl, Fr.alloc _ _ _⟩
set_option maxRecDepth 100000 in
theorem itoa_10 (W : World) : Calls Tryd.prog 42 #[.int .i64 10] W fun e W' => e = .returned (.string ⟨#[49, 48]⟩) ∧ W = W' := by
  go_enter Tryd.func42, Tryd.ntmps42
  go_wp2
  go_ret
  exact ⟨rfl, rfl⟩
set_option maxRecDepth 100000 in
theorem place_10 (W : World) : Calls Tryd.prog 20 #[.int .i64 10] W fun e W' => e = .returned (.string ⟨#[49, 48]⟩) ∧ Fr (fun _ => False) W W' := by
  have b0 := byte_0
  have b1 := byte_1
  have bb := byte_1 (W.alloc (.cells #[.int .u8 48] 5))
  rw [World.size_alloc] at bb
  go_enter Tryd.func20, Tryd.ntmps20
  go_wp2_with fail
  refine wp_loop_rounds 2 ?_
  rw [rounds_succ]
  go_wp2
  rw [rounds_succ]
  go_wp2
  go_ret
  exact ⟨rfl, (Fr.alloc _ _ _).trans (Fr.alloc _ _ _)⟩
set_option maxRecDepth 100000 in
theorem itoa_11 (W : World) : Calls Tryd.prog 42 #[.int .i64 11] W fun e W' => e = .returned (.string ⟨#[49, 49]⟩) ∧ W = W' := by
  go_enter Tryd.func42, Tryd.ntmps42
  go_wp2
  go_ret
  exact ⟨rfl, rfl⟩
set_option maxRecDepth 100000 in
theorem place_11 (W : World) : Calls Tryd.prog 20 #[.int .i64 11] W fun e W' => e = .returned (.string ⟨#[49, 49]⟩) ∧ Fr (fun _ => False) W W' := by
  have b1 := byte_1
  have bb := byte_1 (W.alloc (.cells #[.int .u8 49] 5))
  rw [World.size_alloc] at bb
  go_enter Tryd.func20, Tryd.ntmps20
  go_wp2_with fail
  refine wp_loop_rounds 2 ?_
  rw [rounds_succ]
  go_wp2
  rw [rounds_succ]
  go_wp2
  go_ret
  exact ⟨rfl, (Fr.alloc _ _ _).trans (Fr.alloc _ _ _)⟩
set_option maxRecDepth 100000 in
theorem itoa_12 (W : World) : Calls Tryd.prog 42 #[.int .i64 12] W fun e W' => e = .returned (.string ⟨#[49, 50]⟩) ∧ W = W' := by
  go_enter Tryd.func42, Tryd.ntmps42
  go_wp2
  go_ret
  exact ⟨rfl, rfl⟩
set_option maxRecDepth 100000 in
theorem place_12 (W : World) : Calls Tryd.prog 20 #[.int .i64 12] W fun e W' => e = .returned (.string ⟨#[49, 50]⟩) ∧ Fr (fun _ => False) W W' := by
  have b1 := byte_1
  have b2 := byte_2
  have bb := byte_1 (W.alloc (.cells #[.int .u8 50] 5))
  rw [World.size_alloc] at bb
  go_enter Tryd.func20, Tryd.ntmps20
  go_wp2_with fail
  refine wp_loop_rounds 2 ?_
  rw [rounds_succ]
  go_wp2
  rw [rounds_succ]
  go_wp2
  go_ret
  exact ⟨rfl, (Fr.alloc _ _ _).trans (Fr.alloc _ _ _)⟩
set_option maxRecDepth 100000 in
theorem itoa_13 (W : World) : Calls Tryd.prog 42 #[.int .i64 13] W fun e W' => e = .returned (.string ⟨#[49, 51]⟩) ∧ W = W' := by
  go_enter Tryd.func42, Tryd.ntmps42
  go_wp2
  go_ret
  exact ⟨rfl, rfl⟩
set_option maxRecDepth 100000 in
theorem place_13 (W : World) : Calls Tryd.prog 20 #[.int .i64 13] W fun e W' => e = .returned (.string ⟨#[49, 51]⟩) ∧ Fr (fun _ => False) W W' := by
  have b1 := byte_1
  have b3 := byte_3
  have bb := byte_1 (W.alloc (.cells #[.int .u8 51] 5))
  rw [World.size_alloc] at bb
  go_enter Tryd.func20, Tryd.ntmps20
  go_wp2_with fail
  refine wp_loop_rounds 2 ?_
  rw [rounds_succ]
  go_wp2
  rw [rounds_succ]
  go_wp2
  go_ret
  exact ⟨rfl, (Fr.alloc _ _ _).trans (Fr.alloc _ _ _)⟩
set_option maxRecDepth 100000 in
theorem itoa_14 (W : World) : Calls Tryd.prog 42 #[.int .i64 14] W fun e W' => e = .returned (.string ⟨#[49, 52]⟩) ∧ W = W' := by
  go_enter Tryd.func42, Tryd.ntmps42
  go_wp2
  go_ret
  exact ⟨rfl, rfl⟩
set_option maxRecDepth 100000 in
theorem place_14 (W : World) : Calls Tryd.prog 20 #[.int .i64 14] W fun e W' => e = .returned (.string ⟨#[49, 52]⟩) ∧ Fr (fun _ => False) W W' := by
  have b1 := byte_1
  have b4 := byte_4
  have bb := byte_1 (W.alloc (.cells #[.int .u8 52] 5))
  rw [World.size_alloc] at bb
  go_enter Tryd.func20, Tryd.ntmps20
  go_wp2_with fail
  refine wp_loop_rounds 2 ?_
  rw [rounds_succ]
  go_wp2
  rw [rounds_succ]
  go_wp2
  go_ret
  exact ⟨rfl, (Fr.alloc _ _ _).trans (Fr.alloc _ _ _)⟩
set_option maxRecDepth 100000 in
theorem itoa_15 (W : World) : Calls Tryd.prog 42 #[.int .i64 15] W fun e W' => e = .returned (.string ⟨#[49, 53]⟩) ∧ W = W' := by
  go_enter Tryd.func42, Tryd.ntmps42
  go_wp2
  go_ret
  exact ⟨rfl, rfl⟩
set_option maxRecDepth 100000 in
theorem place_15 (W : World) : Calls Tryd.prog 20 #[.int .i64 15] W fun e W' => e = .returned (.string ⟨#[49, 53]⟩) ∧ Fr (fun _ => False) W W' := by
  have b1 := byte_1
  have b5 := byte_5
  have bb := byte_1 (W.alloc (.cells #[.int .u8 53] 5))
  rw [World.size_alloc] at bb
  go_enter Tryd.func20, Tryd.ntmps20
  go_wp2_with fail
  refine wp_loop_rounds 2 ?_
  rw [rounds_succ]
  go_wp2
  rw [rounds_succ]
  go_wp2
  go_ret
  exact ⟨rfl, (Fr.alloc _ _ _).trans (Fr.alloc _ _ _)⟩
set_option maxRecDepth 100000 in
theorem itoa_16 (W : World) : Calls Tryd.prog 42 #[.int .i64 16] W fun e W' => e = .returned (.string ⟨#[49, 54]⟩) ∧ W = W' := by
  go_enter Tryd.func42, Tryd.ntmps42
  go_wp2
  go_ret
  exact ⟨rfl, rfl⟩
set_option maxRecDepth 100000 in
theorem place_16 (W : World) : Calls Tryd.prog 20 #[.int .i64 16] W fun e W' => e = .returned (.string ⟨#[49, 54]⟩) ∧ Fr (fun _ => False) W W' := by
  have b1 := byte_1
  have b6 := byte_6
  have bb := byte_1 (W.alloc (.cells #[.int .u8 54] 5))
  rw [World.size_alloc] at bb
  go_enter Tryd.func20, Tryd.ntmps20
  go_wp2_with fail
  refine wp_loop_rounds 2 ?_
  rw [rounds_succ]
  go_wp2
  rw [rounds_succ]
  go_wp2
  go_ret
  exact ⟨rfl, (Fr.alloc _ _ _).trans (Fr.alloc _ _ _)⟩
set_option maxRecDepth 100000 in
theorem itoa_17 (W : World) : Calls Tryd.prog 42 #[.int .i64 17] W fun e W' => e = .returned (.string ⟨#[49, 55]⟩) ∧ W = W' := by
  go_enter Tryd.func42, Tryd.ntmps42
  go_wp2
  go_ret
  exact ⟨rfl, rfl⟩
set_option maxRecDepth 100000 in
theorem place_17 (W : World) : Calls Tryd.prog 20 #[.int .i64 17] W fun e W' => e = .returned (.string ⟨#[49, 55]⟩) ∧ Fr (fun _ => False) W W' := by
  have b1 := byte_1
  have b7 := byte_7
  have bb := byte_1 (W.alloc (.cells #[.int .u8 55] 5))
  rw [World.size_alloc] at bb
  go_enter Tryd.func20, Tryd.ntmps20
  go_wp2_with fail
  refine wp_loop_rounds 2 ?_
  rw [rounds_succ]
  go_wp2
  rw [rounds_succ]
  go_wp2
  go_ret
  exact ⟨rfl, (Fr.alloc _ _ _).trans (Fr.alloc _ _ _)⟩
set_option maxRecDepth 100000 in
theorem itoa_18 (W : World) : Calls Tryd.prog 42 #[.int .i64 18] W fun e W' => e = .returned (.string ⟨#[49, 56]⟩) ∧ W = W' := by
  go_enter Tryd.func42, Tryd.ntmps42
  go_wp2
  go_ret
  exact ⟨rfl, rfl⟩
set_option maxRecDepth 100000 in
theorem place_18 (W : World) : Calls Tryd.prog 20 #[.int .i64 18] W fun e W' => e = .returned (.string ⟨#[49, 56]⟩) ∧ Fr (fun _ => False) W W' := by
  have b1 := byte_1
  have b8 := byte_8
  have bb := byte_1 (W.alloc (.cells #[.int .u8 56] 5))
  rw [World.size_alloc] at bb
  go_enter Tryd.func20, Tryd.ntmps20
  go_wp2_with fail
  refine wp_loop_rounds 2 ?_
  rw [rounds_succ]
  go_wp2
  rw [rounds_succ]
  go_wp2
  go_ret
  exact ⟨rfl, (Fr.alloc _ _ _).trans (Fr.alloc _ _ _)⟩
set_option maxRecDepth 100000 in
theorem itoa_19 (W : World) : Calls Tryd.prog 42 #[.int .i64 19] W fun e W' => e = .returned (.string ⟨#[49, 57]⟩) ∧ W = W' := by
  go_enter Tryd.func42, Tryd.ntmps42
  go_wp2
  go_ret
  exact ⟨rfl, rfl⟩
set_option maxRecDepth 100000 in
theorem place_19 (W : World) : Calls Tryd.prog 20 #[.int .i64 19] W fun e W' => e = .returned (.string ⟨#[49, 57]⟩) ∧ Fr (fun _ => False) W W' := by
  have b1 := byte_1
  have b9 := byte_9
  have bb := byte_1 (W.alloc (.cells #[.int .u8 57] 5))
  rw [World.size_alloc] at bb
  go_enter Tryd.func20, Tryd.ntmps20
  go_wp2_with fail
  refine wp_loop_rounds 2 ?_
  rw [rounds_succ]
  go_wp2
  rw [rounds_succ]
  go_wp2
  go_ret
  exact ⟨rfl, (Fr.alloc _ _ _).trans (Fr.alloc _ _ _)⟩
set_option maxRecDepth 100000 in
theorem itoa_20 (W : World) : Calls Tryd.prog 42 #[.int .i64 20] W fun e W' => e = .returned (.string ⟨#[50, 48]⟩) ∧ W = W' := by
  go_enter Tryd.func42, Tryd.ntmps42
  go_wp2
  go_ret
  exact ⟨rfl, rfl⟩
set_option maxRecDepth 100000 in
theorem place_20 (W : World) : Calls Tryd.prog 20 #[.int .i64 20] W fun e W' => e = .returned (.string ⟨#[50, 48]⟩) ∧ Fr (fun _ => False) W W' := by
  have b0 := byte_0
  have b2 := byte_2
  have bb := byte_2 (W.alloc (.cells #[.int .u8 48] 5))
  rw [World.size_alloc] at bb
  go_enter Tryd.func20, Tryd.ntmps20
  go_wp2_with fail
  refine wp_loop_rounds 2 ?_
  rw [rounds_succ]
  go_wp2
  rw [rounds_succ]
  go_wp2
  go_ret
  exact ⟨rfl, (Fr.alloc _ _ _).trans (Fr.alloc _ _ _)⟩
set_option maxRecDepth 100000 in
theorem itoa_21 (W : World) : Calls Tryd.prog 42 #[.int .i64 21] W fun e W' => e = .returned (.string ⟨#[50, 49]⟩) ∧ W = W' := by
  go_enter Tryd.func42, Tryd.ntmps42
  go_wp2
  go_ret
  exact ⟨rfl, rfl⟩
set_option maxRecDepth 100000 in
theorem place_21 (W : World) : Calls Tryd.prog 20 #[.int .i64 21] W fun e W' => e = .returned (.string ⟨#[50, 49]⟩) ∧ Fr (fun _ => False) W W' := by
  have b1 := byte_1
  have b2 := byte_2
  have bb := byte_2 (W.alloc (.cells #[.int .u8 49] 5))
  rw [World.size_alloc] at bb
  go_enter Tryd.func20, Tryd.ntmps20
  go_wp2_with fail
  refine wp_loop_rounds 2 ?_
  rw [rounds_succ]
  go_wp2
  rw [rounds_succ]
  go_wp2
  go_ret
  exact ⟨rfl, (Fr.alloc _ _ _).trans (Fr.alloc _ _ _)⟩
set_option maxRecDepth 100000 in
theorem itoa_22 (W : World) : Calls Tryd.prog 42 #[.int .i64 22] W fun e W' => e = .returned (.string ⟨#[50, 50]⟩) ∧ W = W' := by
  go_enter Tryd.func42, Tryd.ntmps42
  go_wp2
  go_ret
  exact ⟨rfl, rfl⟩
set_option maxRecDepth 100000 in
theorem place_22 (W : World) : Calls Tryd.prog 20 #[.int .i64 22] W fun e W' => e = .returned (.string ⟨#[50, 50]⟩) ∧ Fr (fun _ => False) W W' := by
  have b2 := byte_2
  have bb := byte_2 (W.alloc (.cells #[.int .u8 50] 5))
  rw [World.size_alloc] at bb
  go_enter Tryd.func20, Tryd.ntmps20
  go_wp2_with fail
  refine wp_loop_rounds 2 ?_
  rw [rounds_succ]
  go_wp2
  rw [rounds_succ]
  go_wp2
  go_ret
  exact ⟨rfl, (Fr.alloc _ _ _).trans (Fr.alloc _ _ _)⟩
set_option maxRecDepth 100000 in
theorem itoa_23 (W : World) : Calls Tryd.prog 42 #[.int .i64 23] W fun e W' => e = .returned (.string ⟨#[50, 51]⟩) ∧ W = W' := by
  go_enter Tryd.func42, Tryd.ntmps42
  go_wp2
  go_ret
  exact ⟨rfl, rfl⟩
set_option maxRecDepth 100000 in
theorem place_23 (W : World) : Calls Tryd.prog 20 #[.int .i64 23] W fun e W' => e = .returned (.string ⟨#[50, 51]⟩) ∧ Fr (fun _ => False) W W' := by
  have b2 := byte_2
  have b3 := byte_3
  have bb := byte_2 (W.alloc (.cells #[.int .u8 51] 5))
  rw [World.size_alloc] at bb
  go_enter Tryd.func20, Tryd.ntmps20
  go_wp2_with fail
  refine wp_loop_rounds 2 ?_
  rw [rounds_succ]
  go_wp2
  rw [rounds_succ]
  go_wp2
  go_ret
  exact ⟨rfl, (Fr.alloc _ _ _).trans (Fr.alloc _ _ _)⟩
set_option maxRecDepth 100000 in
theorem itoa_24 (W : World) : Calls Tryd.prog 42 #[.int .i64 24] W fun e W' => e = .returned (.string ⟨#[50, 52]⟩) ∧ W = W' := by
  go_enter Tryd.func42, Tryd.ntmps42
  go_wp2
  go_ret
  exact ⟨rfl, rfl⟩
set_option maxRecDepth 100000 in
theorem place_24 (W : World) : Calls Tryd.prog 20 #[.int .i64 24] W fun e W' => e = .returned (.string ⟨#[50, 52]⟩) ∧ Fr (fun _ => False) W W' := by
  have b2 := byte_2
  have b4 := byte_4
  have bb := byte_2 (W.alloc (.cells #[.int .u8 52] 5))
  rw [World.size_alloc] at bb
  go_enter Tryd.func20, Tryd.ntmps20
  go_wp2_with fail
  refine wp_loop_rounds 2 ?_
  rw [rounds_succ]
  go_wp2
  rw [rounds_succ]
  go_wp2
  go_ret
  exact ⟨rfl, (Fr.alloc _ _ _).trans (Fr.alloc _ _ _)⟩
set_option maxRecDepth 100000 in
theorem itoa_25 (W : World) : Calls Tryd.prog 42 #[.int .i64 25] W fun e W' => e = .returned (.string ⟨#[50, 53]⟩) ∧ W = W' := by
  go_enter Tryd.func42, Tryd.ntmps42
  go_wp2
  go_ret
  exact ⟨rfl, rfl⟩
set_option maxRecDepth 100000 in
theorem place_25 (W : World) : Calls Tryd.prog 20 #[.int .i64 25] W fun e W' => e = .returned (.string ⟨#[50, 53]⟩) ∧ Fr (fun _ => False) W W' := by
  have b2 := byte_2
  have b5 := byte_5
  have bb := byte_2 (W.alloc (.cells #[.int .u8 53] 5))
  rw [World.size_alloc] at bb
  go_enter Tryd.func20, Tryd.ntmps20
  go_wp2_with fail
  refine wp_loop_rounds 2 ?_
  rw [rounds_succ]
  go_wp2
  rw [rounds_succ]
  go_wp2
  go_ret
  exact ⟨rfl, (Fr.alloc _ _ _).trans (Fr.alloc _ _ _)⟩
set_option maxRecDepth 100000 in
theorem itoa_26 (W : World) : Calls Tryd.prog 42 #[.int .i64 26] W fun e W' => e = .returned (.string ⟨#[50, 54]⟩) ∧ W = W' := by
  go_enter Tryd.func42, Tryd.ntmps42
  go_wp2
  go_ret
  exact ⟨rfl, rfl⟩
set_option maxRecDepth 100000 in
theorem place_26 (W : World) : Calls Tryd.prog 20 #[.int .i64 26] W fun e W' => e = .returned (.string ⟨#[50, 54]⟩) ∧ Fr (fun _ => False) W W' := by
  have b2 := byte_2
  have b6 := byte_6
  have bb := byte_2 (W.alloc (.cells #[.int .u8 54] 5))
  rw [World.size_alloc] at bb
  go_enter Tryd.func20, Tryd.ntmps20
  go_wp2_with fail
  refine wp_loop_rounds 2 ?_
  rw [rounds_succ]
  go_wp2
  rw [rounds_succ]
  go_wp2
  go_ret
  exact ⟨rfl, (Fr.alloc _ _ _).trans (Fr.alloc _ _ _)⟩
set_option maxRecDepth 100000 in
theorem itoa_27 (W : World) : Calls Tryd.prog 42 #[.int .i64 27] W fun e W' => e = .returned (.string ⟨#[50, 55]⟩) ∧ W = W' := by
  go_enter Tryd.func42, Tryd.ntmps42
  go_wp2
  go_ret
  exact ⟨rfl, rfl⟩
set_option maxRecDepth 100000 in
theorem place_27 (W : World) : Calls Tryd.prog 20 #[.int .i64 27] W fun e W' => e = .returned (.string ⟨#[50, 55]⟩) ∧ Fr (fun _ => False) W W' := by
  have b2 := byte_2
  have b7 := byte_7
  have bb := byte_2 (W.alloc (.cells #[.int .u8 55] 5))
  rw [World.size_alloc] at bb
  go_enter Tryd.func20, Tryd.ntmps20
  go_wp2_with fail
  refine wp_loop_rounds 2 ?_
  rw [rounds_succ]
  go_wp2
  rw [rounds_succ]
  go_wp2
  go_ret
  exact ⟨rfl, (Fr.alloc _ _ _).trans (Fr.alloc _ _ _)⟩
set_option maxRecDepth 100000 in
theorem itoa_28 (W : World) : Calls Tryd.prog 42 #[.int .i64 28] W fun e W' => e = .returned (.string ⟨#[50, 56]⟩) ∧ W = W' := by
  go_enter Tryd.func42, Tryd.ntmps42
  go_wp2
  go_ret
  exact ⟨rfl, rfl⟩
set_option maxRecDepth 100000 in
theorem place_28 (W : World) : Calls Tryd.prog 20 #[.int .i64 28] W fun e W' => e = .returned (.string ⟨#[50, 56]⟩) ∧ Fr (fun _ => False) W W' := by
  have b2 := byte_2
  have b8 := byte_8
  have bb := byte_2 (W.alloc (.cells #[.int .u8 56] 5))
  rw [World.size_alloc] at bb
  go_enter Tryd.func20, Tryd.ntmps20
  go_wp2_with fail
  refine wp_loop_rounds 2 ?_
  rw [rounds_succ]
  go_wp2
  rw [rounds_succ]
  go_wp2
  go_ret
  exact ⟨rfl, (Fr.alloc _ _ _).trans (Fr.alloc _ _ _)⟩
set_option maxRecDepth 100000 in
theorem itoa_29 (W : World) : Calls Tryd.prog 42 #[.int .i64 29] W fun e W' => e = .returned (.string ⟨#[50, 57]⟩) ∧ W = W' := by
  go_enter Tryd.func42, Tryd.ntmps42
  go_wp2
  go_ret
  exact ⟨rfl, rfl⟩
set_option maxRecDepth 100000 in
theorem place_29 (W : World) : Calls Tryd.prog 20 #[.int .i64 29] W fun e W' => e = .returned (.string ⟨#[50, 57]⟩) ∧ Fr (fun _ => False) W W' := by
  have b2 := byte_2
  have b9 := byte_9
  have bb := byte_2 (W.alloc (.cells #[.int .u8 57] 5))
  rw [World.size_alloc] at bb
  go_enter Tryd.func20, Tryd.ntmps20
  go_wp2_with fail
  refine wp_loop_rounds 2 ?_
  rw [rounds_succ]
  go_wp2
  rw [rounds_succ]
  go_wp2
  go_ret
  exact ⟨rfl, (Fr.alloc _ _ _).trans (Fr.alloc _ _ _)⟩
set_option maxRecDepth 100000 in
theorem itoa_30 (W : World) : Calls Tryd.prog 42 #[.int .i64 30] W fun e W' => e = .returned (.string ⟨#[51, 48]⟩) ∧ W = W' := by
  go_enter Tryd.func42, Tryd.ntmps42
  go_wp2
  go_ret
  exact ⟨rfl, rfl⟩
set_option maxRecDepth 100000 in
theorem place_30 (W : World) : Calls Tryd.prog 20 #[.int .i64 30] W fun e W' => e = .returned (.string ⟨#[51, 48]⟩) ∧ Fr (fun _ => False) W W' := by
  have b0 := byte_0
  have b3 := byte_3
  have bb := byte_3 (W.alloc (.cells #[.int .u8 48] 5))
  rw [World.size_alloc] at bb
  go_enter Tryd.func20, Tryd.ntmps20
  go_wp2_with fail
  refine wp_loop_rounds 2 ?_
  rw [rounds_succ]
  go_wp2
  rw [rounds_succ]
  go_wp2
  go_ret
  exact ⟨rfl, (Fr.alloc _ _ _).trans (Fr.alloc _ _ _)⟩
set_option maxRecDepth 100000 in
theorem itoa_31 (W : World) : Calls Tryd.prog 42 #[.int .i64 31] W fun e W' => e = .returned (.string ⟨#[51, 49]⟩) ∧ W = W' := by
  go_enter Tryd.func42, Tryd.ntmps42
  go_wp2
  go_ret
  exact ⟨rfl, rfl⟩
set_option maxRecDepth 100000 in
theorem place_31 (W : World) : Calls Tryd.prog 20 #[.int .i64 31] W fun e W' => e = .returned (.string ⟨#[51, 49]⟩) ∧ Fr (fun _ => False) W W' := by
  have b1 := byte_1
  have b3 := byte_3
  have bb := byte_3 (W.alloc (.cells #[.int .u8 49] 5))
  rw [World.size_alloc] at bb
  go_enter Tryd.func20, Tryd.ntmps20
  go_wp2_with fail
  refine wp_loop_rounds 2 ?_
  rw [rounds_succ]
  go_wp2
  rw [rounds_succ]
  go_wp2
  go_ret
  exact ⟨rfl, (Fr.alloc _ _ _).trans (Fr.alloc _ _ _)⟩
set_option maxRecDepth 100000 in
theorem itoa_32 (W : World) : Calls Tryd.prog 42 #[.int .i64 32] W fun e W' => e = .returned (.string ⟨#[51, 50]⟩) ∧ W = W' := by
  go_enter Tryd.func42, Tryd.ntmps42
  go_wp2
  go_ret
  exact ⟨rfl, rfl⟩
set_option maxRecDepth 100000 in
theorem place_32 (W : World) : Calls Tryd.prog 20 #[.int .i64 32] W fun e W' => e = .returned (.string ⟨#[51, 50]⟩) ∧ Fr (fun _ => False) W W' := by
  have b2 := byte_2
  have b3 := byte_3
  have bb := byte_3 (W.alloc (.cells #[.int .u8 50] 5))
  rw [World.size_alloc] at bb
  go_enter Tryd.func20, Tryd.ntmps20
  go_wp2_with fail
  refine wp_loop_rounds 2 ?_
  rw [rounds_succ]
  go_wp2
  rw [rounds_succ]
  go_wp2
  go_ret
  exact ⟨rfl, (Fr.alloc _ _ _).trans (Fr.alloc _ _ _)⟩
set_option maxRecDepth 100000 in
theorem itoa_33 (W : World) : Calls Tryd.prog 42 #[.int .i64 33] W fun e W' => e = .returned (.string ⟨#[51, 51]⟩) ∧ W = W' := by
  go_enter Tryd.func42, Tryd.ntmps42
  go_wp2
  go_ret
  exact ⟨rfl, rfl⟩
set_option maxRecDepth 100000 in
theorem place_33 (W : World) : Calls Tryd.prog 20 #[.int .i64 33] W fun e W' => e = .returned (.string ⟨#[51, 51]⟩) ∧ Fr (fun _ => False) W W' := by
  have b3 := byte_3
  have bb := byte_3 (W.alloc (.cells #[.int .u8 51] 5))
  rw [World.size_alloc] at bb
  go_enter Tryd.func20, Tryd.ntmps20
  go_wp2_with fail
  refine wp_loop_rounds 2 ?_
  rw [rounds_succ]
  go_wp2
  rw [rounds_succ]
  go_wp2
  go_ret
  exact ⟨rfl, (Fr.alloc _ _ _).trans (Fr.alloc _ _ _)⟩
set_option maxRecDepth 100000 in
theorem itoa_34 (W : World) : Calls Tryd.prog 42 #[.int .i64 34] W fun e W' => e = .returned (.string ⟨#[51, 52]⟩) ∧ W = W' := by
  go_enter Tryd.func42, Tryd.ntmps42
  go_wp2
  go_ret
  exact ⟨rfl, rfl⟩
set_option maxRecDepth 100000 in
theorem place_34 (W : World) : Calls Tryd.prog 20 #[.int .i64 34] W fun e W' => e = .returned (.string ⟨#[51, 52]⟩) ∧ Fr (fun _ => False) W W' := by
  have b3 := byte_3
  have b4 := byte_4
  have bb := byte_3 (W.alloc (.cells #[.int .u8 52] 5))
  rw [World.size_alloc] at bb
  go_enter Tryd.func20, Tryd.ntmps20
  go_wp2_with fail
  refine wp_loop_rounds 2 ?_
  rw [rounds_succ]
  go_wp2
  rw [rounds_succ]
  go_wp2
  go_ret
  exact ⟨rfl, (Fr.alloc _ _ _).trans (Fr.alloc _ _ _)⟩
set_option maxRecDepth 100000 in
theorem itoa_35 (W : World) : Calls Tryd.prog 42 #[.int .i64 35] W fun e W' => e = .returned (.string ⟨#[51, 53]⟩) ∧ W = W' := by
  go_enter Tryd.func42, Tryd.ntmps42
  go_wp2
  go_ret
  exact ⟨rfl, rfl⟩
set_option maxRecDepth 100000 in
theorem place_35 (W : World) : Calls Tryd.prog 20 #[.int .i64 35] W fun e W' => e = .returned (.string ⟨#[51, 53]⟩) ∧ Fr (fun _ => False) W W' := by
  have b3 := byte_3
  have b5 := byte_5
  have bb := byte_3 (W.alloc (.cells #[.int .u8 53] 5))
  rw [World.size_alloc] at bb
  go_enter Tryd.func20, Tryd.ntmps20
  go_wp2_with fail
  refine wp_loop_rounds 2 ?_
  rw [rounds_succ]
  go_wp2
  rw [rounds_succ]
  go_wp2
  go_ret
  exact ⟨rfl, (Fr.alloc _ _ _).trans (Fr.alloc _ _ _)⟩
set_option maxRecDepth 100000 in
theorem itoa_36 (W : World) : Calls Tryd.prog 42 #[.int .i64 36] W fun e W' => e = .returned (.string ⟨#[51, 54]⟩) ∧ W = W' := by
  go_enter Tryd.func42, Tryd.ntmps42
  go_wp2
  go_ret
  exact ⟨rfl, rfl⟩
set_option maxRecDepth 100000 in
theorem place_36 (W : World) : Calls Tryd.prog 20 #[.int .i64 36] W fun e W' => e = .returned (.string ⟨#[51, 54]⟩) ∧ Fr (fun _ => False) W W' := by
  have b3 := byte_3
  have b6 := byte_6
  have bb := byte_3 (W.alloc (.cells #[.int .u8 54] 5))
  rw [World.size_alloc] at bb
  go_enter Tryd.func20, Tryd.ntmps20
  go_wp2_with fail
  refine wp_loop_rounds 2 ?_
  rw [rounds_succ]
  go_wp2
  rw [rounds_succ]
  go_wp2
  go_ret
  exact ⟨rfl, (Fr.alloc _ _ _).trans (Fr.alloc _ _ _)⟩
set_option maxRecDepth 100000 in
theorem itoa_37 (W : World) : Calls Tryd.prog 42 #[.int .i64 37] W fun e W' => e = .returned (.string ⟨#[51, 55]⟩) ∧ W = W' := by
  go_enter Tryd.func42, Tryd.ntmps42
  go_wp2
  go_ret
  exact ⟨rfl, rfl⟩
set_option maxRecDepth 100000 in
theorem place_37 (W : World) : Calls Tryd.prog 20 #[.int .i64 37] W fun e W' => e = .returned (.string ⟨#[51, 55]⟩) ∧ Fr (fun _ => False) W W' := by
  have b3 := byte_3
  have b7 := byte_7
  have bb := byte_3 (W.alloc (.cells #[.int .u8 55] 5))
  rw [World.size_alloc] at bb
  go_enter Tryd.func20, Tryd.ntmps20
  go_wp2_with fail
  refine wp_loop_rounds 2 ?_
  rw [rounds_succ]
  go_wp2
  rw [rounds_succ]
  go_wp2
  go_ret
  exact ⟨rfl, (Fr.alloc _ _ _).trans (Fr.alloc _ _ _)⟩
set_option maxRecDepth 100000 in
theorem itoa_38 (W : World) : Calls Tryd.prog 42 #[.int .i64 38] W fun e W' => e = .returned (.string ⟨#[51, 56]⟩) ∧ W = W' := by
  go_enter Tryd.func42, Tryd.ntmps42
  go_wp2
  go_ret
  exact ⟨rfl, rfl⟩
set_option maxRecDepth 100000 in
theorem place_38 (W : World) : Calls Tryd.prog 20 #[.int .i64 38] W fun e W' => e = .returned (.string ⟨#[51, 56]⟩) ∧ Fr (fun _ => False) W W' := by
  have b3 := byte_3
  have b8 := byte_8
  have bb := byte_3 (W.alloc (.cells #[.int .u8 56] 5))
  rw [World.size_alloc] at bb
  go_enter Tryd.func20, Tryd.ntmps20
  go_wp2_with fail
  refine wp_loop_rounds 2 ?_
  rw [rounds_succ]
  go_wp2
  rw [rounds_succ]
  go_wp2
  go_ret
  exact ⟨rfl, (Fr.alloc _ _ _).trans (Fr.alloc _ _ _)⟩
set_option maxRecDepth 100000 in
theorem itoa_39 (W : World) : Calls Tryd.prog 42 #[.int .i64 39] W fun e W' => e = .returned (.string ⟨#[51, 57]⟩) ∧ W = W' := by
  go_enter Tryd.func42, Tryd.ntmps42
  go_wp2
  go_ret
  exact ⟨rfl, rfl⟩
set_option maxRecDepth 100000 in
theorem place_39 (W : World) : Calls Tryd.prog 20 #[.int .i64 39] W fun e W' => e = .returned (.string ⟨#[51, 57]⟩) ∧ Fr (fun _ => False) W W' := by
  have b3 := byte_3
  have b9 := byte_9
  have bb := byte_3 (W.alloc (.cells #[.int .u8 57] 5))
  rw [World.size_alloc] at bb
  go_enter Tryd.func20, Tryd.ntmps20
  go_wp2_with fail
  refine wp_loop_rounds 2 ?_
  rw [rounds_succ]
  go_wp2
  rw [rounds_succ]
  go_wp2
  go_ret
  exact ⟨rfl, (Fr.alloc _ _ _).trans (Fr.alloc _ _ _)⟩
set_option maxRecDepth 100000 in
theorem itoa_40 (W : World) : Calls Tryd.prog 42 #[.int .i64 40] W fun e W' => e = .returned (.string ⟨#[52, 48]⟩) ∧ W = W' := by
  go_enter Tryd.func42, Tryd.ntmps42
  go_wp2
  go_ret
  exact ⟨rfl, rfl⟩
set_option maxRecDepth 100000 in
theorem place_40 (W : World) : Calls Tryd.prog 20 #[.int .i64 40] W fun e W' => e = .returned (.string ⟨#[52, 48]⟩) ∧ Fr (fun _ => False) W W' := by
  have b0 := byte_0
  have b4 := byte_4
  have bb := byte_4 (W.alloc (.cells #[.int .u8 48] 5))
  rw [World.size_alloc] at bb
  go_enter Tryd.func20, Tryd.ntmps20
  go_wp2_with fail
  refine wp_loop_rounds 2 ?_
  rw [rounds_succ]
  go_wp2
  rw [rounds_succ]
  go_wp2
  go_ret
  exact ⟨rfl, (Fr.alloc _ _ _).trans (Fr.alloc _ _ _)⟩
set_option maxRecDepth 100000 in
theorem itoa_41 (W : World) : Calls Tryd.prog 42 #[.int .i64 41] W fun e W' => e = .returned (.string ⟨#[52, 49]⟩) ∧ W = W' := by
  go_enter Tryd.func42, Tryd.ntmps42
  go_wp2
  go_ret
  exact ⟨rfl, rfl⟩
set_option maxRecDepth 100000 in
theorem place_41 (W : World) : Calls Tryd.prog 20 #[.int .i64 41] W fun e W' => e = .returned (.string ⟨#[52, 49]⟩) ∧ Fr (fun _ => False) W W' := by
  have b1 := byte_1
  have b4 := byte_4
  have bb := byte_4 (W.alloc (.cells #[.int .u8 49] 5))
  rw [World.size_alloc] at bb
  go_enter Tryd.func20, Tryd.ntmps20
  go_wp2_with fail
  refine wp_loop_rounds 2 ?_
  rw [rounds_succ]
  go_wp2
  rw [rounds_succ]
  go_wp2
  go_ret
  exact ⟨rfl, (Fr.alloc _ _ _).trans (Fr.alloc _ _ _)⟩
set_option maxRecDepth 100000 in
theorem itoa_42 (W : World) : Calls Tryd.prog 42 #[.int .i64 42] W fun e W' => e = .returned (.string ⟨#[52, 50]⟩) ∧ W = W' := by
  go_enter Tryd.func42, Tryd.ntmps42
  go_wp2
  go_ret
  exact ⟨rfl, rfl⟩
set_option maxRecDepth 100000 in
theorem place_42 (W : World) : Calls Tryd.prog 20 #[.int .i64 42] W fun e W' => e = .returned (.string ⟨#[52, 50]⟩) ∧ Fr (fun _ => False) W W' := by
  have b2 := byte_2
  have b4 := byte_4
  have bb := byte_4 (W.alloc (.cells #[.int .u8 50] 5))
  rw [World.size_alloc] at bb
  go_enter Tryd.func20, Tryd.ntmps20
  go_wp2_with fail
  refine wp_loop_rounds 2 ?_
  rw [rounds_succ]
  go_wp2
  rw [rounds_succ]
  go_wp2
  go_ret
  exact ⟨rfl, (Fr.alloc _ _ _).trans (Fr.alloc _ _ _)⟩
set_option maxRecDepth 100000 in
theorem itoa_43 (W : World) : Calls Tryd.prog 42 #[.int .i64 43] W fun e W' => e = .returned (.string ⟨#[52, 51]⟩) ∧ W = W' := by
  go_enter Tryd.func42, Tryd.ntmps42
  go_wp2
  go_ret
  exact ⟨rfl, rfl⟩
set_option maxRecDepth 100000 in
theorem place_43 (W : World) : Calls Tryd.prog 20 #[.int .i64 43] W fun e W' => e = .returned (.string ⟨#[52, 51]⟩) ∧ Fr (fun _ => False) W W' := by
  have b3 := byte_3
  have b4 := byte_4
  have bb := byte_4 (W.alloc (.cells #[.int .u8 51] 5))
  rw [World.size_alloc] at bb
  go_enter Tryd.func20, Tryd.ntmps20
  go_wp2_with fail
  refine wp_loop_rounds 2 ?_
  rw [rounds_succ]
  go_wp2
  rw [rounds_succ]
  go_wp2
  go_ret
  exact ⟨rfl, (Fr.alloc _ _ _).trans (Fr.alloc _ _ _)⟩
set_option maxRecDepth 100000 in
theorem itoa_44 (W : World) : Calls Tryd.prog 42 #[.int .i64 44] W fun e W' => e = .returned (.string ⟨#[52, 52]⟩) ∧ W = W' := by
  go_enter Tryd.func42, Tryd.ntmps42
  go_wp2
  go_ret
  exact ⟨rfl, rfl⟩
set_option maxRecDepth 100000 in
theorem place_44 (W : World) : Calls Tryd.prog 20 #[.int .i64 44] W fun e W' => e = .returned (.string ⟨#[52, 52]⟩) ∧ Fr (fun _ => False) W W' := by
  have b4 := byte_4
  have bb := byte_4 (W.alloc (.cells #[.int .u8 52] 5))
  rw [World.size_alloc] at bb
  go_enter Tryd.func20, Tryd.ntmps20
  go_wp2_with fail
  refine wp_loop_rounds 2 ?_
  rw [rounds_succ]
  go_wp2
  rw [rounds_succ]
  go_wp2
  go_ret
  exact ⟨rfl, (Fr.alloc _ _ _).trans (Fr.alloc _ _ _)⟩
set_option maxRecDepth 100000 in
theorem itoa_45 (W : World) : Calls Tryd.prog 42 #[.int .i64 45] W fun e W' => e = .returned (.string ⟨#[52, 53]⟩) ∧ W = W' := by
  go_enter Tryd.func42, Tryd.ntmps42
  go_wp2
  go_ret
  exact ⟨rfl, rfl⟩
set_option maxRecDepth 100000 in
theorem place_45 (W : World) : Calls Tryd.prog 20 #[.int .i64 45] W fun e W' => e = .returned (.string ⟨#[52, 53]⟩) ∧ Fr (fun _ => False) W W' := by
  have b4 := byte_4
  have b5 := byte_5
  have bb := byte_4 (W.alloc (.cells #[.int .u8 53] 5))
  rw [World.size_alloc] at bb
  go_enter Tryd.func20, Tryd.ntmps20
  go_wp2_with fail
  refine wp_loop_rounds 2 ?_
  rw [rounds_succ]
  go_wp2
  rw [rounds_succ]
  go_wp2
  go_ret
  exact ⟨rfl, (Fr.alloc _ _ _).trans (Fr.alloc _ _ _)⟩
set_option maxRecDepth 100000 in
theorem itoa_46 (W : World) : Calls Tryd.prog 42 #[.int .i64 46] W fun e W' => e = .returned (.string ⟨#[52, 54]⟩) ∧ W = W' := by
  go_enter Tryd.func42, Tryd.ntmps42
  go_wp2
  go_ret
  exact ⟨rfl, rfl⟩
set_option maxRecDepth 100000 in
theorem place_46 (W : World) : Calls Tryd.prog 20 #[.int .i64 46] W fun e W' => e = .returned (.string ⟨#[52, 54]⟩) ∧ Fr (fun _ => False) W W' := by
  have b4 := byte_4
  have b6 := byte_6
  have bb := byte_4 (W.alloc (.cells #[.int .u8 54] 5))
  rw [World.size_alloc] at bb
  go_enter Tryd.func20, Tryd.ntmps20
  go_wp2_with fail
  refine wp_loop_rounds 2 ?_
  rw [rounds_succ]
  go_wp2
  rw [rounds_succ]
  go_wp2
  go_ret
  exact ⟨rfl, (Fr.alloc _ _ _).trans (Fr.alloc _ _ _)⟩
set_option maxRecDepth 100000 in
theorem itoa_47 (W : World) : Calls Tryd.prog 42 #[.int .i64 47] W fun e W' => e = .returned (.string ⟨#[52, 55]⟩) ∧ W = W' := by
  go_enter Tryd.func42, Tryd.ntmps42
  go_wp2
  go_ret
  exact ⟨rfl, rfl⟩
set_option maxRecDepth 100000 in
theorem place_47 (W : World) : Calls Tryd.prog 20 #[.int .i64 47] W fun e W' => e = .returned (.string ⟨#[52, 55]⟩) ∧ Fr (fun _ => False) W W' := by
  have b4 := byte_4
  have b7 := byte_7
  have bb := byte_4 (W.alloc (.cells #[.int .u8 55] 5))
  rw [World.size_alloc] at bb
  go_enter Tryd.func20, Tryd.ntmps20
  go_wp2_with fail
  refine wp_loop_rounds 2 ?_
  rw [rounds_succ]
  go_wp2
  rw [rounds_succ]
  go_wp2
  go_ret
  exact ⟨rfl, (Fr.alloc _ _ _).trans (Fr.alloc _ _ _)⟩
set_option maxRecDepth 100000 in
theorem itoa_48 (W : World) : Calls Tryd.prog 42 #[.int .i64 48] W fun e W' => e = .returned (.string ⟨#[52, 56]⟩) ∧ W = W' := by
  go_enter Tryd.func42, Tryd.ntmps42
  go_wp2
  go_ret
  exact ⟨rfl, rfl⟩
set_option maxRecDepth 100000 in
theorem place_48 (W : World) : Calls Tryd.prog 20 #[.int .i64 48] W fun e W' => e = .returned (.string ⟨#[52, 56]⟩) ∧ Fr (fun _ => False) W W' := by
  have b4 := byte_4
  have b8 := byte_8
  have bb := byte_4 (W.alloc (.cells #[.int .u8 56] 5))
  rw [World.size_alloc] at bb
  go_enter Tryd.func20, Tryd.ntmps20
  go_wp2_with fail
  refine wp_loop_rounds 2 ?_
  rw [rounds_succ]
  go_wp2
  rw [rounds_succ]
  go_wp2
  go_ret
  exact ⟨rfl, (Fr.alloc _ _ _).trans (Fr.alloc _ _ _)⟩
set_option maxRecDepth 100000 in
theorem itoa_49 (W : World) : Calls Tryd.prog 42 #[.int .i64 49] W fun e W' => e = .returned (.string ⟨#[52, 57]⟩) ∧ W = W' := by
  go_enter Tryd.func42, Tryd.ntmps42
  go_wp2
  go_ret
  exact ⟨rfl, rfl⟩
set_option maxRecDepth 100000 in
theorem place_49 (W : World) : Calls Tryd.prog 20 #[.int .i64 49] W fun e W' => e = .returned (.string ⟨#[52, 57]⟩) ∧ Fr (fun _ => False) W W' := by
  have b4 := byte_4
  have b9 := byte_9
  have bb := byte_4 (W.alloc (.cells #[.int .u8 57] 5))
  rw [World.size_alloc] at bb
  go_enter Tryd.func20, Tryd.ntmps20
  go_wp2_with fail
  refine wp_loop_rounds 2 ?_
  rw [rounds_succ]
  go_wp2
  rw [rounds_succ]
  go_wp2
  go_ret
  exact ⟨rfl, (Fr.alloc _ _ _).trans (Fr.alloc _ _ _)⟩
set_option maxRecDepth 100000 in
theorem itoa_50 (W : World) : Calls Tryd.prog 42 #[.int .i64 50] W fun e W' => e = .returned (.string ⟨#[53, 48]⟩) ∧ W = W' := by
  go_enter Tryd.func42, Tryd.ntmps42
  go_wp2
  go_ret
  exact ⟨rfl, rfl⟩
set_option maxRecDepth 100000 in
theorem place_50 (W : World) : Calls Tryd.prog 20 #[.int .i64 50] W fun e W' => e = .returned (.string ⟨#[53, 48]⟩) ∧ Fr (fun _ => False) W W' := by
  have b0 := byte_0
  have b5 := byte_5
  have bb := byte_5 (W.alloc (.cells #[.int .u8 48] 5))
  rw [World.size_alloc] at bb
  go_enter Tryd.func20, Tryd.ntmps20
  go_wp2_with fail
  refine wp_loop_rounds 2 ?_
  rw [rounds_succ]
  go_wp2
  rw [rounds_succ]
  go_wp2
  go_ret
  exact ⟨rfl, (Fr.alloc _ _ _).trans (Fr.alloc _ _ _)⟩
set_option maxRecDepth 100000 in
theorem itoa_51 (W : World) : Calls Tryd.prog 42 #[.int .i64 51] W fun e W' => e = .returned (.string ⟨#[53, 49]⟩) ∧ W = W' := by
  go_enter Tryd.func42, Tryd.ntmps42
  go_wp2
  go_ret
  exact ⟨rfl, rfl⟩
set_option maxRecDepth 100000 in
theorem place_51 (W : World) : Calls Tryd.prog 20 #[.int .i64 51] W fun e W' => e = .returned (.string ⟨#[53, 49]⟩) ∧ Fr (fun _ => False) W W' := by
  have b1 := byte_1
  have b5 := byte_5
  have bb := byte_5 (W.alloc (.cells #[.int .u8 49] 5))
  rw [World.size_alloc] at bb
  go_enter Tryd.func20, Tryd.ntmps20
  go_wp2_with fail
  refine wp_loop_rounds 2 ?_
  rw [rounds_succ]
  go_wp2
  rw [rounds_succ]
  go_wp2
  go_ret
  exact ⟨rfl, (Fr.alloc _ _ _).trans (Fr.alloc _ _ _)⟩
set_option maxRecDepth 100000 in
theorem itoa_52 (W : World) : Calls Tryd.prog 42 #[.int .i64 52] W fun e W' => e = .returned (.string ⟨#[53, 50]⟩) ∧ W = W' := by
  go_enter Tryd.func42, Tryd.ntmps42
  go_wp2
  go_ret
  exact ⟨rfl, rfl⟩
set_option maxRecDepth 100000 in
theorem place_52 (W : World) : Calls Tryd.prog 20 #[.int .i64 52] W fun e W' => e = .returned (.string ⟨#[53, 50]⟩) ∧ Fr (fun _ => False) W W' := by
  have b2 := byte_2
  have b5 := byte_5
  have bb := byte_5 (W.alloc (.cells #[.int .u8 50] 5))
  rw [World.size_alloc] at bb
  go_enter Tryd.func20, Tryd.ntmps20
  go_wp2_with fail
  refine wp_loop_rounds 2 ?_
  rw [rounds_succ]
  go_wp2
  rw [rounds_succ]
  go_wp2
  go_ret
  exact ⟨rfl, (Fr.alloc _ _ _).trans (Fr.alloc _ _ _)⟩
set_option maxRecDepth 100000 in
theorem itoa_53 (W : World) : Calls Tryd.prog 42 #[.int .i64 53] W fun e W' => e = .returned (.string ⟨#[53, 51]⟩) ∧ W = W' := by
  go_enter Tryd.func42, Tryd.ntmps42
  go_wp2
  go_ret
  exact ⟨rfl, rfl⟩
set_option maxRecDepth 100000 in
theorem place_53 (W : World) : Calls Tryd.prog 20 #[.int .i64 53] W fun e W' => e = .returned (.string ⟨#[53, 51]⟩) ∧ Fr (fun _ => False) W W' := by
  have b3 := byte_3
  have b5 := byte_5
  have bb := byte_5 (W.alloc (.cells #[.int .u8 51] 5))
  rw [World.size_alloc] at bb
  go_enter Tryd.func20, Tryd.ntmps20
  go_wp2_with fail
  refine wp_loop_rounds 2 ?_
  rw [rounds_succ]
  go_wp2
  rw [rounds_succ]
  go_wp2
  go_ret
  exact ⟨rfl, (Fr.alloc _ _ _).trans (Fr.alloc _ _ _)⟩
set_option maxRecDepth 100000 in
theorem itoa_54 (W : World) : Calls Tryd.prog 42 #[.int .i64 54] W fun e W' => e = .returned (.string ⟨#[53, 52]⟩) ∧ W = W' := by
  go_enter Tryd.func42, Tryd.ntmps42
  go_wp2
  go_ret
  exact ⟨rfl, rfl⟩
set_option maxRecDepth 100000 in
theorem place_54 (W : World) : Calls Tryd.prog 20 #[.int .i64 54] W fun e W' => e = .returned (.string ⟨#[53, 52]⟩) ∧ Fr (fun _ => False) W W' := by
  have b4 := byte_4
  have b5 := byte_5
  have bb := byte_5 (W.alloc (.cells #[.int .u8 52] 5))
  rw [World.size_alloc] at bb
  go_enter Tryd.func20, Tryd.ntmps20
  go_wp2_with fail
  refine wp_loop_rounds 2 ?_
  rw [rounds_succ]
  go_wp2
  rw [rounds_succ]
  go_wp2
  go_ret
  exact ⟨rfl, (Fr.alloc _ _ _).trans (Fr.alloc _ _ _)⟩
set_option maxRecDepth 100000 in
theorem itoa_55 (W : World) : Calls Tryd.prog 42 #[.int .i64 55] W fun e W' => e = .returned (.string ⟨#[53, 53]⟩) ∧ W = W' := by
  go_enter Tryd.func42, Tryd.ntmps42
  go_wp2
  go_ret
  exact ⟨rfl, rfl⟩
set_option maxRecDepth 100000 in
theorem place_55 (W : World) : Calls Tryd.prog 20 #[.int .i64 55] W fun e W' => e = .returned (.string ⟨#[53, 53]⟩) ∧ Fr (fun _ => False) W W' := by
  have b5 := byte_5
  have bb := byte_5 (W.alloc (.cells #[.int .u8 53] 5))
  rw [World.size_alloc] at bb
  go_enter Tryd.func20, Tryd.ntmps20
  go_wp2_with fail
  refine wp_loop_rounds 2 ?_
  rw [rounds_succ]
  go_wp2
  rw [rounds_succ]
  go_wp2
  go_ret
  exact ⟨rfl, (Fr.alloc _ _ _).trans (Fr.alloc _ _ _)⟩
set_option maxRecDepth 100000 in
theorem itoa_56 (W : World) : Calls Tryd.prog 42 #[.int .i64 56] W fun e W' => e = .returned (.string ⟨#[53, 54]⟩) ∧ W = W' := by
  go_enter Tryd.func42, Tryd.ntmps42
  go_wp2
  go_ret
  exact ⟨rfl, rfl⟩
set_option maxRecDepth 100000 in
theorem place_56 (W : World) : Calls Tryd.prog 20 #[.int .i64 56] W fun e W' => e = .returned (.string ⟨#[53, 54]⟩) ∧ Fr (fun _ => False) W W' := by
  have b5 := byte_5
  have b6 := byte_6
  have bb := byte_5 (W.alloc (.cells #[.int .u8 54] 5))
  rw [World.size_alloc] at bb
  go_enter Tryd.func20, Tryd.ntmps20
  go_wp2_with fail
  refine wp_loop_rounds 2 ?_
  rw [rounds_succ]
  go_wp2
  rw [rounds_succ]
  go_wp2
  go_ret
  exact ⟨rfl, (Fr.alloc _ _ _).trans (Fr.alloc _ _ _)⟩
set_option maxRecDepth 100000 in
theorem itoa_57 (W : World) : Calls Tryd.prog 42 #[.int .i64 57] W fun e W' => e = .returned (.string ⟨#[53, 55]⟩) ∧ W = W' := by
  go_enter Tryd.func42, Tryd.ntmps42
  go_wp2
  go_ret
  exact ⟨rfl, rfl⟩
set_option maxRecDepth 100000 in
theorem place_57 (W : World) : Calls Tryd.prog 20 #[.int .i64 57] W fun e W' => e = .returned (.string ⟨#[53, 55]⟩) ∧ Fr (fun _ => False) W W' := by
  have b5 := byte_5
  have b7 := byte_7
  have bb := byte_5 (W.alloc (.cells #[.int .u8 55] 5))
  rw [World.size_alloc] at bb
  go_enter Tryd.func20, Tryd.ntmps20
  go_wp2_with fail
  refine wp_loop_rounds 2 ?_
  rw [rounds_succ]
  go_wp2
  rw [rounds_succ]
  go_wp2
  go_ret
  exact ⟨rfl, (Fr.alloc _ _ _).trans (Fr.alloc _ _ _)⟩
set_option maxRecDepth 100000 in
theorem itoa_58 (W : World) : Calls Tryd.prog 42 #[.int .i64 58] W fun e W' => e = .returned (.string ⟨#[53, 56]⟩) ∧ W = W' := by
  go_enter Tryd.func42, Tryd.ntmps42
  go_wp2
  go_ret
  exact ⟨rfl, rfl⟩
set_option maxRecDepth 100000 in
theorem place_58 (W : World) : Calls Tryd.prog 20 #[.int .i64 58] W fun e W' => e = .returned (.string ⟨#[53, 56]⟩) ∧ Fr (fun _ => False) W W' := by
  have b5 := byte_5
  have b8 := byte_8
  have bb := byte_5 (W.alloc (.cells #[.int .u8 56] 5))
  rw [World.size_alloc] at bb
  go_enter Tryd.func20, Tryd.ntmps20
  go_wp2_with fail
  refine wp_loop_rounds 2 ?_
  rw [rounds_succ]
  go_wp2
  rw [rounds_succ]
  go_wp2
  go_ret
  exact ⟨rfl, (Fr.alloc _ _ _).trans (Fr.alloc _ _ _)⟩
set_option maxRecDepth 100000 in
theorem itoa_59 (W : World) : Calls Tryd.prog 42 #[.int .i64 59] W fun e W' => e = .returned (.string ⟨#[53, 57]⟩) ∧ W = W' := by
  go_enter Tryd.func42, Tryd.ntmps42
  go_wp2
  go_ret
  exact ⟨rfl, rfl⟩
set_option maxRecDepth 100000 in
theorem place_59 (W : World) : Calls Tryd.prog 20 #[.int .i64 59] W fun e W' => e = .returned (.string ⟨#[53, 57]⟩) ∧ Fr (fun _ => False) W W' := by
  have b5 := byte_5
  have b9 := byte_9
  have bb := byte_5 (W.alloc (.cells #[.int .u8 57] 5))
  rw [World.size_alloc] at bb
  go_enter Tryd.func20, Tryd.ntmps20
  go_wp2_with fail
  refine wp_loop_rounds 2 ?_
  rw [rounds_succ]
  go_wp2
  rw [rounds_succ]
  go_wp2
  go_ret
  exact ⟨rfl, (Fr.alloc _ _ _).trans (Fr.alloc _ _ _)⟩
set_option maxRecDepth 100000 in
theorem itoa_60 (W : World) : Calls Tryd.prog 42 #[.int .i64 60] W fun e W' => e = .returned (.string ⟨#[54, 48]⟩) ∧ W = W' := by
  go_enter Tryd.func42, Tryd.ntmps42
  go_wp2
  go_ret
  exact ⟨rfl, rfl⟩
set_option maxRecDepth 100000 in
theorem place_60 (W : World) : Calls Tryd.prog 20 #[.int .i64 60] W fun e W' => e = .returned (.string ⟨#[54, 48]⟩) ∧ Fr (fun _ => False) W W' := by
  have b0 := byte_0
  have b6 := byte_6
  have bb := byte_6 (W.alloc (.cells #[.int .u8 48] 5))
  rw [World.size_alloc] at bb
  go_enter Tryd.func20, Tryd.ntmps20
  go_wp2_with fail
  refine wp_loop_rounds 2 ?_
  rw [rounds_succ]
  go_wp2
  rw [rounds_succ]
  go_wp2
  go_ret
  exact ⟨rfl, (Fr.alloc _ _ _).trans (Fr.alloc _ _ _)⟩
set_option maxRecDepth 100000 in
theorem itoa_61 (W : World) : Calls Tryd.prog 42 #[.int .i64 61] W fun e W' => e = .returned (.string ⟨#[54, 49]⟩) ∧ W = W' := by
  go_enter Tryd.func42, Tryd.ntmps42
  go_wp2
  go_ret
  exact ⟨rfl, rfl⟩
set_option maxRecDepth 100000 in
theorem place_61 (W : World) : Calls Tryd.prog 20 #[.int .i64 61] W fun e W' => e = .returned (.string ⟨#[54, 49]⟩) ∧ Fr (fun _ => False) W W' := by
  have b1 := byte_1
  have b6 := byte_6
  have bb := byte_6 (W.alloc (.cells #[.int .u8 49] 5))
  rw [World.size_alloc] at bb
  go_enter Tryd.func20, Tryd.ntmps20
  go_wp2_with fail
  refine wp_loop_rounds 2 ?_
  rw [rounds_succ]
  go_wp2
  rw [rounds_succ]
  go_wp2
  go_ret
  exact ⟨rfl, (Fr.alloc _ _ _).trans (Fr.alloc _ _ _)⟩
theorem num_texts (m : Int) (h : 1 ≤ m ∧ m ≤ 61) : ∃ n : ByteArray, n.size ≤ 20 ∧ (∀ w, Calls Tryd.prog 42 #[.int .i64 m] w fun e w' => e = .returned (.string n) ∧ w = w') ∧ (∀ w, Calls Tryd.prog 20 #[.int .i64 m] w fun e w' => e = .returned (.string n) ∧ Fr (fun _ => False) w w') := by
  have : m = 1 ∨ m = 2 ∨ m = 3 ∨ m = 4 ∨ m = 5 ∨ m = 6 ∨ m = 7 ∨ m = 8 ∨ m = 9 ∨ m = 10 ∨ m = 11 ∨ m = 12 ∨ m = 13 ∨ m = 14 ∨ m = 15 ∨ m = 16 ∨ m = 17 ∨ m = 18 ∨ m = 19 ∨ m = 20 ∨ m = 21 ∨ m = 22 ∨ m = 23 ∨ m = 24 ∨ m = 25 ∨ m = 26 ∨ m = 27 ∨ m = 28 ∨ m = 29 ∨ m = 30 ∨ m = 31 ∨ m = 32 ∨ m = 33 ∨ m = 34 ∨ m = 35 ∨ m = 36 ∨ m = 37 ∨ m = 38 ∨ m = 39 ∨ m = 40 ∨ m = 41 ∨ m = 42 ∨ m = 43 ∨ m = 44 ∨ m = 45 ∨ m = 46 ∨ m = 47 ∨ m = 48 ∨ m = 49 ∨ m = 50 ∨ m = 51 ∨ m = 52 ∨ m = 53 ∨ m = 54 ∨ m = 55 ∨ m = 56 ∨ m = 57 ∨ m = 58 ∨ m = 59 ∨ m = 60 ∨ m = 61 := by omega
  rcases this with rfl | rfl | rfl | rfl | rfl | rfl | rfl | rfl | rfl | rfl | rfl | rfl | rfl | rfl | rfl | rfl | rfl | rfl | rfl | rfl | rfl | rfl | rfl | rfl | rfl | rfl | rfl | rfl | rfl | rfl | rfl | rfl | rfl | rfl | rfl | rfl | rfl | rfl | rfl | rfl | rfl | rfl | rfl | rfl | rfl | rfl | rfl | rfl | rfl | rfl | rfl | rfl | rfl | rfl | rfl | rfl | rfl | rfl | rfl | rfl | rfl
  · exact ⟨_, by decide, itoa_1, place_1⟩
  · exact ⟨_, by decide, itoa_2, place_2⟩
  · exact ⟨_, by decide, itoa_3, place_3⟩
  · exact ⟨_, by decide, itoa_4, place_4⟩
  · exact ⟨_, by decide, itoa_5, place_5⟩
  · exact ⟨_, by decide, itoa_6, place_6⟩
  · exact ⟨_, by decide, itoa_7, place_7⟩
  · exact ⟨_, by decide, itoa_8, place_8⟩
  · exact ⟨_, by decide, itoa_9, place_9⟩
  · exact ⟨_, by decide, itoa_10, place_10⟩
  · exact ⟨_, by decide, itoa_11, place_11⟩
  · exact ⟨_, by decide, itoa_12, place_12⟩
  · exact ⟨_, by decide, itoa_13, place_13⟩
  · exact ⟨_, by decide, itoa_14, place_14⟩
  · exact ⟨_, by decide, itoa_15, place_15⟩
  · exact ⟨_, by decide, itoa_16, place_16⟩
  · exact ⟨_, by decide, itoa_17, place_17⟩
  · exact ⟨_, by decide, itoa_18, place_18⟩
  · exact ⟨_, by decide, itoa_19, place_19⟩
  · exact ⟨_, by decide, itoa_20, place_20⟩
  · exact ⟨_, by decide, itoa_21, place_21⟩
  · exact ⟨_, by decide, itoa_22, place_22⟩
  · exact ⟨_, by decide, itoa_23, place_23⟩
  · exact ⟨_, by decide, itoa_24, place_24⟩
  · exact ⟨_, by decide, itoa_25, place_25⟩
  · exact ⟨_, by decide, itoa_26, place_26⟩
  · exact ⟨_, by decide, itoa_27, place_27⟩
  · exact ⟨_, by decide, itoa_28, place_28⟩
  · exact ⟨_, by decide, itoa_29, place_29⟩
  · exact ⟨_, by decide, itoa_30, place_30⟩
  · exact ⟨_, by decide, itoa_31, place_31⟩
  · exact ⟨_, by decide, itoa_32, place_32⟩
  · exact ⟨_, by decide, itoa_33, place_33⟩
  · exact ⟨_, by decide, itoa_34, place_34⟩
  · exact ⟨_, by decide, itoa_35, place_35⟩
  · exact ⟨_, by decide, itoa_36, place_36⟩
  · exact ⟨_, by decide, itoa_37, place_37⟩
  · exact ⟨_, by decide, itoa_38, place_38⟩
  · exact ⟨_, by decide, itoa_39, place_39⟩
  · exact ⟨_, by decide, itoa_40, place_40⟩
  · exact ⟨_, by decide, itoa_41, place_41⟩
  · exact ⟨_, by decide, itoa_42, place_42⟩
  · exact ⟨_, by decide, itoa_43, place_43⟩
  · exact ⟨_, by decide, itoa_44, place_44⟩
  · exact ⟨_, by decide, itoa_45, place_45⟩
  · exact ⟨_, by decide, itoa_46, place_46⟩
  · exact ⟨_, by decide, itoa_47, place_47⟩
  · exact ⟨_, by decide, itoa_48, place_48⟩
  · exact ⟨_, by decide, itoa_49, place_49⟩
  · exact ⟨_, by decide, itoa_50, place_50⟩
  · exact ⟨_, by decide, itoa_51, place_51⟩
  · exact ⟨_, by decide, itoa_52, place_52⟩
  · exact ⟨_, by decide, itoa_53, place_53⟩
  · exact ⟨_, by decide, itoa_54, place_54⟩
  · exact ⟨_, by decide, itoa_55, place_55⟩
  · exact ⟨_, by decide, itoa_56, place_56⟩
  · exact ⟨_, by decide, itoa_57, place_57⟩
  · exact ⟨_, by decide, itoa_58, place_58⟩
  · exact ⟨_, by decide, itoa_59, place_59⟩
  · exact ⟨_, by decide, itoa_60, place_60⟩
  · exact ⟨_, by decide, itoa_61, place_61⟩
end Go.Proofs.YtbdjnfkhdphhoaaDoor
