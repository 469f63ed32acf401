/- The reference's members: Count, Right, Most, Votes. -/
import Derived.Test.YtfeaoapjgcibmaaH
import Derived.LoopTactic
set_option linter.unusedVariables false
set_option linter.unusedSimpArgs false
namespace Go.Proofs.Ytfeaoapjgcibmaa
open Go.RowKit Go.Shelf
attribute [local go_sem] Oper.semAt_some
theorem arr_cell {W : World} {B : Nat} {t : TypeId} {m : Nat → Int} (h : Blk W B t (arr m)) (k : Nat) (hk : k < 9) : W.cell? ⟨B, k, none⟩ = some (.int .u8 (m k)) := by
  have : k = 0 ∨ k = 1 ∨ k = 2 ∨ k = 3 ∨ k = 4 ∨ k = 5 ∨ k = 6 ∨ k = 7 ∨ k = 8 := by omega
  rcases this with rfl | rfl | rfl | rfl | rfl | rfl | rfl | rfl | rfl <;> exact h.cell _
set_option maxRecDepth 100000 in
set_option maxHeartbeats 2000000 in
theorem rcount_any (m : Nat → Int) (hm : ∀ k, k < 9 → 0 ≤ m k ∧ m k ≤ 255) (r : Int) (w : World) :
    Calls Try.prog 24 #[.agg #[.int .u8 (m 0), .int .u8 (m 1), .int .u8 (m 2), .int .u8 (m 3), .int .u8 (m 4), .int .u8 (m 5), .int .u8 (m 6), .int .u8 (m 7), .int .u8 (m 8)], .int .i64 r] w fun e W' => e = .returned (.int .i64 (cnt m r)) ∧ Below w.heap.size w W' := by
  have B0 := Blk.new w 24 (arr m)
  have b0 : Below w.heap.size w (w.alloc (.cells (arr m) 24)) := (Below.refl _ w).alloc (Nat.le_refl _) _
  go_enter Try.func24, Try.ntmps24
  go_wp2
  obtain ⟨W1, hW1⟩ : ∃ W1, w.alloc (.cells (arr m) 24) = W1 := ⟨_, rfl⟩
  obtain ⟨B, hB⟩ : ∃ B, w.heap.size = B := ⟨_, rfl⟩
  have hb1 : Below w.heap.size w W1 := hW1 ▸ b0
  have B1 : Blk W1 B 24 (arr m) := hB ▸ hW1 ▸ B0
  have HB1 := Lib.hid hb1
  have HB : Hid (w.heap.size = B) := Lib.hid hB
  rw [show (Obj.cells #[Value.int .u8 (m 0), .int .u8 (m 1), .int .u8 (m 2), .int .u8 (m 3), .int .u8 (m 4), .int .u8 (m 5), .int .u8 (m 6), .int .u8 (m 7), .int .u8 (m 8)] 24) = .cells (arr m) 24 from rfl, hW1, hB]
  clear hW1 B0 b0 hB hb1
  go_loopw [5, 6] (fun nv kv wr => ∃ k : Nat, k ≤ 9 ∧ kv = .int .i64 k ∧ nv = .int .i64 ((sel m r k).length : Int) ∧ W1 = wr) (fun _ kv _ => 9 - (intOf kv).toNat)
  case atStart => exact ⟨0, by omega, rfl, rfl, rfl⟩
  case round =>
    obtain ⟨k, hk, rfl, rfl, rfl⟩ := hrel
    have hle := sel_le m r k
    by_cases hlt : k < 9
    · have c0 := arr_cell B1 k hlt
      obtain ⟨b1, b2⟩ := hm k hlt
      have i1 : (k : Int) < 9 := by omega
      by_cases hmr : m k = r
      · have q1 : (m k == r) = true := beq_iff_eq.2 hmr
        have hs : Hid ((sel m r (k + 1)).length = (sel m r k).length + 1) := Lib.hid (by rw [sel_yes m r k hlt hmr]; simp)
        clear hmr
        go_wp2
        go_roundw
        case rel => exact ⟨k + 1, by omega, by go_num, by rw [hs.out]; go_num, trivial⟩
        case measure => simp [intOf]; omega
      · have q1 : (m k == r) = false := beq_eq_false_iff_ne.2 hmr
        have hs : Hid (sel m r (k + 1) = sel m r k) := Lib.hid (sel_no m r k hmr)
        clear hmr
        go_wp2
        go_roundw
        case rel => exact ⟨k + 1, by omega, by go_num, by rw [hs.out], trivial⟩
        case measure => simp [intOf]; omega
    · obtain rfl : k = 9 := by omega
      go_wp2
      go_ret
      exact ⟨rfl, HB1.out⟩
set_option maxRecDepth 100000 in
theorem rmost_any (m : Nat → Int) (hm : ∀ k, k < 9 → 0 ≤ m k ∧ m k ≤ 255) (w : World) :
    Calls Try.prog 21 #[.agg #[.int .u8 (m 0), .int .u8 (m 1), .int .u8 (m 2), .int .u8 (m 3), .int .u8 (m 4), .int .u8 (m 5), .int .u8 (m 6), .int .u8 (m 7), .int .u8 (m 8)]] w fun e W' => e = .returned (.int .i64 (mst m)) ∧ Below w.heap.size w W' := by
  have hle := cnt_le m 1
  have B0 := Blk.new w 24 (arr m)
  have b0 : Below w.heap.size w (w.alloc (.cells (arr m) 24)) := (Below.refl _ w).alloc (Nat.le_refl _) _
  obtain ⟨a0, a1, a2, a3, a4, a5, a6, a7, a8⟩ := cells9 B0
  go_enter Try.func21, Try.ntmps21
  go_wp2_with fail
  refine (rcount_any m hm 1 _).mono ?_
  rintro e w1 ⟨rfl, hb⟩
  go_wp2
  go_ret
  exact ⟨rfl, b0.trans (hb.mono (by simp))⟩
set_option maxRecDepth 100000 in
set_option maxHeartbeats 1000000 in
theorem rright_any (m : Nat → Int) (hm : ∀ k, k < 9 → 0 ≤ m k ∧ m k ≤ 255) (w : World) :
    Calls Try.prog 18 #[.agg #[.int .u8 (m 0), .int .u8 (m 1), .int .u8 (m 2), .int .u8 (m 3), .int .u8 (m 4), .int .u8 (m 5), .int .u8 (m 6), .int .u8 (m 7), .int .u8 (m 8)]] w fun e W' => e = .returned (.bool (okM m)) ∧ Below w.heap.size w W' := by
  have hle := cnt_le m 1
  have B0 := Blk.new w 24 (arr m)
  have b0 : Below w.heap.size w (w.alloc (.cells (arr m) 24)) := (Below.refl _ w).alloc (Nat.le_refl _) _
  go_enter Try.func18, Try.ntmps18
  go_wp2
  obtain ⟨W1, hW1⟩ : ∃ W1, w.alloc (.cells (arr m) 24) = W1 := ⟨_, rfl⟩
  obtain ⟨B, hB⟩ : ∃ B, w.heap.size = B := ⟨_, rfl⟩
  have hb1 : Below w.heap.size w W1 := hW1 ▸ b0
  have B1 : Blk W1 B 24 (arr m) := hB ▸ hW1 ▸ B0
  have HB1 := Lib.hid hb1
  have HB : Hid (w.heap.size = B) := Lib.hid hB
  rw [show (Obj.cells #[Value.int .u8 (m 0), .int .u8 (m 1), .int .u8 (m 2), .int .u8 (m 3), .int .u8 (m 4), .int .u8 (m 5), .int .u8 (m 6), .int .u8 (m 7), .int .u8 (m 8)] 24) = .cells (arr m) 24 from rfl, hW1, hB]
  clear hW1 B0 b0 hB hb1
  go_loopw [3] (fun kv wr => ∃ k : Nat, k ≤ 9 ∧ kv = .int .i64 k ∧ lowM m k = true ∧ W1 = wr) (fun kv _ => 9 - (intOf kv).toNat)
  case atStart => exact ⟨0, by omega, rfl, rfl, rfl⟩
  case round =>
    obtain ⟨k, hk, rfl, hlow, rfl⟩ := hrel
    by_cases hlt : k < 9
    · have c0 := arr_cell B1 k hlt
      obtain ⟨b1, b2⟩ := hm k hlt
      have i1 : (k : Int) < 9 := by omega
      by_cases h2 : 2 < m k
      · have hno := Lib.hid (okM_not m k hlt h2)
        clear hlow
        go_wp2
        go_ret
        exact ⟨by rw [hno.out]; rfl, HB1.out⟩
      · have HL : Hid (lowM m (k + 1) = true) := Lib.hid (by simp only [lowM, hlow, Bool.true_and, decide_eq_true_eq]; omega)
        clear hlow
        go_wp2
        go_roundw
        case rel => exact ⟨k + 1, by omega, by go_num, HL.out, trivial⟩
        case measure => simp [intOf]; omega
    · obtain rfl : k = 9 := by omega
      have HL := Lib.hid hlow
      obtain ⟨a0, a1, a2, a3, a4, a5, a6, a7, a8⟩ := cells9 B1
      clear hlow
      go_wp2_with fail
      refine (rcount_any m hm 1 _).mono ?_
      rintro e w1 ⟨rfl, hb⟩
      have HBB := Lib.hid (HB1.out.trans (hb.mono HB1.out.size))
      clear hb
      go_wp2
      go_ret
      refine ⟨?_, HBB.out⟩
      unfold okM
      rw [HL.out]
      simp
end Go.Proofs.Ytfeaoapjgcibmaa
