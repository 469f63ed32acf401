/- The walk of QuorumIndex. -/
import Derived.Test.YtfeaoapjgcibmaaG
import Derived.LoopTactic
set_option linter.unusedVariables false
set_option linter.unusedSimpArgs false
namespace Go.Proofs.Ytfeaoapjgcibmaa
open Go.RowKit Go.Shelf
attribute [local go_sem] Oper.semAt_some
theorem filt_succ (m : Nat → Int) (p : Nat → Bool) (j : Nat) (hj : j < 9) : ((sel m 1 (j + 1)).filter (fun x => p x.val)).length = ((sel m 1 j).filter (fun x => p x.val)).length + (if m j = 1 ∧ p j = true then 1 else 0) := by
  by_cases h : m j = 1
  · rw [sel_yes m 1 j hj h, List.filter_append, List.length_append]
    cases hp : p j <;> simp [List.filter, hp, h]
  · rw [sel_no m 1 j h]; simp [h]
theorem atv_succ (m mt : Nat → Int) (n : Nat) (i : Int) (j : Nat) (hj : j < 9) : atv m mt n i (j + 1) = atv m mt n i j + (if m j = 1 ∧ i ≤ val mt n j then 1 else 0) := by
  have := filt_succ m (fun x => decide (i ≤ val mt n x)) j hj
  simpa [atv] using this
theorem morev_succ (m mt : Nat → Int) (n : Nat) (i : Int) (j : Nat) (hj : j < 9) : morev m mt n i (j + 1) = morev m mt n i j + (if m j = 1 ∧ i < val mt n j then 1 else 0) := by
  have := filt_succ m (fun x => decide (i < val mt n x)) j hj
  simpa [morev] using this
theorem atv_le (m mt : Nat → Int) (n : Nat) (i : Int) (j : Nat) : atv m mt n i j ≤ j := Nat.le_trans (List.length_filter_le _ _) (sel_le m 1 j)
theorem morev_le (m mt : Nat → Int) (n : Nat) (i : Int) (j : Nat) : morev m mt n i j ≤ j := Nat.le_trans (List.length_filter_le _ _) (sel_le m 1 j)
theorem natc {x y : Nat} (h : x = y + 1) : Value.int .i64 ((y : Int) + 1) = .int .i64 (x : Int) := by rw [h]; rfl
theorem nine {p : Nat → Prop} {j : Nat} (hj : j < 9) (h0 : p 0) (h1 : p 1) (h2 : p 2) (h3 : p 3) (h4 : p 4) (h5 : p 5) (h6 : p 6) (h7 : p 7) (h8 : p 8) : p j := by
  have : j = 0 ∨ j = 1 ∨ j = 2 ∨ j = 3 ∨ j = 4 ∨ j = 5 ∨ j = 6 ∨ j = 7 ∨ j = 8 := by omega
  rcases this with rfl | rfl | rfl | rfl | rfl | rfl | rfl | rfl | rfl <;> assumption
theorem arr_at (m : Nat → Int) {j : Nat} (hj : j < 9) : (arr m)[j]? = some (.int .u8 (m j)) := nine (p := fun j => (arr m)[j]? = some (.int .u8 (m j))) hj rfl rfl rfl rfl rfl rfl rfl rfl rfl
set_option maxRecDepth 100000 in
set_option maxHeartbeats 4000000 in
theorem index_law (w : World) (m : Nat → Int) (hm : ∀ k, k < 9 → 0 ≤ m k ∧ m k ≤ 255) (a : Option Addr) (len cap : Nat) (f : Nat → Int) (hl : len ≤ 9223372036854775807) (hrow : Row w a len (fun j => .int .i64 (f j))) (hwf : ∀ j, j < len → (Lit.int .i64 (f j)).wf = true) :
    Calls Try.prog 4 #[.agg #[.int .u8 (m 0), .int .u8 (m 1), .int .u8 (m 2), .int .u8 (m 3), .int .u8 (m 4), .int .u8 (m 5), .int .u8 (m 6), .int .u8 (m 7), .int .u8 (m 8)], .slice a len cap] w fun e W' => e = .returned (.bool true) ∧ Below w.heap.size w W' := by
  go_enter Try.func4, Try.ntmps4
  go_wp2_with fail
  refine (known_any _).mono ?_
  rintro e w1 ⟨rfl, hb1⟩
  have B0 := Blk.new w 25 (arr m)
  have B1 : Blk w1 w.heap.size 25 (arr m) := B0.below hb1
  have q1 : Below w.heap.size w w1 := ((Below.refl _ w).alloc (Nat.le_refl _) _).trans (hb1.mono (by simp))
  have hs1 := q1.size
  clear B0 hb1
  obtain ⟨a0, a1, a2, a3, a4, a5, a6, a7, a8⟩ := cells9 B1
  go_wp2_with fail
  refine (right_any m hm _).mono ?_
  rintro e w2 ⟨rfl, hb2⟩
  have B2 : Blk w2 w.heap.size 25 (arr m) := B1.below hb2
  have q2 : Below w.heap.size w w2 := q1.trans (hb2.mono hs1)
  have hs2 := q2.size
  clear hb2 B1 a0 a1 a2 a3 a4 a5 a6 a7 a8
  obtain ⟨a0, a1, a2, a3, a4, a5, a6, a7, a8⟩ := cells9 B2
  cases hok : okM m with
  | false =>
    clear hok
    go_wp2
    go_ret
    exact ⟨rfl, q2⟩
  | true =>
    have Hok := Lib.hid hok
    clear hok
    by_cases hlen : 100 < len
    · have p1 : decide (100 < (len : Int)) = true := decide_eq_true (by omega)
      go_wp2
      go_ret
      exact ⟨rfl, q2⟩
    · have p1 : decide (100 < (len : Int)) = false := decide_eq_false (by omega)
      go_wp2_with fail
      refine (index_any m hm a len cap hl f _ (hrow.below q2)).mono ?_
      rintro e w3 ⟨rfl, hb3⟩
      have B3 : Blk w3 w.heap.size 25 (arr m) := B2.below hb3
      have q3 : Below w.heap.size w w3 := q2.trans (hb3.mono hs2)
      have hs3 := q3.size
      have hr3 : Row w3 a len (fun j => .int .i64 (f j)) := hrow.below q3
      have hlaw := idx_law m f len (by have := Hok.out; unfold okM at this; simp at this; exact this.2)
      obtain ⟨i, hi⟩ : ∃ i, idx m f len (sel m 1 9) = i := ⟨_, rfl⟩
      rw [hi] at hlaw ⊢
      obtain ⟨l1, l2, l3⟩ := hlaw
      clear hb3 B2 hi q2 a0 a1 a2 a3 a4 a5 a6 a7 a8
      go_wp2
      go_loop [6, 7, 8] (fun t6 t7 t8 => ∃ j : Nat, j ≤ 9 ∧ t8 = .int .i64 j ∧ t6 = .int .i64 (atv m f len i j : Int) ∧ t7 = .int .i64 (morev m f len i j : Int)) (fun _ _ t8 => 9 - (intOf t8).toNat)
      case atStart => exact ⟨0, by omega, rfl, rfl, rfl⟩
      case round =>
        obtain ⟨j, hj, rfl, rfl, rfl⟩ := hrel
        have ha := atv_le m f len i j
        have hmo := morev_le m f len i j
        by_cases hlt : j < 9
        · have cj : w3.cell? ⟨w.heap.size, j, none⟩ = some (.int .u8 (m j)) := (B3.cell j).trans (arr_at m hlt)
          have e1 := Lib.hid (atv_succ m f len i j hlt)
          have e2 := Lib.hid (morev_succ m f len i j hlt)
          obtain ⟨v, hv⟩ : ∃ v, val f len j = v := ⟨_, rfl⟩
          rw [hv] at e1 e2
          have hcase : (j < len ∧ 0 < f j ∧ v = f j) ∨ (j < len ∧ ¬ 0 < f j ∧ v = 0) ∨ (¬ j < len ∧ v = 0) := by
            by_cases c1 : j < len
            · by_cases c2 : 0 < f j
              · exact .inl ⟨c1, c2, by rw [← hv, val_yes f len j c1 c2]⟩
              · exact .inr (.inl ⟨c1, c2, by rw [← hv, val_no f len j (by omega)]⟩)
            · exact .inr (.inr ⟨c1, by rw [← hv, val_no f len j (by omega)]⟩)
          clear hv l1 l2 l3
          rcases hcase with ⟨c1, c2, rfl⟩ | ⟨c1, c2, rfl⟩ | ⟨c1, rfl⟩
          · rcases hr3 with h0 | ⟨b, o, rfl, hb, hc⟩
            · omega
            · have hcj := hc j c1
              dsimp only at hcj
              have p2 : decide ((j : Int) < len) = true := decide_eq_true (by omega)
              have p3 : decide (0 < f j) = true := decide_eq_true c2
              clear hc
              obtain ⟨x, hx⟩ : ∃ x, f j = x := ⟨_, rfl⟩
              rw [hx] at hcj p3 c2 e1 e2
              clear hx
              by_cases hmj : m j = 1
              · have p4 : (m j == 1) = true := beq_iff_eq.2 hmj
                by_cases h1 : i < x
                · have p5 : decide (i ≤ x) = true := decide_eq_true (by omega)
                  have p6 : decide (i < x) = true := decide_eq_true h1
                  have e1' : Hid (atv m f len i (j + 1) = atv m f len i j + 1) := Lib.hid (by rw [e1.out, if_pos ⟨hmj, by omega⟩])
                  have e2' : Hid (morev m f len i (j + 1) = morev m f len i j + 1) := Lib.hid (by rw [e2.out, if_pos ⟨hmj, h1⟩])
                  clear hmj e1 e2
                  go_wp2
                  go_round
                  case rel => exact ⟨j + 1, by omega, by go_num, natc e1'.out, natc e2'.out⟩
                  case measure => simp [intOf]; omega
                · by_cases h2 : i ≤ x
                  · have p5 : decide (i ≤ x) = true := decide_eq_true h2
                    have p6 : decide (i < x) = false := decide_eq_false h1
                    have e1' : Hid (atv m f len i (j + 1) = atv m f len i j + 1) := Lib.hid (by rw [e1.out, if_pos ⟨hmj, h2⟩])
                    have e2' : Hid (morev m f len i (j + 1) = morev m f len i j) := Lib.hid (by rw [e2.out, if_neg (by omega), Nat.add_zero])
                    clear hmj e1 e2
                    go_wp2
                    go_round
                    case rel => exact ⟨j + 1, by omega, by go_num, natc e1'.out, by rw [e2'.out]⟩
                    case measure => simp [intOf]; omega
                  · have p5 : decide (i ≤ x) = false := decide_eq_false h2
                    have p6 : decide (i < x) = false := decide_eq_false h1
                    have e1' : Hid (atv m f len i (j + 1) = atv m f len i j) := Lib.hid (by rw [e1.out, if_neg (by omega), Nat.add_zero])
                    have e2' : Hid (morev m f len i (j + 1) = morev m f len i j) := Lib.hid (by rw [e2.out, if_neg (by omega), Nat.add_zero])
                    clear hmj e1 e2
                    go_wp2
                    go_round
                    case rel => exact ⟨j + 1, by omega, by go_num, by rw [e1'.out], by rw [e2'.out]⟩
                    case measure => simp [intOf]; omega
              · have p4 : (m j == 1) = false := beq_eq_false_iff_ne.2 hmj
                have e1' : Hid (atv m f len i (j + 1) = atv m f len i j) := Lib.hid (by rw [e1.out, if_neg (by omega), Nat.add_zero])
                have e2' : Hid (morev m f len i (j + 1) = morev m f len i j) := Lib.hid (by rw [e2.out, if_neg (by omega), Nat.add_zero])
                clear hmj e1 e2
                go_wp2
                go_round
                case rel => exact ⟨j + 1, by omega, by go_num, by rw [e1'.out], by rw [e2'.out]⟩
                case measure => simp [intOf]; omega
          · rcases hr3 with h0 | ⟨b, o, rfl, hb, hc⟩
            · omega
            · have hcj := hc j c1
              dsimp only at hcj
              have p2 : decide ((j : Int) < len) = true := decide_eq_true (by omega)
              have p3 : decide (0 < f j) = false := decide_eq_false c2
              clear hc
              by_cases hmj : m j = 1
              · have p4 : (m j == 1) = true := beq_iff_eq.2 hmj
                by_cases h1 : i < 0
                · have p5 : decide (i ≤ 0) = true := decide_eq_true (by omega)
                  have p6 : decide (i < 0) = true := decide_eq_true h1
                  have e1' : Hid (atv m f len i (j + 1) = atv m f len i j + 1) := Lib.hid (by rw [e1.out, if_pos ⟨hmj, by omega⟩])
                  have e2' : Hid (morev m f len i (j + 1) = morev m f len i j + 1) := Lib.hid (by rw [e2.out, if_pos ⟨hmj, h1⟩])
                  clear hmj e1 e2
                  go_wp2
                  go_round
                  case rel => exact ⟨j + 1, by omega, by go_num, natc e1'.out, natc e2'.out⟩
                  case measure => simp [intOf]; omega
                · by_cases h2 : i ≤ 0
                  · have p5 : decide (i ≤ 0) = true := decide_eq_true h2
                    have p6 : decide (i < 0) = false := decide_eq_false h1
                    have e1' : Hid (atv m f len i (j + 1) = atv m f len i j + 1) := Lib.hid (by rw [e1.out, if_pos ⟨hmj, h2⟩])
                    have e2' : Hid (morev m f len i (j + 1) = morev m f len i j) := Lib.hid (by rw [e2.out, if_neg (by omega), Nat.add_zero])
                    clear hmj e1 e2
                    go_wp2
                    go_round
                    case rel => exact ⟨j + 1, by omega, by go_num, natc e1'.out, by rw [e2'.out]⟩
                    case measure => simp [intOf]; omega
                  · have p5 : decide (i ≤ 0) = false := decide_eq_false h2
                    have p6 : decide (i < 0) = false := decide_eq_false h1
                    have e1' : Hid (atv m f len i (j + 1) = atv m f len i j) := Lib.hid (by rw [e1.out, if_neg (by omega), Nat.add_zero])
                    have e2' : Hid (morev m f len i (j + 1) = morev m f len i j) := Lib.hid (by rw [e2.out, if_neg (by omega), Nat.add_zero])
                    clear hmj e1 e2
                    go_wp2
                    go_round
                    case rel => exact ⟨j + 1, by omega, by go_num, by rw [e1'.out], by rw [e2'.out]⟩
                    case measure => simp [intOf]; omega
              · have p4 : (m j == 1) = false := beq_eq_false_iff_ne.2 hmj
                have e1' : Hid (atv m f len i (j + 1) = atv m f len i j) := Lib.hid (by rw [e1.out, if_neg (by omega), Nat.add_zero])
                have e2' : Hid (morev m f len i (j + 1) = morev m f len i j) := Lib.hid (by rw [e2.out, if_neg (by omega), Nat.add_zero])
                clear hmj e1 e2
                go_wp2
                go_round
                case rel => exact ⟨j + 1, by omega, by go_num, by rw [e1'.out], by rw [e2'.out]⟩
                case measure => simp [intOf]; omega
          · have p2 : decide ((j : Int) < len) = false := decide_eq_false (by omega)
            by_cases hmj : m j = 1
            · have p4 : (m j == 1) = true := beq_iff_eq.2 hmj
              by_cases h1 : i < 0
              · have p5 : decide (i ≤ 0) = true := decide_eq_true (by omega)
                have p6 : decide (i < 0) = true := decide_eq_true h1
                have e1' : Hid (atv m f len i (j + 1) = atv m f len i j + 1) := Lib.hid (by rw [e1.out, if_pos ⟨hmj, by omega⟩])
                have e2' : Hid (morev m f len i (j + 1) = morev m f len i j + 1) := Lib.hid (by rw [e2.out, if_pos ⟨hmj, h1⟩])
                clear hmj e1 e2
                go_wp2
                go_round
                case rel => exact ⟨j + 1, by omega, by go_num, natc e1'.out, natc e2'.out⟩
                case measure => simp [intOf]; omega
              · by_cases h2 : i ≤ 0
                · have p5 : decide (i ≤ 0) = true := decide_eq_true h2
                  have p6 : decide (i < 0) = false := decide_eq_false h1
                  have e1' : Hid (atv m f len i (j + 1) = atv m f len i j + 1) := Lib.hid (by rw [e1.out, if_pos ⟨hmj, h2⟩])
                  have e2' : Hid (morev m f len i (j + 1) = morev m f len i j) := Lib.hid (by rw [e2.out, if_neg (by omega), Nat.add_zero])
                  clear hmj e1 e2
                  go_wp2
                  go_round
                  case rel => exact ⟨j + 1, by omega, by go_num, natc e1'.out, by rw [e2'.out]⟩
                  case measure => simp [intOf]; omega
                · have p5 : decide (i ≤ 0) = false := decide_eq_false h2
                  have p6 : decide (i < 0) = false := decide_eq_false h1
                  have e1' : Hid (atv m f len i (j + 1) = atv m f len i j) := Lib.hid (by rw [e1.out, if_neg (by omega), Nat.add_zero])
                  have e2' : Hid (morev m f len i (j + 1) = morev m f len i j) := Lib.hid (by rw [e2.out, if_neg (by omega), Nat.add_zero])
                  clear hmj e1 e2
                  go_wp2
                  go_round
                  case rel => exact ⟨j + 1, by omega, by go_num, by rw [e1'.out], by rw [e2'.out]⟩
                  case measure => simp [intOf]; omega
            · have p4 : (m j == 1) = false := beq_eq_false_iff_ne.2 hmj
              have e1' : Hid (atv m f len i (j + 1) = atv m f len i j) := Lib.hid (by rw [e1.out, if_neg (by omega), Nat.add_zero])
              have e2' : Hid (morev m f len i (j + 1) = morev m f len i j) := Lib.hid (by rw [e2.out, if_neg (by omega), Nat.add_zero])
              clear hmj e1 e2
              go_wp2
              go_round
              case rel => exact ⟨j + 1, by omega, by go_num, by rw [e1'.out], by rw [e2'.out]⟩
              case measure => simp [intOf]; omega
        · obtain rfl : j = 9 := by omega
          have p2 : decide (0 ≤ i) = true := decide_eq_true l1
          have p3 : decide (mst m ≤ (atv m f len i 9 : Int)) = true := decide_eq_true l2
          have p4 : decide ((morev m f len i 9 : Int) < mst m) = true := decide_eq_true l3
          clear l1 l2 l3
          obtain ⟨a0, a1, a2, a3, a4, a5, a6, a7, a8⟩ := cells9 B3
          go_wp2_with fail
          refine (most_any m hm _).mono ?_
          rintro e w4 ⟨rfl, hb4⟩
          have B4 : Blk w4 w.heap.size 25 (arr m) := B3.below hb4
          have q4 : Below w.heap.size w w4 := q3.trans (hb4.mono hs3)
          have hs4 := q4.size
          clear a0 a1 a2 a3 a4 a5 a6 a7 a8
          obtain ⟨a0, a1, a2, a3, a4, a5, a6, a7, a8⟩ := cells9 B4
          go_wp2_with fail
          refine (most_any m hm _).mono ?_
          rintro e w5 ⟨rfl, hb5⟩
          go_wp2
          go_ret
          exact ⟨rfl, q4.trans (hb5.mono hs4)⟩
end Go.Proofs.Ytfeaoapjgcibmaa

