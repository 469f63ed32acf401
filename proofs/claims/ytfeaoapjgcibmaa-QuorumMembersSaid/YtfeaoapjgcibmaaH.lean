/- Change. -/
import Derived.Test.YtfeaoapjgcibmaaK
import Derived.Deep.Cut
set_option linter.unusedVariables false
set_option linter.unusedSimpArgs false
namespace Go.Proofs.Ytfeaoapjgcibmaa
open Go.RowKit Go.Shelf
attribute [local go_sem] Oper.semAt_some
def chE (m : Nat → Int) (x r : Int) : Int :=
  if x < 0 ∨ 9 ≤ x ∨ r < 0 ∨ 2 < r then 1 else if m x.toNat = r then 3 else if (m x.toNat = 0 ∧ r = 1) ∨ (m x.toNat = 1 ∧ r = 2) ∨ (m x.toNat = 1 ∧ cnt m 1 = 1) then 6 else 0
def chM (m : Nat → Int) (x r : Int) : Nat → Int := if chE m x r = 0 then put m x.toNat r else zro
theorem ch_no {m : Nat → Int} {x r e : Int} (h : chE m x r = e) (he : e ≠ 0) : chM m x r = zro := by unfold chM; rw [if_neg (by omega)]
theorem ch_yes {m : Nat → Int} {x r : Int} (h : chE m x r = 0) : chM m x r = put m x.toNat r := by unfold chM; rw [if_pos h]
theorem ch1 {m : Nat → Int} {x r : Int} (h : x < 0 ∨ 9 ≤ x ∨ r < 0 ∨ 2 < r) : chE m x r = 1 := by unfold chE; rw [if_pos h]
theorem ch3 {m : Nat → Int} {q : Nat} {r : Int} (hq : q < 9) (hr : 0 ≤ r ∧ r ≤ 2) (h : m q = r) : chE m q r = 3 := by unfold chE; rw [if_neg (by omega), if_pos (by simpa using h)]
theorem ch6 {m : Nat → Int} {q : Nat} {r : Int} (hq : q < 9) (hr : 0 ≤ r ∧ r ≤ 2) (h : ¬ m q = r) (h6 : (m q = 0 ∧ r = 1) ∨ (m q = 1 ∧ r = 2) ∨ (m q = 1 ∧ cnt m 1 = 1)) : chE m q r = 6 := by unfold chE; rw [if_neg (by omega), if_neg (by simpa using h), if_pos (by simpa using h6)]
theorem ch0 {m : Nat → Int} {q : Nat} {r : Int} (hq : q < 9) (hr : 0 ≤ r ∧ r ≤ 2) (h : ¬ m q = r) (h6 : ¬ ((m q = 0 ∧ r = 1) ∨ (m q = 1 ∧ r = 2) ∨ (m q = 1 ∧ cnt m 1 = 1))) : chE m q r = 0 := by unfold chE; rw [if_neg (by omega), if_neg (by simpa using h), if_neg (by simpa using h6)]
theorem same9_put {m : Nat → Int} {q : Nat} {r : Int} (hq : q < 9) : same9 (put m q r) m = decide (m q = r) := by
  unfold same9
  by_cases h : m q = r
  · rw [decide_eq_true h]
    rw [List.all_eq_true]
    intro i _
    unfold put
    split
    · rename_i e; subst e; simp [h]
    · simp
  · rw [decide_eq_false h]
    rw [List.all_eq_false]
    exact ⟨q, List.mem_range.2 hq, by unfold put; simp; exact fun e => h e.symm⟩
theorem resC9 {fn : Func} {T : TypeId} {i j : Nat} (hres : fn.results = #[.cell i T, .tmp j]) (hT : T = 24 ∨ T = 25) (tmps : Array Value) {W : World} {B : Nat} {m : Nat → Int} {e : Value} (h4 : tmps[i]?.getD undef = .pointer (some ⟨B, 0, none⟩)) (h5 : tmps[j]?.getD undef = e) (hB : Blk W B T (arr m)) :
    (results fn tmps).run Try.prog W = .ok (.tuple #[.agg #[.int .u8 (m 0), .int .u8 (m 1), .int .u8 (m 2), .int .u8 (m 3), .int .u8 (m 4), .int .u8 (m 5), .int .u8 (m 6), .int .u8 (m 7), .int .u8 (m 8)], e]) W := by
  obtain ⟨y0, y1, y2, y3, y4, y5, y6, y7, y8⟩ := cells9 hB
  rcases hT with rfl | rfl <;> simp [results, hres, h4, h5, go_sem, y0, y1, y2, y3, y4, y5, y6, y7, y8]
set_option maxRecDepth 100000 in
set_option maxHeartbeats 4000000 in
theorem change_any (m : Nat → Int) (hm : ∀ k, k < 9 → 0 ≤ m k ∧ m k ≤ 255) (x r : Int) (w : World) :
    Calls Try.prog 15 #[.agg #[.int .u8 (m 0), .int .u8 (m 1), .int .u8 (m 2), .int .u8 (m 3), .int .u8 (m 4), .int .u8 (m 5), .int .u8 (m 6), .int .u8 (m 7), .int .u8 (m 8)], .int .i64 x, .int .i64 r] w fun e W' => e = .returned (.tuple #[.agg #[.int .u8 (chM m x r 0), .int .u8 (chM m x r 1), .int .u8 (chM m x r 2), .int .u8 (chM m x r 3), .int .u8 (chM m x r 4), .int .u8 (chM m x r 5), .int .u8 (chM m x r 6), .int .u8 (chM m x r 7), .int .u8 (chM m x r 8)], .int .i64 (chE m x r)]) ∧ Below w.heap.size w W' := by
  have Z0 := Blk.new (w.alloc (.cells (arr m) 25)) 25 (arr zro)
  rw [World.size_alloc] at Z0
  have q0 : Below w.heap.size w ((w.alloc (.cells (arr m) 25)).alloc (.cells (arr zro) 25)) := ((Below.refl _ w).alloc (Nat.le_refl _) _).alloc (by simp) _
  by_cases hbad : x < 0 ∨ 9 ≤ x ∨ r < 0 ∨ 2 < r
  · have HE := Lib.hid (ch1 (m := m) hbad)
    have HM := Lib.hid (ch_no (ch1 (m := m) hbad) (by decide))
    have hc : x < 0 ∨ (¬ x < 0 ∧ 9 ≤ x) ∨ (¬ x < 0 ∧ ¬ 9 ≤ x ∧ r < 0) ∨ (¬ x < 0 ∧ ¬ 9 ≤ x ∧ ¬ r < 0 ∧ 2 < r) := by omega
    clear hbad
    rcases hc with h1 | ⟨h1, h2⟩ | ⟨h1, h2, h3⟩ | ⟨h1, h2, h3, h4⟩
    · have p1 : decide (x < 0) = true := decide_eq_true h1
      go_enter Try.func15, Try.ntmps15
      go_wp2
      refine bodyPost_ret (resC9 Try.results15 (.inr rfl) _ rfl rfl Z0) rfl ⟨?_, q0⟩
      rw [HM.out, HE.out]
      rfl
    · have p1 : decide (x < 0) = false := decide_eq_false h1
      have p2 : decide (9 ≤ x) = true := decide_eq_true h2
      go_enter Try.func15, Try.ntmps15
      go_wp2
      refine bodyPost_ret (resC9 Try.results15 (.inr rfl) _ rfl rfl Z0) rfl ⟨?_, q0⟩
      rw [HM.out, HE.out]
      rfl
    · have p1 : decide (x < 0) = false := decide_eq_false h1
      have p2 : decide (9 ≤ x) = false := decide_eq_false h2
      have p3 : decide (r < 0) = true := decide_eq_true h3
      go_enter Try.func15, Try.ntmps15
      go_wp2
      refine bodyPost_ret (resC9 Try.results15 (.inr rfl) _ rfl rfl Z0) rfl ⟨?_, q0⟩
      rw [HM.out, HE.out]
      rfl
    · have p1 : decide (x < 0) = false := decide_eq_false h1
      have p2 : decide (9 ≤ x) = false := decide_eq_false h2
      have p3 : decide (r < 0) = false := decide_eq_false h3
      have p4 : decide (2 < r) = true := decide_eq_true h4
      go_enter Try.func15, Try.ntmps15
      go_wp2
      refine bodyPost_ret (resC9 Try.results15 (.inr rfl) _ rfl rfl Z0) rfl ⟨?_, q0⟩
      rw [HM.out, HE.out]
      rfl
  · obtain ⟨q, rfl⟩ := Int.eq_ofNat_of_zero_le (show 0 ≤ x by omega)
    have hq9 : (q : Int) < 9 := by omega
    have hq : q < 9 := by omega
    have hr : r = 0 ∨ r = 1 ∨ r = 2 := by omega
    have p1 : decide ((q : Int) < 0) = false := decide_eq_false (by omega)
    have p2 : decide (9 ≤ (q : Int)) = false := decide_eq_false (by omega)
    obtain ⟨b1, b2⟩ := hm q hq
    clear hbad
    rcases hr with rfl | rfl | rfl
    · go_enter Try.func15, Try.ntmps15
      go_upto_region 4 with (fail)
      have N0 := Blk.new ((w.alloc (.cells (arr m) 25)).alloc (.cells (arr zro) 25)) 25 (arr m)
      have M0 := ((Blk.new w 25 (arr m)).alloc (.cells (arr zro) 25)).alloc (.cells (arr m) 25)
      have Z1 := Z0.alloc (.cells (arr m) 25)
      have q1 : Below w.heap.size w (((w.alloc (.cells (arr m) 25)).alloc (.cells (arr zro) 25)).alloc (.cells (arr m) 25)) := q0.alloc (by simp; omega) _
      rw [World.size_alloc, World.size_alloc] at N0
      clear Z0 q0
      obtain ⟨W0, hW0⟩ : ∃ W0, ((w.alloc (.cells (arr m) 25)).alloc (.cells (arr zro) 25)).alloc (.cells (arr m) 25) = W0 := ⟨_, rfl⟩
      rw [hW0] at N0 M0 Z1 q1
      simp only [arr, zro] at hW0
      rw [hW0]
      clear hW0
      have nq : W0.cell? ⟨w.heap.size + 1 + 1, q, none⟩ = some (.int .u8 (m q)) := (N0.cell q).trans (arr_at m hq)
      have nf := N0.frozen q
      have mq : W0.cell? ⟨w.heap.size, q, none⟩ = some (.int .u8 (m q)) := (M0.cell q).trans (arr_at m hq)
      go_upto_region 6 with (fail)
      have N1 := N0.set q (.int .u8 0)
      rw [arr_put] at N1
      have M1 := M0.otherAt (B' := w.heap.size + 1 + 1) (by omega) q (.int .u8 0)
      have Z2 := Z1.otherAt (B' := w.heap.size + 1 + 1) (by omega) q (.int .u8 0)
      have q2 := q1.setCell (p := ⟨w.heap.size + 1 + 1, q, none⟩) (by show w.heap.size ≤ w.heap.size + 1 + 1; omega) (.int .u8 0)
      obtain ⟨W1, hW1⟩ : ∃ W1, W0.setCell ⟨w.heap.size + 1 + 1, q, none⟩ (.int .u8 0) = W1 := ⟨_, rfl⟩
      rw [hW1] at N1 M1 Z2 q2 ⊢
      clear hW1 nq nf mq N0 M0 Z1 q1
      have heq := fun W => eq9 25 Try.underlying25 (put m q 0) m W
      rw [same9_put hq] at heq
      simp only [arr] at heq
      obtain ⟨x0, x1, x2, x3, x4, x5, x6, x7, x8⟩ := cells9 N1
      obtain ⟨y0, y1, y2, y3, y4, y5, y6, y7, y8⟩ := cells9 M1
      obtain ⟨z0, z1, z2, z3, z4, z5, z6, z7, z8⟩ := cells9 Z2
      simp only [zro] at z0 z1 z2 z3 z4 z5 z6 z7 z8
      have zf := fun o => Z2.frozen o
      by_cases hs : m q = 0
      · have HE := Lib.hid (ch3 (m := m) hq (by decide) hs)
        have HM := Lib.hid (ch_no HE.out (by decide))
        rw [decide_eq_true hs] at heq
        clear hs
        go_wp2
        refine bodyPost_ret (resC9 Try.results15 (.inr rfl) _ rfl rfl (Z2.set9 zro)) rfl ⟨?_, below_set9 zro q2 (Nat.le_succ _)⟩
        rw [HM.out, HE.out]
        rfl
      · rw [decide_eq_false hs] at heq
        by_cases hv : m q = 1
        · have p5 : (m q == 0) = false := beq_eq_false_iff_ne.2 (by omega)
          have p6 : (m q == 1) = true := beq_iff_eq.2 hv
          go_wp2_with fail
          refine (count_any m hm 1 _).mono ?_
          rintro e w2 ⟨rfl, hb2⟩
          have N3 := N1.below hb2
          have Z3 := Z2.below hb2
          have q3 := q2.trans (hb2.mono q2.size)
          clear x0 x1 x2 x3 x4 x5 x6 x7 x8 y0 y1 y2 y3 y4 y5 y6 y7 y8 z0 z1 z2 z3 z4 z5 z6 z7 z8 zf heq
          obtain ⟨x0, x1, x2, x3, x4, x5, x6, x7, x8⟩ := cells9 N3
          obtain ⟨z0, z1, z2, z3, z4, z5, z6, z7, z8⟩ := cells9 Z3
          simp only [zro] at z0 z1 z2 z3 z4 z5 z6 z7 z8
          have zf := fun o => Z3.frozen o
          by_cases hcn : cnt m 1 = 1
          · have p7 : ((cnt m 1 : Int) == 1) = true := by rw [beq_iff_eq]; omega
            have HE := Lib.hid (ch6 (m := m) hq (by decide) hs (.inr (.inr ⟨hv, hcn⟩)))
            have HM := Lib.hid (ch_no HE.out (by decide))
            clear hs hv hcn
            go_wp2
            refine bodyPost_ret (resC9 Try.results15 (.inr rfl) _ rfl rfl (Z3.set9 zro)) rfl ⟨?_, below_set9 zro q3 (Nat.le_succ _)⟩
            rw [HM.out, HE.out]
            rfl
          · have p7 : ((cnt m 1 : Int) == 1) = false := by rw [beq_eq_false_iff_ne]; omega
            have HE := Lib.hid (ch0 (m := m) (r := 0) hq (by decide) hs (by omega))
            have HM := Lib.hid (ch_yes HE.out)
            clear hs hv hcn
            go_wp2
            refine bodyPost_ret (resC9 Try.results15 (.inr rfl) _ rfl rfl (Z3.set9 (put m q 0))) rfl ⟨?_, below_set9 (put m q 0) q3 (Nat.le_succ _)⟩
            rw [HM.out, HE.out]
            rfl
        · skip
          have p5 : (m q == 0) = false := beq_eq_false_iff_ne.2 (by omega)
          have p6 : (m q == 1) = false := beq_eq_false_iff_ne.2 (by omega)
          have HE := Lib.hid (ch0 (m := m) (r := 0) hq (by decide) hs (by omega))
          have HM := Lib.hid (ch_yes HE.out)
          go_wp2
          refine bodyPost_ret (resC9 Try.results15 (.inr rfl) _ rfl rfl (Z2.set9 (put m q 0))) rfl ⟨?_, below_set9 (put m q 0) q2 (Nat.le_succ _)⟩
          rw [HM.out, HE.out]
          rfl
    · go_enter Try.func15, Try.ntmps15
      go_upto_region 4 with (fail)
      have N0 := Blk.new ((w.alloc (.cells (arr m) 25)).alloc (.cells (arr zro) 25)) 25 (arr m)
      have M0 := ((Blk.new w 25 (arr m)).alloc (.cells (arr zro) 25)).alloc (.cells (arr m) 25)
      have Z1 := Z0.alloc (.cells (arr m) 25)
      have q1 : Below w.heap.size w (((w.alloc (.cells (arr m) 25)).alloc (.cells (arr zro) 25)).alloc (.cells (arr m) 25)) := q0.alloc (by simp; omega) _
      rw [World.size_alloc, World.size_alloc] at N0
      clear Z0 q0
      obtain ⟨W0, hW0⟩ : ∃ W0, ((w.alloc (.cells (arr m) 25)).alloc (.cells (arr zro) 25)).alloc (.cells (arr m) 25) = W0 := ⟨_, rfl⟩
      rw [hW0] at N0 M0 Z1 q1
      simp only [arr, zro] at hW0
      rw [hW0]
      clear hW0
      have nq : W0.cell? ⟨w.heap.size + 1 + 1, q, none⟩ = some (.int .u8 (m q)) := (N0.cell q).trans (arr_at m hq)
      have nf := N0.frozen q
      have mq : W0.cell? ⟨w.heap.size, q, none⟩ = some (.int .u8 (m q)) := (M0.cell q).trans (arr_at m hq)
      go_upto_region 6 with (fail)
      have N1 := N0.set q (.int .u8 1)
      rw [arr_put] at N1
      have M1 := M0.otherAt (B' := w.heap.size + 1 + 1) (by omega) q (.int .u8 1)
      have Z2 := Z1.otherAt (B' := w.heap.size + 1 + 1) (by omega) q (.int .u8 1)
      have q2 := q1.setCell (p := ⟨w.heap.size + 1 + 1, q, none⟩) (by show w.heap.size ≤ w.heap.size + 1 + 1; omega) (.int .u8 1)
      obtain ⟨W1, hW1⟩ : ∃ W1, W0.setCell ⟨w.heap.size + 1 + 1, q, none⟩ (.int .u8 1) = W1 := ⟨_, rfl⟩
      rw [hW1] at N1 M1 Z2 q2 ⊢
      clear hW1 nq nf mq N0 M0 Z1 q1
      have heq := fun W => eq9 25 Try.underlying25 (put m q 1) m W
      rw [same9_put hq] at heq
      simp only [arr] at heq
      obtain ⟨x0, x1, x2, x3, x4, x5, x6, x7, x8⟩ := cells9 N1
      obtain ⟨y0, y1, y2, y3, y4, y5, y6, y7, y8⟩ := cells9 M1
      obtain ⟨z0, z1, z2, z3, z4, z5, z6, z7, z8⟩ := cells9 Z2
      simp only [zro] at z0 z1 z2 z3 z4 z5 z6 z7 z8
      have zf := fun o => Z2.frozen o
      by_cases hs : m q = 1
      · have HE := Lib.hid (ch3 (m := m) hq (by decide) hs)
        have HM := Lib.hid (ch_no HE.out (by decide))
        rw [decide_eq_true hs] at heq
        clear hs
        go_wp2
        refine bodyPost_ret (resC9 Try.results15 (.inr rfl) _ rfl rfl (Z2.set9 zro)) rfl ⟨?_, below_set9 zro q2 (Nat.le_succ _)⟩
        rw [HM.out, HE.out]
        rfl
      · rw [decide_eq_false hs] at heq
        by_cases hv : m q = 0
        · have p5 : (m q == 0) = true := beq_iff_eq.2 hv
          have p6 : (m q == 1) = false := beq_eq_false_iff_ne.2 (by omega)
          have HE := Lib.hid (ch6 (m := m) hq (by decide) hs (.inl ⟨hv, rfl⟩))
          have HM := Lib.hid (ch_no HE.out (by decide))
          clear hs hv
          go_wp2
          refine bodyPost_ret (resC9 Try.results15 (.inr rfl) _ rfl rfl (Z2.set9 zro)) rfl ⟨?_, below_set9 zro q2 (Nat.le_succ _)⟩
          rw [HM.out, HE.out]
          rfl
        · skip
          have p5 : (m q == 0) = false := beq_eq_false_iff_ne.2 (by omega)
          have p6 : (m q == 1) = false := beq_eq_false_iff_ne.2 (by omega)
          have HE := Lib.hid (ch0 (m := m) (r := 1) hq (by decide) hs (by omega))
          have HM := Lib.hid (ch_yes HE.out)
          go_wp2
          refine bodyPost_ret (resC9 Try.results15 (.inr rfl) _ rfl rfl (Z2.set9 (put m q 1))) rfl ⟨?_, below_set9 (put m q 1) q2 (Nat.le_succ _)⟩
          rw [HM.out, HE.out]
          rfl
    · go_enter Try.func15, Try.ntmps15
      go_upto_region 4 with (fail)
      have N0 := Blk.new ((w.alloc (.cells (arr m) 25)).alloc (.cells (arr zro) 25)) 25 (arr m)
      have M0 := ((Blk.new w 25 (arr m)).alloc (.cells (arr zro) 25)).alloc (.cells (arr m) 25)
      have Z1 := Z0.alloc (.cells (arr m) 25)
      have q1 : Below w.heap.size w (((w.alloc (.cells (arr m) 25)).alloc (.cells (arr zro) 25)).alloc (.cells (arr m) 25)) := q0.alloc (by simp; omega) _
      rw [World.size_alloc, World.size_alloc] at N0
      clear Z0 q0
      obtain ⟨W0, hW0⟩ : ∃ W0, ((w.alloc (.cells (arr m) 25)).alloc (.cells (arr zro) 25)).alloc (.cells (arr m) 25) = W0 := ⟨_, rfl⟩
      rw [hW0] at N0 M0 Z1 q1
      simp only [arr, zro] at hW0
      rw [hW0]
      clear hW0
      have nq : W0.cell? ⟨w.heap.size + 1 + 1, q, none⟩ = some (.int .u8 (m q)) := (N0.cell q).trans (arr_at m hq)
      have nf := N0.frozen q
      have mq : W0.cell? ⟨w.heap.size, q, none⟩ = some (.int .u8 (m q)) := (M0.cell q).trans (arr_at m hq)
      go_upto_region 6 with (fail)
      have N1 := N0.set q (.int .u8 2)
      rw [arr_put] at N1
      have M1 := M0.otherAt (B' := w.heap.size + 1 + 1) (by omega) q (.int .u8 2)
      have Z2 := Z1.otherAt (B' := w.heap.size + 1 + 1) (by omega) q (.int .u8 2)
      have q2 := q1.setCell (p := ⟨w.heap.size + 1 + 1, q, none⟩) (by show w.heap.size ≤ w.heap.size + 1 + 1; omega) (.int .u8 2)
      obtain ⟨W1, hW1⟩ : ∃ W1, W0.setCell ⟨w.heap.size + 1 + 1, q, none⟩ (.int .u8 2) = W1 := ⟨_, rfl⟩
      rw [hW1] at N1 M1 Z2 q2 ⊢
      clear hW1 nq nf mq N0 M0 Z1 q1
      have heq := fun W => eq9 25 Try.underlying25 (put m q 2) m W
      rw [same9_put hq] at heq
      simp only [arr] at heq
      obtain ⟨x0, x1, x2, x3, x4, x5, x6, x7, x8⟩ := cells9 N1
      obtain ⟨y0, y1, y2, y3, y4, y5, y6, y7, y8⟩ := cells9 M1
      obtain ⟨z0, z1, z2, z3, z4, z5, z6, z7, z8⟩ := cells9 Z2
      simp only [zro] at z0 z1 z2 z3 z4 z5 z6 z7 z8
      have zf := fun o => Z2.frozen o
      by_cases hs : m q = 2
      · have HE := Lib.hid (ch3 (m := m) hq (by decide) hs)
        have HM := Lib.hid (ch_no HE.out (by decide))
        rw [decide_eq_true hs] at heq
        clear hs
        go_wp2
        refine bodyPost_ret (resC9 Try.results15 (.inr rfl) _ rfl rfl (Z2.set9 zro)) rfl ⟨?_, below_set9 zro q2 (Nat.le_succ _)⟩
        rw [HM.out, HE.out]
        rfl
      · rw [decide_eq_false hs] at heq
        by_cases hv : m q = 0
        · have p5 : (m q == 0) = true := beq_iff_eq.2 hv
          have p6 : (m q == 1) = false := beq_eq_false_iff_ne.2 (by omega)
          have HE := Lib.hid (ch0 (m := m) (r := 2) hq (by decide) hs (by omega))
          have HM := Lib.hid (ch_yes HE.out)
          go_wp2
          refine bodyPost_ret (resC9 Try.results15 (.inr rfl) _ rfl rfl (Z2.set9 (put m q 2))) rfl ⟨?_, below_set9 (put m q 2) q2 (Nat.le_succ _)⟩
          rw [HM.out, HE.out]
          rfl
        · skip
          by_cases hv2 : m q = 1
          · have p5 : (m q == 0) = false := beq_eq_false_iff_ne.2 (by omega)
            have p6 : (m q == 1) = true := beq_iff_eq.2 hv2
            have HE := Lib.hid (ch6 (m := m) hq (by decide) hs (.inr (.inl ⟨hv2, rfl⟩)))
            have HM := Lib.hid (ch_no HE.out (by decide))
            clear hs hv2
            go_wp2
            refine bodyPost_ret (resC9 Try.results15 (.inr rfl) _ rfl rfl (Z2.set9 zro)) rfl ⟨?_, below_set9 zro q2 (Nat.le_succ _)⟩
            rw [HM.out, HE.out]
            rfl
          · skip
            have p5 : (m q == 0) = false := beq_eq_false_iff_ne.2 (by omega)
            have p6 : (m q == 1) = false := beq_eq_false_iff_ne.2 (by omega)
            have HE := Lib.hid (ch0 (m := m) (r := 2) hq (by decide) hs (by omega))
            have HM := Lib.hid (ch_yes HE.out)
            go_wp2
            refine bodyPost_ret (resC9 Try.results15 (.inr rfl) _ rfl rfl (Z2.set9 (put m q 2))) rfl ⟨?_, below_set9 (put m q 2) q2 (Nat.le_succ _)⟩
            rw [HM.out, HE.out]
            rfl
end Go.Proofs.Ytfeaoapjgcibmaa

