/- The reference's Change. -/
import Derived.Test.YtfeaoapjgcibmaaS3
set_option linter.unusedVariables false
set_option linter.unusedSimpArgs false
namespace Go.Proofs.Ytfeaoapjgcibmaa
open Go.RowKit Go.Shelf
attribute [local go_sem] Oper.semAt_some
set_option maxRecDepth 100000 in
set_option maxHeartbeats 4000000 in
theorem rchange_any (m : Nat → Int) (hm : ∀ k, k < 9 → 0 ≤ m k ∧ m k ≤ 255) (x r : Int) (w : World) :
    Calls Try.prog 20 #[.agg #[.int .u8 (m 0), .int .u8 (m 1), .int .u8 (m 2), .int .u8 (m 3), .int .u8 (m 4), .int .u8 (m 5), .int .u8 (m 6), .int .u8 (m 7), .int .u8 (m 8)], .int .i64 x, .int .i64 r] w fun e W' => e = .returned (.tuple #[.agg #[.int .u8 (chM m x r 0), .int .u8 (chM m x r 1), .int .u8 (chM m x r 2), .int .u8 (chM m x r 3), .int .u8 (chM m x r 4), .int .u8 (chM m x r 5), .int .u8 (chM m x r 6), .int .u8 (chM m x r 7), .int .u8 (chM m x r 8)], .int .i64 (chE m x r)]) ∧ Below w.heap.size w W' := by
  have M0 := (Blk.new w 24 (arr m)).alloc (.cells (arr zro) 24)
  have Z0 := Blk.new (w.alloc (.cells (arr m) 24)) 24 (arr zro)
  rw [World.size_alloc] at Z0
  have q0 : Below w.heap.size w ((w.alloc (.cells (arr m) 24)).alloc (.cells (arr zro) 24)) := ((Below.refl _ w).alloc (Nat.le_refl _) _).alloc (by simp) _
  go_enter Try.func20, Try.ntmps20
  go_upto_region 1 with (fail)
  obtain ⟨W0, hW0⟩ : ∃ W0, (w.alloc (.cells (arr m) 24)).alloc (.cells (arr zro) 24) = W0 := ⟨_, rfl⟩
  rw [hW0] at M0 Z0 q0
  simp only [arr, zro] at hW0
  rw [hW0]
  obtain ⟨B, hB⟩ : ∃ B, w.heap.size = B := ⟨_, rfl⟩
  have hBn : w.heap.size ≤ B := by omega
  rw [hB] at M0 Z0
  rw [hB]
  clear hW0 hB
  have zf := fun o => Z0.frozen o
  obtain ⟨z0, z1, z2, z3, z4, z5, z6, z7, z8⟩ := cells9 Z0
  simp only [zro] at z0 z1 z2 z3 z4 z5 z6 z7 z8
  by_cases hbad : x < 0 ∨ 9 ≤ x ∨ r < 0 ∨ 2 < r
  · have HE := Lib.hid (ch1 (m := m) hbad)
    have HM := Lib.hid (ch_no (ch1 (m := m) hbad) (by decide))
    have hc : x < 0 ∨ (¬ x < 0 ∧ 8 < x) ∨ (¬ x < 0 ∧ ¬ 8 < x ∧ r < 0) ∨ (¬ x < 0 ∧ ¬ 8 < x ∧ ¬ r < 0 ∧ 2 < r) := by omega
    clear hbad
    rcases hc with h1 | ⟨h1, h2⟩ | ⟨h1, h2, h3⟩ | ⟨h1, h2, h3, h4⟩
    · have p1 : decide (x < 0) = true := decide_eq_true h1
      go_wp2
      refine bodyPost_ret (resC9 Try.results20 (.inl rfl) _ rfl rfl (Z0.set9 zro)) rfl ⟨?_, below_set9 zro q0 (by omega)⟩
      rw [HM.out, HE.out]
      rfl
    · have p1 : decide (x < 0) = false := decide_eq_false h1
      have p2 : decide (8 < x) = true := decide_eq_true h2
      go_wp2
      refine bodyPost_ret (resC9 Try.results20 (.inl rfl) _ rfl rfl (Z0.set9 zro)) rfl ⟨?_, below_set9 zro q0 (by omega)⟩
      rw [HM.out, HE.out]
      rfl
    · have p1 : decide (x < 0) = false := decide_eq_false h1
      have p2 : decide (8 < x) = false := decide_eq_false h2
      have p3 : decide (r < 0) = true := decide_eq_true h3
      go_wp2
      refine bodyPost_ret (resC9 Try.results20 (.inl rfl) _ rfl rfl (Z0.set9 zro)) rfl ⟨?_, below_set9 zro q0 (by omega)⟩
      rw [HM.out, HE.out]
      rfl
    · have p1 : decide (x < 0) = false := decide_eq_false h1
      have p2 : decide (8 < x) = false := decide_eq_false h2
      have p3 : decide (r < 0) = false := decide_eq_false h3
      have p4 : decide (2 < r) = true := decide_eq_true h4
      go_wp2
      refine bodyPost_ret (resC9 Try.results20 (.inl rfl) _ rfl rfl (Z0.set9 zro)) rfl ⟨?_, below_set9 zro q0 (by omega)⟩
      rw [HM.out, HE.out]
      rfl
  · obtain ⟨q, rfl⟩ := Int.eq_ofNat_of_zero_le (show 0 ≤ x by omega)
    have hq9 : (q : Int) < 9 := by omega
    have hq : q < 9 := by omega
    have hr : r = 0 ∨ r = 1 ∨ r = 2 := by omega
    have p1 : decide ((q : Int) < 0) = false := decide_eq_false (by omega)
    have p2 : decide (8 < (q : Int)) = false := decide_eq_false (by omega)
    obtain ⟨b1, b2⟩ := hm q hq
    clear hbad
    have mq := arr_cell M0 q hq
    rcases hr with rfl | rfl | rfl
    · by_cases hs : m q = 0
      · have HE := Lib.hid (ch3 (m := m) hq (by decide) hs)
        have HM := Lib.hid (ch_no HE.out (by decide))
        have p5 : (m q == 0) = true := beq_iff_eq.2 hs
        clear hs
        go_wp2
        refine bodyPost_ret (resC9 Try.results20 (.inl rfl) _ rfl rfl (Z0.set9 zro)) rfl ⟨?_, below_set9 zro q0 (by omega)⟩
        rw [HM.out, HE.out]
        rfl
      have p5 : (m q == 0) = false := beq_eq_false_iff_ne.2 hs
      have p6 : (m q == 0) = false := p5
      by_cases hv : m q = 1
      · have p7 : (m q == 1) = true := beq_iff_eq.2 hv
        obtain ⟨x0, x1, x2, x3, x4, x5, x6, x7, x8⟩ := cells9 M0
        go_wp2_with fail
        refine (rcount_any m hm 1 _).mono ?_
        rintro e w2 ⟨rfl, hb2⟩
        have M3 := M0.below hb2
        have Z3 := Z0.below hb2
        have q3 := q0.trans (hb2.mono q0.size)
        clear x0 x1 x2 x3 x4 x5 x6 x7 x8 z0 z1 z2 z3 z4 z5 z6 z7 z8 zf
        have zf := fun o => Z3.frozen o
        obtain ⟨z0, z1, z2, z3, z4, z5, z6, z7, z8⟩ := cells9 Z3
        simp only [zro] at z0 z1 z2 z3 z4 z5 z6 z7 z8
        have mq3 := arr_cell M3 q hq
        by_cases hcn : cnt m 1 = 1
        · have p8 : ((cnt m 1 : Int) == 1) = true := by rw [beq_iff_eq]; omega
          have HE := Lib.hid (ch6 (m := m) hq (by decide) hs (.inr (.inr ⟨hv, hcn⟩)))
          have HM := Lib.hid (ch_no HE.out (by decide))
          clear hs hv hcn
          go_wp2
          refine bodyPost_ret (resC9 Try.results20 (.inl rfl) _ rfl rfl (Z3.set9 zro)) rfl ⟨?_, below_set9 zro q3 (by omega)⟩
          rw [HM.out, HE.out]
          rfl
        · have p8 : ((cnt m 1 : Int) == 1) = false := by rw [beq_eq_false_iff_ne]; omega
          have HE := Lib.hid (ch0 (m := m) (r := 0) hq (by decide) hs (by omega))
          have HM := Lib.hid (ch_yes HE.out)
          clear hs hv hcn mq
          have mq := mq3
          have mf := M3.frozen q
          go_upto_region 11 with (fail)
          have M5 := M3.set q (.int .u8 0)
          rw [arr_put] at M5
          have Z5 := Z3.otherAt (B' := B) (by omega) q (.int .u8 0)
          have q5 := q3.setCell (p := ⟨B, q, none⟩) (by show w.heap.size ≤ B; omega) (.int .u8 0)
          obtain ⟨W5, hW5⟩ : ∃ W5, w2.setCell ⟨B, q, none⟩ (.int .u8 0) = W5 := ⟨_, rfl⟩
          rw [hW5] at M5 Z5 q5 ⊢
          clear hW5
          clear z0 z1 z2 z3 z4 z5 z6 z7 z8 zf mq mf
          obtain ⟨x0, x1, x2, x3, x4, x5, x6, x7, x8⟩ := cells9 M5
          obtain ⟨z0, z1, z2, z3, z4, z5, z6, z7, z8⟩ := cells9 Z5
          simp only [zro] at z0 z1 z2 z3 z4 z5 z6 z7 z8
          have zf := fun o => Z5.frozen o
          go_wp2
          refine bodyPost_ret (resC9 Try.results20 (.inl rfl) _ rfl rfl (Z5.set9 (put m q 0))) rfl ⟨?_, below_set9 (put m q 0) q5 (by omega)⟩
          rw [HM.out, HE.out]
          rfl
      · have p7 : (m q == 1) = false := beq_eq_false_iff_ne.2 hv
        have HE := Lib.hid (ch0 (m := m) (r := 0) hq (by decide) hs (by omega))
        have HM := Lib.hid (ch_yes HE.out)
        clear hs hv
        have mf := M0.frozen q
        go_upto_region 11 with (fail)
        have M5 := M0.set q (.int .u8 0)
        rw [arr_put] at M5
        have Z5 := Z0.otherAt (B' := B) (by omega) q (.int .u8 0)
        have q5 := q0.setCell (p := ⟨B, q, none⟩) (by show w.heap.size ≤ B; omega) (.int .u8 0)
        obtain ⟨W5, hW5⟩ : ∃ W5, W0.setCell ⟨B, q, none⟩ (.int .u8 0) = W5 := ⟨_, rfl⟩
        rw [hW5] at M5 Z5 q5 ⊢
        clear hW5
        clear z0 z1 z2 z3 z4 z5 z6 z7 z8 zf mq mf
        obtain ⟨x0, x1, x2, x3, x4, x5, x6, x7, x8⟩ := cells9 M5
        obtain ⟨z0, z1, z2, z3, z4, z5, z6, z7, z8⟩ := cells9 Z5
        simp only [zro] at z0 z1 z2 z3 z4 z5 z6 z7 z8
        have zf := fun o => Z5.frozen o
        go_wp2
        refine bodyPost_ret (resC9 Try.results20 (.inl rfl) _ rfl rfl (Z5.set9 (put m q 0))) rfl ⟨?_, below_set9 (put m q 0) q5 (by omega)⟩
        rw [HM.out, HE.out]
        rfl
    · by_cases hs : m q = 1
      · have HE := Lib.hid (ch3 (m := m) hq (by decide) hs)
        have HM := Lib.hid (ch_no HE.out (by decide))
        have p5 : (m q == 1) = true := beq_iff_eq.2 hs
        clear hs
        go_wp2
        refine bodyPost_ret (resC9 Try.results20 (.inl rfl) _ rfl rfl (Z0.set9 zro)) rfl ⟨?_, below_set9 zro q0 (by omega)⟩
        rw [HM.out, HE.out]
        rfl
      have p5 : (m q == 1) = false := beq_eq_false_iff_ne.2 hs
      have p6 : (m q == 1) = false := p5
      by_cases hv : m q = 0
      · have p7 : (m q == 0) = true := beq_iff_eq.2 hv
        have HE := Lib.hid (ch6 (m := m) hq (by decide) hs (.inl ⟨hv, rfl⟩))
        have HM := Lib.hid (ch_no HE.out (by decide))
        clear hs hv
        go_wp2
        refine bodyPost_ret (resC9 Try.results20 (.inl rfl) _ rfl rfl (Z0.set9 zro)) rfl ⟨?_, below_set9 zro q0 (by omega)⟩
        rw [HM.out, HE.out]
        rfl
      · have p7 : (m q == 0) = false := beq_eq_false_iff_ne.2 hv
        have HE := Lib.hid (ch0 (m := m) (r := 1) hq (by decide) hs (by omega))
        have HM := Lib.hid (ch_yes HE.out)
        clear hs hv
        have mf := M0.frozen q
        go_upto_region 11 with (fail)
        have M5 := M0.set q (.int .u8 1)
        rw [arr_put] at M5
        have Z5 := Z0.otherAt (B' := B) (by omega) q (.int .u8 1)
        have q5 := q0.setCell (p := ⟨B, q, none⟩) (by show w.heap.size ≤ B; omega) (.int .u8 1)
        obtain ⟨W5, hW5⟩ : ∃ W5, W0.setCell ⟨B, q, none⟩ (.int .u8 1) = W5 := ⟨_, rfl⟩
        rw [hW5] at M5 Z5 q5 ⊢
        clear hW5
        clear z0 z1 z2 z3 z4 z5 z6 z7 z8 zf mq mf
        obtain ⟨x0, x1, x2, x3, x4, x5, x6, x7, x8⟩ := cells9 M5
        obtain ⟨z0, z1, z2, z3, z4, z5, z6, z7, z8⟩ := cells9 Z5
        simp only [zro] at z0 z1 z2 z3 z4 z5 z6 z7 z8
        have zf := fun o => Z5.frozen o
        go_wp2
        refine bodyPost_ret (resC9 Try.results20 (.inl rfl) _ rfl rfl (Z5.set9 (put m q 1))) rfl ⟨?_, below_set9 (put m q 1) q5 (by omega)⟩
        rw [HM.out, HE.out]
        rfl
    · by_cases hs : m q = 2
      · have HE := Lib.hid (ch3 (m := m) hq (by decide) hs)
        have HM := Lib.hid (ch_no HE.out (by decide))
        have p5 : (m q == 2) = true := beq_iff_eq.2 hs
        clear hs
        go_wp2
        refine bodyPost_ret (resC9 Try.results20 (.inl rfl) _ rfl rfl (Z0.set9 zro)) rfl ⟨?_, below_set9 zro q0 (by omega)⟩
        rw [HM.out, HE.out]
        rfl
      have p5 : (m q == 2) = false := beq_eq_false_iff_ne.2 hs
      by_cases hv : m q = 0
      · have p7 : (m q == 0) = true := beq_iff_eq.2 hv
        have p8 : (m q == 1) = false := beq_eq_false_iff_ne.2 (by omega)
        have HE := Lib.hid (ch0 (m := m) (r := 2) hq (by decide) hs (by omega))
        have HM := Lib.hid (ch_yes HE.out)
        clear hs hv
        have mf := M0.frozen q
        go_upto_region 11 with (fail)
        have M5 := M0.set q (.int .u8 2)
        rw [arr_put] at M5
        have Z5 := Z0.otherAt (B' := B) (by omega) q (.int .u8 2)
        have q5 := q0.setCell (p := ⟨B, q, none⟩) (by show w.heap.size ≤ B; omega) (.int .u8 2)
        obtain ⟨W5, hW5⟩ : ∃ W5, W0.setCell ⟨B, q, none⟩ (.int .u8 2) = W5 := ⟨_, rfl⟩
        rw [hW5] at M5 Z5 q5 ⊢
        clear hW5
        clear z0 z1 z2 z3 z4 z5 z6 z7 z8 zf mq mf
        obtain ⟨x0, x1, x2, x3, x4, x5, x6, x7, x8⟩ := cells9 M5
        obtain ⟨z0, z1, z2, z3, z4, z5, z6, z7, z8⟩ := cells9 Z5
        simp only [zro] at z0 z1 z2 z3 z4 z5 z6 z7 z8
        have zf := fun o => Z5.frozen o
        go_wp2
        refine bodyPost_ret (resC9 Try.results20 (.inl rfl) _ rfl rfl (Z5.set9 (put m q 2))) rfl ⟨?_, below_set9 (put m q 2) q5 (by omega)⟩
        rw [HM.out, HE.out]
        rfl
      have p7 : (m q == 0) = false := beq_eq_false_iff_ne.2 hv
      by_cases hv2 : m q = 1
      · have p8 : (m q == 1) = true := beq_iff_eq.2 hv2
        have HE := Lib.hid (ch6 (m := m) hq (by decide) hs (.inr (.inl ⟨hv2, rfl⟩)))
        have HM := Lib.hid (ch_no HE.out (by decide))
        clear hs hv hv2
        go_wp2
        refine bodyPost_ret (resC9 Try.results20 (.inl rfl) _ rfl rfl (Z0.set9 zro)) rfl ⟨?_, below_set9 zro q0 (by omega)⟩
        rw [HM.out, HE.out]
        rfl
      · have p8 : (m q == 1) = false := beq_eq_false_iff_ne.2 hv2
        have HE := Lib.hid (ch0 (m := m) (r := 2) hq (by decide) hs (by omega))
        have HM := Lib.hid (ch_yes HE.out)
        clear hs hv hv2
        have mf := M0.frozen q
        go_upto_region 11 with (fail)
        have M5 := M0.set q (.int .u8 2)
        rw [arr_put] at M5
        have Z5 := Z0.otherAt (B' := B) (by omega) q (.int .u8 2)
        have q5 := q0.setCell (p := ⟨B, q, none⟩) (by show w.heap.size ≤ B; omega) (.int .u8 2)
        obtain ⟨W5, hW5⟩ : ∃ W5, W0.setCell ⟨B, q, none⟩ (.int .u8 2) = W5 := ⟨_, rfl⟩
        rw [hW5] at M5 Z5 q5 ⊢
        clear hW5
        clear z0 z1 z2 z3 z4 z5 z6 z7 z8 zf mq mf
        obtain ⟨x0, x1, x2, x3, x4, x5, x6, x7, x8⟩ := cells9 M5
        obtain ⟨z0, z1, z2, z3, z4, z5, z6, z7, z8⟩ := cells9 Z5
        simp only [zro] at z0 z1 z2 z3 z4 z5 z6 z7 z8
        have zf := fun o => Z5.frozen o
        go_wp2
        refine bodyPost_ret (resC9 Try.results20 (.inl rfl) _ rfl rfl (Z5.set9 (put m q 2))) rfl ⟨?_, below_set9 (put m q 2) q5 (by omega)⟩
        rw [HM.out, HE.out]
        rfl
end Go.Proofs.Ytfeaoapjgcibmaa
