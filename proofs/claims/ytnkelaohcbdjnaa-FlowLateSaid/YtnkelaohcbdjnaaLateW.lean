/- FlowLate: the law. -/
import Derived.Test.YtnkelaohcbdjnaaW
import Derived.Lib.QuoteBits
set_option linter.unusedVariables false
set_option linter.unusedSimpArgs false
namespace Go.Proofs.Ytnkelaohcbdjnaa
open Go.RowKit Go.Maps Go.Lib
theorem and3 (z : Int) : bits BinOp.and IntKind.i64 z 3 = 0 ∨ bits BinOp.and IntKind.i64 z 3 = 1 ∨ bits BinOp.and IntKind.i64 z 3 = 2 ∨ bits BinOp.and IntKind.i64 z 3 = 3 := by
  have h : bits BinOp.and IntKind.i64 z 3 = ((((BitVec.ofInt 64 z).toNat % 4 : Nat)) : Int) := by
    show IntKind.i64.wrap ((BitVec.ofInt 64 z &&& BitVec.ofInt 64 ((3 : Nat) : Int)).toNat : Int) = _
    have e3 : (BitVec.ofInt 64 ((3 : Nat) : Int)).toNat = 2 ^ 2 - 1 := by decide
    rw [BitVec.toNat_and, e3, Nat.and_two_pow_sub_one_eq_mod]
    exact wrap_i64_small _ (by omega)
  rw [h]
  omega
theorem shut_kinds (z : Int) : wrap64 (5 + bits BinOp.and IntKind.i64 z 3) = 5 ∨ wrap64 (5 + bits BinOp.and IntKind.i64 z 3) = 6 ∨ wrap64 (5 + bits BinOp.and IntKind.i64 z 3) = 7 ∨ wrap64 (5 + bits BinOp.and IntKind.i64 z 3) = 8 := by
  rcases and3 z with h | h | h | h <;> rw [h]
  · exact .inl (by simp [wrap64])
  · exact .inr (.inl (by simp [wrap64]))
  · exact .inr (.inr (.inl (by simp [wrap64])))
  · exact .inr (.inr (.inr (by simp [wrap64])))
theorem wrap_succ (i : Nat) (h : i ≤ 30) : wrap64 ((i : Int) + 1) = ((i + 1 : Nat) : Int) := by rw [wrap64]; omega
set_option maxRecDepth 100000 in
set_option maxHeartbeats 4000000 in
theorem late_law (W : World) (sg : Int) (wsg : (Lit.int .i64 sg).wf = true) (ask : Bool) (kd : Int) (wkd : (Lit.int .i64 kd).wf = true) : Calls Try.prog 4 #[.int .i64 sg, .bool ask, .int .i64 kd] W fun e W' => e = .returned (.bool true) ∧ Below W.heap.size W W' := by
  have HKK := Lib.hid (shut_kinds kd)
  obtain ⟨K, hK⟩ : ∃ K, wrap64 (5 + bits BinOp.and IntKind.i64 kd 3) = K := ⟨_, rfl⟩
  rw [hK] at HKK
  have HWF := Lib.hid wsg
  clear wsg wkd
  go_enter Try.func4, Try.ntmps4
  go_upto_region 3 with (first | (go_at_call 8; refine (known_any _).mono ?_; rintro e w2 ⟨rfl, hf2⟩) | go_in)
  have HF := Lib.hid hf2
  clear hf2
  by_cases h1 : sg < 0
  · have p1 : decide (sg < 0) = true := decide_eq_true h1
    go_wp2
    go_ret
    exact ⟨rfl, HF.out.below (Nat.le_refl _) (fun k e => e.elim)⟩
  have p1 : decide (sg < 0) = false := decide_eq_false h1
  by_cases h2 : 30 < sg
  · have p2 : decide (sg > 30) = true := decide_eq_true h2
    have p3 : decide (30 < sg) = true := decide_eq_true h2
    go_wp2
    go_ret
    exact ⟨rfl, HF.out.below (Nat.le_refl _) (fun k e => e.elim)⟩
  have p2 : decide (sg > 30) = false := decide_eq_false h2
  have p3 : decide (30 < sg) = false := decide_eq_false h2
  obtain ⟨n, rfl⟩ : ∃ n : Nat, sg = n := ⟨sg.toNat, by omega⟩
  have hn30 : n ≤ 30 := by omega
  have HN := Lib.hid hn30
  clear h1 h2 hn30
  go_upto_region 6 with (fail)
  clear p1 p2 p3
  try rw [hK]
  have HNEW := Lib.hid (new_any w2 3 1 0 7 0 (by omega) (by omega) (by omega) (by omega) (by omega) none 0 0 [] (RowB.nil _ _) (by omega) rfl (by simp))
  go_upto_region 7 with (first | (go_at_call 11; refine HNEW.out.mono ?_; rintro e w3 ⟨fb, mb, ob, d1, d2, rfl, hfb, hmb, hne, hfl, hob, hbo, hf3⟩) | go_in)
  have HST : Hid (Stands w3 fb 1 2 0 0 false false 2) := Lib.hid ⟨mb, _, hfl, rfl, rfl, rfl, rfl, rfl, rfl, rfl, 2, 0, 0, 0, 0, 0, d2, rfl, by omega, by omega⟩
  have HF3 : Hid (Fr (fun _ => False) W w3) := Lib.hid (HF.out.trans hf3)
  have HB3 : Hid (W.heap.size ≤ fb) := Lib.hid (Nat.le_trans HF.out.size hfb)
  clear HNEW hfl hf3 hbo hob hne hmb hfb HF hK
  have HDEC := Lib.hid (HST.out.decides (by omega) (by omega) 0 (by omega) (by omega) (by omega))
  go_upto_region 10 with (first | (go_at_call 12; refine HDEC.out.mono ?_; rintro e w4 ⟨v4, rfl, hst4, hf4⟩) | go_in)
  have HST4 := Lib.hid hst4
  have HF4 : Hid (Fr (fun k => k = fb) W w4) := Lib.hid ((HF3.out.mono fun _ e => e.elim).trans hf4)
  clear HDEC HST HF3 hst4 hf4
  go_wp2_with fail
  go_loopw [10] (fun iv wr => ∃ i : Nat, i ≤ n ∧ iv = .int .i64 i ∧ Stands wr fb 2 2 0 1 (decide (0 < i)) false (3 + i) ∧ Fr (fun k => k = fb) W wr) (fun iv _ => n - (intOf iv).toNat)
  case atStart =>
    obtain ⟨xm, s, hs⟩ := HST4.out
    obtain ⟨k, a, r, i, l, m, dd, g1, g2, g3⟩ := hs.last
    exact ⟨0, by omega, rfl, ⟨xm, s, hs.fl, hs.task, hs.at_, hs.turn, hs.list, hs.late, hs.asked, hs.len, k, a, r, i, l, m, dd, g1, g2, by omega⟩, HF4.out⟩
  case round =>
    obtain ⟨i, hi, rfl, hst, hf⟩ := hrel
    have HST := Lib.hid hst
    have HF := Lib.hid hf
    clear HST4 HF4 hst hf
    by_cases hlt : i < n
    · have p0 : decide ((i : Int) < n) = true := decide_eq_true (by omega)
      have hn30 := HN.out
      go_wp2_with fail
      have hra := lit_row (S := fun _ => False) wr #[.int .u8 i] 1 rfl (by decide) (0, 0) (fun k e => e.elim)
      have hfa : Fr (fun _ => False) wr (wr.alloc (.cells #[.int .u8 i] 5)) := Fr.alloc _ _ _
      refine ((HST.out.fr0 hfa).signal (by omega) 1 (by omega) (by omega) (by omega) _ 1 1 _ hra (by omega) rfl (by intro u hu; simp at hu; rw [hu]; rfl)).mono ?_
      rintro e w5 ⟨v5, rfl, hst5, hf5⟩
      have HST5 := Lib.hid hst5
      have HF5 := Lib.hid (HF.out.trans ((hfa.mono fun _ e => e.elim).trans hf5))
      clear hst5 hf5 hra hfa HST HF hn30
      have HW := Lib.hid (wrap_succ i (Nat.le_trans hi HN.out))
      go_wp2_with fail
      refine ⟨⟨i + 1, by omega, by rw [HW.out], ?_, HF5.out⟩, ?_⟩
      · rw [show decide (0 < i + 1) = true from decide_eq_true (by omega)]; exact HST5.out
      · rw [HW.out]; clear HW; simp [intOf]; omega
    · have hin : i = n := by omega
      subst hin
      have p0 : decide ((i : Int) < i) = false := decide_eq_false (by omega)
      have HW := Lib.hid (wrap_succ i HN.out)
      have pw : ((((i + 1 : Nat) : Int)) == 0) = false := by simp; omega
      have H30 : Hid (i ≤ 30) := HN
      clear hi hlt HN HWF
      cases ask with
      | true =>
        have HCA := Lib.hid (HST.out.cancel (by have := H30.out; omega) 1 (by omega) (by omega) (by omega))
        go_upto_region 15 with (fail)
        go_upto_region 17 with (first | (go_at_call 14; refine HCA.out.mono ?_; rintro e w5 ⟨v5, rfl, hst5, hf5⟩) | go_in)
        have HF5 : Hid (Fr (fun k => k = fb) W w5) := Lib.hid (HF.out.trans hf5)
        clear HF HST HCA hf5
        have HF := HF5
        have HST := Lib.hid hst5
        clear HF5 hst5
        try rw [HW.out]
        clear HW
        have HL := Lib.hid (fun w' (hf' : Fr (fun _ => False) w5 w') (lb : Nat) (hlb : Blk w' lb 24 (Kb K)) => (HST.out.fr0 hf').lately (by have := H30.out; omega) 2 (by omega) (by omega) (by omega) K HKK.out (fun _ => rfl) lb hlb)
        go_upto_region 18 with (first | (go_at_call 15; refine (HL.out _ (Fr.alloc _ _ _) w5.heap.size (Blk.new _ _ _)).mono ?_; rintro e w6 ⟨ob6, rfl, hob6, hbo6, hst6, hf6⟩) | go_in)
        rw [show wrap64 (0 + 1) = 1 by simp [wrap64]] at hbo6 hst6
        obtain ⟨at6, hat6⟩ : ∃ z : Int, ((3 + i + 1 : Nat) : Int) + 2 = z := ⟨_, rfl⟩
        rw [hat6] at hbo6 hst6
        have HF6 : Hid (Fr (fun k => k = fb) W w6) := Lib.hid (HF.out.trans (((Fr.alloc (fun _ => False) _ _).mono fun _ e => e.elim).trans hf6))
        have hne6 : ob6 ≠ fb := by have := HST.out.lt; simp at hob6; omega
        have o0 := hbo6.cell 0
        have o2 := hbo6.cell 2
        have o3 := hbo6.cell 3
        simp only [List.getElem?_toArray, List.getElem?_cons_zero, List.getElem?_cons_succ] at o0 o2 o3
        have HBO6 := Lib.hid hbo6
        have HST6 := Lib.hid hst6
        have HNE6 := Lib.hid hne6
        have HOP := Lib.hid hst6.open_
        have HD := Lib.hid (hst6.decides (by have := H30.out; omega) (by omega) 3 (by omega) (by omega) (by omega))
        clear HL HF HST hbo6 hst6 hf6 hob6 hat6 hne6
        go_upto_region 22 with (first | (go_at_call 16; refine HOP.out.mono ?_; rintro e w7 ⟨rfl, rfl⟩) | go_in)
        clear HOP
        go_upto_region 23 with (first | (go_at_call 12; refine HD.out.mono ?_; rintro e w7 ⟨v7, rfl, hst7, hf7⟩) | go_in)
        have HF7 : Hid (Fr (fun k => k = fb) W w7) := Lib.hid (HF6.out.trans hf7)
        clear o0 o2 o3
        have o2 := (HBO6.out.fr hf7 HNE6.out).cell 2
        simp only [List.getElem?_toArray, List.getElem?_cons_zero, List.getElem?_cons_succ] at o2
        have HST7 := Lib.hid hst7
        have HC := Lib.hid (fun w' (hf' : Fr (fun _ => False) w7 w') (lb : Nat) (hlb : Blk w' lb 24 (Kb K)) (hlne : lb ≠ fb) => (HST7.out.fr0 hf').close (by have := H30.out; omega) 3 (by omega) (by omega) (by omega) K HKK.out (fun _ => rfl) lb hlb hlne)
        clear HD HBO6 HNE6 HF6 hst7 hf7 HST6
        go_upto_region 25 with (fail)
        go_upto_region 26 with (first | (go_at_call 15; refine (HC.out _ (Fr.alloc _ _ _) w7.heap.size (Blk.new _ _ _) (by have := HST7.out.lt; omega)).mono ?_; rintro e w8 ⟨g8, cp8, st8, rfl, hcp8, hs8, hs9, hst8, hf8⟩) | go_in)
        have HF8 : Hid (Fr (fun k => k = fb) W w8) := Lib.hid (HF7.out.trans (((Fr.alloc (fun _ => False) _ _).mono fun _ e => e.elim).trans hf8))
        have HS8 := Lib.hid (hst8 _ (Fr.refl _ _))
        clear HC hf8 hst8 HF7 o2 HST7
        go_wp2_with (first | (go_at_call 16; refine HS8.out.mono ?_; rintro e w9 ⟨rfl, rfl⟩) | go_in)
        go_ret
        exact ⟨rfl, HF8.out.below (Nat.le_refl _) (fun k e => by have := HB3.out; omega)⟩
      | false =>
        by_cases hK7 : K = 7
        · subst hK7
          have HCA := Lib.hid (HST.out.cancel (by have := H30.out; omega) 1 (by omega) (by omega) (by omega))
          go_upto_region 15 with (fail)
          go_upto_region 17 with (first | (go_at_call 14; refine HCA.out.mono ?_; rintro e w5 ⟨v5, rfl, hst5, hf5⟩) | go_in)
          have HF5 : Hid (Fr (fun k => k = fb) W w5) := Lib.hid (HF.out.trans hf5)
          clear HF HST HCA hf5
          have HF := HF5
          have HST := Lib.hid hst5
          clear HF5 hst5
          try rw [HW.out]
          clear HW
          have HL := Lib.hid (fun w' (hf' : Fr (fun _ => False) w5 w') (lb : Nat) (hlb : Blk w' lb 24 (Kb 7)) => (HST.out.fr0 hf').lately (by have := H30.out; omega) 2 (by omega) (by omega) (by omega) 7 (Or.inr (Or.inr (Or.inl rfl))) (fun _ => rfl) lb hlb)
          go_upto_region 18 with (first | (go_at_call 15; refine (HL.out _ (Fr.alloc _ _ _) w5.heap.size (Blk.new _ _ _)).mono ?_; rintro e w6 ⟨ob6, rfl, hob6, hbo6, hst6, hf6⟩) | go_in)
          rw [show wrap64 (0 + 1) = 1 by simp [wrap64]] at hbo6 hst6
          obtain ⟨at6, hat6⟩ : ∃ z : Int, ((3 + i + 1 : Nat) : Int) + 2 = z := ⟨_, rfl⟩
          rw [hat6] at hbo6 hst6
          have HF6 : Hid (Fr (fun k => k = fb) W w6) := Lib.hid (HF.out.trans (((Fr.alloc (fun _ => False) _ _).mono fun _ e => e.elim).trans hf6))
          have hne6 : ob6 ≠ fb := by have := HST.out.lt; simp at hob6; omega
          have o0 := hbo6.cell 0
          have o2 := hbo6.cell 2
          have o3 := hbo6.cell 3
          simp only [List.getElem?_toArray, List.getElem?_cons_zero, List.getElem?_cons_succ] at o0 o2 o3
          have HBO6 := Lib.hid hbo6
          have HST6 := Lib.hid hst6
          have HNE6 := Lib.hid hne6
          have HOP := Lib.hid hst6.open_
          have HD := Lib.hid (hst6.decides (by have := H30.out; omega) (by omega) 3 (by omega) (by omega) (by omega))
          clear HL HF HST hbo6 hst6 hf6 hob6 hat6 hne6
          go_upto_region 22 with (first | (go_at_call 16; refine HOP.out.mono ?_; rintro e w7 ⟨rfl, rfl⟩) | go_in)
          clear HOP
          go_upto_region 23 with (first | (go_at_call 12; refine HD.out.mono ?_; rintro e w7 ⟨v7, rfl, hst7, hf7⟩) | go_in)
          have HF7 : Hid (Fr (fun k => k = fb) W w7) := Lib.hid (HF6.out.trans hf7)
          clear o0 o2 o3
          have o2 := (HBO6.out.fr hf7 HNE6.out).cell 2
          simp only [List.getElem?_toArray, List.getElem?_cons_zero, List.getElem?_cons_succ] at o2
          have HST7 := Lib.hid hst7
          have HC := Lib.hid (fun w' (hf' : Fr (fun _ => False) w7 w') (lb : Nat) (hlb : Blk w' lb 24 (Kb 7)) (hlne : lb ≠ fb) => (HST7.out.fr0 hf').close (by have := H30.out; omega) 3 (by omega) (by omega) (by omega) 7 (Or.inr (Or.inr (Or.inl rfl))) (fun _ => rfl) lb hlb hlne)
          clear HD HBO6 HNE6 HF6 hst7 hf7 HST6
          go_upto_region 25 with (fail)
          go_upto_region 26 with (first | (go_at_call 15; refine (HC.out _ (Fr.alloc _ _ _) w7.heap.size (Blk.new _ _ _) (by have := HST7.out.lt; omega)).mono ?_; rintro e w8 ⟨g8, cp8, st8, rfl, hcp8, hs8, hs9, hst8, hf8⟩) | go_in)
          have HF8 : Hid (Fr (fun k => k = fb) W w8) := Lib.hid (HF7.out.trans (((Fr.alloc (fun _ => False) _ _).mono fun _ e => e.elim).trans hf8))
          have HS8 := Lib.hid (hst8 _ (Fr.refl _ _))
          clear HC hf8 hst8 HF7 o2 HST7
          go_wp2_with (first | (go_at_call 16; refine HS8.out.mono ?_; rintro e w9 ⟨rfl, rfl⟩) | go_in)
          go_ret
          exact ⟨rfl, HF8.out.below (Nat.le_refl _) (fun k e => by have := HB3.out; omega)⟩
        · have pk : (K == 7) = false := by simp [hK7]
          by_cases hi0 : i = 0
          · subst hi0
            have HST' : Hid (Stands wr fb 2 2 0 1 false false 3) := HST
            have HC := Lib.hid (fun w' (hf' : Fr (fun _ => False) wr w') (lb : Nat) (hlb : Blk w' lb 24 (Kb K)) (hlne : lb ≠ fb) => (HST'.out.fr0 hf').close (by omega) 2 (by omega) (by omega) (by omega) K HKK.out (fun e => absurd e hK7) lb hlb hlne)
            go_upto_region 18 with (first | (go_at_call 15; refine (HC.out _ (Fr.alloc _ _ _) wr.heap.size (Blk.new _ _ _) (by have := HST'.out.lt; omega)).mono ?_; rintro e w8 ⟨g8, cp8, st8, rfl, hcp8, hs8, hs9, hst8, hf8⟩) | go_in)
            have HF8 : Hid (Fr (fun k => k = fb) W w8) := Lib.hid (HF.out.trans (((Fr.alloc (fun _ => False) _ _).mono fun _ e => e.elim).trans hf8))
            have HS8 := Lib.hid (hst8 _ (Fr.refl _ _))
            clear HC hf8 hst8 HF HST HST'
            go_wp2_with (first | (go_at_call 16; refine HS8.out.mono ?_; rintro e w9 ⟨rfl, rfl⟩) | go_in)
            go_ret
            exact ⟨rfl, HF8.out.below (Nat.le_refl _) (fun k e => by have := HB3.out; omega)⟩
          · clear HW
            have pi : ((i : Int) == 0) = false := by simp; omega
            have HST' : Hid (Stands wr fb 2 2 0 1 true false (3 + i)) := Lib.hid (by have := HST.out; rw [show decide (0 < i) = true from decide_eq_true (by omega)] at this; exact this)
            clear HST
            have HST := HST'
            clear HST'
            have HL := Lib.hid (fun w' (hf' : Fr (fun _ => False) wr w') (lb : Nat) (hlb : Blk w' lb 24 (Kb K)) => (HST.out.fr0 hf').lately (by have := H30.out; omega) 2 (by omega) (by omega) (by omega) K HKK.out (fun e => absurd e hK7) lb hlb)
            go_upto_region 18 with (first | (go_at_call 15; refine (HL.out _ (Fr.alloc _ _ _) wr.heap.size (Blk.new _ _ _)).mono ?_; rintro e w6 ⟨ob6, rfl, hob6, hbo6, hst6, hf6⟩) | go_in)
            rw [show wrap64 (0 + 1) = 1 by simp [wrap64]] at hbo6 hst6
            obtain ⟨at6, hat6⟩ : ∃ z : Int, ((3 + i : Nat) : Int) + 2 = z := ⟨_, rfl⟩
            rw [hat6] at hbo6 hst6
            have HF6 : Hid (Fr (fun k => k = fb) W w6) := Lib.hid (HF.out.trans (((Fr.alloc (fun _ => False) _ _).mono fun _ e => e.elim).trans hf6))
            have hne6 : ob6 ≠ fb := by have := HST.out.lt; simp at hob6; omega
            have o0 := hbo6.cell 0
            have o2 := hbo6.cell 2
            have o3 := hbo6.cell 3
            simp only [List.getElem?_toArray, List.getElem?_cons_zero, List.getElem?_cons_succ] at o0 o2 o3
            have HBO6 := Lib.hid hbo6
            have HST6 := Lib.hid hst6
            have HNE6 := Lib.hid hne6
            have HOP := Lib.hid hst6.open_
            have HD := Lib.hid (hst6.decides (by have := H30.out; omega) (by omega) 3 (by omega) (by omega) (by omega))
            clear HL HF HST hbo6 hst6 hf6 hob6 hat6 hne6
            go_upto_region 22 with (first | (go_at_call 16; refine HOP.out.mono ?_; rintro e w7 ⟨rfl, rfl⟩) | go_in)
            clear HOP
            go_upto_region 23 with (first | (go_at_call 12; refine HD.out.mono ?_; rintro e w7 ⟨v7, rfl, hst7, hf7⟩) | go_in)
            have HF7 : Hid (Fr (fun k => k = fb) W w7) := Lib.hid (HF6.out.trans hf7)
            clear o0 o2 o3
            have o2 := (HBO6.out.fr hf7 HNE6.out).cell 2
            simp only [List.getElem?_toArray, List.getElem?_cons_zero, List.getElem?_cons_succ] at o2
            have HST7 := Lib.hid hst7
            have HC := Lib.hid (fun w' (hf' : Fr (fun _ => False) w7 w') (lb : Nat) (hlb : Blk w' lb 24 (Kb K)) (hlne : lb ≠ fb) => (HST7.out.fr0 hf').close (by have := H30.out; omega) 3 (by omega) (by omega) (by omega) K HKK.out (fun e => absurd e hK7) lb hlb hlne)
            clear HD HBO6 HNE6 HF6 hst7 hf7 HST6
            go_upto_region 25 with (fail)
            go_upto_region 26 with (first | (go_at_call 15; refine (HC.out _ (Fr.alloc _ _ _) w7.heap.size (Blk.new _ _ _) (by have := HST7.out.lt; omega)).mono ?_; rintro e w8 ⟨g8, cp8, st8, rfl, hcp8, hs8, hs9, hst8, hf8⟩) | go_in)
            have HF8 : Hid (Fr (fun k => k = fb) W w8) := Lib.hid (HF7.out.trans (((Fr.alloc (fun _ => False) _ _).mono fun _ e => e.elim).trans hf8))
            have HS8 := Lib.hid (hst8 _ (Fr.refl _ _))
            clear HC hf8 hst8 HF7 o2 HST7
            go_wp2_with (first | (go_at_call 16; refine HS8.out.mono ?_; rintro e w9 ⟨rfl, rfl⟩) | go_in)
            go_ret
            exact ⟨rfl, HF8.out.below (Nat.le_refl _) (fun k e => by have := HB3.out; omega)⟩
end Go.Proofs.Ytnkelaohcbdjnaa
