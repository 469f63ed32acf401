/- Histories: what does not fit. -/
import Derived.Test.YtnkelaohcbdjnaaEvC
set_option linter.unusedVariables false
set_option linter.unusedSimpArgs false
namespace Go.Proofs.Ytnkelaohcbdjnaa.Ev
open Go.RowKit Go.Maps
noncomputable def faultC (s : Hi) (e : Ev) : Nat :=
  if rightB e = false then 1
  else if e.at_ < s.at_ then 2
  else if (((s.n : Int) == 0) == (e.k == 1)) = false then 3
  else if s.closed ≠ 0 then 4
  else if refB s e = false then 5
  else if e.k = 2 ∧ s.task ≠ 0 then 6
  else @ite _ ((e.k = 7 ∨ e.k = 12 ∨ e.k = 17) ∧ usesB s e.k e.id = true) (Classical.propDecidable _) 7 0
def whyV : Nat → Value
  | 1 => .string ⟨#[101, 118, 101, 110, 116]⟩
  | 2 => .string ⟨#[116, 105, 109, 101]⟩
  | 3 => .string ⟨#[102, 105, 114, 115, 116]⟩
  | 4 => .string ⟨#[99, 108, 111, 115, 101, 100]⟩
  | 5 => .string ⟨#[114, 101, 102]⟩
  | 6 => .string ⟨#[116, 97, 115, 107]⟩
  | 7 => .string ⟨#[105, 100]⟩
  | _ => .string ⟨#[]⟩
theorem fault1 {s : Hi} {e : Ev} (h1 : rightB e = false) : faultC s e = 1 := by unfold faultC; rw [if_pos h1]
theorem fault2 {s : Hi} {e : Ev} (h1 : rightB e = true) (h2 : e.at_ < s.at_) : faultC s e = 2 := by unfold faultC; rw [if_neg (by rw [h1]; decide), if_pos h2]
theorem fault3 {s : Hi} {e : Ev} (h1 : rightB e = true) (h2 : ¬ e.at_ < s.at_) (h3 : (((s.n : Int) == 0) == (e.k == 1)) = false) : faultC s e = 3 := by unfold faultC; rw [if_neg (by rw [h1]; decide), if_neg h2, if_pos h3]
theorem fault4 {s : Hi} {e : Ev} (h1 : rightB e = true) (h2 : ¬ e.at_ < s.at_) (h3 : (((s.n : Int) == 0) == (e.k == 1)) = true) (h4 : s.closed ≠ 0) : faultC s e = 4 := by unfold faultC; rw [if_neg (by rw [h1]; decide), if_neg h2, if_neg (by rw [h3]; decide), if_pos h4]
theorem fault5 {s : Hi} {e : Ev} (h1 : rightB e = true) (h2 : ¬ e.at_ < s.at_) (h3 : (((s.n : Int) == 0) == (e.k == 1)) = true) (h4 : s.closed = 0) (h5 : refB s e = false) : faultC s e = 5 := by unfold faultC; rw [if_neg (by rw [h1]; decide), if_neg h2, if_neg (by rw [h3]; decide), if_neg (fun h => h h4), if_pos h5]
theorem fault_rest {s : Hi} {e : Ev} (h1 : rightB e = true) (h2 : ¬ e.at_ < s.at_) (h3 : (((s.n : Int) == 0) == (e.k == 1)) = true) (h4 : s.closed = 0) (h5 : refB s e = true) : faultC s e = if e.k = 2 ∧ s.task ≠ 0 then 6 else @ite _ ((e.k = 7 ∨ e.k = 12 ∨ e.k = 17) ∧ usesB s e.k e.id = true) (Classical.propDecidable _) 7 0 := by unfold faultC; rw [if_neg (by rw [h1]; decide), if_neg h2, if_neg (by rw [h3]; decide), if_neg (fun h => h h4), if_neg (by rw [h5]; decide)]
theorem ok_of {e : Ev} (h : rightB e = true) : iKE.ok e.ref := by
  have : betB e.ref = true := by
    simp only [rightB, Bool.and_eq_true] at h
    exact h.2.2.2.1
  rw [betB_iff] at this
  exact wf_of (by omega) (by omega)
set_option maxRecDepth 100000 in
set_option maxHeartbeats 8000000 in
theorem fault_any (W : World) (hb kb ib ob fb : Nat) (s : Hi) (h : HS W hb kb ib ob fb s) (e : Ev) :
    Calls Try.prog 98 #[.pointer (some ⟨hb, 0, none⟩), .agg (evc e)] W fun r W' => r = .returned (whyV (faultC s e)) ∧ Fr (fun _ => False) W W' := by
  have hB := Blk.new W 79 (evc e)
  have hF : Fr (fun _ => False) W (W.alloc (.cells (evc e) 79)) := Fr.alloc _ _ _
  obtain ⟨w1, hw1⟩ : ∃ w1, W.alloc (.cells (evc e) 79) = w1 := ⟨_, rfl⟩
  rw [hw1] at hB hF
  have HS1 := Lib.hid (h.fr0 hF)
  obtain ⟨bb, hbb⟩ : ∃ b, W.heap.size = b := ⟨_, rfl⟩
  rw [hbb] at hB
  have HB1 := Lib.hid hB
  have HF1 := Lib.hid hF
  clear h hB hF
  obtain ⟨r, hr⟩ : ∃ r, whyV (faultC s e) = r := ⟨_, rfl⟩
  simp only [hr]
  have HR := Lib.hid hr
  clear hr
  simp only [evc] at hw1
  rw [show Value.agg (evc e) = Value.agg #[.int .i64 e.k, .int .i64 e.at_, .int .i64 e.ref, .int .i64 e.id, .int .i64 e.list, .int .i64 e.n, .slice e.ao e.dl e.cp] from rfl]
  have HRT := Lib.hid (fun w => right_any w e)
  have HRF := Lib.hid (fun w (h : HS w hb kb ib ob fb s) (hx : iKE.ok e.ref) => ref_any w hb kb ib ob fb s h e hx)
  have HUS := Lib.hid (fun w (h : HS w hb kb ib ob fb s) => uses_any w hb kb ib ob fb s h e.k e.id)
  simp only [evc] at HRT HRF
  go_enter Try.func98, Try.ntmps98
  go_upto_region 1 with (fail)
  try rw [hw1]
  try rw [hbb]
  clear hw1 hbb
  have c0 := HB1.out.cell 0
  have c1 := HB1.out.cell 1
  have c2 := HB1.out.cell 2
  have c3 := HB1.out.cell 3
  have c4 := HB1.out.cell 4
  have c5 := HB1.out.cell 5
  have c6 := HB1.out.cell 6
  simp only [evc, List.getElem?_toArray, List.getElem?_cons_zero, List.getElem?_cons_succ] at c0 c1 c2 c3 c4 c5 c6
  have d0 := HS1.out.b.cell 0
  have d1 := HS1.out.b.cell 1
  have d2 := HS1.out.b.cell 2
  have d5 := HS1.out.b.cell 5
  simp only [hcells, List.getElem?_toArray, List.getElem?_cons_zero, List.getElem?_cons_succ] at d0 d1 d2 d5
  cases q1 : rightB e with
  | false =>
    go_upto_region 2 with (first | (go_at_call 105; refine (HRT.out _).mono ?_; rintro e2 w2 ⟨rfl, hf2⟩; rw [q1]) | go_in)
    have HF2 := Lib.hid (HF1.out.trans hf2)
    have HC : Hid (faultC s e = 1) := Lib.hid (fault1 q1)
    go_wp2
    go_ret
    exact ⟨by rw [← HR.out, HC.out]; rfl, HF2.out⟩
  | true =>
  have HOK := Lib.hid (ok_of q1)
  have HQ1 := Lib.hid q1
  go_upto_region 3 with (first | (go_at_call 105; refine (HRT.out _).mono ?_; rintro e2 w2 ⟨rfl, hf2⟩; rw [q1]) | go_in)
  clear c0 c1 c2 c3 c4 c5 c6 d0 d1 d2 d5
  have HS2 := Lib.hid (HS1.out.fr0 hf2)
  have HB2 := Lib.hid (HB1.out.fr hf2 id)
  have HF2 := Lib.hid (HF1.out.trans hf2)
  clear hf2 HS1 HB1 HF1 HRT q1
  have c0 := HB2.out.cell 0
  have c1 := HB2.out.cell 1
  have c2 := HB2.out.cell 2
  have c3 := HB2.out.cell 3
  have c4 := HB2.out.cell 4
  have c5 := HB2.out.cell 5
  have c6 := HB2.out.cell 6
  simp only [evc, List.getElem?_toArray, List.getElem?_cons_zero, List.getElem?_cons_succ] at c0 c1 c2 c3 c4 c5 c6
  have d0 := HS2.out.b.cell 0
  have d1 := HS2.out.b.cell 1
  have d2 := HS2.out.b.cell 2
  have d5 := HS2.out.b.cell 5
  simp only [hcells, List.getElem?_toArray, List.getElem?_cons_zero, List.getElem?_cons_succ] at d0 d1 d2 d5
  by_cases h2 : e.at_ < s.at_
  · have p2 : decide (e.at_ < s.at_) = true := decide_eq_true h2
    have HH2 := Lib.hid h2
    go_quiet (fail)
    have hf3 : Fr (fun _ => False) w2 (w2.drewN nq) := Fr.drewN _ w2 nq
    obtain ⟨w3, hw3⟩ : ∃ w, w2.drewN nq = w := ⟨_, rfl⟩
    rw [hw3] at hf3 ⊢
    clear c0 c1 c2 c3 c4 c5 c6 d0 d1 d2 d5
    have HS3 := Lib.hid (HS2.out.fr0 hf3)
    have HB3 := Lib.hid (HB2.out.fr hf3 id)
    have HF3 := Lib.hid (HF2.out.trans hf3)
    clear hw3 hf3 HS2 HB2 HF2
    have c0 := HB3.out.cell 0
    have c1 := HB3.out.cell 1
    have c2 := HB3.out.cell 2
    have c3 := HB3.out.cell 3
    have c4 := HB3.out.cell 4
    have c5 := HB3.out.cell 5
    have c6 := HB3.out.cell 6
    simp only [evc, List.getElem?_toArray, List.getElem?_cons_zero, List.getElem?_cons_succ] at c0 c1 c2 c3 c4 c5 c6
    have d0 := HS3.out.b.cell 0
    have d1 := HS3.out.b.cell 1
    have d2 := HS3.out.b.cell 2
    have d5 := HS3.out.b.cell 5
    simp only [hcells, List.getElem?_toArray, List.getElem?_cons_zero, List.getElem?_cons_succ] at d0 d1 d2 d5
    have HC : Hid (faultC s e = 2) := Lib.hid (fault2 HQ1.out HH2.out)
    go_wp2
    go_ret
    exact ⟨by rw [← HR.out, HC.out]; rfl, HF3.out⟩
  have p2 : decide (e.at_ < s.at_) = false := decide_eq_false h2
  have HH2 : Hid (s.at_ ≤ e.at_) := Lib.hid (Int.not_lt.1 h2)
  clear h2
  go_quiet (fail)
  have hf3 : Fr (fun _ => False) w2 (w2.drewN nq) := Fr.drewN _ w2 nq
  obtain ⟨w3, hw3⟩ : ∃ w, w2.drewN nq = w := ⟨_, rfl⟩
  rw [hw3] at hf3 ⊢
  clear c0 c1 c2 c3 c4 c5 c6 d0 d1 d2 d5
  have HS3 := Lib.hid (HS2.out.fr0 hf3)
  have HB3 := Lib.hid (HB2.out.fr hf3 id)
  have HF3 := Lib.hid (HF2.out.trans hf3)
  clear hw3 hf3 HS2 HB2 HF2
  have c0 := HB3.out.cell 0
  have c1 := HB3.out.cell 1
  have c2 := HB3.out.cell 2
  have c3 := HB3.out.cell 3
  have c4 := HB3.out.cell 4
  have c5 := HB3.out.cell 5
  have c6 := HB3.out.cell 6
  simp only [evc, List.getElem?_toArray, List.getElem?_cons_zero, List.getElem?_cons_succ] at c0 c1 c2 c3 c4 c5 c6
  have d0 := HS3.out.b.cell 0
  have d1 := HS3.out.b.cell 1
  have d2 := HS3.out.b.cell 2
  have d5 := HS3.out.b.cell 5
  simp only [hcells, List.getElem?_toArray, List.getElem?_cons_zero, List.getElem?_cons_succ] at d0 d1 d2 d5
  obtain ⟨bn, hbn⟩ : ∃ b, ((s.n : Int) == 0) = b := ⟨_, rfl⟩
  obtain ⟨bk, hbk⟩ : ∃ b, (e.k == 1) = b := ⟨_, rfl⟩
  have HBN := Lib.hid hbn
  have HBK := Lib.hid hbk
  go_upto_region 5 with (fail)
  cases h3 : (bn == bk) with
  | false =>
    go_quiet (fail)
    have hf4 : Fr (fun _ => False) w3 (w3.drewN nq) := Fr.drewN _ w3 nq
    obtain ⟨w4, hw4⟩ : ∃ w, w3.drewN nq = w := ⟨_, rfl⟩
    rw [hw4] at hf4 ⊢
    clear c0 c1 c2 c3 c4 c5 c6 d0 d1 d2 d5
    have HS4 := Lib.hid (HS3.out.fr0 hf4)
    have HB4 := Lib.hid (HB3.out.fr hf4 id)
    have HF4 := Lib.hid (HF3.out.trans hf4)
    clear hw4 hf4 HS3 HB3 HF3
    have c0 := HB4.out.cell 0
    have c1 := HB4.out.cell 1
    have c2 := HB4.out.cell 2
    have c3 := HB4.out.cell 3
    have c4 := HB4.out.cell 4
    have c5 := HB4.out.cell 5
    have c6 := HB4.out.cell 6
    simp only [evc, List.getElem?_toArray, List.getElem?_cons_zero, List.getElem?_cons_succ] at c0 c1 c2 c3 c4 c5 c6
    have d0 := HS4.out.b.cell 0
    have d1 := HS4.out.b.cell 1
    have d2 := HS4.out.b.cell 2
    have d5 := HS4.out.b.cell 5
    simp only [hcells, List.getElem?_toArray, List.getElem?_cons_zero, List.getElem?_cons_succ] at d0 d1 d2 d5
    have H3 : Hid ((((s.n : Int) == 0) == (e.k == 1)) = false) := Lib.hid (by rw [HBN.out, HBK.out]; exact h3)
    have HC : Hid (faultC s e = 3) := Lib.hid (fault3 HQ1.out (Int.not_lt.2 HH2.out) H3.out)
    go_wp2
    go_ret
    exact ⟨by rw [← HR.out, HC.out]; rfl, HF4.out⟩
  | true =>
  go_quiet (fail)
  have hf4 : Fr (fun _ => False) w3 (w3.drewN nq) := Fr.drewN _ w3 nq
  obtain ⟨w4, hw4⟩ : ∃ w, w3.drewN nq = w := ⟨_, rfl⟩
  rw [hw4] at hf4 ⊢
  clear c0 c1 c2 c3 c4 c5 c6 d0 d1 d2 d5
  have HS4 := Lib.hid (HS3.out.fr0 hf4)
  have HB4 := Lib.hid (HB3.out.fr hf4 id)
  have HF4 := Lib.hid (HF3.out.trans hf4)
  clear hw4 hf4 HS3 HB3 HF3
  have c0 := HB4.out.cell 0
  have c1 := HB4.out.cell 1
  have c2 := HB4.out.cell 2
  have c3 := HB4.out.cell 3
  have c4 := HB4.out.cell 4
  have c5 := HB4.out.cell 5
  have c6 := HB4.out.cell 6
  simp only [evc, List.getElem?_toArray, List.getElem?_cons_zero, List.getElem?_cons_succ] at c0 c1 c2 c3 c4 c5 c6
  have d0 := HS4.out.b.cell 0
  have d1 := HS4.out.b.cell 1
  have d2 := HS4.out.b.cell 2
  have d5 := HS4.out.b.cell 5
  simp only [hcells, List.getElem?_toArray, List.getElem?_cons_zero, List.getElem?_cons_succ] at d0 d1 d2 d5
  have H3 : Hid ((((s.n : Int) == 0) == (e.k == 1)) = true) := Lib.hid (by rw [HBN.out, HBK.out]; exact h3)
  by_cases h4 : s.closed = 0
  case neg =>
    have HH4 := Lib.hid h4
    have p4 : (s.closed != 0) = true := by simp [h4]
    have HC : Hid (faultC s e = 4) := Lib.hid (fault4 HQ1.out (Int.not_lt.2 HH2.out) H3.out HH4.out)
    go_wp2
    go_ret
    exact ⟨by rw [← HR.out, HC.out]; rfl, HF4.out⟩
  have p4 : (s.closed != 0) = false := by simp [h4]
  clear hbn hbk
  go_upto_region 9 with (fail)
  have HH4 := Lib.hid h4
  have HRF4 := Lib.hid (HRF.out w4 HS4.out HOK.out)
  cases q5 : refB s e with
  | false =>
    go_upto_region 10 with (first | (go_at_call 106; refine HRF4.out.mono ?_; rintro e2 w5 ⟨rfl, hf5⟩; rw [q5]) | go_in)
    have HF5 := Lib.hid (HF4.out.trans hf5)
    have HC : Hid (faultC s e = 5) := Lib.hid (fault5 HQ1.out (Int.not_lt.2 HH2.out) H3.out HH4.out q5)
    go_wp2
    go_ret
    exact ⟨by rw [← HR.out, HC.out]; rfl, HF5.out⟩
  | true =>
  have HRS := Lib.hid (fault_rest HQ1.out (Int.not_lt.2 HH2.out) H3.out HH4.out q5)
  go_upto_region 11 with (first | (go_at_call 106; refine HRF4.out.mono ?_; rintro e2 w5 ⟨rfl, hf5⟩; rw [q5]) | go_in)
  clear c0 c1 c2 c3 c4 c5 c6 d0 d1 d2 d5
  have HS5 := Lib.hid (HS4.out.fr0 hf5)
  have HB5 := Lib.hid (HB4.out.fr hf5 id)
  have HF5 := Lib.hid (HF4.out.trans hf5)
  clear hf5 HS4 HB4 HF4 HRF4 HRF q5
  have c0 := HB5.out.cell 0
  have c1 := HB5.out.cell 1
  have c2 := HB5.out.cell 2
  have c3 := HB5.out.cell 3
  have c4 := HB5.out.cell 4
  have c5 := HB5.out.cell 5
  have c6 := HB5.out.cell 6
  simp only [evc, List.getElem?_toArray, List.getElem?_cons_zero, List.getElem?_cons_succ] at c0 c1 c2 c3 c4 c5 c6
  have d0 := HS5.out.b.cell 0
  have d1 := HS5.out.b.cell 1
  have d2 := HS5.out.b.cell 2
  have d5 := HS5.out.b.cell 5
  simp only [hcells, List.getElem?_toArray, List.getElem?_cons_zero, List.getElem?_cons_succ] at d0 d1 d2 d5
  by_cases h6 : e.k = 2 ∧ s.task ≠ 0
  · have p6 : (e.k == 2) = true := by simp [h6.1]
    have p7 : (s.task != 0) = true := by simp [h6.2]
    have HC : Hid (faultC s e = 6) := Lib.hid (by rw [HRS.out, if_pos h6])
    go_wp2
    go_ret
    exact ⟨by rw [← HR.out, HC.out]; rfl, HF5.out⟩
  have HH6 := Lib.hid h6
  by_cases h61 : e.k = 2
  · have p6 : (e.k == 2) = true := by simp [h61]
    have p7 : (s.task != 0) = false := by simp; exact Classical.byContradiction fun h => h6 ⟨h61, h⟩
    have r7 : (e.k == 7) = false := by rw [h61]; rfl
    have r12 : (e.k == 12) = false := by rw [h61]; rfl
    have r17 : (e.k == 17) = false := by rw [h61]; rfl
    have h7 : ¬ e.k = 7 := by omega
    have h12 : ¬ e.k = 12 := by omega
    have h17 : ¬ e.k = 17 := by omega
    have HC : Hid (faultC s e = 0) := Lib.hid (by rw [HRS.out, if_neg HH6.out]; exact if_neg (fun h => by omega))
    go_wp2
    go_ret
    exact ⟨by rw [← HR.out, HC.out]; rfl, HF5.out⟩
  · have p6 : (e.k == 2) = false := by simp [h61]
    clear h6
    go_upto_region 13 with (fail)
    by_cases h7 : e.k = 7
    · have r7 : (e.k == 7) = true := by simp [h7]
      have r12 : (e.k == 12) = false := by rw [h7]; rfl
      have r17 : (e.k == 17) = false := by rw [h7]; rfl
      have HK := Lib.hid h7
      clear h7
      have HUS5 := Lib.hid (HUS.out w5 HS5.out)
      cases q7 : usesB s e.k e.id with
      | true =>
        have HC : Hid (faultC s e = 7) := Lib.hid (by rw [HRS.out, if_neg HH6.out]; exact if_pos ⟨by have := HK.out; omega, q7⟩)
        go_wp2_with (first | (go_at_call 107; refine HUS5.out.mono ?_; rintro e2 w6 ⟨rfl, hf6⟩; rw [q7]) | go_in)
        go_ret
        exact ⟨by rw [← HR.out, HC.out]; rfl, HF5.out.trans hf6⟩
      | false =>
        have HC : Hid (faultC s e = 0) := Lib.hid (by rw [HRS.out, if_neg HH6.out]; exact if_neg (fun h => by rw [q7] at h; exact absurd h.2 (by decide)))
        go_wp2_with (first | (go_at_call 107; refine HUS5.out.mono ?_; rintro e2 w6 ⟨rfl, hf6⟩; rw [q7]) | go_in)
        go_ret
        exact ⟨by rw [← HR.out, HC.out]; rfl, HF5.out.trans hf6⟩
    have r7 : (e.k == 7) = false := by simp [h7]
    by_cases h12 : e.k = 12
    · have r12 : (e.k == 12) = true := by simp [h12]
      have r17 : (e.k == 17) = false := by rw [h12]; rfl
      have HK := Lib.hid h12
      clear h12
      have HUS5 := Lib.hid (HUS.out w5 HS5.out)
      cases q7 : usesB s e.k e.id with
      | true =>
        have HC : Hid (faultC s e = 7) := Lib.hid (by rw [HRS.out, if_neg HH6.out]; exact if_pos ⟨by have := HK.out; omega, q7⟩)
        go_wp2_with (first | (go_at_call 107; refine HUS5.out.mono ?_; rintro e2 w6 ⟨rfl, hf6⟩; rw [q7]) | go_in)
        go_ret
        exact ⟨by rw [← HR.out, HC.out]; rfl, HF5.out.trans hf6⟩
      | false =>
        have HC : Hid (faultC s e = 0) := Lib.hid (by rw [HRS.out, if_neg HH6.out]; exact if_neg (fun h => by rw [q7] at h; exact absurd h.2 (by decide)))
        go_wp2_with (first | (go_at_call 107; refine HUS5.out.mono ?_; rintro e2 w6 ⟨rfl, hf6⟩; rw [q7]) | go_in)
        go_ret
        exact ⟨by rw [← HR.out, HC.out]; rfl, HF5.out.trans hf6⟩
    have r12 : (e.k == 12) = false := by simp [h12]
    by_cases h17 : e.k = 17
    · have r17 : (e.k == 17) = true := by simp [h17]
      have HK := Lib.hid h17
      clear h17
      have HUS5 := Lib.hid (HUS.out w5 HS5.out)
      cases q7 : usesB s e.k e.id with
      | true =>
        have HC : Hid (faultC s e = 7) := Lib.hid (by rw [HRS.out, if_neg HH6.out]; exact if_pos ⟨by have := HK.out; omega, q7⟩)
        go_wp2_with (first | (go_at_call 107; refine HUS5.out.mono ?_; rintro e2 w6 ⟨rfl, hf6⟩; rw [q7]) | go_in)
        go_ret
        exact ⟨by rw [← HR.out, HC.out]; rfl, HF5.out.trans hf6⟩
      | false =>
        have HC : Hid (faultC s e = 0) := Lib.hid (by rw [HRS.out, if_neg HH6.out]; exact if_neg (fun h => by rw [q7] at h; exact absurd h.2 (by decide)))
        go_wp2_with (first | (go_at_call 107; refine HUS5.out.mono ?_; rintro e2 w6 ⟨rfl, hf6⟩; rw [q7]) | go_in)
        go_ret
        exact ⟨by rw [← HR.out, HC.out]; rfl, HF5.out.trans hf6⟩
    have r17 : (e.k == 17) = false := by simp [h17]
    have HC : Hid (faultC s e = 0) := Lib.hid (by rw [HRS.out, if_neg HH6.out]; exact if_neg (fun h => by omega))
    go_wp2
    go_ret
    exact ⟨by rw [← HR.out, HC.out]; rfl, HF5.out⟩
end Go.Proofs.Ytnkelaohcbdjnaa.Ev
