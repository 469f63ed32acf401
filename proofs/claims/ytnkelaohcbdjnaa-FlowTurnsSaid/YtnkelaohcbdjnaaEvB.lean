/- Histories: what an event may be; a history of none; what is open no more. -/
import Derived.Test.YtnkelaohcbdjnaaEvA
set_option linter.unusedVariables false
set_option linter.unusedSimpArgs false
namespace Go.Proofs.Ytnkelaohcbdjnaa.Ev
open Go.RowKit Go.Maps
def betB (v : Int) : Bool := decide (0 ≤ v) && decide (v ≤ 1099511627776)
theorem betB_iff (v : Int) : betB v = true ↔ 0 ≤ v ∧ v ≤ 1099511627776 := by simp [betB]
set_option maxRecDepth 100000 in
theorem between_any (W : World) (v : Int) : Calls Try.prog 111 #[.int .i64 v] W fun e W' => e = .returned (.bool (betB v)) ∧ W = W' := by
  by_cases h1 : 0 ≤ v
  · have p1 : decide (0 ≤ v) = true := decide_eq_true h1
    by_cases h2 : v ≤ 1099511627776
    · have p2 : decide (v ≤ 1099511627776) = true := decide_eq_true h2
      go_enter Try.func111, Try.ntmps111
      go_wp2
      go_ret
      exact ⟨by simp only [betB, p1, p2]; rfl, rfl⟩
    · have p2 : decide (v ≤ 1099511627776) = false := decide_eq_false h2
      go_enter Try.func111, Try.ntmps111
      go_wp2
      go_ret
      exact ⟨by simp only [betB, p1, p2]; rfl, rfl⟩
  · have p1 : decide (0 ≤ v) = false := decide_eq_false h1
    go_enter Try.func111, Try.ntmps111
    go_wp2
    go_ret
    exact ⟨by simp only [betB, p1]; rfl, rfl⟩
def closeB (v : Int) : Bool := decide (19 ≤ v) && decide (v ≤ 23)
set_option maxRecDepth 100000 in
theorem closes_any (W : World) (v : Int) : Calls Try.prog 100 #[.int .i64 v] W fun e W' => e = .returned (.bool (closeB v)) ∧ W = W' := by
  by_cases h1 : 19 ≤ v
  · have p1 : decide (19 ≤ v) = true := decide_eq_true h1
    by_cases h2 : v ≤ 23
    · have p2 : decide (v ≤ 23) = true := decide_eq_true h2
      go_enter Try.func100, Try.ntmps100
      go_wp2
      go_ret
      exact ⟨by simp only [closeB, p1, p2]; rfl, rfl⟩
    · have p2 : decide (v ≤ 23) = false := decide_eq_false h2
      go_enter Try.func100, Try.ntmps100
      go_wp2
      go_ret
      exact ⟨by simp only [closeB, p1, p2]; rfl, rfl⟩
  · have p1 : decide (19 ≤ v) = false := decide_eq_false h1
    go_enter Try.func100, Try.ntmps100
    go_wp2
    go_ret
    exact ⟨by simp only [closeB, p1]; rfl, rfl⟩
def rightB (e : Ev) : Bool := decide (1 ≤ e.k) && (decide (e.k ≤ 23) && (betB e.at_ && (betB e.ref && (betB e.id && (betB e.list && (betB e.n && decide (e.dl ≤ 4096)))))))
set_option maxRecDepth 100000 in
set_option maxHeartbeats 2000000 in
theorem right_any (W : World) (e : Ev) : Calls Try.prog 105 #[.agg (evc e)] W fun r W' => r = .returned (.bool (rightB e)) ∧ Fr (fun _ => False) W W' := by
  have hB := Blk.new W 79 (evc e)
  have hF : Fr (fun _ => False) W (W.alloc (.cells (evc e) 79)) := Fr.alloc _ _ _
  obtain ⟨w1, hw1⟩ : ∃ w1, W.alloc (.cells (evc e) 79) = w1 := ⟨_, rfl⟩
  rw [hw1] at hB hF
  obtain ⟨k, at_, ref, id, list, n, ao, dl, cp⟩ := e
  simp only [evc] at hw1 hB ⊢
  have c0 := hB.cell 0
  have c1 := hB.cell 1
  have c2 := hB.cell 2
  have c3 := hB.cell 3
  have c4 := hB.cell 4
  have c5 := hB.cell 5
  have c6 := hB.cell 6
  simp only [List.getElem?_toArray, List.getElem?_cons_zero, List.getElem?_cons_succ] at c0 c1 c2 c3 c4 c5 c6
  obtain ⟨bb, hbb⟩ : ∃ b, W.heap.size = b := ⟨_, rfl⟩
  rw [hbb] at c0 c1 c2 c3 c4 c5 c6
  have HF := Lib.hid hF
  have HW1 := hw1
  clear hB hF
  obtain ⟨r, hr⟩ : ∃ r, rightB ⟨k, at_, ref, id, list, n, ao, dl, cp⟩ = r := ⟨_, rfl⟩
  simp only [hr]
  have HR := Lib.hid hr
  clear hr
  go_enter Try.func105, Try.ntmps105
  go_upto_region 1 with (fail)
  try rw [hw1]
  try rw [hbb]
  clear hw1 hbb HW1
  by_cases h1 : 1 ≤ k
  · have p1 : decide (1 ≤ k) = true := decide_eq_true h1
    by_cases h2 : k ≤ 23
    · have p2 : decide (k ≤ 23) = true := decide_eq_true h2
      cases qat_ : betB at_ with
      | false =>
        go_wp2_with (first | (go_at_call 111; refine (between_any _ _).mono ?_; rintro e w2 ⟨rfl, rfl⟩) | go_in)
        go_ret
        exact ⟨by rw [← HR.out]; simp only [rightB, p1, p2, qat_]; rfl, HF.out⟩
      | true =>
        cases qref : betB ref with
        | false =>
          go_wp2_with (first | (go_at_call 111; refine (between_any _ _).mono ?_; rintro e w2 ⟨rfl, rfl⟩) | go_in)
          go_ret
          exact ⟨by rw [← HR.out]; simp only [rightB, p1, p2, qat_, qref]; rfl, HF.out⟩
        | true =>
          cases qid : betB id with
          | false =>
            go_wp2_with (first | (go_at_call 111; refine (between_any _ _).mono ?_; rintro e w2 ⟨rfl, rfl⟩) | go_in)
            go_ret
            exact ⟨by rw [← HR.out]; simp only [rightB, p1, p2, qat_, qref, qid]; rfl, HF.out⟩
          | true =>
            cases qlist : betB list with
            | false =>
              go_wp2_with (first | (go_at_call 111; refine (between_any _ _).mono ?_; rintro e w2 ⟨rfl, rfl⟩) | go_in)
              go_ret
              exact ⟨by rw [← HR.out]; simp only [rightB, p1, p2, qat_, qref, qid, qlist]; rfl, HF.out⟩
            | true =>
              cases qn : betB n with
              | false =>
                go_wp2_with (first | (go_at_call 111; refine (between_any _ _).mono ?_; rintro e w2 ⟨rfl, rfl⟩) | go_in)
                go_ret
                exact ⟨by rw [← HR.out]; simp only [rightB, p1, p2, qat_, qref, qid, qlist, qn]; rfl, HF.out⟩
              | true =>
                by_cases h3 : dl ≤ 4096
                · have p3 : decide ((dl : Int) ≤ 4096) = true := decide_eq_true (by omega)
                  have p4 : decide (dl ≤ 4096) = true := decide_eq_true h3
                  go_wp2_with (first | (go_at_call 111; refine (between_any _ _).mono ?_; rintro e w2 ⟨rfl, rfl⟩) | go_in)
                  go_ret
                  exact ⟨by rw [← HR.out]; simp only [rightB, p1, p2, qat_, qref, qid, qlist, qn, p4]; rfl, HF.out⟩
                · have p3 : decide ((dl : Int) ≤ 4096) = false := decide_eq_false (by omega)
                  have p4 : decide (dl ≤ 4096) = false := decide_eq_false h3
                  go_wp2_with (first | (go_at_call 111; refine (between_any _ _).mono ?_; rintro e w2 ⟨rfl, rfl⟩) | go_in)
                  go_ret
                  exact ⟨by rw [← HR.out]; simp only [rightB, p1, p2, qat_, qref, qid, qlist, qn, p4]; rfl, HF.out⟩
    · have p2 : decide (k ≤ 23) = false := decide_eq_false h2
      go_wp2_with (first | (go_at_call 111; refine (between_any _ _).mono ?_; rintro e w2 ⟨rfl, rfl⟩) | go_in)
      go_ret
      exact ⟨by rw [← HR.out]; simp only [rightB, p1, p2]; rfl, HF.out⟩
  · have p1 : decide (1 ≤ k) = false := decide_eq_false h1
    go_wp2_with (first | (go_at_call 111; refine (between_any _ _).mono ?_; rintro e w2 ⟨rfl, rfl⟩) | go_in)
    go_ret
    exact ⟨by rw [← HR.out]; simp only [rightB, p1]; rfl, HF.out⟩
/-- one that is open no more -/
def dropped (s : Hi) (x : Int) : Hi := { s with kinds := put1 s.kinds x none, ids := put1 s.ids x none }
set_option maxRecDepth 100000 in
set_option maxHeartbeats 1000000 in
theorem drop_any (W : World) (hb kb ib ob fb : Nat) (s : Hi) (h : HS W hb kb ib ob fb s) (x : Int) (hx : iKE.ok x) :
    Calls Try.prog 99 #[.pointer (some ⟨hb, 0, none⟩), .int .i64 x] W fun e W' => e = .returned (.tuple #[]) ∧ HS W' hb kb ib ob fb (dropped s x) ∧ Fr (fun k => k = kb ∨ k = ib) W W' := by
  obtain ⟨W1, hrun1, hM1, hf1⟩ := mdrop h.k hx 0
  obtain ⟨_, _, hMk⟩ := h.k
  obtain ⟨_, _, hMi⟩ := h.i
  have hn1 := mp_ne hMk h.b
  have hn2 := mp_ne hMi h.b
  have hi1 : ∃ c, c ≤ s.n ∧ Mp iKE W1 ib c (mI s.ids) := by obtain ⟨c, hc, hM⟩ := h.i; exact ⟨c, hc, hM.fr hf1 (fun e => h.ne.1 e.symm)⟩
  obtain ⟨W2, hrun2, hM2, hf2⟩ := mdrop hi1 hx 0
  have c3 := h.b.cell 3
  have c4 := (h.b.fr hf1 hn1).cell 4
  simp only [hcells, List.getElem?_toArray, List.getElem?_cons_zero, List.getElem?_cons_succ] at c3 c4
  have HH := Lib.hid h
  have HM1 := Lib.hid hM1
  have HM2 := Lib.hid hM2
  have HF1 := Lib.hid hf1
  have HF2 := Lib.hid hf2
  have HN := Lib.hid (And.intro hn1 hn2)
  clear hM1 hM2 hf1 hf2 h hMk hMi hn1 hn2 hi1
  go_enter Try.func99, Try.ntmps99
  go_wp2
  go_end0
  have h := HH.out
  have hf12 : Fr (fun k => k = kb ∨ k = ib) W W2 := (HF1.out.mono fun _ e => .inl e).trans (HF2.out.mono fun _ e => .inr e)
  obtain ⟨n1, n2, n3, n4, n5, n6⟩ := h.ne
  refine ⟨rfl, ⟨h.b.fr hf12 (by have := HN.out; omega), ?_, HM2.out, ?_, ?_, h.ne, h.few, fun y v hy => ?_, h.dv⟩, hf12⟩
  · obtain ⟨c, hc, hM⟩ := HM1.out; exact ⟨c, hc, hM.fr HF2.out n1⟩
  · obtain ⟨c, hc, hM⟩ := h.o; exact ⟨c, hc, hM.fr hf12 (by omega)⟩
  · obtain ⟨c, hc, hM⟩ := h.f; exact ⟨c, hc, hM.fr hf12 (by omega)⟩
  · refine h.dk y v ?_
    unfold dropped put1 at hy
    dsimp only at hy
    split at hy
    · cases hy
    · exact hy
end Go.Proofs.Ytnkelaohcbdjnaa.Ev
