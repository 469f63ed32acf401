/- The document's looks at one event; the status. -/
import Derived.Test.YtbdjnfkhdphhoaaDoorN
set_option linter.unusedVariables false
set_option linter.unusedSimpArgs false
namespace Go.Proofs.YtbdjnfkhdphhoaaDoor
open Go.RowKit Go.Maps
set_option maxRecDepth 100000 in
theorem rin_any (W : World) (v : Int) : Calls Tryd.prog 32 #[.int .i64 v] W fun e W' => e = .returned (.bool (betB v)) ∧ W = W' := by
  by_cases h1 : 0 ≤ v
  · have p1 : decide (0 ≤ v) = true := decide_eq_true h1
    by_cases h2 : v ≤ 1099511627776
    · have p2 : decide (v ≤ 1099511627776) = true := decide_eq_true h2
      go_enter Tryd.func32, Tryd.ntmps32
      go_wp2
      go_ret
      exact ⟨by simp only [betB, p1, p2]; rfl, rfl⟩
    · have p2 : decide (v ≤ 1099511627776) = false := decide_eq_false h2
      go_enter Tryd.func32, Tryd.ntmps32
      go_wp2
      go_ret
      exact ⟨by simp only [betB, p1, p2]; rfl, rfl⟩
  · have p1 : decide (0 ≤ v) = false := decide_eq_false h1
    go_enter Tryd.func32, Tryd.ntmps32
    go_wp2
    go_ret
    exact ⟨by simp only [betB, p1]; rfl, rfl⟩
set_option maxRecDepth 100000 in
theorem rcloses_any (W : World) (v : Int) : Calls Tryd.prog 12 #[.int .i64 v] W fun e W' => e = .returned (.bool (closeB v)) ∧ W = W' := by
  by_cases h1 : 19 ≤ v
  · have p1 : decide (19 ≤ v) = true := decide_eq_true h1
    by_cases h2 : v ≤ 23
    · have p2 : decide (v ≤ 23) = true := decide_eq_true h2
      go_enter Tryd.func12, Tryd.ntmps12
      go_wp2
      go_ret
      exact ⟨by simp only [closeB, p1, p2]; rfl, rfl⟩
    · have p2 : decide (v ≤ 23) = false := decide_eq_false h2
      go_enter Tryd.func12, Tryd.ntmps12
      go_wp2
      go_ret
      exact ⟨by simp only [closeB, p1, p2]; rfl, rfl⟩
  · have p1 : decide (19 ≤ v) = false := decide_eq_false h1
    go_enter Tryd.func12, Tryd.ntmps12
    go_wp2
    go_ret
    exact ⟨by simp only [closeB, p1]; rfl, rfl⟩
set_option maxRecDepth 100000 in
set_option maxHeartbeats 2000000 in
theorem rright_any (W : World) (e : Ev) : Calls Tryd.prog 14 #[.agg (evc e)] W fun r W' => r = .returned (.bool (rightB e)) ∧ Fr (fun _ => False) W W' := by
  have hB := Blk.new W 24 (evc e)
  have hF : Fr (fun _ => False) W (W.alloc (.cells (evc e) 24)) := Fr.alloc _ _ _
  obtain ⟨w1, hw1⟩ : ∃ w1, W.alloc (.cells (evc e) 24) = w1 := ⟨_, rfl⟩
  rw [hw1] at hB hF
  obtain ⟨k, at_, ref, id, list, n, ao, dl, cp⟩ := e
  simp only [evc] at hw1 hB ⊢
  have c0 := hB.cell 0
  have c1 := hB.cell 1
  have c2 := hB.cell 2
  have c3 := hB.cell 3
  have c4 := hB.cell 4
  have c5 := hB.cell 5
  have c6 := hB.cell 6
  simp only [List.getElem?_toArray, List.getElem?_cons_zero, List.getElem?_cons_succ] at c0 c1 c2 c3 c4 c5 c6
  obtain ⟨bb, hbb⟩ : ∃ b, W.heap.size = b := ⟨_, rfl⟩
  rw [hbb] at c0 c1 c2 c3 c4 c5 c6
  have hBB := hB
  rw [hbb] at hBB
  have HF := Lib.hid hF
  have HW1 := hw1
  clear hB hF
  obtain ⟨r, hr⟩ : ∃ r, rightB ⟨k, at_, ref, id, list, n, ao, dl, cp⟩ = r := ⟨_, rfl⟩
  simp only [hr]
  have HR := Lib.hid hr
  clear hr
  go_enter Tryd.func14, Tryd.ntmps14
  go_upto_region 1 with (fail)
  try rw [hw1]
  try rw [hbb]
  clear hw1 hbb HW1
  have hnm := name_empty k
  obtain ⟨nm, hnm2⟩ : ∃ z, nameS k = z := ⟨_, rfl⟩
  rw [hnm2] at hnm
  have HNM := Lib.hid (fun w => by have := rname_any w k; rw [hnm2] at this; exact this : ∀ w, Calls Tryd.prog 10 #[.int .i64 k] w fun e W' => e = .returned (.string nm) ∧ Fr (fun _ => False) w W')
  clear hnm2
  have q1 : nm.toList.isEmpty = !(decide (1 ≤ k) && decide (k ≤ 23)) := hnm
  clear hnm
  have HB := Lib.hid hBB
  by_cases h1 : 1 ≤ k
  · have p1 : decide (1 ≤ k) = true := decide_eq_true h1
    by_cases h2 : k ≤ 23
    · have p2 : decide (k ≤ 23) = true := decide_eq_true h2
      have q2 : nm.toList.isEmpty = false := by rw [q1, p1, p2]; rfl
      clear q1
      cases qat_ : betB at_ with
      | false =>
        go_wp2_with (first | (go_at_call 10; refine (HNM.out _).mono ?_; rintro e w2 ⟨rfl, hf2⟩; have d1 := (HB.out.fr hf2 (fun e => e)).cell 1; have d2 := (HB.out.fr hf2 (fun e => e)).cell 2; have d3 := (HB.out.fr hf2 (fun e => e)).cell 3; have d4 := (HB.out.fr hf2 (fun e => e)).cell 4; have d5 := (HB.out.fr hf2 (fun e => e)).cell 5; have d6 := (HB.out.fr hf2 (fun e => e)).cell 6; simp only [List.getElem?_toArray, List.getElem?_cons_zero, List.getElem?_cons_succ] at d1 d2 d3 d4 d5 d6; have HF2 := Lib.hid hf2; clear hf2) | (go_at_call 32; refine (rin_any _ _).mono ?_; rintro e w2 ⟨rfl, rfl⟩) | go_in)
        go_ret
        exact ⟨by rw [← HR.out]; simp only [rightB, p1, p2, qat_]; rfl, HF.out.trans HF2.out⟩
      | true =>
        cases qref : betB ref with
        | false =>
          go_wp2_with (first | (go_at_call 10; refine (HNM.out _).mono ?_; rintro e w2 ⟨rfl, hf2⟩; have d1 := (HB.out.fr hf2 (fun e => e)).cell 1; have d2 := (HB.out.fr hf2 (fun e => e)).cell 2; have d3 := (HB.out.fr hf2 (fun e => e)).cell 3; have d4 := (HB.out.fr hf2 (fun e => e)).cell 4; have d5 := (HB.out.fr hf2 (fun e => e)).cell 5; have d6 := (HB.out.fr hf2 (fun e => e)).cell 6; simp only [List.getElem?_toArray, List.getElem?_cons_zero, List.getElem?_cons_succ] at d1 d2 d3 d4 d5 d6; have HF2 := Lib.hid hf2; clear hf2) | (go_at_call 32; refine (rin_any _ _).mono ?_; rintro e w2 ⟨rfl, rfl⟩) | go_in)
          go_ret
          exact ⟨by rw [← HR.out]; simp only [rightB, p1, p2, qat_, qref]; rfl, HF.out.trans HF2.out⟩
        | true =>
          cases qid : betB id with
          | false =>
            go_wp2_with (first | (go_at_call 10; refine (HNM.out _).mono ?_; rintro e w2 ⟨rfl, hf2⟩; have d1 := (HB.out.fr hf2 (fun e => e)).cell 1; have d2 := (HB.out.fr hf2 (fun e => e)).cell 2; have d3 := (HB.out.fr hf2 (fun e => e)).cell 3; have d4 := (HB.out.fr hf2 (fun e => e)).cell 4; have d5 := (HB.out.fr hf2 (fun e => e)).cell 5; have d6 := (HB.out.fr hf2 (fun e => e)).cell 6; simp only [List.getElem?_toArray, List.getElem?_cons_zero, List.getElem?_cons_succ] at d1 d2 d3 d4 d5 d6; have HF2 := Lib.hid hf2; clear hf2) | (go_at_call 32; refine (rin_any _ _).mono ?_; rintro e w2 ⟨rfl, rfl⟩) | go_in)
            go_ret
            exact ⟨by rw [← HR.out]; simp only [rightB, p1, p2, qat_, qref, qid]; rfl, HF.out.trans HF2.out⟩
          | true =>
            cases qlist : betB list with
            | false =>
              go_wp2_with (first | (go_at_call 10; refine (HNM.out _).mono ?_; rintro e w2 ⟨rfl, hf2⟩; have d1 := (HB.out.fr hf2 (fun e => e)).cell 1; have d2 := (HB.out.fr hf2 (fun e => e)).cell 2; have d3 := (HB.out.fr hf2 (fun e => e)).cell 3; have d4 := (HB.out.fr hf2 (fun e => e)).cell 4; have d5 := (HB.out.fr hf2 (fun e => e)).cell 5; have d6 := (HB.out.fr hf2 (fun e => e)).cell 6; simp only [List.getElem?_toArray, List.getElem?_cons_zero, List.getElem?_cons_succ] at d1 d2 d3 d4 d5 d6; have HF2 := Lib.hid hf2; clear hf2) | (go_at_call 32; refine (rin_any _ _).mono ?_; rintro e w2 ⟨rfl, rfl⟩) | go_in)
              go_ret
              exact ⟨by rw [← HR.out]; simp only [rightB, p1, p2, qat_, qref, qid, qlist]; rfl, HF.out.trans HF2.out⟩
            | true =>
              cases qn : betB n with
              | false =>
                go_wp2_with (first | (go_at_call 10; refine (HNM.out _).mono ?_; rintro e w2 ⟨rfl, hf2⟩; have d1 := (HB.out.fr hf2 (fun e => e)).cell 1; have d2 := (HB.out.fr hf2 (fun e => e)).cell 2; have d3 := (HB.out.fr hf2 (fun e => e)).cell 3; have d4 := (HB.out.fr hf2 (fun e => e)).cell 4; have d5 := (HB.out.fr hf2 (fun e => e)).cell 5; have d6 := (HB.out.fr hf2 (fun e => e)).cell 6; simp only [List.getElem?_toArray, List.getElem?_cons_zero, List.getElem?_cons_succ] at d1 d2 d3 d4 d5 d6; have HF2 := Lib.hid hf2; clear hf2) | (go_at_call 32; refine (rin_any _ _).mono ?_; rintro e w2 ⟨rfl, rfl⟩) | go_in)
                go_ret
                exact ⟨by rw [← HR.out]; simp only [rightB, p1, p2, qat_, qref, qid, qlist, qn]; rfl, HF.out.trans HF2.out⟩
              | true =>
                by_cases h3 : dl ≤ 4096
                · have p3 : decide ((dl : Int) ≤ 4096) = true := decide_eq_true (by omega)
                  have p4 : decide (dl ≤ 4096) = true := decide_eq_true h3
                  go_wp2_with (first | (go_at_call 10; refine (HNM.out _).mono ?_; rintro e w2 ⟨rfl, hf2⟩; have d1 := (HB.out.fr hf2 (fun e => e)).cell 1; have d2 := (HB.out.fr hf2 (fun e => e)).cell 2; have d3 := (HB.out.fr hf2 (fun e => e)).cell 3; have d4 := (HB.out.fr hf2 (fun e => e)).cell 4; have d5 := (HB.out.fr hf2 (fun e => e)).cell 5; have d6 := (HB.out.fr hf2 (fun e => e)).cell 6; simp only [List.getElem?_toArray, List.getElem?_cons_zero, List.getElem?_cons_succ] at d1 d2 d3 d4 d5 d6; have HF2 := Lib.hid hf2; clear hf2) | (go_at_call 32; refine (rin_any _ _).mono ?_; rintro e w2 ⟨rfl, rfl⟩) | go_in)
                  go_ret
                  exact ⟨by rw [← HR.out]; simp only [rightB, p1, p2, qat_, qref, qid, qlist, qn, p4]; rfl, HF.out.trans HF2.out⟩
                · have p3 : decide ((dl : Int) ≤ 4096) = false := decide_eq_false (by omega)
                  have p4 : decide (dl ≤ 4096) = false := decide_eq_false h3
                  go_wp2_with (first | (go_at_call 10; refine (HNM.out _).mono ?_; rintro e w2 ⟨rfl, hf2⟩; have d1 := (HB.out.fr hf2 (fun e => e)).cell 1; have d2 := (HB.out.fr hf2 (fun e => e)).cell 2; have d3 := (HB.out.fr hf2 (fun e => e)).cell 3; have d4 := (HB.out.fr hf2 (fun e => e)).cell 4; have d5 := (HB.out.fr hf2 (fun e => e)).cell 5; have d6 := (HB.out.fr hf2 (fun e => e)).cell 6; simp only [List.getElem?_toArray, List.getElem?_cons_zero, List.getElem?_cons_succ] at d1 d2 d3 d4 d5 d6; have HF2 := Lib.hid hf2; clear hf2) | (go_at_call 32; refine (rin_any _ _).mono ?_; rintro e w2 ⟨rfl, rfl⟩) | go_in)
                  go_ret
                  exact ⟨by rw [← HR.out]; simp only [rightB, p1, p2, qat_, qref, qid, qlist, qn, p4]; rfl, HF.out.trans HF2.out⟩
    · have p2 : decide (k ≤ 23) = false := decide_eq_false h2
      have q2 : nm.toList.isEmpty = true := by rw [q1, p1, p2]; rfl
      clear q1
      go_wp2_with (first | (go_at_call 10; refine (HNM.out _).mono ?_; rintro e w2 ⟨rfl, hf2⟩; have d1 := (HB.out.fr hf2 (fun e => e)).cell 1; have d2 := (HB.out.fr hf2 (fun e => e)).cell 2; have d3 := (HB.out.fr hf2 (fun e => e)).cell 3; have d4 := (HB.out.fr hf2 (fun e => e)).cell 4; have d5 := (HB.out.fr hf2 (fun e => e)).cell 5; have d6 := (HB.out.fr hf2 (fun e => e)).cell 6; simp only [List.getElem?_toArray, List.getElem?_cons_zero, List.getElem?_cons_succ] at d1 d2 d3 d4 d5 d6; have HF2 := Lib.hid hf2; clear hf2) | (go_at_call 32; refine (rin_any _ _).mono ?_; rintro e w2 ⟨rfl, rfl⟩) | go_in)
      go_ret
      exact ⟨by rw [← HR.out]; simp only [rightB, p1, p2]; rfl, HF.out.trans HF2.out⟩
  · have p1 : decide (1 ≤ k) = false := decide_eq_false h1
    have q2 : nm.toList.isEmpty = true := by rw [q1, p1]; rfl
    clear q1
    go_wp2_with (first | (go_at_call 10; refine (HNM.out _).mono ?_; rintro e w2 ⟨rfl, hf2⟩; have d1 := (HB.out.fr hf2 (fun e => e)).cell 1; have d2 := (HB.out.fr hf2 (fun e => e)).cell 2; have d3 := (HB.out.fr hf2 (fun e => e)).cell 3; have d4 := (HB.out.fr hf2 (fun e => e)).cell 4; have d5 := (HB.out.fr hf2 (fun e => e)).cell 5; have d6 := (HB.out.fr hf2 (fun e => e)).cell 6; simp only [List.getElem?_toArray, List.getElem?_cons_zero, List.getElem?_cons_succ] at d1 d2 d3 d4 d5 d6; have HF2 := Lib.hid hf2; clear hf2) | (go_at_call 32; refine (rin_any _ _).mono ?_; rintro e w2 ⟨rfl, rfl⟩) | go_in)
    go_ret
    exact ⟨by rw [← HR.out]; simp only [rightB, p1]; rfl, HF.out.trans HF2.out⟩
/-- the status of a history -/
def statK (k : Int) : Int := if k = 19 then 6 else if k = 20 then 2 else if k = 21 then 3 else if k = 22 then 4 else if k = 23 then 5 else 1
def statL (l : List Ev) : Int := match l.getLast? with | none => 0 | some e => statK e.k
set_option maxRecDepth 100000 in
set_option maxHeartbeats 2000000 in
theorem stat_any (W : World) (ao : Option Addr) (cp : Nat) (l : List Ev) (hl : RowV W ao l) (hn : l.length ≤ 100000) : Calls Tryd.prog 22 #[.slice ao l.length cp] W fun r W' => r = .returned (.int .i64 (statL l)) ∧ Fr (fun _ => False) W W' := by
  rcases List.eq_nil_or_concat l with rfl | ⟨l', e, hle⟩
  · rw [show ([] : List Ev).length = 0 from rfl]
    go_enter Tryd.func22, Tryd.ntmps22
    go_wp2
    go_ret
    exact ⟨rfl, Fr.refl _ _⟩
  · rw [List.concat_eq_append] at hle
    subst hle
    have hs : statL (l' ++ [e]) = statK e.k := by simp [statL]
    rw [hs]
    rcases hl with h0 | ⟨b, o, rfl, hb, hc⟩
    · simp at h0
    have c0 : W.cell? ⟨b, o + l'.length * 7, none⟩ = some (.int .i64 e.k) := hc l'.length e (by simp) 0 _ rfl
    have hlen : (l' ++ [e]).length = l'.length + 1 := by simp
    rw [hlen] at hn ⊢
    obtain ⟨n, hnn⟩ : ∃ n, l'.length = n := ⟨_, rfl⟩
    rw [hnn] at hn c0 ⊢
    have p0 : (((n + 1 : Nat) : Int) == 0) = false := by simp; omega
    have w1 : IntKind.i64.wrap (((n + 1 : Nat) : Int) - 1) = (n : Int) := by simp [IntKind.wrap, IntKind.bits, IntKind.signed]; omega
    obtain ⟨k, hk⟩ : ∃ k, e.k = k := ⟨_, rfl⟩
    rw [hk] at c0 ⊢
    clear hk hc hs hlen hnn
    have hn2 : n + 1 ≤ 100000 := hn
    by_cases h19 : k = 19
    · subst h19
      go_enter Tryd.func22, Tryd.ntmps22
      go_wp2
      go_ret
      exact ⟨rfl, Fr.refl _ _⟩
    have r19 : (k == 19) = false := by simp [h19]
    by_cases h20 : k = 20
    · subst h20
      go_enter Tryd.func22, Tryd.ntmps22
      go_wp2
      go_ret
      exact ⟨rfl, Fr.refl _ _⟩
    have r20 : (k == 20) = false := by simp [h20]
    by_cases h21 : k = 21
    · subst h21
      go_enter Tryd.func22, Tryd.ntmps22
      go_wp2
      go_ret
      exact ⟨rfl, Fr.refl _ _⟩
    have r21 : (k == 21) = false := by simp [h21]
    by_cases h22 : k = 22
    · subst h22
      go_enter Tryd.func22, Tryd.ntmps22
      go_wp2
      go_ret
      exact ⟨rfl, Fr.refl _ _⟩
    have r22 : (k == 22) = false := by simp [h22]
    by_cases h23 : k = 23
    · subst h23
      go_enter Tryd.func22, Tryd.ntmps22
      go_wp2
      go_ret
      exact ⟨rfl, Fr.refl _ _⟩
    have r23 : (k == 23) = false := by simp [h23]
    go_enter Tryd.func22, Tryd.ntmps22
    go_wp2
    go_ret
    exact ⟨by simp [statK, h19, h20, h21, h22, h23], Fr.refl _ _⟩
end Go.Proofs.YtbdjnfkhdphhoaaDoor
