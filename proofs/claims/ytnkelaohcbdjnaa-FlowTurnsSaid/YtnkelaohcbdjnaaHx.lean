/- Whether bytes and a tick may be; the status: any run. -/
import Derived.Test.YtnkelaohcbdjnaaBx
set_option linter.unusedVariables false
set_option linter.unusedSimpArgs false
namespace Go.Proofs.Ytnkelaohcbdjnaa
open Go.RowKit Go.Maps
def rightP (l : List Rv) (n : Nat) (now : Int) : Prop := n ≤ 4096 ∧ 0 ≤ now ∧ now ≤ 1099511627776 ∧ ∀ e, l.getLast? = some e → e.a ≤ now
def rightB (l : List Rv) (n : Nat) (now : Int) : Bool := decide (n ≤ 4096 ∧ 0 ≤ now ∧ now ≤ 1099511627776) && (match l.getLast? with
  | none => true
  | some e => decide (e.a ≤ now))
theorem rightB_iff {l : List Rv} {n : Nat} {now : Int} : rightB l n now = true ↔ rightP l n now := by
  unfold rightB rightP
  rw [Bool.and_eq_true, decide_eq_true_iff]
  cases h : l.getLast? with
  | none => exact ⟨fun h => ⟨h.1.1, h.1.2.1, h.1.2.2, fun e he => (by cases he)⟩, fun h => ⟨⟨h.1, h.2.1, h.2.2.1⟩, rfl⟩⟩
  | some e =>
    simp only [decide_eq_true_iff]
    exact ⟨fun h => ⟨h.1.1, h.1.2.1, h.1.2.2, fun e' he => (by cases he; exact h.2)⟩, fun h => ⟨⟨h.1, h.2.1, h.2.2.1⟩, h.2.2.2 e rfl⟩⟩
theorem rightB_true {l : List Rv} {n : Nat} {now : Int} (h : rightP l n now) : rightB l n now = true := rightB_iff.2 h
theorem rightB_false {l : List Rv} {n : Nat} {now : Int} (h : ¬ rightP l n now) : rightB l n now = false := by
  cases hb : rightB l n now with
  | false => rfl
  | true => exact absurd (rightB_iff.1 hb) h
def statusK (l : List Rv) : Int := match l.getLast? with
  | none => 0
  | some e => if e.k = 19 then 6 else if e.k = 20 then 2 else if e.k = 21 then 3 else if e.k = 22 then 4 else if e.k = 23 then 5 else 1
set_option maxRecDepth 100000 in
set_option maxHeartbeats 1000000 in
theorem right_any (S : Nat → Prop) (W : World) (fb mb : Nat) (s : FSt) (h : FL S W fb mb s) (ao : Option Addr) (n cp : Nat) (now : Int) :
    Calls Try.prog 37 #[.pointer (some ⟨fb, 0, none⟩), .slice ao n cp, .int .i64 now] W fun e W' => e = .returned (.bool (rightB s.l n now)) ∧ ∃ k, W' = W.drewN k := by
  by_cases hn : n ≤ 4096
  rotate_left
  · have HB := Lib.hid (rightB_false (l := s.l) (now := now) (fun e => hn e.1))
    have p1 : decide ((n : Int) ≤ 4096) = false := decide_eq_false (by omega)
    have p1' : decide (n ≤ 4096) = false := decide_eq_false hn
    clear h hn
    go_enter Try.func37, Try.ntmps37
    go_wp2
    (try go_quiet (fail))
    (try go_wp2)
    go_ret
    exact ⟨by rw [HB.out]; rfl, by first | exact ⟨0, rfl⟩ | exact ⟨_, rfl⟩⟩
  have p1 : decide ((n : Int) ≤ 4096) = true := decide_eq_true (by omega)
  have p1' : decide (n ≤ 4096) = true := decide_eq_true hn
  by_cases h0 : 0 ≤ now
  rotate_left
  · have HB := Lib.hid (rightB_false (l := s.l) (n := n) (now := now) (fun e => h0 e.2.1))
    have p2 : decide (0 ≤ now) = false := decide_eq_false h0
    clear h hn h0
    go_enter Try.func37, Try.ntmps37
    go_wp2
    (try go_quiet (fail))
    (try go_wp2)
    go_ret
    exact ⟨by rw [HB.out]; rfl, by first | exact ⟨0, rfl⟩ | exact ⟨_, rfl⟩⟩
  have p2 : decide (0 ≤ now) = true := decide_eq_true h0
  by_cases h1 : now ≤ 1099511627776
  rotate_left
  · have HB := Lib.hid (rightB_false (l := s.l) (n := n) (now := now) (fun e => h1 e.2.2.1))
    have p3 : decide (now ≤ 1099511627776) = false := decide_eq_false h1
    clear h hn h0 h1
    go_enter Try.func37, Try.ntmps37
    go_wp2
    (try go_quiet (fail))
    (try go_wp2)
    go_ret
    exact ⟨by rw [HB.out]; rfl, by first | exact ⟨0, rfl⟩ | exact ⟨_, rfl⟩⟩
  have p3 : decide (now ≤ 1099511627776) = true := decide_eq_true h1
  cases hr : s.l.getLast? with
  | none =>
    have hnil : s.l = [] := List.getLast?_eq_none_iff.1 hr
    have HB := Lib.hid (rightB_true (l := s.l) (n := n) (now := now) ⟨hn, h0, h1, fun e he => (by rw [hr] at he; cases he)⟩)
    obtain ⟨ao2, cp2, h3, _⟩ := h.at_
    have c4 := h3.cell 4
    simp only [fcells, hnil, List.length_nil, List.getElem?_toArray, List.getElem?_cons_zero, List.getElem?_cons_succ] at c4
    clear h h3 hr hnil hn h0 h1
    go_enter Try.func37, Try.ntmps37
    go_wp2
    (try go_quiet (fail))
    (try go_wp2)
    go_ret
    exact ⟨by rw [HB.out]; rfl, by first | exact ⟨0, rfl⟩ | exact ⟨_, rfl⟩⟩
  | some e =>
    have hfew := h.few
    obtain ⟨g, cp2, v, h3, hpos, hcp, _, _, _, hc⟩ := h.last hr
    have c4 := h3.cell 4
    simp only [fcells, List.getElem?_toArray, List.getElem?_cons_zero, List.getElem?_cons_succ] at c4
    have d1 := hc 1 (.int .i64 e.a) rfl
    obtain ⟨q, hq⟩ : ∃ q, s.l.length = q + 1 := ⟨s.l.length - 1, by omega⟩
    rw [hq] at c4 hcp hfew d1
    rw [show q + 1 - 1 = q from rfl] at d1
    have p5 : (((q + 1 : Nat) : Int) == 0) = false := by simp; omega
    have p6 : ((q : Int) + 1 == 0) = false := by simp; omega
    obtain ⟨x, hx⟩ : ∃ x, e.a = x := ⟨_, rfl⟩
    rw [hx] at d1
    by_cases ha : x ≤ now
    · have p4 : decide (x ≤ now) = true := decide_eq_true ha
      have HB := Lib.hid (rightB_true (l := s.l) (n := n) (now := now) ⟨hn, h0, h1, fun e' he => (by rw [hr] at he; cases he; omega)⟩)
      clear h h3 hr hc hq hx hn h0 h1 ha
      go_enter Try.func37, Try.ntmps37
      go_wp2
      (try go_quiet (fail))
      (try go_wp2)
      go_ret
      exact ⟨by rw [HB.out]; rfl, by first | exact ⟨0, rfl⟩ | exact ⟨_, rfl⟩⟩
    · have p4 : decide (x ≤ now) = false := decide_eq_false ha
      have HB := Lib.hid (rightB_false (l := s.l) (n := n) (now := now) (fun e' => (by have := e'.2.2.2 e hr; omega)))
      clear h h3 hr hc hq hx hn h0 h1 ha
      go_enter Try.func37, Try.ntmps37
      go_wp2
      (try go_quiet (fail))
      (try go_wp2)
      go_ret
      exact ⟨by rw [HB.out]; rfl, by first | exact ⟨0, rfl⟩ | exact ⟨_, rfl⟩⟩
set_option maxRecDepth 100000 in
set_option maxHeartbeats 1000000 in
theorem status_any (S : Nat → Prop) (W : World) (fb mb : Nat) (s : FSt) (h : FL S W fb mb s) :
    Calls Try.prog 16 #[.pointer (some ⟨fb, 0, none⟩)] W fun e W' => e = .returned (.int .i64 (statusK s.l)) ∧ W = W' := by
  cases hr : s.l.getLast? with
  | none =>
    have hnil : s.l = [] := List.getLast?_eq_none_iff.1 hr
    have HB : Hid (statusK s.l = 0) := Lib.hid (by unfold statusK; rw [hr])
    obtain ⟨ao2, cp2, h3, _⟩ := h.at_
    have c4 := h3.cell 4
    simp only [fcells, hnil, List.length_nil, List.getElem?_toArray, List.getElem?_cons_zero, List.getElem?_cons_succ] at c4
    clear h h3 hr hnil
    go_enter Try.func16, Try.ntmps16
    go_wp2
    go_ret
    exact ⟨by rw [HB.out]; rfl, rfl⟩
  | some e =>
    have hfew := h.few
    obtain ⟨g, cp2, v, h3, hpos, hcp, _, _, _, hc⟩ := h.last hr
    have c4 := h3.cell 4
    simp only [fcells, List.getElem?_toArray, List.getElem?_cons_zero, List.getElem?_cons_succ] at c4
    have d0 := hc 0 (.int .i64 e.k) rfl
    obtain ⟨q, hq⟩ : ∃ q, s.l.length = q + 1 := ⟨s.l.length - 1, by omega⟩
    rw [hq] at c4 hcp hfew d0
    rw [show q + 1 - 1 = q from rfl, Nat.add_zero] at d0
    have p5 : (((q + 1 : Nat) : Int) == 0) = false := by simp; omega
    have p6 : ((q : Int) + 1 == 0) = false := by simp; omega
    obtain ⟨k, hk⟩ : ∃ x, e.k = x := ⟨_, rfl⟩
    rw [hk] at d0
    by_cases k0 : k = 19
    · have HB : Hid (statusK s.l = 6) := Lib.hid (by unfold statusK; rw [hr]; dsimp only; rw [if_pos (by omega)])
      clear h h3 hr hc hq hk 
      subst k0
      go_enter Try.func16, Try.ntmps16
      go_wp2
      go_ret
      exact ⟨by rw [HB.out]; rfl, rfl⟩
    have e0 : (k == 19) = false := by simp [k0]
    by_cases k1 : k = 20
    · have HB : Hid (statusK s.l = 2) := Lib.hid (by unfold statusK; rw [hr]; dsimp only; rw [if_neg (by omega)]; rw [if_pos (by omega)])
      clear h h3 hr hc hq hk k0
      subst k1
      go_enter Try.func16, Try.ntmps16
      go_wp2
      go_ret
      exact ⟨by rw [HB.out]; rfl, rfl⟩
    have e1 : (k == 20) = false := by simp [k1]
    by_cases k2 : k = 21
    · have HB : Hid (statusK s.l = 3) := Lib.hid (by unfold statusK; rw [hr]; dsimp only; rw [if_neg (by omega)]; rw [if_neg (by omega)]; rw [if_pos (by omega)])
      clear h h3 hr hc hq hk k0 k1
      subst k2
      go_enter Try.func16, Try.ntmps16
      go_wp2
      go_ret
      exact ⟨by rw [HB.out]; rfl, rfl⟩
    have e2 : (k == 21) = false := by simp [k2]
    by_cases k3 : k = 22
    · have HB : Hid (statusK s.l = 4) := Lib.hid (by unfold statusK; rw [hr]; dsimp only; rw [if_neg (by omega)]; rw [if_neg (by omega)]; rw [if_neg (by omega)]; rw [if_pos (by omega)])
      clear h h3 hr hc hq hk k0 k1 k2
      subst k3
      go_enter Try.func16, Try.ntmps16
      go_wp2
      go_ret
      exact ⟨by rw [HB.out]; rfl, rfl⟩
    have e3 : (k == 22) = false := by simp [k3]
    by_cases k4 : k = 23
    · have HB : Hid (statusK s.l = 5) := Lib.hid (by unfold statusK; rw [hr]; dsimp only; rw [if_neg (by omega)]; rw [if_neg (by omega)]; rw [if_neg (by omega)]; rw [if_neg (by omega)]; rw [if_pos (by omega)])
      clear h h3 hr hc hq hk k0 k1 k2 k3
      subst k4
      go_enter Try.func16, Try.ntmps16
      go_wp2
      go_ret
      exact ⟨by rw [HB.out]; rfl, rfl⟩
    have e4 : (k == 23) = false := by simp [k4]
    have HB : Hid (statusK s.l = 1) := Lib.hid (by unfold statusK; rw [hr]; dsimp only; rw [if_neg (by omega), if_neg (by omega), if_neg (by omega), if_neg (by omega), if_neg (by omega)])
    clear h h3 hr hc hq hk k0 k1 k2 k3 k4
    go_enter Try.func16, Try.ntmps16
    go_wp2
    go_ret
    exact ⟨by rw [HB.out]; rfl, rfl⟩
end Go.Proofs.Ytnkelaohcbdjnaa
