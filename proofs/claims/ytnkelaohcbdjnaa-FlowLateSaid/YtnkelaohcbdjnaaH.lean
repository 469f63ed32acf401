/- What may be, the status, a twin, a task that is scheduled. -/
import Derived.Test.YtnkelaohcbdjnaaE
import Derived.Test.YtnkelaohcbdjnaaD
set_option linter.unusedVariables false
set_option linter.unusedSimpArgs false
namespace Go.Proofs.Ytnkelaohcbdjnaa
open Go.RowKit Go.Maps
set_option maxRecDepth 100000 in
set_option maxHeartbeats 1000000 in
theorem right_new (S : Nat → Prop) (W : World) (fb mb : Nat) (s : FSt) (h : FL S W fb mb s) (ao : Option Addr) (n cp : Nat) (hn : n ≤ 4096) (now : Int) (h0 : 0 ≤ now) (h1 : now ≤ 1099511627776) (hr : s.rows = []) :
    Calls Try.prog 37 #[.pointer (some ⟨fb, 0, none⟩), .slice ao n cp, .int .i64 now] W fun e W' => e = .returned (.bool true) ∧ ∃ k, W' = W.drewN k := by
  obtain ⟨ao2, cp2, h3, h4⟩ := h.f
  have c4 := h3.cell 4
  simp only [fcells, hr, List.length_nil, List.getElem?_toArray, List.getElem?_cons_zero, List.getElem?_cons_succ] at c4
  have p1 : decide ((n : Int) ≤ 4096) = true := decide_eq_true (by omega)
  have p2 : decide (0 ≤ now) = true := decide_eq_true h0
  have p3 : decide (now ≤ 1099511627776) = true := decide_eq_true h1
  clear h h3 h4 hr
  go_enter Try.func37, Try.ntmps37
  go_wp2
  go_quiet (fail)
  go_wp2
  go_ret
  exact ⟨rfl, _, rfl⟩
set_option maxRecDepth 100000 in
set_option maxHeartbeats 1000000 in
theorem right_more (S : Nat → Prop) (W : World) (fb mb : Nat) (s : FSt) (h : FL S W fb mb s) (ao : Option Addr) (n cp : Nat) (hn : n ≤ 4096) (now : Int) (h0 : 0 ≤ now) (h1 : now ≤ 1099511627776) (k a r i l m : Int) (d : Value) (hr : s.rows.getLast? = some (ev k a r i l m d)) (ha : a ≤ now) :
    Calls Try.prog 37 #[.pointer (some ⟨fb, 0, none⟩), .slice ao n cp, .int .i64 now] W fun e W' => e = .returned (.bool true) ∧ ∃ k, W' = W.drewN k := by
  have hfew := h.few
  obtain ⟨g, cp2, h3, hpos, hcp, _, _, hc⟩ := h.last hr
  have c4 := h3.cell 4
  simp only [fcells, List.getElem?_toArray, List.getElem?_cons_zero, List.getElem?_cons_succ] at c4
  have d1 := hc 1 _ rfl
  obtain ⟨q, hq⟩ : ∃ q, s.rows.length = q + 1 := ⟨s.rows.length - 1, by omega⟩
  rw [hq] at c4 hcp hfew d1
  rw [show q + 1 - 1 = q from rfl] at d1
  have p1 : decide ((n : Int) ≤ 4096) = true := decide_eq_true (by omega)
  have p2 : decide (0 ≤ now) = true := decide_eq_true h0
  have p3 : decide (now ≤ 1099511627776) = true := decide_eq_true h1
  have p4 : decide (a ≤ now) = true := decide_eq_true ha
  have p5 : (((q + 1 : Nat) : Int) == 0) = false := by simp; omega
  have p6 : ((q : Int) + 1 == 0) = false := by simp; omega
  clear h h3 hr hc hq
  go_enter Try.func37, Try.ntmps37
  go_wp2
  go_quiet (fail)
  go_wp2
  go_ret
  exact ⟨rfl, _, rfl⟩
set_option maxRecDepth 100000 in
set_option maxHeartbeats 1000000 in
theorem status_open (S : Nat → Prop) (W : World) (fb mb : Nat) (s : FSt) (h : FL S W fb mb s) (k a r i l m : Int) (d : Value) (hr : s.rows.getLast? = some (ev k a r i l m d)) (hk : k < 19) :
    Calls Try.prog 16 #[.pointer (some ⟨fb, 0, none⟩)] W fun e W' => e = .returned (.int .i64 1) ∧ W = W' := by
  have hfew := h.few
  obtain ⟨g, cp2, h3, hpos, hcp, _, _, hc⟩ := h.last hr
  have c4 := h3.cell 4
  simp only [fcells, List.getElem?_toArray, List.getElem?_cons_zero, List.getElem?_cons_succ] at c4
  have d0 := hc 0 _ rfl
  obtain ⟨q, hq⟩ : ∃ q, s.rows.length = q + 1 := ⟨s.rows.length - 1, by omega⟩
  rw [hq] at c4 hcp hfew d0
  rw [show q + 1 - 1 = q from rfl, Nat.add_zero] at d0
  have p5 : (((q + 1 : Nat) : Int) == 0) = false := by simp; omega
  have p6 : ((q : Int) + 1 == 0) = false := by simp; omega
  have k1 : (k == 19) = false := by simp; omega
  have k2 : (k == 20) = false := by simp; omega
  have k3 : (k == 21) = false := by simp; omega
  have k4 : (k == 22) = false := by simp; omega
  have k5 : (k == 23) = false := by simp; omega
  clear h h3 hr hc hq
  go_enter Try.func16, Try.ntmps16
  go_wp2
  go_ret
  exact ⟨rfl, rfl⟩
set_option maxRecDepth 100000 in
set_option maxHeartbeats 1000000 in
theorem status_done (S : Nat → Prop) (W : World) (fb mb : Nat) (s : FSt) (h : FL S W fb mb s) (a r i l m : Int) (d : Value) (hr : s.rows.getLast? = some (ev 20 a r i l m d)) :
    Calls Try.prog 16 #[.pointer (some ⟨fb, 0, none⟩)] W fun e W' => e = .returned (.int .i64 2) ∧ W = W' := by
  have hfew := h.few
  obtain ⟨g, cp2, h3, hpos, hcp, _, _, hc⟩ := h.last hr
  have c4 := h3.cell 4
  simp only [fcells, List.getElem?_toArray, List.getElem?_cons_zero, List.getElem?_cons_succ] at c4
  have d0 := hc 0 _ rfl
  obtain ⟨q, hq⟩ : ∃ q, s.rows.length = q + 1 := ⟨s.rows.length - 1, by omega⟩
  rw [hq] at c4 hcp hfew d0
  rw [show q + 1 - 1 = q from rfl, Nat.add_zero] at d0
  have p5 : (((q + 1 : Nat) : Int) == 0) = false := by simp; omega
  have p6 : ((q : Int) + 1 == 0) = false := by simp; omega
  clear h h3 hr hc hq
  go_enter Try.func16, Try.ntmps16
  go_wp2
  go_ret
  exact ⟨rfl, rfl⟩
end Go.Proofs.Ytnkelaohcbdjnaa
