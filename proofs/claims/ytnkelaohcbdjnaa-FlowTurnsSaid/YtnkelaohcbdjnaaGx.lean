/- A task that is faulty; wake. -/
import Derived.Test.YtnkelaohcbdjnaaJx
import Derived.Test.YtnkelaohcbdjnaaFx
set_option linter.unusedVariables false
set_option linter.unusedSimpArgs false
namespace Go.Proofs.Ytnkelaohcbdjnaa
open Go.RowKit Go.Maps
set_option maxRecDepth 100000 in
/-- wake: there is a task -/
theorem wake_has (S : Nat → Prop) (W : World) (fb mb : Nat) (s : FSt) (h : FL S W fb mb s) (ht : s.task ≠ 0) (now : Int) : Calls Try.prog 43 #[.pointer (some ⟨fb, 0, none⟩), .int .i64 now] W fun e W' => e = .returned (.slice none 0 0) ∧ W = W' := by
  obtain ⟨ao, cp, vs, hvl, hb, _⟩ := h.f
  have c5 := hb.cell 5
  simp only [fcells, List.getElem?_toArray, List.getElem?_cons_zero, List.getElem?_cons_succ] at c5
  obtain ⟨t, htt⟩ : ∃ x, s.task = x := ⟨_, rfl⟩
  rw [htt] at ht c5
  have p1 : (t == 0) = false := by simp [ht]
  clear h hb ht hvl htt
  go_enter Try.func43, Try.ntmps43
  go_wp2
  go_ret
  exact ⟨rfl, rfl⟩
set_option maxRecDepth 100000 in
/-- wake: there is none -/
theorem wake_none (S : Nat → Prop) (W : World) (hS : ∀ k, S k → k < W.heap.size) (fb mb : Nat) (s : FSt) (h : FL S W fb mb s) (hf : S fb) (hl : s.l.length ≤ 50000) (ht : s.task = 0) (now : Int) : Calls Try.prog 43 #[.pointer (some ⟨fb, 0, none⟩), .int .i64 now] W fun e W' => ∃ (ob : Nat), e = .returned (.slice (some ⟨ob, 0, none⟩) 1 1) ∧ W.heap.size ≤ ob ∧ Blk W' ob 40 #[.int .i64 1, .int .i64 s.list, .int .i64 ((s.l.length : Int) + 1), .int .i64 s.turn, .int .i64 0, .int .i64 0, .int .i64 0, .slice none 0 0] ∧ FL S W' fb mb (sched s now) ∧ Fr (fun k => k = fb) W W' := by
  have HSC := Lib.hid (sched_any S W hS fb mb s h hf hl now)
  obtain ⟨ao, cp, vs, hvl, hb, _⟩ := h.f
  have c5 := hb.cell 5
  simp only [fcells, ht, List.getElem?_toArray, List.getElem?_cons_zero, List.getElem?_cons_succ] at c5
  clear h hb ht hvl
  go_enter Try.func43, Try.ntmps43
  go_wp2_with (first | (go_at_call 39; refine HSC.out.mono ?_; rintro e w2 ⟨ob, rfl, h1, h2, h3, h4⟩) | go_in)
  go_ret
  exact ⟨ob, rfl, h1, h2, h3, h4⟩
/-- a run whose task was faulty -/
def faulted (s : FSt) (now n : Int) : FSt := { s with task := 0, turn := wrap64 (s.turn + 1), l := s.l ++ [⟨6, now, s.bg, 0, 0, n, []⟩] }
set_option maxRecDepth 100000 in
set_option maxHeartbeats 2000000 in
theorem faulty_any (S : Nat → Prop) (W : World) (hS : ∀ k, S k → k < W.heap.size) (fb mb : Nat) (s : FSt) (h : FL S W fb mb s) (hf : S fb) (hl : s.l.length ≤ 40000) (n now : Int) :
    Calls Try.prog 47 #[.pointer (some ⟨fb, 0, none⟩), .int .i64 n, .int .i64 now] W fun e W' => ∃ (ob : Nat), e = .returned (.slice (some ⟨ob, 0, none⟩) 1 1) ∧ W.heap.size ≤ ob ∧ Blk W' ob 40 #[.int .i64 1, .int .i64 s.list, .int .i64 ((s.l.length : Int) + 2), .int .i64 (wrap64 (s.turn + 1)), .int .i64 0, .int .i64 0, .int .i64 0, .slice none 0 0] ∧ FL S W' fb mb (sched (faulted s now n) now) ∧ Fr (fun k => k = fb) W W' := by
  obtain ⟨ao, cp, vs, hvl, hb, _⟩ := h.f
  clear hvl
  have c7 := hb.cell 7
  simp only [fcells, List.getElem?_toArray, List.getElem?_cons_zero, List.getElem?_cons_succ] at c7
  have HP := Lib.hid (put6_any S W hS fb mb s h hf (by omega) now s.bg 0 0 n (.slice none 0 0) [] (RowB.nil _ _) (by simp) (by simp))
  have HS := Lib.hid hS
  clear h hb hS
  go_enter Try.func47, Try.ntmps47
  go_upto_region 2 with (first | (go_at_call 38; refine HP.out.mono ?_; rintro e w1 ⟨rfl, hfl, hf1⟩) | go_in)
  have HFL : Hid (FL S w1 fb mb (faulted s now n)) := Lib.hid hfl
  have HF1 := Lib.hid hf1
  have HSC := Lib.hid (sched_any S w1 (fun k e => Nat.lt_of_lt_of_le (HS.out k e) hf1.size) fb mb _ HFL.out hf (by simp [faulted]; omega) now)
  clear HP c7 hfl hf1
  go_wp2_with (first | (go_at_call 39; refine HSC.out.mono ?_; rintro e w2 ⟨ob, rfl, hob, hbo, hfl2, hf2⟩) | go_in)
  go_ret
  refine ⟨ob, rfl, Nat.le_trans HF1.out.size hob, ?_, hfl2, HF1.out.trans hf2⟩
  have e1 : ((faulted s now n).l.length : Int) + 1 = (s.l.length : Int) + 2 := by simp [faulted]; omega
  rw [e1] at hbo
  exact hbo
end Go.Proofs.Ytnkelaohcbdjnaa
