/- Signals, cancels; a task that was late. -/
import Derived.Test.YtnkelaohcbdjnaaY
import Derived.Test.YtnkelaohcbdjnaaF
set_option linter.unusedVariables false
set_option linter.unusedSimpArgs false
namespace Go.Proofs.Ytnkelaohcbdjnaa
open Go.RowKit Go.Maps
theorem wake_any (S : Nat → Prop) (W : World) (fb mb : Nat) (s : FSt) (h : FL S W fb mb s) (ht : s.task = 2) (now : Int) : Calls Try.prog 43 #[.pointer (some ⟨fb, 0, none⟩), .int .i64 now] W fun e W' => e = .returned (.slice none 0 0) ∧ W = W' := by
  obtain ⟨ao, cp, hb, _⟩ := h.f
  have c5 := hb.cell 5
  simp only [fcells, ht, List.getElem?_toArray, List.getElem?_cons_zero, List.getElem?_cons_succ] at c5
  clear h hb ht
  go_enter Try.func43, Try.ntmps43
  go_wp2
  go_ret
  exact ⟨rfl, rfl⟩
/-- a run with a signal more -/
def signaled (s : FSt) (now : Int) (d : Value) : FSt := { s with late := true, rows := s.rows ++ [ev 15 now 0 0 0 0 d] }
def canceled (s : FSt) (now : Int) (d : Value) : FSt := { s with late := true, asked := true, rows := s.rows ++ [ev 16 now 0 0 0 0 d] }
set_option maxRecDepth 100000 in
set_option maxHeartbeats 2000000 in
theorem signal1_any (S : Nat → Prop) (W : World) (hS : ∀ k, S k → k < W.heap.size) (xb xm : Nat) (s : FSt) (h : FL S W xb xm s) (hf : S xb) (hl : s.rows.length ≤ 50000) (ht : s.task = 2) (now : Int) (nb db : Nat) (ao : Option Addr) (dl cp : Nat) (ds : List Value)
    (hn : Blk W nb 3 #[.int .i64 now]) (hd : Blk W db 22 #[.slice ao dl cp]) (hne : nb ≠ xb) (hr : RowB (fun _ => False) W (.slice ao dl cp) ds) (hdl : ds.length ≤ 100000) (hd1 : ∀ u ∈ ds, u.oneCell' = true) :
    Calls Try.prog 42 #[.pointer (some ⟨xb, 0, none⟩), .pointer (some ⟨nb, 0, none⟩), .pointer (some ⟨db, 0, none⟩)] W fun e W' => ∃ d : Value, e = .returned (.tuple #[.slice none 0 0, .int .i64 0]) ∧ FL S W' xb xm (signaled s now d) ∧ Fr (fun k => k = xb) W W' := by
  have HP := Lib.hid (put15_any S W hS xb xm s h hf hl ht now 0 0 0 0 _ ds hr hdl hd1)
  have n0 := hn.cell 0
  have d0 := hd.cell 0
  simp only [List.getElem?_toArray, List.getElem?_cons_zero] at n0 d0
  have HN := Lib.hid hn
  have HT := Lib.hid ht
  clear h hS hn hd hr ht
  go_enter Try.func42, Try.ntmps42
  go_upto_region 2 with (first | (go_at_call 38; refine HP.out.mono ?_; rintro e w1 ⟨d, rfl, _, _, hfl, hf1⟩) | go_in)
  have HFL : Hid (FL S w1 xb xm (signaled s now d)) := Lib.hid hfl
  have HF1 := Lib.hid hf1
  have n1 : w1.cell? ⟨nb, 0, none⟩ = some (.int .i64 now) := (HN.out.fr hf1 hne).cell 0
  have HW := Lib.hid (wake_any S w1 xb xm _ HFL.out (show (signaled s now d).task = 2 from HT.out) now)
  clear HP n0 d0 hfl hf1
  go_wp2_with (first | (go_at_call 43; refine HW.out.mono ?_; rintro e w2 ⟨rfl, rfl⟩) | go_in)
  go_ret2
  exact ⟨d, rfl, HFL.out, HF1.out⟩
set_option maxRecDepth 100000 in
set_option maxHeartbeats 2000000 in
theorem cancel1_any (S : Nat → Prop) (W : World) (hS : ∀ k, S k → k < W.heap.size) (xb xm : Nat) (s : FSt) (h : FL S W xb xm s) (hf : S xb) (hfm : S xm) (hl : s.rows.length ≤ 50000) (ht : s.task = 2) (has : s.asked = false) (now : Int) (nb : Nat)
    (hn : Blk W nb 3 #[.int .i64 now]) (hne : nb ≠ xb) (hne2 : nb ≠ xm) :
    Calls Try.prog 44 #[.pointer (some ⟨xb, 0, none⟩), .pointer (some ⟨nb, 0, none⟩)] W fun e W' => ∃ d : Value, e = .returned (.tuple #[.slice none 0 0, .int .i64 0]) ∧ FL S W' xb xm (canceled s now d) ∧ Fr (fun k => k = xb ∨ k = xm) W W' := by
  obtain ⟨ao, cp, hb, _⟩ := h.f
  have c10 := hb.cell 10
  simp only [fcells, has, List.getElem?_toArray, List.getElem?_cons_zero, List.getElem?_cons_succ] at c10
  have HP := Lib.hid (put16_any S W hS xb xm s h hf hfm hl ht now 0 0 0 0 rfl (.slice none 0 0) [] (RowB.nil _ _) (by simp) (by simp))
  have n0 := hn.cell 0
  simp only [List.getElem?_toArray, List.getElem?_cons_zero] at n0
  have HN := Lib.hid hn
  have HT := Lib.hid ht
  clear h hS hn ht hb has
  go_enter Try.func44, Try.ntmps44
  go_upto_region 4 with (first | (go_at_call 38; refine HP.out.mono ?_; rintro e w1 ⟨d, rfl, _, _, hfl, hf1⟩) | go_in)
  have HFL : Hid (FL S w1 xb xm (canceled s now d)) := Lib.hid hfl
  have HF1 := Lib.hid hf1
  have n1 : w1.cell? ⟨nb, 0, none⟩ = some (.int .i64 now) := (HN.out.fr hf1 (fun e => e.elim hne hne2)).cell 0
  have HW := Lib.hid (wake_any S w1 xb xm _ HFL.out (show (canceled s now d).task = 2 from HT.out) now)
  clear HP n0 c10 hfl hf1
  go_wp2_with (first | (go_at_call 43; refine HW.out.mono ?_; rintro e w2 ⟨rfl, rfl⟩) | go_in)
  go_ret2
  exact ⟨d, rfl, HFL.out, HF1.out⟩
/-- a run whose task was faulty -/
def faulted (s : FSt) (now n : Int) (d : Value) : FSt := { s with task := 0, turn := wrap64 (s.turn + 1), rows := s.rows ++ [ev 6 now s.bg 0 0 n d] }
set_option maxRecDepth 100000 in
set_option maxHeartbeats 2000000 in
theorem faulty_any (S : Nat → Prop) (W : World) (hS : ∀ k, S k → k < W.heap.size) (fb mb : Nat) (s : FSt) (h : FL S W fb mb s) (hf : S fb) (hl : s.rows.length ≤ 40000) (n now : Int) :
    Calls Try.prog 47 #[.pointer (some ⟨fb, 0, none⟩), .int .i64 n, .int .i64 now] W fun e W' => ∃ (ob : Nat) (d1 d2 : Value), e = .returned (.slice (some ⟨ob, 0, none⟩) 1 1) ∧ W.heap.size ≤ ob ∧ Blk W' ob 40 #[.int .i64 1, .int .i64 s.list, .int .i64 ((s.rows.length : Int) + 2), .int .i64 (wrap64 (s.turn + 1)), .int .i64 0, .int .i64 0, .int .i64 0, .slice none 0 0] ∧ FL S W' fb mb (sched (faulted s now n d1) now d2) ∧ Fr (fun k => k = fb) W W' := by
  obtain ⟨ao, cp, hb, _⟩ := h.f
  have c7 := hb.cell 7
  simp only [fcells, List.getElem?_toArray, List.getElem?_cons_zero, List.getElem?_cons_succ] at c7
  have HP := Lib.hid (put6_any S W hS fb mb s h hf (by omega) now s.bg 0 0 n (.slice none 0 0) [] (RowB.nil _ _) (by simp) (by simp))
  have HS := Lib.hid hS
  clear h hb hS
  go_enter Try.func47, Try.ntmps47
  go_upto_region 2 with (first | (go_at_call 38; refine HP.out.mono ?_; rintro e w1 ⟨d1, rfl, _, _, hfl, hf1⟩) | go_in)
  have HFL : Hid (FL S w1 fb mb (faulted s now n d1)) := Lib.hid hfl
  have HF1 := Lib.hid hf1
  have HSC := Lib.hid (sched_any S w1 (fun k e => Nat.lt_of_lt_of_le (HS.out k e) hf1.size) fb mb _ HFL.out hf (by simp [faulted]; omega) now)
  clear HP c7 hfl hf1
  go_wp2_with (first | (go_at_call 39; refine HSC.out.mono ?_; rintro e w2 ⟨ob, d2, rfl, hob, hbo, hfl2, hf2⟩) | go_in)
  go_ret
  refine ⟨ob, d1, d2, rfl, Nat.le_trans HF1.out.size hob, ?_, hfl2, HF1.out.trans hf2⟩
  have e1 : ((faulted s now n d1).rows.length : Int) + 1 = (s.rows.length : Int) + 2 := by simp [faulted]; omega
  rw [e1] at hbo
  exact hbo
/-- what Signal leaves -/
def SignalOut (W : World) (fb : Nat) (s : FSt) (now : Int) (e : Ending) (W' : World) : Prop :=
  ∃ (xm : Nat) (d : Value), e = .returned (.tuple #[.slice none 0 0, .int .i64 0]) ∧ W.heap.size ≤ xm ∧ FL2 W' fb xm (signaled s now d) ∧ Fr (fun k => k = fb) W W'
set_option maxRecDepth 100000 in
set_option maxHeartbeats 2000000 in
theorem signal_any (W : World) (fb mb : Nat) (s : FSt) (h : FL2 W fb mb s) (hl : s.rows.length ≤ 4095) (now : Int) (hn0 : 0 ≤ now) (hn1 : now ≤ 1099511627776)
    (k a r i l m : Int) (dd : Value) (hr : s.rows.getLast? = some (ev k a r i l m dd)) (hk : k < 19) (ha : a ≤ now) (ht : s.task = 2) (ao : Option Addr) (dl cp : Nat) (ds : List Value) (hd : RowB (fun _ => False) W (.slice ao dl cp) ds) (hdl : dl ≤ 4096) (hdn : ds.length = dl) (hd1 : ∀ u ∈ ds, u.oneCell' = true) :
    Calls Try.prog 13 #[.pointer (some ⟨fb, 0, none⟩), .slice ao dl cp, .int .i64 now] W fun e W' => SignalOut W fb s now e W' := by
  have hB0 := Blk.new W 22 #[.slice ao dl cp]
  have hF0 : Fr (fun _ => False) W (W.alloc (.cells #[.slice ao dl cp] 22)) := Fr.alloc _ _ _
  have hB1 := Blk.new (W.alloc (.cells #[.slice ao dl cp] 22)) 3 #[.int .i64 now]
  have hF1 : Fr (fun _ => False) (W.alloc (.cells #[.slice ao dl cp] 22)) ((W.alloc (.cells #[.slice ao dl cp] 22)).alloc (.cells #[.int .i64 now] 3)) := Fr.alloc _ _ _
  have hb0 := (hB0.fr hF1 id)
  have hb1 := hB1
  have hfr := (hF0.trans hF1)
  obtain ⟨W3, hW3⟩ : ∃ W3, ((W.alloc (.cells #[.slice ao dl cp] 22)).alloc (.cells #[.int .i64 now] 3)) = W3 := ⟨_, rfl⟩
  have hsz : W3.heap.size = W.heap.size + 2 := by rw [← hW3]; simp
  simp only [World.size_alloc] at hb1
  rw [hW3] at hb0 hb1 hfr
  clear hB0 hF0 hB1 hF1
  have hn := hb1.cell 0
  have hdc := hb0.cell 0
  simp only [List.getElem?_toArray, List.getElem?_cons_zero] at hn hdc
  have hlt := h.lt
  have HT := Lib.hid (tryK 42 (run_enter Try.func42 (by kernel_rfl) (by kernel_rfl)) #[.pointer (some ⟨W.heap.size + 1, 0, none⟩), .pointer (some ⟨W.heap.size, 0, none⟩)] W3 fb mb s (h.fr0 hfr) ao dl cp now
    (fun w' hf => right_more _ w' fb mb s ((h.fr0 hfr).fr0 hf) ao dl cp hdl now hn0 hn1 k a r i l m dd hr ha)
    (fun w' hf => (status_open _ w' fb mb s ((h.fr0 hfr).fr0 hf) k a r i l m dd hr hk))
    (fun ov er s' xb xm w' => ∃ d : Value, ov = .slice none 0 0 ∧ er = 0 ∧ s' = signaled s now d)
    (fun w xb xm hf hxb hxm hx => (signal1_any _ w (fun k e => by have := hf.size; have := hx.lt; rcases e with (e | e) | e | e <;> omega) xb xm s hx (by simp) (by omega) ht now (W.heap.size + 1) W.heap.size ao dl cp ds (hb1.fr hf id) (hb0.fr hf id) (by omega) ((hd.fr hfr).fr hf) (by omega) hd1).mono (fun e w' hh => by
      obtain ⟨d, h1, h2, h3⟩ := hh
      exact ⟨_, _, _, h1, h2, h3.mono (fun _ e => .inl e), fun e => absurd rfl e, by simp [signaled]; omega, d, rfl, rfl, rfl⟩)))
  have HFR := Lib.hid hfr
  have HSZ := Lib.hid hsz
  clear h hr hb0 hb1 hfr hsz hd hd1 hdn ht
  go_enter Try.func13, Try.ntmps13
  go_upto_region 1 with (fail)
  clear hW3
  go_wp2_with (first | (go_at_call 40; refine HT.out.mono ?_; rintro e w5 ⟨ov, er, s', xb, xm, w4, rfl, hxb, hxm, hfl, hf5, hf45, d, rfl, rfl, rfl⟩) | go_in)
  go_ret2
  have := HSZ.out
  exact ⟨xm, d, rfl, by omega, hfl, (HFR.out.mono fun _ e => e.elim).trans hf5⟩
/-- what Cancel leaves -/
def CancelOut (W : World) (fb : Nat) (s : FSt) (now : Int) (e : Ending) (W' : World) : Prop :=
  ∃ (xm : Nat) (d : Value), e = .returned (.tuple #[.slice none 0 0, .int .i64 0]) ∧ W.heap.size ≤ xm ∧ FL2 W' fb xm (canceled s now d) ∧ Fr (fun k => k = fb) W W'
set_option maxRecDepth 100000 in
set_option maxHeartbeats 2000000 in
theorem cancel_any (W : World) (fb mb : Nat) (s : FSt) (h : FL2 W fb mb s) (hl : s.rows.length ≤ 4095) (now : Int) (hn0 : 0 ≤ now) (hn1 : now ≤ 1099511627776)
    (k a r i l m : Int) (dd : Value) (hr : s.rows.getLast? = some (ev k a r i l m dd)) (hk : k < 19) (ha : a ≤ now) (ht : s.task = 2) (has : s.asked = false) :
    Calls Try.prog 14 #[.pointer (some ⟨fb, 0, none⟩), .int .i64 now] W fun e W' => CancelOut W fb s now e W' := by
  have hB0 := Blk.new W 3 #[.int .i64 now]
  have hF0 : Fr (fun _ => False) W (W.alloc (.cells #[.int .i64 now] 3)) := Fr.alloc _ _ _
  have hb0 := hB0
  have hfr := hF0
  obtain ⟨W3, hW3⟩ : ∃ W3, (W.alloc (.cells #[.int .i64 now] 3)) = W3 := ⟨_, rfl⟩
  have hsz : W3.heap.size = W.heap.size + 1 := by rw [← hW3]; simp
  rw [hW3] at hb0 hfr
  clear hB0 hF0
  have hn := hb0.cell 0
  simp only [List.getElem?_toArray, List.getElem?_cons_zero] at hn
  have hlt := h.lt
  have HT := Lib.hid (tryK 44 (run_enter Try.func44 (by kernel_rfl) (by kernel_rfl)) #[.pointer (some ⟨W.heap.size, 0, none⟩)] W3 fb mb s (h.fr0 hfr) none 0 0 now
    (fun w' hf => right_more _ w' fb mb s ((h.fr0 hfr).fr0 hf) none 0 0 (by omega) now hn0 hn1 k a r i l m dd hr ha)
    (fun w' hf => (status_open _ w' fb mb s ((h.fr0 hfr).fr0 hf) k a r i l m dd hr hk))
    (fun ov er s' xb xm w' => ∃ d : Value, ov = .slice none 0 0 ∧ er = 0 ∧ s' = canceled s now d)
    (fun w xb xm hf hxb hxm hx => (cancel1_any _ w (fun k e => by have := hf.size; have := hx.lt; rcases e with (e | e) | e | e <;> omega) xb xm s hx (by simp) (by simp) (by omega) ht has now W.heap.size (hb0.fr hf id) (by omega) (by omega)).mono (fun e w' hh => by
      obtain ⟨d, h1, h2, h3⟩ := hh
      exact ⟨_, _, _, h1, h2, h3, fun e => absurd rfl e, by simp [canceled]; omega, d, rfl, rfl, rfl⟩)))
  have HFR := Lib.hid hfr
  have HSZ := Lib.hid hsz
  clear h hr hb0 hfr hsz ht has
  go_enter Try.func14, Try.ntmps14
  go_upto_region 1 with (fail)
  clear hW3
  go_wp2_with (first | (go_at_call 40; refine HT.out.mono ?_; rintro e w5 ⟨ov, er, s', xb, xm, w4, rfl, hxb, hxm, hfl, hf5, hf45, d, rfl, rfl, rfl⟩) | go_in)
  go_ret2
  have := HSZ.out
  exact ⟨xm, d, rfl, by omega, hfl, (HFR.out.mono fun _ e => e.elim).trans hf5⟩
end Go.Proofs.Ytnkelaohcbdjnaa
