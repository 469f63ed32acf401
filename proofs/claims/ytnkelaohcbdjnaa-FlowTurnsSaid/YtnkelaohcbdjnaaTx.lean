/- Decisions that close, when what came was late. -/
import Derived.Test.YtnkelaohcbdjnaaGx
import Derived.Test.YtnkelaohcbdjnaaPx
import Derived.Test.YtnkelaohcbdjnaaSx
set_option linter.unusedVariables false
set_option linter.unusedSimpArgs false
namespace Go.Proofs.Ytnkelaohcbdjnaa
open Go.RowKit Go.Maps
set_option maxRecDepth 100000 in
set_option maxHeartbeats 4000000 in
theorem faulty1_99 (S : Nat → Prop) (W : World) (hS : ∀ k, S k → k < W.heap.size) (xb xm : Nat) (s : FSt) (h : FL S W xb xm s) (hf : S xb) (hl : s.l.length ≤ 40000) (now ref turn : Int) (rb tb lx nb lb : Nat)
    (hrb : Blk W rb 3 #[.int .i64 ref]) (htb : Blk W tb 3 #[.int .i64 turn]) (hlx : Blk W lx 37 #[.slice (some ⟨lb, 0, none⟩) 1 1]) (hnb : Blk W nb 3 #[.int .i64 now]) (hlb : Blk W lb 24 #[.int .i64 99, .int .i64 0, .int .i64 0, .int .i64 0, .slice none 0 0])
    (h0 : s.task = 2 ∧ s.at_ = ref ∧ s.turn = turn) (hmc : s.mc = 0) (hmp : s.mp = fun _ => none) :
    Calls Try.prog 45 #[.pointer (some ⟨xb, 0, none⟩), .pointer (some ⟨rb, 0, none⟩), .pointer (some ⟨tb, 0, none⟩), .pointer (some ⟨lx, 0, none⟩), .pointer (some ⟨nb, 0, none⟩)] W fun e W' => ∃ (ob : Nat), e = .returned (.tuple #[.slice (some ⟨ob, 0, none⟩) 1 1, .int .i64 22]) ∧ W.heap.size ≤ ob ∧ Blk W' ob 40 #[.int .i64 1, .int .i64 s.list, .int .i64 ((s.l.length : Int) + 2), .int .i64 (wrap64 (s.turn + 1)), .int .i64 0, .int .i64 0, .int .i64 0, .slice none 0 0] ∧ FL S W' xb xm (sched (faulted s now 1) now) ∧ Fr (fun k => k = xb) W W' := by
  obtain ⟨ht, ha, htu⟩ := h0
  obtain ⟨ao2, cp2, _, _, hx, _⟩ := h.f
  have x5 := hx.cell 5
  have x6 := hx.cell 6
  have x8 := hx.cell 8
  have r0 := hrb.cell 0
  have t0 := htb.cell 0
  simp only [fcells, ht, ha, htu, List.getElem?_toArray, List.getElem?_cons_zero, List.getElem?_cons_succ] at x5 x6 x8 r0 t0
  have p1 : (ref != ref) = false := by simp
  have p2 : (turn != turn) = false := by simp
  have HS := Lib.hid hS
  have HFL := Lib.hid h
  have HLX := Lib.hid hlx
  have HNB := Lib.hid hnb
  have HLB := Lib.hid hlb
  have HBAD := Lib.hid (fun w' (hf : Fr (fun _ => False) W w') => bad99_any S w' xb xm s (h.fr0 hf) lb none 0 0 (hlb.fr hf id) (by omega) hmc hmp)
  clear h hx hrb htb hlx hnb hlb hS ht ha htu hmc hmp
  go_enter Try.func45, Try.ntmps45
  go_upto_region 1 with (fail)
  go_quiet (fail)
  clear x5 x6 x8 p1 p2 r0 t0
  have hf1 : Fr (fun _ => False) W (W.drewN nq) := Fr.drewN _ W nq
  obtain ⟨w1, hw1⟩ : ∃ w1, W.drewN nq = w1 := ⟨_, rfl⟩
  rw [hw1] at hf1 ⊢
  have HF1 := Lib.hid hf1
  have l0 := (HLX.out.fr hf1 id).cell 0
  simp only [List.getElem?_toArray, List.getElem?_cons_zero] at l0
  clear hw1 hf1
  go_upto_region 4 with (first | (go_at_call 46; refine (HBAD.out _ HF1.out).mono ?_; rintro e w2 ⟨rfl, hf2⟩) | go_in)
  have HF2 := Lib.hid (HF1.out.trans hf2)
  clear HBAD l0 hf2 HF1
  have n0 : w2.cell? ⟨nb, 0, none⟩ = some (.int .i64 now) := (HNB.out.fr HF2.out id).cell 0
  have HFA := Lib.hid (faulty_any S w2 (fun k e => Nat.lt_of_lt_of_le (HS.out k e) HF2.out.size) xb xm s (HFL.out.fr0 HF2.out) hf hl 1 now)
  go_wp2_with (first | (go_at_call 47; refine HFA.out.mono ?_; rintro e w3 ⟨ob, rfl, hob, hbo, hfl, hf3⟩) | go_in)
  go_ret2
  exact ⟨ob, rfl, Nat.le_trans HF2.out.size hob, hbo, hfl, (HF2.out.mono fun _ e => e.elim).trans hf3⟩
/-- what Decide leaves, late -/
def FaultyOut_99 (W : World) (fb : Nat) (s : FSt) (now : Int) (e : Ending) (W' : World) : Prop :=
  ∃ (ob xm : Nat), e = .returned (.tuple #[.slice (some ⟨ob, 0, none⟩) 1 1, .int .i64 22]) ∧ W.heap.size ≤ ob ∧ W.heap.size ≤ xm ∧ Blk W' ob 40 #[.int .i64 1, .int .i64 s.list, .int .i64 ((s.l.length : Int) + 2), .int .i64 (wrap64 (s.turn + 1)), .int .i64 0, .int .i64 0, .int .i64 0, .slice none 0 0] ∧ FL2 W' fb xm (sched (faulted s now 1) now) ∧ Fr (fun k => k = fb) W W'
set_option maxRecDepth 100000 in
set_option maxHeartbeats 2000000 in
theorem faulty_99 (W : World) (fb mb : Nat) (s : FSt) (h : FL2 W fb mb s) (hl : s.l.length ≤ 4094) (now ref turn : Int) 
    (hr : rightP s.l 0 now) (hk : statusK s.l = 1) (hw : s.task = 2 ∧ s.at_ = ref ∧ s.turn = turn) (hmc : s.mc = 0) (hmp : s.mp = fun _ => none)
    (lb : Nat) (hlb : Blk W lb 24 #[.int .i64 99, .int .i64 0, .int .i64 0, .int .i64 0, .slice none 0 0]) :
    Calls Try.prog 15 #[.pointer (some ⟨fb, 0, none⟩), .int .i64 ref, .int .i64 turn, .slice (some ⟨lb, 0, none⟩) 1 1, .int .i64 now] W fun e W' => FaultyOut_99 W fb s now e W' := by
  have hB0 := Blk.new W 3 #[.int .i64 ref]
  have hF0 : Fr (fun _ => False) W (W.alloc (.cells #[.int .i64 ref] 3)) := Fr.alloc _ _ _
  have hB1 := Blk.new (W.alloc (.cells #[.int .i64 ref] 3)) 3 #[.int .i64 turn]
  have hF1 : Fr (fun _ => False) (W.alloc (.cells #[.int .i64 ref] 3)) ((W.alloc (.cells #[.int .i64 ref] 3)).alloc (.cells #[.int .i64 turn] 3)) := Fr.alloc _ _ _
  have hB2 := Blk.new ((W.alloc (.cells #[.int .i64 ref] 3)).alloc (.cells #[.int .i64 turn] 3)) 37 #[.slice (some ⟨lb, 0, none⟩) 1 1]
  have hF2 : Fr (fun _ => False) ((W.alloc (.cells #[.int .i64 ref] 3)).alloc (.cells #[.int .i64 turn] 3)) (((W.alloc (.cells #[.int .i64 ref] 3)).alloc (.cells #[.int .i64 turn] 3)).alloc (.cells #[.slice (some ⟨lb, 0, none⟩) 1 1] 37)) := Fr.alloc _ _ _
  have hB3 := Blk.new (((W.alloc (.cells #[.int .i64 ref] 3)).alloc (.cells #[.int .i64 turn] 3)).alloc (.cells #[.slice (some ⟨lb, 0, none⟩) 1 1] 37)) 3 #[.int .i64 now]
  have hF3 : Fr (fun _ => False) (((W.alloc (.cells #[.int .i64 ref] 3)).alloc (.cells #[.int .i64 turn] 3)).alloc (.cells #[.slice (some ⟨lb, 0, none⟩) 1 1] 37)) ((((W.alloc (.cells #[.int .i64 ref] 3)).alloc (.cells #[.int .i64 turn] 3)).alloc (.cells #[.slice (some ⟨lb, 0, none⟩) 1 1] 37)).alloc (.cells #[.int .i64 now] 3)) := Fr.alloc _ _ _
  have hb0 := (((hB0.fr hF1 id).fr hF2 id).fr hF3 id)
  have hb1 := ((hB1.fr hF2 id).fr hF3 id)
  have hb2 := (hB2.fr hF3 id)
  have hb3 := hB3
  have hfr := (((hF0.trans hF1).trans hF2).trans hF3)
  obtain ⟨W3, hW3⟩ : ∃ W3, ((((W.alloc (.cells #[.int .i64 ref] 3)).alloc (.cells #[.int .i64 turn] 3)).alloc (.cells #[.slice (some ⟨lb, 0, none⟩) 1 1] 37)).alloc (.cells #[.int .i64 now] 3)) = W3 := ⟨_, rfl⟩
  have hsz : W3.heap.size = W.heap.size + 4 := by rw [← hW3]; simp
  simp only [World.size_alloc] at hb1 hb2 hb3
  rw [hW3] at hb0 hb1 hb2 hb3 hfr
  clear hB0 hF0 hB1 hF1 hB2 hF2 hB3 hF3
  have hn := hb3.cell 0
  simp only [List.getElem?_toArray, List.getElem?_cons_zero] at hn
  have hlt := h.lt
  have HT := Lib.hid (tryK 45 (run_enter Try.func45 (by kernel_rfl) (by kernel_rfl)) #[.pointer (some ⟨W.heap.size, 0, none⟩), .pointer (some ⟨W.heap.size + 1, 0, none⟩), .pointer (some ⟨W.heap.size + 1 + 1, 0, none⟩), .pointer (some ⟨W.heap.size + 1 + 1 + 1, 0, none⟩)] W3 fb mb s (h.fr0 hfr) none 0 0 now
    hr hk
    (fun ov er s' xb xm w' => ∃ (ob : Nat), ov = .slice (some ⟨ob, 0, none⟩) 1 1 ∧ er = 22 ∧ W.heap.size ≤ ob ∧ Blk w' ob 40 #[.int .i64 1, .int .i64 s.list, .int .i64 ((s.l.length : Int) + 2), .int .i64 (wrap64 (s.turn + 1)), .int .i64 0, .int .i64 0, .int .i64 0, .slice none 0 0] ∧ s' = sched (faulted s now 1) now)
    (fun w xb xm hf hxb hxm hx => (faulty1_99 _ w (fun k e => by have := hf.size; have := hx.lt; rcases e with (e | e) | e | e <;> omega) xb xm s hx (by simp) (by omega) now ref turn W.heap.size (W.heap.size + 1) (W.heap.size + 1 + 1) (W.heap.size + 1 + 1 + 1) lb (hb0.fr hf id) (hb1.fr hf id) (hb2.fr hf id) (hb3.fr hf id) ((hlb.fr hfr id).fr hf id)  hw hmc hmp).mono (fun e w' hh => by
      obtain ⟨ob, h1, h2, h3, h4, h5⟩ := hh
      refine ⟨_, _, _, h1, h4, h5.mono (fun _ e => .inl e), fun e => by simp [sched, faulted], by simp [sched, faulted]; omega, ob, rfl, rfl, ?_, h3, rfl⟩
      have := hf.size; omega)))
  have HFR := Lib.hid hfr
  have HSZ := Lib.hid hsz
  have HLT := Lib.hid hlt
  clear h hw hr hk hb0 hb1 hb2 hb3 hfr hsz hlt hlb hmc hmp
  go_enter Try.func15, Try.ntmps15
  go_upto_region 1 with (fail)
  clear hW3
  go_wp2_with (first | (go_at_call 40; refine HT.out.mono ?_; rintro e w5 ⟨ov, er, s', xb, xm, w4, rfl, hxb, hxm, hfl, hf5, hf45, ob, rfl, rfl, hob, hbo, rfl⟩) | go_in)
  go_ret2
  have := HSZ.out
  have := HLT.out
  exact ⟨ob, xm, rfl, hob, by omega, hbo.fr hf45 (by omega), hfl, (HFR.out.mono fun _ e => e.elim).trans hf5⟩
end Go.Proofs.Ytnkelaohcbdjnaa
