/- What is missed; Fire, of a task. -/
import Derived.Test.YtnkelaohcbdjnaaPx
import Derived.Test.YtnkelaohcbdjnaaGx
set_option linter.unusedVariables false
set_option linter.unusedSimpArgs false
namespace Go.Proofs.Ytnkelaohcbdjnaa
open Go.RowKit Go.Maps
/-- a run whose task was missed -/
def missed (s : FSt) (now : Int) : FSt := { s with task := 0, turn := wrap64 (s.turn + 1), l := s.l ++ [⟨5, now, s.bg, 0, 0, 0, []⟩] }
set_option maxRecDepth 100000 in
set_option maxHeartbeats 2000000 in
theorem missed1_ok (S : Nat → Prop) (W : World) (hS : ∀ k, S k → k < W.heap.size) (xb xm : Nat) (s : FSt) (h : FL S W xb xm s) (hf : S xb) (hl : s.l.length ≤ 40000) (now ref turn : Int) (rb tb nb : Nat)
    (hr : Blk W rb 3 #[.int .i64 ref]) (ht : Blk W tb 3 #[.int .i64 turn]) (hn : Blk W nb 3 #[.int .i64 now]) (hne : nb ≠ xb) (hw : s.task = 2 ∧ s.at_ = ref ∧ s.turn = turn) :
    Calls Try.prog 95 #[.pointer (some ⟨xb, 0, none⟩), .pointer (some ⟨rb, 0, none⟩), .pointer (some ⟨tb, 0, none⟩), .pointer (some ⟨nb, 0, none⟩)] W fun e W' => ∃ (ob : Nat), e = .returned (.tuple #[.slice (some ⟨ob, 0, none⟩) 1 1, .int .i64 0]) ∧ W.heap.size ≤ ob ∧ Blk W' ob 40 #[.int .i64 1, .int .i64 s.list, .int .i64 ((s.l.length : Int) + 2), .int .i64 (wrap64 (s.turn + 1)), .int .i64 0, .int .i64 0, .int .i64 0, .slice none 0 0] ∧ FL S W' xb xm (sched (missed s now) now) ∧ Fr (fun k => k = xb) W W' := by
  obtain ⟨h1, h2, h3⟩ := hw
  obtain ⟨ao, cp, vs, hvl, hb, _⟩ := h.f
  have x5 := hb.cell 5
  have x6 := hb.cell 6
  have x7 := hb.cell 7
  have x8 := hb.cell 8
  have r0 := hr.cell 0
  have t0 := ht.cell 0
  have n0 := hn.cell 0
  simp only [fcells, h1, h2, h3, List.getElem?_toArray, List.getElem?_cons_zero, List.getElem?_cons_succ] at x5 x6 x7 x8 r0 t0 n0
  have p1 : (ref != ref) = false := by simp
  have p2 : (turn != turn) = false := by simp
  have HFL := Lib.hid h
  have HS := Lib.hid hS
  have HNB := Lib.hid hn
  have HTU := Lib.hid h3
  clear h hS hb hvl h1 h2 h3 hr ht hn
  go_enter Try.func95, Try.ntmps95
  go_upto_region 1 with (fail)
  go_quiet (fail)
  go_upto_region 3 with (fail)
  have hf1 : Fr (fun _ => False) W (W.drewN nq) := Fr.drewN _ W nq
  obtain ⟨w1, hw1⟩ : ∃ w1, W.drewN nq = w1 := ⟨_, rfl⟩
  rw [hw1] at hf1 ⊢
  have HF1 := Lib.hid hf1
  clear hw1 x5 x6 x8 r0 t0 p1 p2
  have n1 : w1.cell? ⟨nb, 0, none⟩ = some (.int .i64 now) := (HNB.out.fr hf1 id).cell 0
  have x1 : w1.cell? ⟨xb, 7, none⟩ = some (.int .i64 s.bg) := by obtain ⟨ao, cp, _, _, hb, _⟩ := (HFL.out.fr0 hf1).f; exact hb.cell 7
  clear hf1 n0 x7
  refine wp_region_held_drew (S := fun (w' : World) => w'.cell? ⟨nb, 0, none⟩ = some (.int .i64 now) ∧ w'.cell? ⟨xb, 7, none⟩ = some (.int .i64 s.bg)) (by kernel_rfl) ⟨n1, x1⟩ (fun hHeld => ?_)
  refine wpAnyH_take (i := 0) (oi := _) (v := ?vm0) rfl (by kernel_rfl) (by kernel_rfl) (by kernel_rfl) (fun _ _ _ h => h) (Or.inl ⟨by rfl, ?ym0⟩) (by assumption) ?rm0
  case ym0 => intro w1 hSw; obtain ⟨s1, s2⟩ := hSw; go_simp; try with_reducible rfl
  try simp only [List.getElem_toArray, List.getElem_cons_zero, List.getElem_cons_succ, Act.put, List.setIfInBounds_toArray, List.set_cons_zero, List.set_cons_succ]
  refine wpAnyH_take (i := 1) (oi := _) (v := ?vm1) rfl (by kernel_rfl) (by kernel_rfl) (by kernel_rfl) (fun _ _ _ h => h) (Or.inl ⟨by rfl, ?ym1⟩) (by assumption) ?rm1
  case ym1 => intro w1 hSw; obtain ⟨s1, s2⟩ := hSw; go_simp; try with_reducible rfl
  try simp only [List.getElem_toArray, List.getElem_cons_zero, List.getElem_cons_succ, Act.put, List.setIfInBounds_toArray, List.set_cons_zero, List.set_cons_succ]
  refine wpAnyH_take (i := 2) (oi := _) (v := ?vm2) rfl (by kernel_rfl) (by kernel_rfl) (by kernel_rfl) (fun _ _ _ h => h) (Or.inl ⟨by rfl, ?ym2⟩) (by assumption) ?rm2
  case ym2 => intro w1 hSw; obtain ⟨s1, s2⟩ := hSw; go_simp; try with_reducible rfl
  try simp only [List.getElem_toArray, List.getElem_cons_zero, List.getElem_cons_succ, Act.put, List.setIfInBounds_toArray, List.set_cons_zero, List.set_cons_succ]
  refine wpAnyH_take (i := 3) (oi := _) (v := ?vm3) rfl (by kernel_rfl) (by kernel_rfl) (by kernel_rfl) (fun _ _ _ h => h) (Or.inl ⟨by rfl, ?ym3⟩) (by assumption) ?rm3
  case ym3 => intro w1 hSw; obtain ⟨s1, s2⟩ := hSw; go_simp; try with_reducible rfl
  try simp only [List.getElem_toArray, List.getElem_cons_zero, List.getElem_cons_succ, Act.put, List.setIfInBounds_toArray, List.set_cons_zero, List.set_cons_succ]
  refine wpAnyH_take (i := 4) (oi := _) (v := ?vm4) rfl (by kernel_rfl) (by kernel_rfl) (by kernel_rfl) (fun _ _ _ h => h) (Or.inl ⟨by rfl, ?ym4⟩) (by assumption) ?rm4
  case ym4 => intro w1 hSw; obtain ⟨s1, s2⟩ := hSw; go_simp; try with_reducible rfl
  try simp only [List.getElem_toArray, List.getElem_cons_zero, List.getElem_cons_succ, Act.put, List.setIfInBounds_toArray, List.set_cons_zero, List.set_cons_succ]
  refine wpAnyH_take (i := 5) (oi := _) (v := ?vm5) rfl (by kernel_rfl) (by kernel_rfl) (by kernel_rfl) (fun _ _ _ h => h) (Or.inl ⟨by rfl, ?ym5⟩) (by assumption) ?rm5
  case ym5 => intro w1 hSw; obtain ⟨s1, s2⟩ := hSw; go_simp; try with_reducible rfl
  try simp only [List.getElem_toArray, List.getElem_cons_zero, List.getElem_cons_succ, Act.put, List.setIfInBounds_toArray, List.set_cons_zero, List.set_cons_succ]
  refine wpAnyH_take (i := 6) (oi := _) (v := ?vm6) rfl (by kernel_rfl) (by kernel_rfl) (by kernel_rfl) (fun _ _ _ h => h) (Or.inl ⟨by rfl, ?ym6⟩) (by assumption) ?rm6
  case ym6 => intro w1 hSw; obtain ⟨s1, s2⟩ := hSw; go_simp; try with_reducible rfl
  try simp only [List.getElem_toArray, List.getElem_cons_zero, List.getElem_cons_succ, Act.put, List.setIfInBounds_toArray, List.set_cons_zero, List.set_cons_succ]
  refine wpAnyH_ready (rs := [7]) (by kernel_rfl) (by simp) ?_
  refine AllReadyH.cons (o := _) rfl (fun K hK => ?_) AllReadyH.nil
  rw [if_pos (by rfl)]
  try simp only [List.getElem_toArray, List.getElem_cons_zero, List.getElem_cons_succ]
  go_simp
  have hfd : Fr (fun _ => False) w1 w1.drew := Fr.drewN _ w1 1
  go_at_call 38
  refine (put5_any S w1.drew (fun k e => Nat.lt_of_lt_of_le (HS.out k e) (HF1.out.trans hfd).size) xb xm s ((HFL.out.fr0 HF1.out).fr0 hfd) hf (by omega) now s.bg 0 0 0 (.slice none 0 0) [] (RowB.nil _ _) (by simp) (by simp)).mono ?_
  rintro e w2 ⟨rfl, hfl, hf2⟩
  have hfl' : FL S w2 xb xm (missed s now) := hfl
  have hf12 : Fr (fun k => k = xb) w1 w2 := (hfd.mono fun _ e => e.elim).trans hf2
  have n2 : w2.cell? ⟨nb, 0, none⟩ = some (.int .i64 now) := ((HNB.out.fr HF1.out id).fr hf12 hne).cell 0
  have x2 : w2.cell? ⟨xb, 7, none⟩ = some (.int .i64 s.bg) := by obtain ⟨ao, cp, _, _, hb, _⟩ := hfl'.f; exact hb.cell 7
  have HFL2 := Lib.hid hfl'
  have HF2 := Lib.hid ((HF1.out.mono (S' := fun k => k = xb) fun _ e => e.elim).trans hf12)
  refine hK.out _ _ ⟨n2, x2⟩ (fun hHeld2 => ?_)
  clear hK K hfl hfl' hf2 hf12 hfd n1 x1
  try simp only [List.getElem_toArray, List.getElem_cons_zero, List.getElem_cons_succ, Act.put, List.setIfInBounds_toArray, List.set_cons_zero, List.set_cons_succ]
  refine wpAnyH_done (by kernel_rfl) ?_ _
  clear hHeld hHeld2 x2
  have HSC := Lib.hid (sched_any S w2 (fun k e => Nat.lt_of_lt_of_le (HS.out k e) HF2.out.size) xb xm _ HFL2.out hf (by simp [missed]; omega) now)
  go_wp2_with (first | (go_at_call 39; refine HSC.out.mono ?_; rintro e w3 ⟨ob, rfl, hob, hbo, hfl2, hf3⟩) | go_in)
  go_ret2
  refine ⟨ob, rfl, Nat.le_trans HF2.out.size hob, ?_, hfl2, HF2.out.trans hf3⟩
  have e1 : ((missed s now).l.length : Int) + 1 = (s.l.length : Int) + 2 := by simp [missed]; omega
  rw [e1] at hbo
  exact hbo
set_option maxRecDepth 100000 in
set_option maxHeartbeats 2000000 in
theorem missed1_stale (S : Nat → Prop) (W : World) (xb xm : Nat) (s : FSt) (h : FL S W xb xm s) (now ref turn : Int) (rb tb nb : Nat)
    (hr : Blk W rb 3 #[.int .i64 ref]) (ht : Blk W tb 3 #[.int .i64 turn]) (hw : ¬ (s.task = 2 ∧ s.at_ = ref ∧ s.turn = turn)) :
    Calls Try.prog 95 #[.pointer (some ⟨xb, 0, none⟩), .pointer (some ⟨rb, 0, none⟩), .pointer (some ⟨tb, 0, none⟩), .pointer (some ⟨nb, 0, none⟩)] W fun e W' => e = .returned (.tuple #[.slice none 0 0, .int .i64 21]) ∧ Fr (fun _ => False) W W' := by
  obtain ⟨ao, cp, vs, hvl, hb, _⟩ := h.f
  have x5 := hb.cell 5
  have x6 := hb.cell 6
  have x8 := hb.cell 8
  have r0 := hr.cell 0
  have t0 := ht.cell 0
  simp only [fcells, List.getElem?_toArray, List.getElem?_cons_zero, List.getElem?_cons_succ] at x5 x6 x8 r0 t0
  obtain ⟨ta, hta⟩ : ∃ x, s.task = x := ⟨_, rfl⟩
  obtain ⟨aa, haa⟩ : ∃ x, s.at_ = x := ⟨_, rfl⟩
  obtain ⟨tu, htu⟩ : ∃ x, s.turn = x := ⟨_, rfl⟩
  rw [hta] at hw x5
  rw [haa] at hw x6
  rw [htu] at hw x8
  clear h hb hvl hr ht hta haa htu
  by_cases h1 : ta = 2
  · have p1 : (ta == 2) = true := by simp [h1]
    have p1' : (ta != 2) = false := by simp [h1]
    by_cases h2 : aa = ref
    · have h3 : tu ≠ turn := fun e => hw ⟨h1, h2, e⟩
      have p2 : (aa != ref) = false := by simp [h2]
      have p2' : (aa == ref) = true := by simp [h2]
      have p3 : (tu != turn) = true := by simp [h3]
      have p3' : (tu == turn) = false := by simp [h3]
      clear hw h1 h2 h3
      go_enter Try.func95, Try.ntmps95
      go_upto_region 1 with (fail)
      go_quiet (fail)
      go_wp2
      go_ret2
      exact ⟨rfl, Fr.drewN _ _ _⟩
    · have p2 : (aa != ref) = true := by simp [h2]
      have p2' : (aa == ref) = false := by simp [h2]
      clear hw h1 h2
      go_enter Try.func95, Try.ntmps95
      go_upto_region 1 with (fail)
      go_quiet (fail)
      go_wp2
      go_ret2
      exact ⟨rfl, Fr.drewN _ _ _⟩
  · have p1 : (ta == 2) = false := by simp [h1]
    have p1' : (ta != 2) = true := by simp [h1]
    clear hw h1
    go_enter Try.func95, Try.ntmps95
    go_upto_region 1 with (fail)
    go_quiet (fail)
    go_wp2
    go_ret2
    exact ⟨rfl, Fr.drewN _ _ _⟩
/-- what missed leaves -/
def MissedOut (W : World) (fb : Nat) (s : FSt) (now : Int) (e : Ending) (W' : World) : Prop :=
  ∃ (ob xm : Nat), e = .returned (.tuple #[.slice (some ⟨ob, 0, none⟩) 1 1, .int .i64 0]) ∧ W.heap.size ≤ ob ∧ W.heap.size ≤ xm ∧ Blk W' ob 40 #[.int .i64 1, .int .i64 s.list, .int .i64 ((s.l.length : Int) + 2), .int .i64 (wrap64 (s.turn + 1)), .int .i64 0, .int .i64 0, .int .i64 0, .slice none 0 0] ∧ FL2 W' fb xm (sched (missed s now) now) ∧ Fr (fun k => k = fb) W W'
set_option maxRecDepth 100000 in
set_option maxHeartbeats 2000000 in
theorem missed_ok (W : World) (fb mb : Nat) (s : FSt) (h : FL2 W fb mb s) (hl : s.l.length ≤ 4094) (now ref turn : Int) 
    (hr : rightP s.l 0 now) (hk : statusK s.l = 1) (hw : s.task = 2 ∧ s.at_ = ref ∧ s.turn = turn) :
    Calls Try.prog 65 #[.pointer (some ⟨fb, 0, none⟩), .int .i64 ref, .int .i64 turn, .int .i64 now] W fun e W' => MissedOut W fb s now e W' := by
  have hB1 := Blk.new W 3 #[.int .i64 ref]
  have hF1 : Fr (fun _ => False) W (W.alloc (.cells #[.int .i64 ref] 3)) := Fr.alloc _ _ _
  have hB2 := Blk.new (W.alloc (.cells #[.int .i64 ref] 3)) 3 #[.int .i64 turn]
  have hF2 : Fr (fun _ => False) (W.alloc (.cells #[.int .i64 ref] 3)) ((W.alloc (.cells #[.int .i64 ref] 3)).alloc (.cells #[.int .i64 turn] 3)) := Fr.alloc _ _ _
  have hB3 := Blk.new ((W.alloc (.cells #[.int .i64 ref] 3)).alloc (.cells #[.int .i64 turn] 3)) 3 #[.int .i64 now]
  have hF3 : Fr (fun _ => False) ((W.alloc (.cells #[.int .i64 ref] 3)).alloc (.cells #[.int .i64 turn] 3)) (((W.alloc (.cells #[.int .i64 ref] 3)).alloc (.cells #[.int .i64 turn] 3)).alloc (.cells #[.int .i64 now] 3)) := Fr.alloc _ _ _
  have hb1 := (hB1.fr hF2 id).fr hF3 id
  have hb2 := hB2.fr hF3 id
  have hfr := (hF1.trans hF2).trans hF3
  obtain ⟨W3, hW3⟩ : ∃ W3, (((W.alloc (.cells #[.int .i64 ref] 3)).alloc (.cells #[.int .i64 turn] 3)).alloc (.cells #[.int .i64 now] 3)) = W3 := ⟨_, rfl⟩
  have hsz : W3.heap.size = W.heap.size + 3 := by rw [← hW3]; simp
  simp only [World.size_alloc] at hb1 hb2 hB3
  rw [hW3] at hb1 hb2 hB3 hfr
  have hn := hB3.cell 0
  simp only [List.getElem?_toArray, List.getElem?_cons_zero] at hn
  have hlt := h.lt
  obtain ⟨b1, hb1e⟩ : ∃ b, W.heap.size = b := ⟨_, rfl⟩
  have HT := Lib.hid (tryK 95 (run_enter Try.func95 (by kernel_rfl) (by kernel_rfl)) #[.pointer (some ⟨W.heap.size, 0, none⟩), .pointer (some ⟨W.heap.size + 1, 0, none⟩), .pointer (some ⟨W.heap.size + 1 + 1, 0, none⟩)] W3 fb mb s (h.fr0 hfr) none 0 0 now
    hr hk
    (fun ov er s' xb xm w' => ∃ (ob : Nat), ov = .slice (some ⟨ob, 0, none⟩) 1 1 ∧ er = 0 ∧ W.heap.size ≤ ob ∧ Blk w' ob 40 #[.int .i64 1, .int .i64 s.list, .int .i64 ((s.l.length : Int) + 2), .int .i64 (wrap64 (s.turn + 1)), .int .i64 0, .int .i64 0, .int .i64 0, .slice none 0 0] ∧ s' = sched (missed s now) now)
    (fun w xb xm hf hxb hxm hx => (missed1_ok _ w (fun k e => by have := hf.size; have := hx.lt; rcases e with (e | e) | e | e <;> omega) xb xm s hx (by simp) (by omega) now ref turn W.heap.size (W.heap.size + 1) (W.heap.size + 1 + 1) (hb1.fr hf id) (hb2.fr hf id) (hB3.fr hf id) (by omega) hw).mono (fun e w' hh => by
      obtain ⟨ob, h1, h2, h3, h4, h5⟩ := hh
      refine ⟨_, _, _, h1, h4, h5.mono (fun _ e => .inl e), fun e => absurd rfl e, by simp [sched, missed]; omega, ob, rfl, rfl, ?_, h3, rfl⟩
      have := hf.size; omega)))
  have HFR := Lib.hid hfr
  have HSZ := Lib.hid hsz
  have HLT := Lib.hid hlt
  clear h hw hr hk hB1 hB2 hb1 hb2 hB3 hF1 hF2 hF3 hb1e hfr hsz hlt
  go_enter Try.func65, Try.ntmps65
  go_upto_region 1 with (fail)
  clear hW3
  go_wp2_with (first | (go_at_call 40; refine HT.out.mono ?_; rintro e w5 ⟨ov, er, s', xb, xm, w4, rfl, hxb, hxm, hfl, hf5, hf45, ob, rfl, rfl, hob, hbo, rfl⟩) | go_in)
  go_ret2
  have := HSZ.out
  have := HLT.out
  exact ⟨ob, xm, rfl, hob, by omega, hbo.fr hf45 (by omega), hfl, (HFR.out.mono fun _ e => e.elim).trans hf5⟩
set_option maxRecDepth 100000 in
set_option maxHeartbeats 2000000 in
theorem missed_stale (W : World) (fb mb : Nat) (s : FSt) (h : FL2 W fb mb s) (hl : s.l.length ≤ 4095) (now ref turn : Int) 
    (hr : rightP s.l 0 now) (hk : statusK s.l = 1) (hw : ¬ (s.task = 2 ∧ s.at_ = ref ∧ s.turn = turn)) :
    Calls Try.prog 65 #[.pointer (some ⟨fb, 0, none⟩), .int .i64 ref, .int .i64 turn, .int .i64 now] W fun e W' => e = .returned (.tuple #[.slice none 0 0, .int .i64 21]) ∧ Fr (fun _ => False) W W' := by
  have hB1 := Blk.new W 3 #[.int .i64 ref]
  have hF1 : Fr (fun _ => False) W (W.alloc (.cells #[.int .i64 ref] 3)) := Fr.alloc _ _ _
  have hB2 := Blk.new (W.alloc (.cells #[.int .i64 ref] 3)) 3 #[.int .i64 turn]
  have hF2 : Fr (fun _ => False) (W.alloc (.cells #[.int .i64 ref] 3)) ((W.alloc (.cells #[.int .i64 ref] 3)).alloc (.cells #[.int .i64 turn] 3)) := Fr.alloc _ _ _
  have hB3 := Blk.new ((W.alloc (.cells #[.int .i64 ref] 3)).alloc (.cells #[.int .i64 turn] 3)) 3 #[.int .i64 now]
  have hF3 : Fr (fun _ => False) ((W.alloc (.cells #[.int .i64 ref] 3)).alloc (.cells #[.int .i64 turn] 3)) (((W.alloc (.cells #[.int .i64 ref] 3)).alloc (.cells #[.int .i64 turn] 3)).alloc (.cells #[.int .i64 now] 3)) := Fr.alloc _ _ _
  have hb1 := (hB1.fr hF2 id).fr hF3 id
  have hb2 := hB2.fr hF3 id
  have hfr := (hF1.trans hF2).trans hF3
  obtain ⟨W3, hW3⟩ : ∃ W3, (((W.alloc (.cells #[.int .i64 ref] 3)).alloc (.cells #[.int .i64 turn] 3)).alloc (.cells #[.int .i64 now] 3)) = W3 := ⟨_, rfl⟩
  have hsz : W3.heap.size = W.heap.size + 3 := by rw [← hW3]; simp
  simp only [World.size_alloc] at hb1 hb2 hB3
  rw [hW3] at hb1 hb2 hB3 hfr
  have hn := hB3.cell 0
  simp only [List.getElem?_toArray, List.getElem?_cons_zero] at hn
  have hlt := h.lt
  obtain ⟨b1, hb1e⟩ : ∃ b, W.heap.size = b := ⟨_, rfl⟩
  have HT := Lib.hid (tryE 95 (run_enter Try.func95 (by kernel_rfl) (by kernel_rfl)) #[.pointer (some ⟨W.heap.size, 0, none⟩), .pointer (some ⟨W.heap.size + 1, 0, none⟩), .pointer (some ⟨W.heap.size + 1 + 1, 0, none⟩)] W3 fb mb s (h.fr0 hfr) none 0 0 now
    hr hk
    21 (by decide) (fun w xb xm hf hxb hxm hx => (missed1_stale _ w xb xm s hx now ref turn W.heap.size (W.heap.size + 1) (W.heap.size + 1 + 1) (hb1.fr hf id) (hb2.fr hf id) hw).mono (fun e w' hh => ⟨_, hh.1, (by obtain ⟨ao, cp, vs, _, hb, _⟩ := (hx.fr0 hh.2).f; exact ⟨ao, cp, hb⟩), hh.2.mono fun _ e => e.elim⟩)))
  have HFR := Lib.hid hfr
  have HSZ := Lib.hid hsz
  have HLT := Lib.hid hlt
  clear h hw hr hk hB1 hB2 hb1 hb2 hB3 hF1 hF2 hF3 hb1e hfr hsz hlt
  go_enter Try.func65, Try.ntmps65
  go_upto_region 1 with (fail)
  clear hW3
  go_wp2_with (first | (go_at_call 40; refine HT.out.mono ?_; rintro e w5 ⟨rfl, hf5⟩) | go_in)
  go_ret2
  exact ⟨rfl, HFR.out.trans hf5⟩
set_option maxRecDepth 100000 in
/-- Fire: a task -/
theorem fire3 (W : World) (fb : Nat) (ref turn now : Int) (R : Ending → World → Prop) (h : Calls Try.prog 65 #[.pointer (some ⟨fb, 0, none⟩), .int .i64 ref, .int .i64 turn, .int .i64 now] W fun e W' => (∃ v x, e = .returned (.tuple #[v, .int .i64 x])) ∧ R e W') :
    Calls Try.prog 24 #[.pointer (some ⟨fb, 0, none⟩), .int .i64 3, .int .i64 ref, .int .i64 turn, .int .i64 now] W R := by
  have HH := Lib.hid h
  clear h
  go_enter Try.func24, Try.ntmps24
  go_wp2_with (first | (go_at_call 65; refine HH.out.mono ?_; rintro e w1 ⟨⟨v, x, rfl⟩, hr⟩) | go_in)
  exact hr
end Go.Proofs.Ytnkelaohcbdjnaa
