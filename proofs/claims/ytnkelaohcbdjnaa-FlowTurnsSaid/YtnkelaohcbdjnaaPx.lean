/- Decides. -/
import Derived.Test.YtnkelaohcbdjnaaOx
import Derived.Test.YtnkelaohcbdjnaaDx
import Derived.Deep.RegionHeld3
set_option linter.unusedVariables false
set_option linter.unusedSimpArgs false
namespace Go.Proofs.Ytnkelaohcbdjnaa
open Go.RowKit Go.Maps
/-- a decision task that has begun -/
def began (s : FSt) (now ref : Int) : FSt := { s with task := 2, bg := (s.l.length : Int) + 1, late := false, l := s.l ++ [⟨3, now, ref, 0, 0, 0, []⟩] }
set_option maxRecDepth 100000 in
set_option maxHeartbeats 2000000 in
theorem decides1_any (S : Nat → Prop) (W : World) (hS : ∀ k, S k → k < W.heap.size) (xb xm : Nat) (s : FSt) (h : FL S W xb xm s) (hf : S xb) (hl : s.l.length ≤ 50000) (now ref turn : Int) (tb rb nb : Nat)
    (ht : Blk W tb 3 #[.int .i64 turn]) (hr : Blk W rb 3 #[.int .i64 ref]) (hn : Blk W nb 3 #[.int .i64 now]) (hne : tb ≠ xb ∧ rb ≠ xb ∧ nb ≠ xb) (h0 : 0 ≤ turn) (hw : s.task = 1 ∧ s.at_ = ref ∧ s.turn = turn) :
    Calls Try.prog 41 #[.pointer (some ⟨xb, 0, none⟩), .pointer (some ⟨tb, 0, none⟩), .pointer (some ⟨rb, 0, none⟩), .pointer (some ⟨nb, 0, none⟩)] W fun e W' => ∃ (ob : Nat) (q : Int), e = .returned (.tuple #[.slice (some ⟨ob, 0, none⟩) 1 1, .int .i64 0]) ∧ W.heap.size ≤ ob ∧ Blk W' ob 40 #[.int .i64 3, .int .i64 0, .int .i64 ref, .int .i64 turn, .int .i64 q, .int .i64 0, .int .i64 0, .slice none 0 0] ∧ FL S W' xb xm (began s now ref) ∧ Fr (fun k => k = xb) W W' ∧ q = IntKind.i64.wrap (now + s.n) := by
  have HW := Lib.hid (fun w' (hf2 : Fr (fun _ => False) W w') => wants_any S w' xb xm s (h.fr0 hf2) ref turn h0)
  have HWT : Hid (decide (s.task = 1 ∧ s.at_ = ref ∧ s.turn = turn) = true) := Lib.hid (decide_eq_true hw)
  have HP := Lib.hid (fun w' (hf2 : Fr (fun _ => False) W w') => put3_any S w' (fun k e => Nat.lt_of_lt_of_le (hS k e) hf2.size) xb xm s (h.fr0 hf2) hf hl now ref 0 0 0 (.slice none 0 0) [] (RowB.nil _ _) (by simp) (by simp))
  have HB := Lib.hid (And.intro ht (And.intro hr hn))
  have HLT := Lib.hid h.lt
  have t0 := ht.cell 0
  have r0 := hr.cell 0
  have n0 := hn.cell 0
  simp only [List.getElem?_toArray, List.getElem?_cons_zero] at t0 r0 n0
  have p0 : decide (turn < 0) = false := decide_eq_false (by omega)
  have HNE := Lib.hid hne
  clear h hS hw ht hr hn hne h0
  go_enter Try.func41, Try.ntmps41
  go_upto_region 3 with (first | (go_at_call 29; refine (HW.out _ (Fr.refl _ W)).mono ?_; rw [HWT.out]; rintro e w1 ⟨rfl, z, rfl⟩) | go_in)
  have hf1 : Fr (fun _ => False) W (W.drewN z) := Fr.drewN _ W z
  obtain ⟨w1, hw1⟩ : ∃ w1, W.drewN z = w1 := ⟨_, rfl⟩
  have t1 : w1.cell? ⟨tb, 0, none⟩ = some (.int .i64 turn) := (HB.out.1.fr (hw1 ▸ hf1) id).cell 0
  have r1 : w1.cell? ⟨rb, 0, none⟩ = some (.int .i64 ref) := (HB.out.2.1.fr (hw1 ▸ hf1) id).cell 0
  have n1 : w1.cell? ⟨nb, 0, none⟩ = some (.int .i64 now) := (HB.out.2.2.fr (hw1 ▸ hf1) id).cell 0
  rw [hw1] at hf1 ⊢
  have HF1 := Lib.hid hf1
  clear hw1 hf1 t0 r0 n0 HW
  go_upto_region 4 with (first | (go_at_call 38; refine (HP.out _ HF1.out).mono ?_; rintro e w2 ⟨rfl, hfl, hf2⟩) | go_in)
  have HFL : Hid (FL S w2 xb xm (began s now ref)) := Lib.hid hfl
  have hf2' : Fr (fun k => k = xb) W w2 := (HF1.out.mono fun _ e => e.elim).trans hf2
  have t2 : w2.cell? ⟨tb, 0, none⟩ = some (.int .i64 turn) := (HB.out.1.fr hf2' HNE.out.1).cell 0
  have r2 : w2.cell? ⟨rb, 0, none⟩ = some (.int .i64 ref) := (HB.out.2.1.fr hf2' HNE.out.2.1).cell 0
  have n2 : w2.cell? ⟨nb, 0, none⟩ = some (.int .i64 now) := (HB.out.2.2.fr hf2' HNE.out.2.2).cell 0
  have x3 : w2.cell? ⟨xb, 3, none⟩ = some (.int .i64 s.n) := by obtain ⟨ao, cp, _, _, hb, _⟩ := hfl.f; exact hb.cell 3
  have HF2 := Lib.hid hf2'
  clear HP hfl hf2 hf2' t1 r1 n1 HB HF1
  refine wp_region_held_drew (S := fun (w' : World) => w'.cell? ⟨tb, 0, none⟩ = some (.int .i64 turn) ∧ w'.cell? ⟨rb, 0, none⟩ = some (.int .i64 ref) ∧ w'.cell? ⟨nb, 0, none⟩ = some (.int .i64 now) ∧ w'.cell? ⟨xb, 3, none⟩ = some (.int .i64 s.n)) (by kernel_rfl) ⟨t2, r2, n2, x3⟩ (fun hHeld => ?_)
  refine wpAnyH_take (i := 0) (oi := _) (v := ?vb0) rfl (by kernel_rfl) (by kernel_rfl) (by kernel_rfl) (fun _ _ _ h => h) (Or.inl ⟨by rfl, ?yb0⟩) (by assumption) ?rb0
  case yb0 => intro w1 hSw; obtain ⟨s1, s2, s3, s4⟩ := hSw; go_simp; try with_reducible rfl
  try simp only [List.getElem_toArray, List.getElem_cons_zero, List.getElem_cons_succ, Act.put, List.setIfInBounds_toArray, List.set_cons_zero, List.set_cons_succ]
  refine wpAnyH_take (i := 1) (oi := _) (v := ?vb1) rfl (by kernel_rfl) (by kernel_rfl) (by kernel_rfl) (fun _ _ _ h => h) (Or.inl ⟨by rfl, ?yb1⟩) (by assumption) ?rb1
  case yb1 => intro w1 hSw; obtain ⟨s1, s2, s3, s4⟩ := hSw; go_simp; try with_reducible rfl
  try simp only [List.getElem_toArray, List.getElem_cons_zero, List.getElem_cons_succ, Act.put, List.setIfInBounds_toArray, List.set_cons_zero, List.set_cons_succ]
  refine wpAnyH_take (i := 2) (oi := _) (v := ?vb2) rfl (by kernel_rfl) (by kernel_rfl) (by kernel_rfl) (fun _ _ _ h => h) (Or.inl ⟨by rfl, ?yb2⟩) (by assumption) ?rb2
  case yb2 => intro w1 hSw; obtain ⟨s1, s2, s3, s4⟩ := hSw; go_simp; try with_reducible rfl
  try simp only [List.getElem_toArray, List.getElem_cons_zero, List.getElem_cons_succ, Act.put, List.setIfInBounds_toArray, List.set_cons_zero, List.set_cons_succ]
  refine wpAnyH_take (i := 3) (oi := _) (v := ?vb3) rfl (by kernel_rfl) (by kernel_rfl) (by kernel_rfl) (fun _ _ _ h => h) (Or.inl ⟨by rfl, ?yb3⟩) (by assumption) ?rb3
  case yb3 => intro w1 hSw; obtain ⟨s1, s2, s3, s4⟩ := hSw; go_simp; try with_reducible rfl
  try simp only [List.getElem_toArray, List.getElem_cons_zero, List.getElem_cons_succ, Act.put, List.setIfInBounds_toArray, List.set_cons_zero, List.set_cons_succ]
  refine wpAnyH_take (i := 4) (oi := _) (v := ?vb4) rfl (by kernel_rfl) (by kernel_rfl) (by kernel_rfl) (fun _ _ _ h => h) (Or.inl ⟨by rfl, ?yb4⟩) (by assumption) ?rb4
  case yb4 => intro w1 hSw; obtain ⟨s1, s2, s3, s4⟩ := hSw; go_simp; try with_reducible rfl
  try simp only [List.getElem_toArray, List.getElem_cons_zero, List.getElem_cons_succ, Act.put, List.setIfInBounds_toArray, List.set_cons_zero, List.set_cons_succ]
  refine wpAnyH_take (i := 5) (oi := _) (v := ?vb5) rfl (by kernel_rfl) (by kernel_rfl) (by kernel_rfl) (fun _ _ _ h => h) (Or.inl ⟨by rfl, ?yb5⟩) (by assumption) ?rb5
  case yb5 => intro w1 hSw; obtain ⟨s1, s2, s3, s4⟩ := hSw; go_simp; try with_reducible rfl
  try simp only [List.getElem_toArray, List.getElem_cons_zero, List.getElem_cons_succ, Act.put, List.setIfInBounds_toArray, List.set_cons_zero, List.set_cons_succ]
  refine wpAnyH_take (i := 6) (oi := _) (v := ?vb6) rfl (by kernel_rfl) (by kernel_rfl) (by kernel_rfl) (fun _ _ _ h => h) (Or.inl ⟨by rfl, ?yb6⟩) (by assumption) ?rb6
  case yb6 => intro w1 hSw; obtain ⟨s1, s2, s3, s4⟩ := hSw; go_simp; try with_reducible rfl
  try simp only [List.getElem_toArray, List.getElem_cons_zero, List.getElem_cons_succ, Act.put, List.setIfInBounds_toArray, List.set_cons_zero, List.set_cons_succ]
  refine wpAnyH_take (i := 7) (oi := _) (v := ?vb7) rfl (by kernel_rfl) (by kernel_rfl) (by kernel_rfl) (fun _ _ _ h => h) (Or.inl ⟨by rfl, ?yb7⟩) (by assumption) ?rb7
  case yb7 => intro w1 hSw; obtain ⟨s1, s2, s3, s4⟩ := hSw; go_simp; try with_reducible rfl
  try simp only [List.getElem_toArray, List.getElem_cons_zero, List.getElem_cons_succ, Act.put, List.setIfInBounds_toArray, List.set_cons_zero, List.set_cons_succ]
  refine wpAnyH_take (i := 8) (oi := _) (v := ?vb8) rfl (by kernel_rfl) (by kernel_rfl) (by kernel_rfl) (fun _ _ _ h => h) (Or.inl ⟨by rfl, ?yb8⟩) (by assumption) ?rb8
  case yb8 => intro w1 hSw; obtain ⟨s1, s2, s3, s4⟩ := hSw; go_simp; try with_reducible rfl
  try simp only [List.getElem_toArray, List.getElem_cons_zero, List.getElem_cons_succ, Act.put, List.setIfInBounds_toArray, List.set_cons_zero, List.set_cons_succ]
  obtain ⟨q, hq⟩ : ∃ q, IntKind.i64.wrap (now + s.n) = q := ⟨_, rfl⟩
  rw [hq]
  have HQ := Lib.hid hq.symm
  clear hq
  have hOB : Blk (w2.drew.alloc (.cells #[.int .i64 3, .int .i64 0, .int .i64 ref, .int .i64 turn, .int .i64 q, .int .i64 0, .int .i64 0, .slice none 0 0] 40)) w2.heap.size 40 #[.int .i64 3, .int .i64 0, .int .i64 ref, .int .i64 turn, .int .i64 q, .int .i64 0, .int .i64 0, .slice none 0 0] := Blk.new w2.drew 40 #[.int .i64 3, .int .i64 0, .int .i64 ref, .int .i64 turn, .int .i64 q, .int .i64 0, .int .i64 0, .slice none 0 0]
  have hfA : Fr (fun _ => False) w2 (w2.drew.alloc (.cells #[.int .i64 3, .int .i64 0, .int .i64 ref, .int .i64 turn, .int .i64 q, .int .i64 0, .int .i64 0, .slice none 0 0] 40)) := (Fr.drewN _ w2 1).trans (Fr.alloc _ _ _)
  have hh : ∀ (b o : Nat) (u : Value), w2.cell? ⟨b, o, none⟩ = some u → (w2.drew.alloc (.cells #[.int .i64 3, .int .i64 0, .int .i64 ref, .int .i64 turn, .int .i64 q, .int .i64 0, .int .i64 0, .slice none 0 0] 40)).cell? ⟨b, o, none⟩ = some u := fun b o u hu => (World.cell?_of_block (hfA.block b (lt_of_cell hu) id)).trans hu
  have hhh := And.intro (hh _ _ _ t2) (And.intro (hh _ _ _ r2) (And.intro (hh _ _ _ n2) (hh _ _ _ x3)))
  refine wpAnyH_ready (rs := [9]) (by kernel_rfl) (by simp) ?_
  refine AllReadyH.cons (o := _) rfl (fun K hK => ?_) AllReadyH.nil
  rw [if_pos (by rfl)]
  try simp only [List.getElem_toArray, List.getElem_cons_zero, List.getElem_cons_succ]
  go_simp
  refine hK.out _ _ hhh (fun hHeld2 => ?_)
  clear hK K hh
  try simp only [List.getElem_toArray, List.getElem_cons_zero, List.getElem_cons_succ, Act.put, List.setIfInBounds_toArray, List.set_cons_zero, List.set_cons_succ]
  refine wpAnyH_take (i := 10) (oi := _) (v := ?vb10) rfl (by kernel_rfl) (by kernel_rfl) (by kernel_rfl) (fun _ _ _ h => h) (Or.inl ⟨by rfl, ?yb10⟩) (by assumption) ?rb10
  case yb10 => intro w1 hSw; go_simp; try with_reducible rfl
  try simp only [List.getElem_toArray, List.getElem_cons_zero, List.getElem_cons_succ, Act.put, List.setIfInBounds_toArray, List.set_cons_zero, List.set_cons_succ]
  refine wpAnyH_take (i := 11) (oi := _) (v := ?vb11) rfl (by kernel_rfl) (by kernel_rfl) (by kernel_rfl) (fun _ _ _ h => h) (Or.inl ⟨by rfl, ?yb11⟩) (by assumption) ?rb11
  case yb11 => intro w1 hSw; go_simp; try with_reducible rfl
  try simp only [List.getElem_toArray, List.getElem_cons_zero, List.getElem_cons_succ, Act.put, List.setIfInBounds_toArray, List.set_cons_zero, List.set_cons_succ]
  refine wpAnyH_done (by kernel_rfl) ?_ _
  clear hHeld hHeld2 hhh
  go_wp2
  go_ret2
  exact ⟨w2.heap.size, q, rfl, HF2.out.size, hOB, HFL.out.fr0 hfA, HF2.out.trans (hfA.mono fun _ e => e.elim), HQ.out⟩

theorem run_enter {P : Program} {f : FuncId} {fn : Func} (hf : P.funcs[f]? = some fn) (hname : (fn.name == "runtime.NumGoroutine") = false) (hb : fn.body.isSome = true) (args : Array Value) (w : World) :
    Sem.run P (callFunc f args) w = .ok (.enter f args) w := by
  obtain ⟨c, hb⟩ := Option.isSome_iff_exists.1 hb
  have h1 : fn.name ≠ "runtime.NumGoroutine" := by simpa using hname
  simp [callFunc, hf, h1, hb]
/-- what Decides leaves -/
def DecidesOut (W : World) (fb : Nat) (s : FSt) (now ref turn : Int) (e : Ending) (W' : World) : Prop :=
  ∃ (ob xm : Nat) (q : Int), e = .returned (.tuple #[.slice (some ⟨ob, 0, none⟩) 1 1, .int .i64 0]) ∧ W.heap.size ≤ ob ∧ W.heap.size ≤ xm ∧ Blk W' ob 40 #[.int .i64 3, .int .i64 0, .int .i64 ref, .int .i64 turn, .int .i64 q, .int .i64 0, .int .i64 0, .slice none 0 0] ∧ FL2 W' fb xm (began s now ref) ∧ Fr (fun k => k = fb) W W' ∧ q = IntKind.i64.wrap (now + s.n)
set_option maxRecDepth 100000 in
set_option maxHeartbeats 2000000 in
theorem decides_any (W : World) (fb mb : Nat) (s : FSt) (h : FL2 W fb mb s) (hl : s.l.length ≤ 4095) (now ref turn : Int) 
    (hr : rightP s.l 0 now) (hk : statusK s.l = 1) (h0 : 0 ≤ turn) (hw : s.task = 1 ∧ s.at_ = ref ∧ s.turn = turn) :
    Calls Try.prog 12 #[.pointer (some ⟨fb, 0, none⟩), .int .i64 ref, .int .i64 turn, .int .i64 now] W fun e W' => DecidesOut W fb s now ref turn e W' := by
  have hB1 := Blk.new W 3 #[.int .i64 ref]
  have hF1 : Fr (fun _ => False) W (W.alloc (.cells #[.int .i64 ref] 3)) := Fr.alloc _ _ _
  have hB2 := Blk.new (W.alloc (.cells #[.int .i64 ref] 3)) 3 #[.int .i64 turn]
  have hF2 : Fr (fun _ => False) (W.alloc (.cells #[.int .i64 ref] 3)) ((W.alloc (.cells #[.int .i64 ref] 3)).alloc (.cells #[.int .i64 turn] 3)) := Fr.alloc _ _ _
  have hB3 := Blk.new ((W.alloc (.cells #[.int .i64 ref] 3)).alloc (.cells #[.int .i64 turn] 3)) 3 #[.int .i64 now]
  have hF3 : Fr (fun _ => False) ((W.alloc (.cells #[.int .i64 ref] 3)).alloc (.cells #[.int .i64 turn] 3)) (((W.alloc (.cells #[.int .i64 ref] 3)).alloc (.cells #[.int .i64 turn] 3)).alloc (.cells #[.int .i64 now] 3)) := Fr.alloc _ _ _
  have hb1 := (hB1.fr hF2 id).fr hF3 id
  have hb2 := hB2.fr hF3 id
  have hfr := (hF1.trans hF2).trans hF3
  obtain ⟨W3, hW3⟩ : ∃ W3, (((W.alloc (.cells #[.int .i64 ref] 3)).alloc (.cells #[.int .i64 turn] 3)).alloc (.cells #[.int .i64 now] 3)) = W3 := ⟨_, rfl⟩
  have hsz : W3.heap.size = W.heap.size + 3 := by rw [← hW3]; simp
  simp only [World.size_alloc] at hb1 hb2 hB3
  rw [hW3] at hb1 hb2 hB3 hfr
  have hn := hB3.cell 0
  simp only [List.getElem?_toArray, List.getElem?_cons_zero] at hn
  have hlt := h.lt
  obtain ⟨b1, hb1e⟩ : ∃ b, W.heap.size = b := ⟨_, rfl⟩
  have HT := Lib.hid (tryK 41 (run_enter Try.func41 (by kernel_rfl) (by kernel_rfl)) #[.pointer (some ⟨W.heap.size + 1, 0, none⟩), .pointer (some ⟨W.heap.size, 0, none⟩), .pointer (some ⟨W.heap.size + 1 + 1, 0, none⟩)] W3 fb mb s (h.fr0 hfr) none 0 0 now
    hr hk
    (fun ov er s' xb xm w' => ∃ (ob : Nat) (q : Int), ov = .slice (some ⟨ob, 0, none⟩) 1 1 ∧ er = 0 ∧ W.heap.size ≤ ob ∧ Blk w' ob 40 #[.int .i64 3, .int .i64 0, .int .i64 ref, .int .i64 turn, .int .i64 q, .int .i64 0, .int .i64 0, .slice none 0 0] ∧ s' = began s now ref ∧ q = IntKind.i64.wrap (now + s.n))
    (fun w xb xm hf hxb hxm hx => (decides1_any _ w (fun k e => by have := hf.size; have := hx.lt; rcases e with (e | e) | e | e <;> omega) xb xm s hx (by simp) (by omega) now ref turn (W.heap.size + 1) W.heap.size (W.heap.size + 1 + 1) (hb2.fr hf id) (hb1.fr hf id) (hB3.fr hf id) (by omega) h0 hw).mono (fun e w' hh => by
      obtain ⟨ob, q, h1, h2, h3, h4, h5, h6⟩ := hh
      refine ⟨_, _, _, h1, h4, h5.mono (fun _ e => .inl e), fun e => absurd rfl e, by simp [began]; omega, ob, q, rfl, rfl, ?_, h3, rfl, h6⟩
      have := hf.size; omega)))
  have HFR := Lib.hid hfr
  have HSZ := Lib.hid hsz
  have HLT := Lib.hid hlt
  clear h hw hr hk hB1 hB2 hb1 hb2 hB3 hF1 hF2 hF3 hb1e hfr hsz hlt
  go_enter Try.func12, Try.ntmps12
  go_upto_region 1 with (fail)
  clear hW3
  go_wp2_with (first | (go_at_call 40; refine HT.out.mono ?_; rintro e w5 ⟨ov, er, s', xb, xm, w4, rfl, hxb, hxm, hfl, hf5, hf45, ob, q, rfl, rfl, hob, hbo, rfl, hqq⟩) | go_in)
  go_ret2
  have := HSZ.out
  have := HLT.out
  exact ⟨ob, xm, q, rfl, hob, by omega, hbo.fr hf45 (by omega), hfl, (HFR.out.mono fun _ e => e.elim).trans hf5, hqq⟩
set_option maxRecDepth 100000 in
set_option maxHeartbeats 2000000 in
/-- Decides' own function: it is stale -/
theorem decides1_stale (S : Nat → Prop) (W : World) (xb xm : Nat) (s : FSt) (h : FL S W xb xm s) (now ref turn : Int) (tb rb nb : Nat)
    (ht : Blk W tb 3 #[.int .i64 turn]) (hr : Blk W rb 3 #[.int .i64 ref]) (hn : Blk W nb 3 #[.int .i64 now]) (hw : ¬ (0 ≤ turn ∧ s.task = 1 ∧ s.at_ = ref ∧ s.turn = turn)) :
    Calls Try.prog 41 #[.pointer (some ⟨xb, 0, none⟩), .pointer (some ⟨tb, 0, none⟩), .pointer (some ⟨rb, 0, none⟩), .pointer (some ⟨nb, 0, none⟩)] W fun e W' => e = .returned (.tuple #[.slice none 0 0, .int .i64 21]) ∧ Fr (fun _ => False) W W' := by
  have t0 := ht.cell 0
  have r0 := hr.cell 0
  simp only [List.getElem?_toArray, List.getElem?_cons_zero] at t0 r0
  by_cases h0 : 0 ≤ turn
  · have HW := Lib.hid (wants_any S W xb xm s h ref turn h0)
    have HWT : Hid (decide (s.task = 1 ∧ s.at_ = ref ∧ s.turn = turn) = false) := Lib.hid (decide_eq_false (fun e => hw ⟨h0, e⟩))
    have p0 : decide (turn < 0) = false := decide_eq_false (by omega)
    clear h hw ht hr hn h0
    go_enter Try.func41, Try.ntmps41
    go_wp2_with (first | (go_at_call 29; refine HW.out.mono ?_; rw [HWT.out]; rintro e w1 ⟨rfl, z, rfl⟩) | go_in)
    go_ret2
    exact ⟨rfl, Fr.drewN _ _ _⟩
  · have p0 : decide (turn < 0) = true := decide_eq_true (by omega)
    clear h hw ht hr hn h0
    go_enter Try.func41, Try.ntmps41
    go_wp2
    go_ret2
    exact ⟨rfl, Fr.refl _ _⟩
set_option maxRecDepth 100000 in
set_option maxHeartbeats 2000000 in
theorem decides_stale (W : World) (fb mb : Nat) (s : FSt) (h : FL2 W fb mb s) (hl : s.l.length ≤ 4095) (now ref turn : Int) 
    (hr : rightP s.l 0 now) (hk : statusK s.l = 1) (hw : ¬ (0 ≤ turn ∧ s.task = 1 ∧ s.at_ = ref ∧ s.turn = turn)) :
    Calls Try.prog 12 #[.pointer (some ⟨fb, 0, none⟩), .int .i64 ref, .int .i64 turn, .int .i64 now] W fun e W' => e = .returned (.tuple #[.slice none 0 0, .int .i64 21]) ∧ Fr (fun _ => False) W W' := by
  have hB1 := Blk.new W 3 #[.int .i64 ref]
  have hF1 : Fr (fun _ => False) W (W.alloc (.cells #[.int .i64 ref] 3)) := Fr.alloc _ _ _
  have hB2 := Blk.new (W.alloc (.cells #[.int .i64 ref] 3)) 3 #[.int .i64 turn]
  have hF2 : Fr (fun _ => False) (W.alloc (.cells #[.int .i64 ref] 3)) ((W.alloc (.cells #[.int .i64 ref] 3)).alloc (.cells #[.int .i64 turn] 3)) := Fr.alloc _ _ _
  have hB3 := Blk.new ((W.alloc (.cells #[.int .i64 ref] 3)).alloc (.cells #[.int .i64 turn] 3)) 3 #[.int .i64 now]
  have hF3 : Fr (fun _ => False) ((W.alloc (.cells #[.int .i64 ref] 3)).alloc (.cells #[.int .i64 turn] 3)) (((W.alloc (.cells #[.int .i64 ref] 3)).alloc (.cells #[.int .i64 turn] 3)).alloc (.cells #[.int .i64 now] 3)) := Fr.alloc _ _ _
  have hb1 := (hB1.fr hF2 id).fr hF3 id
  have hb2 := hB2.fr hF3 id
  have hfr := (hF1.trans hF2).trans hF3
  obtain ⟨W3, hW3⟩ : ∃ W3, (((W.alloc (.cells #[.int .i64 ref] 3)).alloc (.cells #[.int .i64 turn] 3)).alloc (.cells #[.int .i64 now] 3)) = W3 := ⟨_, rfl⟩
  have hsz : W3.heap.size = W.heap.size + 3 := by rw [← hW3]; simp
  simp only [World.size_alloc] at hb1 hb2 hB3
  rw [hW3] at hb1 hb2 hB3 hfr
  have hn := hB3.cell 0
  simp only [List.getElem?_toArray, List.getElem?_cons_zero] at hn
  have hlt := h.lt
  obtain ⟨b1, hb1e⟩ : ∃ b, W.heap.size = b := ⟨_, rfl⟩
  have HT := Lib.hid (tryE 41 (run_enter Try.func41 (by kernel_rfl) (by kernel_rfl)) #[.pointer (some ⟨W.heap.size + 1, 0, none⟩), .pointer (some ⟨W.heap.size, 0, none⟩), .pointer (some ⟨W.heap.size + 1 + 1, 0, none⟩)] W3 fb mb s (h.fr0 hfr) none 0 0 now
    hr hk
    21 (by decide) (fun w xb xm hf hxb hxm hx => (decides1_stale _ w xb xm s hx now ref turn (W.heap.size + 1) W.heap.size (W.heap.size + 1 + 1) (hb2.fr hf id) (hb1.fr hf id) (hB3.fr hf id) hw).mono (fun e w' hh => ⟨_, hh.1, (by obtain ⟨ao, cp, vs, _, hb, _⟩ := (hx.fr0 hh.2).f; exact ⟨ao, cp, hb⟩), hh.2.mono fun _ e => e.elim⟩)))
  have HFR := Lib.hid hfr
  have HSZ := Lib.hid hsz
  have HLT := Lib.hid hlt
  clear h hw hr hk hB1 hB2 hb1 hb2 hB3 hF1 hF2 hF3 hb1e hfr hsz hlt
  go_enter Try.func12, Try.ntmps12
  go_upto_region 1 with (fail)
  clear hW3
  go_wp2_with (first | (go_at_call 40; refine HT.out.mono ?_; rintro e w5 ⟨rfl, hf5⟩) | go_in)
  go_ret2
  exact ⟨rfl, HFR.out.trans hf5⟩
end Go.Proofs.Ytnkelaohcbdjnaa
