/- try: a call on a twin. -/
import Derived.Test.YtnkelaohcbdjnaaJx
set_option linter.unusedVariables false
set_option linter.unusedSimpArgs false
namespace Go.Proofs.Ytnkelaohcbdjnaa
open Go.RowKit Go.Maps
def fset (w : World) (b : Nat) : Nat → List Value → World
  | _, [] => w
  | k, v :: l => fset (w.setCell ⟨b, k, none⟩ v) b (k + 1) l
theorem fset_fr (w : World) (b : Nat) : ∀ (k : Nat) (l : List Value), Fr (fun k => k = b) w (fset w b k l)
  | _, [] => Fr.refl _ _
  | k, v :: l => (Fr.setCell (S := fun k => k = b) w ⟨b, k, none⟩ v rfl).trans (fset_fr _ b (k + 1) l)
def lset (cs : Array Value) : Nat → List Value → Array Value
  | _, [] => cs
  | k, v :: l => lset (cs.setIfInBounds k v) (k + 1) l
theorem Blk.fset {w : World} {b : Nat} {t : TypeId} : ∀ {cs : Array Value} (k : Nat) (l : List Value), Blk w b t cs → Blk (Ytnkelaohcbdjnaa.fset w b k l) b t (lset cs k l)
  | cs, _, [], h => h
  | cs, k, v :: l, h => Blk.fset (w := w.setCell ⟨b, k, none⟩ v) (k + 1) l (h.set k v)
theorem store12 {w : World} {b : Nat} {t : TypeId} {s0 s1 s2 s3 s4 s5 s6 s7 s8 s9 s10 s11 v0 v1 v2 v3 v4 v5 v6 v7 v8 v9 v10 v11 : Value} (h : Blk w b t #[s0, s1, s2, s3, s4, s5, s6, s7, s8, s9, s10, s11]) :
    Blk (fset w b 0 [v0, v1, v2, v3, v4, v5, v6, v7, v8, v9, v10, v11]) b t #[v0, v1, v2, v3, v4, v5, v6, v7, v8, v9, v10, v11] := by
  have := Blk.fset 0 [v0, v1, v2, v3, v4, v5, v6, v7, v8, v9, v10, v11] h
  simpa only [lset, List.setIfInBounds_toArray, List.set_cons_zero, List.set_cons_succ, Nat.zero_add, Nat.reduceAdd] using this
/-- a run whose own blocks are fb and mb -/
abbrev FL2 (W : World) (fb mb : Nat) (s : FSt) : Prop := FL (fun k => k = fb ∨ k = mb) W fb mb s
/-- what try leaves -/
def TryOut (W : World) (fb : Nat) (P : Value → Int → FSt → Nat → Nat → World → Prop) (e : Ending) (W' : World) : Prop :=
  ∃ ov er s' xb xm w'', e = .returned (.tuple #[ov, .int .i64 er]) ∧ W.heap.size ≤ xb ∧ W.heap.size ≤ xm ∧ FL2 W' fb xm s' ∧ Fr (fun k => k = fb) W W' ∧ Fr (fun k => k = fb) w'' W' ∧ P ov er s' xb xm w''
set_option maxRecDepth 100000 in
set_option maxHeartbeats 2000000 in
/-- try: bytes or a tick may not be -/
theorem try_arg (K : Nat) (caps : Array Value) (W : World) (fb mb : Nat) (s : FSt) (h : FL2 W fb mb s) (ao : Option Addr) (n cp : Nat) (now : Int) (hr : ¬ rightP s.l n now) :
    Calls Try.prog 40 #[.pointer (some ⟨fb, 0, none⟩), .slice ao n cp, .int .i64 now, .func (.func K) #[] caps] W fun e W' => e = .returned (.tuple #[.slice none 0 0, .int .i64 1]) ∧ Fr (fun _ => False) W W' := by
  have HRR := Lib.hid (right_any _ W fb mb s h ao n cp now)
  rw [rightB_false hr] at HRR
  clear h hr
  go_enter Try.func40, Try.ntmps40
  go_wp2_with (first | (go_at_call 37; refine HRR.out.mono ?_; rintro e w1 ⟨rfl, z, rfl⟩) | go_in)
  go_ret2
  exact ⟨rfl, Fr.drewN _ _ _⟩
set_option maxRecDepth 100000 in
set_option maxHeartbeats 2000000 in
/-- try: it is closed -/
theorem try_closed (K : Nat) (caps : Array Value) (W : World) (fb mb : Nat) (s : FSt) (h : FL2 W fb mb s) (ao : Option Addr) (n cp : Nat) (now : Int) (hr : rightP s.l n now) (hs : statusK s.l ≠ 1) :
    Calls Try.prog 40 #[.pointer (some ⟨fb, 0, none⟩), .slice ao n cp, .int .i64 now, .func (.func K) #[] caps] W fun e W' => e = .returned (.tuple #[.slice none 0 0, .int .i64 20]) ∧ Fr (fun _ => False) W W' := by
  have HRR := Lib.hid (right_any _ W fb mb s h ao n cp now)
  rw [rightB_true hr] at HRR
  have HFL := Lib.hid h
  obtain ⟨st, hst⟩ : ∃ x, statusK s.l = x := ⟨_, rfl⟩
  rw [hst] at hs
  have p1 : (st == 1) = false := by simp [hs]
  have p2 : (st != 1) = true := by simp [hs]
  have HST := Lib.hid hst
  clear h hr hs hst
  go_enter Try.func40, Try.ntmps40
  go_upto_region 3 with (first | (go_at_call 37; refine HRR.out.mono ?_; rintro e w1 ⟨rfl, z, rfl⟩) | go_in)
  have hf1 : Fr (fun _ => False) W (W.drewN z) := Fr.drewN _ W z
  obtain ⟨w1, hw1⟩ : ∃ w1, W.drewN z = w1 := ⟨_, rfl⟩
  rw [hw1] at hf1 ⊢
  have HF1 := Lib.hid hf1
  have hsa := status_any _ w1 fb mb s (HFL.out.fr0 hf1)
  rw [HST.out] at hsa
  have HSA := Lib.hid hsa
  clear hw1 hf1 hsa
  go_wp2_with (first | (go_at_call 16; refine HSA.out.mono ?_; rintro e w1' ⟨rfl, rfl⟩) | go_in)
  go_ret2
  exact ⟨rfl, HF1.out⟩
set_option maxRecDepth 100000 in
set_option maxHeartbeats 2000000 in
theorem tryK (K : Nat) (HKE : ∀ args w, Sem.run Try.prog (callFunc K args) w = .ok (.enter K args) w) (caps : Array Value) (W : World) (fb mb : Nat) (s : FSt) (h : FL2 W fb mb s) (ao : Option Addr) (n cp : Nat) (now : Int)
    (hr : rightP s.l n now) (hs : statusK s.l = 1)
    (P : Value → Int → FSt → Nat → Nat → World → Prop)
    (HC : ∀ w xb xm, Fr (fun _ => False) W w → W.heap.size ≤ xb → W.heap.size ≤ xm → FL (fun k => (k = fb ∨ k = mb) ∨ k = xb ∨ k = xm) w xb xm s → Calls Try.prog K (#[.pointer (some ⟨xb, 0, none⟩)] ++ caps) w fun e w' => ∃ ov er s', e = .returned (.tuple #[ov, .int .i64 er]) ∧ FL (fun k => (k = fb ∨ k = mb) ∨ k = xb ∨ k = xm) w' xb xm s' ∧ Fr (fun k => k = xb ∨ k = xm) w w' ∧ (er ≠ 0 → s'.l.length ≠ s.l.length) ∧ s'.l.length ≤ 4096 ∧ P ov er s' xb xm w') :
    Calls Try.prog 40 #[.pointer (some ⟨fb, 0, none⟩), .slice ao n cp, .int .i64 now, .func (.func K) #[] caps] W fun e W' => TryOut W fb P e W' := by
  have HR : ∀ w', Fr (fun _ => False) W w' → Calls Try.prog 37 #[.pointer (some ⟨fb, 0, none⟩), .slice ao n cp, .int .i64 now] w' fun e W' => e = .returned (.bool true) ∧ ∃ k, W' = w'.drewN k := fun w' hf => by
    have := right_any _ w' fb mb s (h.fr0 hf) ao n cp now
    rwa [rightB_true hr] at this
  have HT : ∀ w', Fr (fun _ => False) W w' → Calls Try.prog 16 #[.pointer (some ⟨fb, 0, none⟩)] w' fun e W' => e = .returned (.int .i64 1) ∧ w' = W' := fun w' hf => by
    have := status_any _ w' fb mb s (h.fr0 hf)
    rwa [hs] at this
  clear hr hs
  have HFL := Lib.hid h
  have HHR := Lib.hid HR
  have HHT := Lib.hid HT
  have HHC := Lib.hid HC
  clear h HR HT HC
  go_enter Try.func40, Try.ntmps40
  go_upto_region 3 with (first | (go_at_call 37; refine (HHR.out _ (Fr.refl _ W)).mono ?_; rintro e w1 ⟨rfl, z, rfl⟩) | go_in)
  have hf1 : Fr (fun _ => False) W (W.drewN z) := Fr.drewN _ W z
  obtain ⟨w1, hw1⟩ : ∃ w1, W.drewN z = w1 := ⟨_, rfl⟩
  rw [hw1] at hf1 ⊢
  have HF1 := Lib.hid hf1
  clear hw1 hf1
  go_upto_region 5 with (first | (go_at_call 16; refine (HHT.out _ HF1.out).mono ?_; rintro e w1' ⟨rfl, rfl⟩) | go_in)
  have HTW := Lib.hid (twin_any (fun k => k = fb ∨ k = mb) w1 (fun k e => by have := (HFL.out.fr0 HF1.out).lt; omega) fb mb s (HFL.out.fr0 HF1.out))
  go_upto_region 6 with (first | (go_at_call 22; refine HTW.out.mono ?_; rintro e w2 ⟨xb, xm, rfl, hxb, hxm, hx, hf2⟩) | go_in)
  have HF2 := Lib.hid (HF1.out.trans hf2)
  have hsz : W.heap.size ≤ xb ∧ W.heap.size ≤ xm := by have := HF1.out.size; omega
  have HSZ := Lib.hid hsz
  have HCC := Lib.hid (HHC.out w2 xb xm HF2.out hsz.1 hsz.2 hx)
  clear HTW hxb hxm hx hf2 HHC hsz HHT HHR HF1
  go_upto_region 7 with (fail)
  refine HCC.out.mono ?_
  rintro e w3 ⟨ov, er, s', rfl, hx3, hf3, hgr, hfe, hP⟩
  go_upto_region 7 with (fail)
  have hlt := HFL.out.lt
  have hszo := HSZ.out
  obtain ⟨ao0, cp0, _, _, hb0, _⟩ := HFL.out.f
  have hbf : Blk w3 fb 75 (fcells s (.slice ao0 s.l.length cp0) (.map (some mb))) := (hb0.fr HF2.out id).fr hf3 (by omega)
  obtain ⟨ao3, cp3, vs3, hvl3, hbx, hrow3, hdat3⟩ := hx3.f
  have HVL3 := Lib.hid hvl3
  have HDAT3 := Lib.hid hdat3
  clear hvl3 hdat3
  have HM3 := Lib.hid hx3.m
  have HOK3 := Lib.hid hx3.ok
  have HW3 : Hid (Fr (fun _ => False) W w3) := Lib.hid ⟨hf3.os.trans HF2.out.os, hf3.tape.trans HF2.out.tape, hf3.output.trans HF2.out.output, Nat.le_trans HF2.out.size hf3.size, fun k hk _ => (hf3.block k (Nat.lt_of_lt_of_le hk HF2.out.size) (by omega)).trans (HF2.out.block k hk id)⟩
  have HROW3 := Lib.hid hrow3
  have HP := Lib.hid hP
  have hne : fb ≠ xm := by omega
  obtain ⟨n0, hn0⟩ : ∃ n, s.l.length = n := ⟨_, rfl⟩
  obtain ⟨n3, hn3⟩ : ∃ n, s'.l.length = n := ⟨_, rfl⟩
  rw [hn0] at hbf hgr
  rw [hn3] at hbx hgr hfe
  have HN3 := Lib.hid hn3
  obtain ⟨id', run', list', num', task', at', bg', turn', late', asked', rows', mc', mp'⟩ := s'
  obtain ⟨id0, run0, list0, num0, task0, at0, bg0, turn0, late0, asked0, rows0, mc0, mp0⟩ := s
  have HBF := Lib.hid hbf
  have x0 := hbx.cell 0
  have x1 := hbx.cell 1
  have x2 := hbx.cell 2
  have x3 := hbx.cell 3
  have x4 := hbx.cell 4
  have x5 := hbx.cell 5
  have x6 := hbx.cell 6
  have x7 := hbx.cell 7
  have x8 := hbx.cell 8
  have x9 := hbx.cell 9
  have x10 := hbx.cell 10
  have x11 := hbx.cell 11
  have y0 := hbf.cell 0
  have y1 := hbf.cell 1
  have y2 := hbf.cell 2
  have y3 := hbf.cell 3
  have y4 := hbf.cell 4
  have y5 := hbf.cell 5
  have y6 := hbf.cell 6
  have y7 := hbf.cell 7
  have y8 := hbf.cell 8
  have y9 := hbf.cell 9
  have y10 := hbf.cell 10
  have y11 := hbf.cell 11
  have z0 := hbf.frozen 0
  have z1 := hbf.frozen 1
  have z2 := hbf.frozen 2
  have z3 := hbf.frozen 3
  have z4 := hbf.frozen 4
  have z5 := hbf.frozen 5
  have z6 := hbf.frozen 6
  have z7 := hbf.frozen 7
  have z8 := hbf.frozen 8
  have z9 := hbf.frozen 9
  have z10 := hbf.frozen 10
  have z11 := hbf.frozen 11
  simp only [fcells, List.getElem?_toArray, List.getElem?_cons_zero, List.getElem?_cons_succ] at x0 y0 x1 y1 x2 y2 x3 y3 x4 y4 x5 y5 x6 y6 x7 y7 x8 y8 x9 y9 x10 y10 x11 y11
  clear HCC HFL hx3 hf3 hP hlt hszo hb0 hbx hrow3 hn0 hn3 hbf HF2
  have q5 : decide ((n3 : Int) > 4096) = false := decide_eq_false (by omega)
  have q6 : decide (4096 < (n3 : Int)) = false := decide_eq_false (by omega)
  by_cases he : er = 0
  · subst he
    have p1 : ((0 : Int) != 0) = false := rfl
    clear hgr
    go_quiet (fail)
    go_upto_region 9 with (fail)
    go_upto_region 12 with (fail)
    have hb5 := store12 (v0 := .int .i64 id') (v1 := .int .i64 run') (v2 := .int .i64 list') (v3 := .int .i64 num') (v4 := .slice ao3 n3 cp3) (v5 := .int .i64 task') (v6 := .int .i64 at') (v7 := .int .i64 bg') (v8 := .int .i64 turn') (v9 := .bool late') (v10 := .bool asked') (v11 := .map (some xm)) (HBF.out.fr (Fr.drewN (fun _ => False) w3 nq) id)
    have hf5 := (Fr.drewN (fun k => k = fb) w3 nq).trans (fset_fr (w3.drewN nq) fb 0 [.int .i64 id', .int .i64 run', .int .i64 list', .int .i64 num', .slice ao3 n3 cp3, .int .i64 task', .int .i64 at', .int .i64 bg', .int .i64 turn', .bool late', .bool asked', .map (some xm)])
    obtain ⟨w5, hw5⟩ : ∃ w5, fset (w3.drewN nq) fb 0 [.int .i64 id', .int .i64 run', .int .i64 list', .int .i64 num', .slice ao3 n3 cp3, .int .i64 task', .int .i64 at', .int .i64 bg', .int .i64 turn', .bool late', .bool asked', .map (some xm)] = w5 := ⟨_, rfl⟩
    rw [hw5] at hb5 hf5
    simp only [fset, Nat.zero_add, Nat.reduceAdd] at hw5
    rw [hw5]
    have HB5 := Lib.hid hb5
    have HF5 := Lib.hid hf5
    clear hw5 hb5 hf5
    clear x0 y0 z0 x1 y1 z1 x2 y2 z2 x3 y3 z3 x4 y4 z4 x5 y5 z5 x6 y6 z6 x7 y7 z7 x8 y8 z8 x9 y9 z9 x10 y10 z10 x11 y11 z11
    go_wp2_with fail
    go_ret2
    refine ⟨ov, _, _, xb, xm, w3, rfl, HSZ.out.1, HSZ.out.2, ⟨⟨ao3, cp3, vs3, HVL3.out, ?_, ?_, ?_⟩, HM3.out.fr HF5.out hne.symm, HOK3.out, ?_⟩, (HW3.out.mono fun _ e => e.elim).trans HF5.out, HF5.out, HP.out⟩
    · rw [HN3.out]; exact HB5.out
    · exact (HROW3.out.to (S' := fun k => k = fb ∨ k = xm) (fun k _ e => e.elim (fun e => .inl (.inl e)) (fun e => .inr (.inr e)))).fr (HF5.out.mono fun k e => .inl e)
    · exact (HDAT3.out.to (S' := fun k => k = fb ∨ k = xm) (fun k _ e => e.elim (fun e => .inl (.inl e)) (fun e => .inr (.inr e)))).fr (HF5.out.mono fun k e => .inl e)
    · show _ ≤ _; rw [HN3.out]; omega
  · have p1 : (er != 0) = true := by simp [he]
    have hgr2 := hgr he
    have p7 : ((n3 : Int) == n0) = false := by simp; omega
    clear hgr hgr2
    go_quiet (fail)
    go_upto_region 9 with (fail)
    go_upto_region 12 with (fail)
    have hb5 := store12 (v0 := .int .i64 id') (v1 := .int .i64 run') (v2 := .int .i64 list') (v3 := .int .i64 num') (v4 := .slice ao3 n3 cp3) (v5 := .int .i64 task') (v6 := .int .i64 at') (v7 := .int .i64 bg') (v8 := .int .i64 turn') (v9 := .bool late') (v10 := .bool asked') (v11 := .map (some xm)) (HBF.out.fr (Fr.drewN (fun _ => False) w3 nq) id)
    have hf5 := (Fr.drewN (fun k => k = fb) w3 nq).trans (fset_fr (w3.drewN nq) fb 0 [.int .i64 id', .int .i64 run', .int .i64 list', .int .i64 num', .slice ao3 n3 cp3, .int .i64 task', .int .i64 at', .int .i64 bg', .int .i64 turn', .bool late', .bool asked', .map (some xm)])
    obtain ⟨w5, hw5⟩ : ∃ w5, fset (w3.drewN nq) fb 0 [.int .i64 id', .int .i64 run', .int .i64 list', .int .i64 num', .slice ao3 n3 cp3, .int .i64 task', .int .i64 at', .int .i64 bg', .int .i64 turn', .bool late', .bool asked', .map (some xm)] = w5 := ⟨_, rfl⟩
    rw [hw5] at hb5 hf5
    simp only [fset, Nat.zero_add, Nat.reduceAdd] at hw5
    rw [hw5]
    have HB5 := Lib.hid hb5
    have HF5 := Lib.hid hf5
    clear hw5 hb5 hf5
    clear x0 y0 z0 x1 y1 z1 x2 y2 z2 x3 y3 z3 x4 y4 z4 x5 y5 z5 x6 y6 z6 x7 y7 z7 x8 y8 z8 x9 y9 z9 x10 y10 z10 x11 y11 z11
    go_wp2_with fail
    go_ret2
    refine ⟨ov, _, _, xb, xm, w3, rfl, HSZ.out.1, HSZ.out.2, ⟨⟨ao3, cp3, vs3, HVL3.out, ?_, ?_, ?_⟩, HM3.out.fr HF5.out hne.symm, HOK3.out, ?_⟩, (HW3.out.mono fun _ e => e.elim).trans HF5.out, HF5.out, HP.out⟩
    · rw [HN3.out]; exact HB5.out
    · exact (HROW3.out.to (S' := fun k => k = fb ∨ k = xm) (fun k _ e => e.elim (fun e => .inl (.inl e)) (fun e => .inr (.inr e)))).fr (HF5.out.mono fun k e => .inl e)
    · exact (HDAT3.out.to (S' := fun k => k = fb ∨ k = xm) (fun k _ e => e.elim (fun e => .inl (.inl e)) (fun e => .inr (.inr e)))).fr (HF5.out.mono fun k e => .inl e)
    · show _ ≤ _; rw [HN3.out]; omega
set_option maxRecDepth 100000 in
set_option maxHeartbeats 2000000 in
theorem tryE (K : Nat) (HKE : ∀ args w, Sem.run Try.prog (callFunc K args) w = .ok (.enter K args) w) (caps : Array Value) (W : World) (fb mb : Nat) (s : FSt) (h : FL2 W fb mb s) (ao : Option Addr) (n cp : Nat) (now : Int)
    (hr : rightP s.l n now) (hs : statusK s.l = 1)
    (er : Int) (her : er ≠ 0) (HC : ∀ w xb xm, Fr (fun _ => False) W w → W.heap.size ≤ xb → W.heap.size ≤ xm → FL (fun k => (k = fb ∨ k = mb) ∨ k = xb ∨ k = xm) w xb xm s → Calls Try.prog K (#[.pointer (some ⟨xb, 0, none⟩)] ++ caps) w fun e w' => ∃ ov, e = .returned (.tuple #[ov, .int .i64 er]) ∧ (∃ ao cp, Blk w' xb 75 (fcells s (.slice ao s.l.length cp) (.map (some xm)))) ∧ Fr (fun k => k = xb ∨ k = xm) w w') :
    Calls Try.prog 40 #[.pointer (some ⟨fb, 0, none⟩), .slice ao n cp, .int .i64 now, .func (.func K) #[] caps] W fun e W' => e = .returned (.tuple #[.slice none 0 0, .int .i64 er]) ∧ Fr (fun _ => False) W W' := by
  have HR : ∀ w', Fr (fun _ => False) W w' → Calls Try.prog 37 #[.pointer (some ⟨fb, 0, none⟩), .slice ao n cp, .int .i64 now] w' fun e W' => e = .returned (.bool true) ∧ ∃ k, W' = w'.drewN k := fun w' hf => by
    have := right_any _ w' fb mb s (h.fr0 hf) ao n cp now
    rwa [rightB_true hr] at this
  have HT : ∀ w', Fr (fun _ => False) W w' → Calls Try.prog 16 #[.pointer (some ⟨fb, 0, none⟩)] w' fun e W' => e = .returned (.int .i64 1) ∧ w' = W' := fun w' hf => by
    have := status_any _ w' fb mb s (h.fr0 hf)
    rwa [hs] at this
  clear hr hs
  have HFL := Lib.hid h
  have HHR := Lib.hid HR
  have HHT := Lib.hid HT
  have HHC := Lib.hid HC
  clear h HR HT HC
  go_enter Try.func40, Try.ntmps40
  go_upto_region 3 with (first | (go_at_call 37; refine (HHR.out _ (Fr.refl _ W)).mono ?_; rintro e w1 ⟨rfl, z, rfl⟩) | go_in)
  have hf1 : Fr (fun _ => False) W (W.drewN z) := Fr.drewN _ W z
  obtain ⟨w1, hw1⟩ : ∃ w1, W.drewN z = w1 := ⟨_, rfl⟩
  rw [hw1] at hf1 ⊢
  have HF1 := Lib.hid hf1
  clear hw1 hf1
  go_upto_region 5 with (first | (go_at_call 16; refine (HHT.out _ HF1.out).mono ?_; rintro e w1' ⟨rfl, rfl⟩) | go_in)
  have HTW := Lib.hid (twin_any (fun k => k = fb ∨ k = mb) w1 (fun k e => by have := (HFL.out.fr0 HF1.out).lt; omega) fb mb s (HFL.out.fr0 HF1.out))
  go_upto_region 6 with (first | (go_at_call 22; refine HTW.out.mono ?_; rintro e w2 ⟨xb, xm, rfl, hxb, hxm, hx, hf2⟩) | go_in)
  have HF2 := Lib.hid (HF1.out.trans hf2)
  have hsz : W.heap.size ≤ xb ∧ W.heap.size ≤ xm := by have := HF1.out.size; omega
  have HSZ := Lib.hid hsz
  have HCC := Lib.hid (HHC.out w2 xb xm HF2.out hsz.1 hsz.2 hx)
  clear HTW hxb hxm hx hf2 HHC hsz HHT HHR HF1
  go_upto_region 7 with (fail)
  refine HCC.out.mono ?_
  rintro e w3 ⟨ov, rfl, ⟨ao3, cp3, hbx⟩, hf3⟩
  go_upto_region 7 with (fail)
  have hlt := HFL.out.lt
  have hszo := HSZ.out
  obtain ⟨ao0, cp0, _, _, hb0, _⟩ := HFL.out.f
  have hbf : Blk w3 fb 75 (fcells s (.slice ao0 s.l.length cp0) (.map (some mb))) := (hb0.fr HF2.out id).fr hf3 (by omega)
  have HW3 : Hid (Fr (fun _ => False) W w3) := Lib.hid ⟨hf3.os.trans HF2.out.os, hf3.tape.trans HF2.out.tape, hf3.output.trans HF2.out.output, Nat.le_trans HF2.out.size hf3.size, fun k hk _ => (hf3.block k (Nat.lt_of_lt_of_le hk HF2.out.size) (by omega)).trans (HF2.out.block k hk id)⟩
  obtain ⟨n0, hn0⟩ : ∃ n, s.l.length = n := ⟨_, rfl⟩
  rw [hn0] at hbf hbx
  have x4 := hbx.cell 4
  have y4 := hbf.cell 4
  simp only [fcells, List.getElem?_toArray, List.getElem?_cons_zero, List.getElem?_cons_succ] at x4 y4
  have p1 : (er != 0) = true := by simp [her]
  have p7 : ((n0 : Int) == n0) = true := by simp
  clear HCC HFL hf3 hlt hszo hb0 hbx hn0 hbf HF2
  go_quiet (fail)
  go_wp2_with fail
  go_ret2
  exact ⟨rfl, HW3.out.trans (Fr.drewN _ _ _)⟩
end Go.Proofs.Ytnkelaohcbdjnaa
