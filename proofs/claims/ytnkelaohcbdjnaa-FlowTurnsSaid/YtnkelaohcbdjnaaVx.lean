/- A decision that is done; Decide. -/
import Derived.Test.YtnkelaohcbdjnaaUx
import Derived.Test.YtnkelaohcbdjnaaSx
import Derived.Test.YtnkelaohcbdjnaaDx
import Derived.Deep.RegionHeld3
set_option linter.unusedVariables false
set_option linter.unusedSimpArgs false
namespace Go.Proofs.Ytnkelaohcbdjnaa
open Go.RowKit Go.Maps
theorem info40 : (Try.prog.info? 40).map (fun i => (i.zero, i.size, i.bytes)) = some (some (.agg #[.int .i64 0, .int .i64 0, .int .i64 0, .int .i64 0, .int .i64 0, .int .i64 0, .int .i64 0, .slice none 0 0]), 8, 80) := by kernel_rfl
/-- one row of eight, behind none -/
theorem appO {W : World} {ob : Nat} {cs : List Value} (hb : Blk W ob 40 cs.toArray) (h8 : cs.length = 8) (h1 : ∀ u ∈ cs, u.oneCell' = true) (ty : TypeId) :
    ∃ g cp' W', (Builtin.append_ #[28, 28] ty #[.slice none 0 0, .slice (some ⟨ob, 0, none⟩) 1 1]).run Try.prog W = .ok (.slice (some ⟨g, 0, none⟩) 1 cp') W' ∧ W.heap.size ≤ g ∧ 1 ≤ cp' ∧ cp' ≤ maxLen ∧ (∀ j u, cs[j]? = some u → W'.cell? ⟨g, j, none⟩ = some u) ∧ Fr (fun _ => False) W W' := by
  obtain ⟨i0, hi, hz0, hz1, hz2⟩ := info_parts info40
  obtain ⟨v', W', hrun, r1, r2, _⟩ := run_append_own (P := Try.prog) W W.heap.size 28 ty 40 i0 _ 8 80 Try.underlying28 hi hz0 hz1 hz2 rfl (by decide) (.slice none 0 0) 0 [] (World.ownsRow_nil W _ 40 8) ⟨ob, 0, none⟩ 1 1 cs (by omega) (fun j u hj => by rw [off_add, Nat.zero_add, hb.cell]; simpa using hj) h1 (by unfold maxLen; omega) (by omega) (Nat.le_refl _)
  have hcs := r1
  rcases r1.2 with ⟨_, h0⟩ | ⟨g, cp', cur, rfl, hb2, hgb, hnc, hcm, _, _⟩
  · omega
  · refine ⟨g, cp', W', hrun, hb2, hnc, hcm, fun j u hj => ?_, Fr.grown r2 (fun k e => nomatch e)⟩
    have hjl := (List.getElem?_eq_some_iff.1 hj).1
    have := hcs.cellAt j (by omega)
    rw [List.nil_append] at this
    exact this.trans hj
/-- a task that was decided -/
def decided (s : FSt) (now : Int) : FSt := { s with task := 0, turn := 0, l := s.l ++ [⟨4, now, s.bg, 0, 0, 0, []⟩] }
/-- what the decisions' call leaves of the twin -/
def Dec1Out_5 (S : Nat → Prop) (W : World) (xb xm : Nat) (s : FSt) (now : Int) (ds : List Value) (e : Ending) (W' : World) : Prop :=
  ∃ (g cp : Nat), e = .returned (.tuple #[.slice (some ⟨g, 0, none⟩) 1 cp, .int .i64 0]) ∧ W.heap.size ≤ g ∧ 1 ≤ cp ∧ cp ≤ maxLen ∧ W'.cell? ⟨g, 0, none⟩ = some (.int .i64 7) ∧ FL S W' xb xm (shut (decided s now) 20 now ds) ∧ Fr (fun k => k = xb ∨ k = xm) W W'
set_option maxRecDepth 100000 in
set_option maxHeartbeats 4000000 in
theorem dec1_5 (S : Nat → Prop) (W : World) (hS : ∀ k, S k → k < W.heap.size) (xb xm : Nat) (s : FSt) (h : FL S W xb xm s) (hf : S xb) (hfm : S xm) (hl : s.l.length ≤ 40000) (now ref turn : Int) (rb tb lx nb lb : Nat) (ao : Option Addr) (dl cp : Nat) (ds : List Value)
    (hrb : Blk W rb 3 #[.int .i64 ref]) (htb : Blk W tb 3 #[.int .i64 turn]) (hlx : Blk W lx 37 #[.slice (some ⟨lb, 0, none⟩) 1 1]) (hnb : Blk W nb 3 #[.int .i64 now]) (hlb : Blk W lb 24 #[.int .i64 5, .int .i64 0, .int .i64 0, .int .i64 0, .slice ao dl cp])
    (hne : ∀ b, b = rb ∨ b = tb ∨ b = lx ∨ b = nb ∨ b = lb → ¬ S b) (hd : RowB S W (.slice ao dl cp) ds) (hdl : dl ≤ 4096) (hdn : ds.length = dl) (hd1 : ∀ u ∈ ds, u.oneCell' = true)
    (h0 : s.task = 2 ∧ s.at_ = ref ∧ s.turn = turn) (hlate : s.late = false) (hmc : s.mc = 0) (hmp : s.mp = fun _ => none) :
    Calls Try.prog 45 #[.pointer (some ⟨xb, 0, none⟩), .pointer (some ⟨rb, 0, none⟩), .pointer (some ⟨tb, 0, none⟩), .pointer (some ⟨lx, 0, none⟩), .pointer (some ⟨nb, 0, none⟩)] W fun e W' => Dec1Out_5 S W xb xm s now ds e W' := by
  obtain ⟨ht, ha, htu⟩ := h0
  obtain ⟨ao2, cp2, _, _, hx, _⟩ := h.f
  have x5 := hx.cell 5
  have x6 := hx.cell 6
  have x8 := hx.cell 8
  have r0 := hrb.cell 0
  have t0 := htb.cell 0
  simp only [fcells, ht, ha, htu, List.getElem?_toArray, List.getElem?_cons_zero, List.getElem?_cons_succ] at x5 x6 x8 r0 t0
  have p1 : (ref != ref) = false := by simp
  have p2 : (turn != turn) = false := by simp
  have HS := Lib.hid hS
  have HFL := Lib.hid h
  have HRB := Lib.hid hrb
  have HTB := Lib.hid htb
  have HLX := Lib.hid hlx
  have HNB := Lib.hid hnb
  have HLB := Lib.hid hlb
  have HNE := Lib.hid hne
  have HD := Lib.hid hd
  have HDN := Lib.hid hdn
  have HD1 := Lib.hid hd1
  have HBAD := Lib.hid (fun w' (hf : Fr (fun _ => False) W w') => bad5_any S w' xb xm s (h.fr0 hf) lb ao dl cp (hlb.fr hf id) hdl hmc hmp)
  have HLATE := Lib.hid hlate
  clear hmc hmp
  clear h hx hrb htb hlx hnb hlb hne hd hdn hd1 hS ht ha htu hlate
  go_enter Try.func45, Try.ntmps45
  go_upto_region 1 with (fail)
  go_quiet (fail)
  clear x5 x6 x8 p1 p2 r0 t0
  have hf1 : Fr (fun _ => False) W (W.drewN nq) := Fr.drewN _ W nq
  obtain ⟨w1, hw1⟩ : ∃ w1, W.drewN nq = w1 := ⟨_, rfl⟩
  rw [hw1] at hf1 ⊢
  have HF1 := Lib.hid hf1
  have l0 := (HLX.out.fr hf1 id).cell 0
  simp only [List.getElem?_toArray, List.getElem?_cons_zero] at l0
  clear hw1 hf1
  go_upto_region 5 with (first | (go_at_call 46; refine (HBAD.out _ HF1.out).mono ?_; rintro e w2 ⟨rfl, hf2⟩) | go_in)
  have HF2 := Lib.hid (HF1.out.trans hf2)
  clear HBAD l0 hf2 HF1
  obtain ⟨ao2, cp2, _, _, hx, _⟩ := HFL.out.fr0 HF2.out |>.f
  have x7 := hx.cell 7
  have x9 := hx.cell 9
  simp only [fcells, HLATE.out, List.getElem?_toArray, List.getElem?_cons_zero, List.getElem?_cons_succ] at x7 x9
  have l0 : w2.cell? ⟨lx, 0, none⟩ = some (.slice (some ⟨lb, 0, none⟩) 1 1) := (HLX.out.fr HF2.out id).cell 0
  have n0 : w2.cell? ⟨nb, 0, none⟩ = some (.int .i64 now) := (HNB.out.fr HF2.out id).cell 0
  have HP := Lib.hid (fun w' (hf3 : Fr (fun _ => False) w2 w') => put4_any S w' (fun k e => Nat.lt_of_lt_of_le (HS.out k e) (Nat.le_trans HF2.out.size hf3.size)) xb xm s (HFL.out.fr0 (HF2.out.trans hf3)) hf (by omega) now s.bg 0 0 0 (.slice none 0 0) [] (RowB.nil _ _) (by simp) (by simp))
  clear hx
  go_upto_region 8 with (fail)
  refine wp_region_held_drew (S := fun (w' : World) => w'.cell? ⟨nb, 0, none⟩ = some (.int .i64 now) ∧ w'.cell? ⟨xb, 7, none⟩ = some (.int .i64 s.bg)) (by kernel_rfl) ⟨n0, x7⟩ (fun hHeld => ?_)
  refine wpAnyH_take (i := 0) (oi := _) (v := ?va0) rfl (by kernel_rfl) (by kernel_rfl) (by kernel_rfl) (fun _ _ _ h => h) (Or.inl ⟨by rfl, ?ya0⟩) (by assumption) ?ra0
  case ya0 => intro w1 hSw; obtain ⟨s1, s2⟩ := hSw; go_simp; try with_reducible rfl
  try simp only [List.getElem_toArray, List.getElem_cons_zero, List.getElem_cons_succ, Act.put, List.setIfInBounds_toArray, List.set_cons_zero, List.set_cons_succ]
  refine wpAnyH_take (i := 1) (oi := _) (v := ?va1) rfl (by kernel_rfl) (by kernel_rfl) (by kernel_rfl) (fun _ _ _ h => h) (Or.inl ⟨by rfl, ?ya1⟩) (by assumption) ?ra1
  case ya1 => intro w1 hSw; obtain ⟨s1, s2⟩ := hSw; go_simp; try with_reducible rfl
  try simp only [List.getElem_toArray, List.getElem_cons_zero, List.getElem_cons_succ, Act.put, List.setIfInBounds_toArray, List.set_cons_zero, List.set_cons_succ]
  refine wpAnyH_take (i := 2) (oi := _) (v := ?va2) rfl (by kernel_rfl) (by kernel_rfl) (by kernel_rfl) (fun _ _ _ h => h) (Or.inl ⟨by rfl, ?ya2⟩) (by assumption) ?ra2
  case ya2 => intro w1 hSw; obtain ⟨s1, s2⟩ := hSw; go_simp; try with_reducible rfl
  try simp only [List.getElem_toArray, List.getElem_cons_zero, List.getElem_cons_succ, Act.put, List.setIfInBounds_toArray, List.set_cons_zero, List.set_cons_succ]
  refine wpAnyH_take (i := 3) (oi := _) (v := ?va3) rfl (by kernel_rfl) (by kernel_rfl) (by kernel_rfl) (fun _ _ _ h => h) (Or.inl ⟨by rfl, ?ya3⟩) (by assumption) ?ra3
  case ya3 => intro w1 hSw; obtain ⟨s1, s2⟩ := hSw; go_simp; try with_reducible rfl
  try simp only [List.getElem_toArray, List.getElem_cons_zero, List.getElem_cons_succ, Act.put, List.setIfInBounds_toArray, List.set_cons_zero, List.set_cons_succ]
  refine wpAnyH_take (i := 4) (oi := _) (v := ?va4) rfl (by kernel_rfl) (by kernel_rfl) (by kernel_rfl) (fun _ _ _ h => h) (Or.inl ⟨by rfl, ?ya4⟩) (by assumption) ?ra4
  case ya4 => intro w1 hSw; obtain ⟨s1, s2⟩ := hSw; go_simp; try with_reducible rfl
  try simp only [List.getElem_toArray, List.getElem_cons_zero, List.getElem_cons_succ, Act.put, List.setIfInBounds_toArray, List.set_cons_zero, List.set_cons_succ]
  refine wpAnyH_take (i := 5) (oi := _) (v := ?va5) rfl (by kernel_rfl) (by kernel_rfl) (by kernel_rfl) (fun _ _ _ h => h) (Or.inl ⟨by rfl, ?ya5⟩) (by assumption) ?ra5
  case ya5 => intro w1 hSw; obtain ⟨s1, s2⟩ := hSw; go_simp; try with_reducible rfl
  try simp only [List.getElem_toArray, List.getElem_cons_zero, List.getElem_cons_succ, Act.put, List.setIfInBounds_toArray, List.set_cons_zero, List.set_cons_succ]
  refine wpAnyH_take (i := 6) (oi := _) (v := ?va6) rfl (by kernel_rfl) (by kernel_rfl) (by kernel_rfl) (fun _ _ _ h => h) (Or.inl ⟨by rfl, ?ya6⟩) (by assumption) ?ra6
  case ya6 => intro w1 hSw; obtain ⟨s1, s2⟩ := hSw; go_simp; try with_reducible rfl
  try simp only [List.getElem_toArray, List.getElem_cons_zero, List.getElem_cons_succ, Act.put, List.setIfInBounds_toArray, List.set_cons_zero, List.set_cons_succ]
  refine wpAnyH_ready (rs := [7]) (by kernel_rfl) (by simp) ?_
  refine AllReadyH.cons (o := _) rfl (fun K hK => ?_) AllReadyH.nil
  rw [if_pos (by rfl)]
  try simp only [List.getElem_toArray, List.getElem_cons_zero, List.getElem_cons_succ]
  go_simp
  refine (HP.out _ (Fr.drewN _ w2 1)).mono ?_
  rintro e w3 ⟨rfl, hfl3, hf3⟩
  have hf3' : Fr (fun k => k = xb) W w3 := (HF2.out.mono fun _ e => e.elim).trans (((Fr.drewN (fun _ => False) w2 1).mono fun _ e => e.elim).trans hf3)
  have HFL3 : Hid (FL S w3 xb xm (decided s now)) := Lib.hid hfl3
  have HF3 := Lib.hid hf3'
  have HQ : Hid (∀ b, b = rb ∨ b = tb ∨ b = lx ∨ b = nb ∨ b = lb → b ≠ xb) := Lib.hid (fun b hb e => HNE.out b hb (e ▸ hf))
  have m0 : w3.cell? ⟨nb, 0, none⟩ = some (.int .i64 now) := (HNB.out.fr hf3' (HQ.out nb (by simp))).cell 0
  have k0 : w3.cell? ⟨lx, 0, none⟩ = some (.slice (some ⟨lb, 0, none⟩) 1 1) := (HLX.out.fr hf3' (HQ.out lx (by simp))).cell 0
  have x73 : w3.cell? ⟨xb, 7, none⟩ = some (.int .i64 s.bg) := by obtain ⟨_, _, _, _, hx, _⟩ := hfl3.f; exact hx.cell 7
  clear hf3 hf3' hfl3 HP l0 n0 x7 x9
  refine hK.out _ _ ⟨m0, x73⟩ (fun hHeld2 => ?_)
  clear hK K
  try simp only [List.getElem_toArray, List.getElem_cons_zero, List.getElem_cons_succ, Act.put, List.setIfInBounds_toArray, List.set_cons_zero, List.set_cons_succ]
  refine wpAnyH_done (by kernel_rfl) ?_ _
  clear hHeld hHeld2 x73 m0
  go_wp2_with fail
  have HDONE := Lib.hid (fun w' (hf4 : Fr (fun _ => False) w3 w') => done5 S w' (fun k e => Nat.lt_of_lt_of_le (HS.out k e) (Nat.le_trans HF3.out.size hf4.size)) xb xm _ (HFL3.out.fr0 hf4) hf hfm (by simp [decided]; omega) now ao dl cp ds (((HD.out.fr (HF3.out.mono fun k e => e ▸ hf)).fr (hf4.mono fun _ e => e.elim)).to (fun k _ e => e.elim)) (by have := HDN.out; omega) HD1.out)
  go_loopw [9, 78] (fun ov kv wr => (kv = .int .i64 0 ∧ ov = .slice none 0 0 ∧ wr = w3) ∨ (kv = .int .i64 1 ∧ ∃ (g cp : Nat), ov = .slice (some ⟨g, 0, none⟩) 1 cp ∧ W.heap.size ≤ g ∧ 1 ≤ cp ∧ cp ≤ maxLen ∧ wr.cell? ⟨g, 0, none⟩ = some (.int .i64 7) ∧ FL S wr xb xm (shut (decided s now) 20 now ds) ∧ Fr (fun k => k = xb ∨ k = xm) W wr)) (fun _ kv _ => 1 - (intOf kv).toNat)
  case atStart => exact .inl ⟨rfl, rfl, rfl⟩
  case round =>
    rcases hrel with ⟨rfl, rfl, rfl⟩ | ⟨rfl, g, cp3, rfl, hg, hc1, hc2, hcell, hfl, hfr⟩
    · have b := HLB.out.fr HF3.out (HQ.out lb (by simp))
      have b0 := b.cell 0
      have b1 := b.cell 1
      have b2 := b.cell 2
      have b3 := b.cell 3
      have b4 := b.cell 4
      simp only [List.getElem?_toArray, List.getElem?_cons_zero, List.getElem?_cons_succ] at b0 b1 b2 b3 b4
      clear b
      go_upto_region 13 with (fail)
      have hfA : Fr (fun _ => False) wr (wr.alloc (.cells #[.int .i64 5, .int .i64 0, .int .i64 0, .int .i64 0, .slice ao dl cp] 24)) := Fr.alloc _ _ _
      have hB := Blk.new wr 24 #[.int .i64 5, .int .i64 0, .int .i64 0, .int .i64 0, .slice ao dl cp]
      obtain ⟨w4, hw4⟩ : ∃ w4, wr.alloc (.cells #[.int .i64 5, .int .i64 0, .int .i64 0, .int .i64 0, .slice ao dl cp] 24) = w4 := ⟨_, rfl⟩
      rw [hw4] at hfA hB ⊢
      obtain ⟨tt, htt⟩ : ∃ b, wr.heap.size = b := ⟨_, rfl⟩
      rw [htt] at hB ⊢
      have b0 := hB.cell 0
      have b1 := hB.cell 1
      have b2 := hB.cell 2
      have b3 := hB.cell 3
      have b4 := hB.cell 4
      simp only [List.getElem?_toArray, List.getElem?_cons_zero, List.getElem?_cons_succ] at b0 b1 b2 b3 b4
      have n4 : w4.cell? ⟨nb, 0, none⟩ = some (.int .i64 now) := ((HNB.out.fr HF3.out (HQ.out nb (by simp))).fr hfA id).cell 0
      have HFA := Lib.hid hfA
      clear hw4 htt hfA hB k0
      go_wp2_with (first
        | (go_at_call 48; refine (HDONE.out w4 HFA.out).mono ?_; rintro e w5 ⟨ob, v2, rfl, hob, hbo, hrb5, hfl5, hf5⟩; have hone : v2.oneCell' = true := (by obtain ⟨_, _, rfl, _⟩ := hrb5; rfl); obtain ⟨g, cp4, w6, hrun, hg, hc1, hc2, hcell, hf6⟩ := appO hbo rfl (by intro u hu; simp at hu; rcases hu with rfl | rfl | rfl | rfl <;> first | rfl | exact hone) 28)
        | (at_builtin; refine wpList_plain rfl (fun K hK => ?_); refine upon_append rfl (by rfl) (by rfl) hrun (hK _ _ ?_); clear hK K)
        | go_in)
      refine ⟨.inr ⟨rfl, g, cp4, rfl, Nat.le_trans HF3.out.size (Nat.le_trans HFA.out.size (Nat.le_trans hf5.size hg)), hc1, hc2, hcell 0 _ rfl, hfl5.fr0 hf6, ?_⟩, by simp [intOf]⟩
      exact (((HF3.out.mono fun k e => .inl e).trans (HFA.out.mono fun _ e => e.elim)).trans hf5).trans (hf6.mono fun _ e => e.elim)
    · clear k0
      have HFL2 := Lib.hid hfl
      have HFR2 := Lib.hid hfr
      have HCC := Lib.hid hcell
      clear hfl hfr hcell
      go_wp2
      go_ret2
      exact ⟨g, cp3, rfl, hg, hc1, hc2, HCC.out, HFL2.out, HFR2.out⟩
end Go.Proofs.Ytnkelaohcbdjnaa
