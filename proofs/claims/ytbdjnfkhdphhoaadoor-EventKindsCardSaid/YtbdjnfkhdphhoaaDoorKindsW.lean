/- EventKinds: the law. -/
import Derived.Test.YtbdjnfkhdphhoaaDoorL
import Derived.Deep.RegionHeld3
import Derived.OpenShut
import Derived.ProofKit
import Derived.ChangeOld
import Derived.Deep.Slices
import Derived.SizedLaws
set_option linter.unusedVariables false
set_option linter.unusedSimpArgs false
namespace Go.Proofs.YtbdjnfkhdphhoaaDoor
open Go.RowKit Go.Maps
set_option maxRecDepth 100000 in
set_option maxHeartbeats 2000000 in
theorem kinds_law (W : World) (hL : Laid W) (kd : Int) (e : Ev) : Calls Tryd.prog 3 #[.int .i64 kd, .agg (evc e)] W fun r W' => r = .returned (.bool true) ∧ Below W.heap.size W W' := by
  have hB := Blk.new W 24 (evc e)
  have hF : Fr (fun _ => False) W (W.alloc (.cells (evc e) 24)) := Fr.alloc _ _ _
  obtain ⟨w1, hw1⟩ : ∃ w1, W.alloc (.cells (evc e) 24) = w1 := ⟨_, rfl⟩
  rw [hw1] at hB hF
  have HL1 := Lib.hid (hL.fr hF id)
  obtain ⟨bb, hbb⟩ : ∃ b, W.heap.size = b := ⟨_, rfl⟩
  rw [hbb] at hB
  have HBB := Lib.hid hbb
  have HB := Lib.hid hB
  have HF := Lib.hid hF
  clear hB hF hL
  simp only [evc] at hw1
  rw [show Value.agg (evc e) = Value.agg #[.int .i64 e.k, .int .i64 e.at_, .int .i64 e.ref, .int .i64 e.id, .int .i64 e.list, .int .i64 e.n, .slice e.ao e.dl e.cp] from rfl]
  have HRT := Lib.hid (fun w => right_any w e)
  have HRR := Lib.hid (fun w => rright_any w e)
  simp only [evc] at HRT HRR
  go_enter Tryd.func3, Tryd.ntmps3
  go_upto_region 1 with (fail)
  try rw [hw1]
  try rw [hbb]
  clear hw1 hbb
  go_upto_region 3 with (first | (go_at_call 8; refine (known_any _ HL1.out).mono ?_; rintro r2 w2 ⟨rfl, hf2⟩) | go_in)
  have HF2 := Lib.hid (HF.out.trans hf2)
  have HB2 := Lib.hid (HB.out.fr hf2 id)
  clear hf2 HB HF HL1
  have c6 := HB2.out.cell 6
  simp only [evc, List.getElem?_toArray, List.getElem?_cons_zero, List.getElem?_cons_succ] at c6
  by_cases h1 : 8192 < e.dl
  · have p1 : decide (8192 < (e.dl : Int)) = true := decide_eq_true (by omega)
    have p2 : decide ((e.dl : Int) > 8192) = true := decide_eq_true (by omega)
    go_wp2
    go_ret
    exact ⟨rfl, HF2.out.below (Nat.le_refl _) (fun k e => e.elim)⟩
  have p1 : decide (8192 < (e.dl : Int)) = false := decide_eq_false (by omega)
  have p2 : decide ((e.dl : Int) > 8192) = false := decide_eq_false (by omega)
  go_upto_region 5 with (fail)
  clear c6 p1 p2 h1
  have FACT : Hid (∀ w', Fr (fun _ => False) w2 w' → w'.cell? ⟨bb, 0, none⟩ = some (.int .i64 e.k) ∧ w'.cell? ⟨bb, 1, none⟩ = some (.int .i64 e.at_) ∧ w'.cell? ⟨bb, 2, none⟩ = some (.int .i64 e.ref) ∧ w'.cell? ⟨bb, 3, none⟩ = some (.int .i64 e.id) ∧ w'.cell? ⟨bb, 4, none⟩ = some (.int .i64 e.list) ∧ w'.cell? ⟨bb, 5, none⟩ = some (.int .i64 e.n) ∧ w'.cell? ⟨bb, 6, none⟩ = some (.slice e.ao e.dl e.cp)) := Lib.hid (fun w' hf => by
    have h6 := HB2.out.fr hf id
    exact ⟨h6.cell 0, h6.cell 1, h6.cell 2, h6.cell 3, h6.cell 4, h6.cell 5, h6.cell 6⟩)
  obtain ⟨nm, hnm⟩ : ∃ m, nameS kd = m := ⟨_, rfl⟩
  obtain ⟨cb, hcb⟩ : ∃ m, closeB kd = m := ⟨_, rfl⟩
  obtain ⟨rb, hrb⟩ : ∃ m, rightB e = m := ⟨_, rfl⟩
  have H1 := Lib.hid (fun w' => name_any w' kd)
  have H2 := Lib.hid (fun w' => rname_any w' kd)
  have H3 := Lib.hid (fun w' => closes_any w' kd)
  have H4 := Lib.hid (fun w' => rcloses_any w' kd)
  rw [hnm] at H1 H2
  rw [hcb] at H3 H4
  rw [hrb] at HRT HRR
  have pm : (cb == cb) = true := by simp
  have pr : (rb == rb) = true := by simp
  clear hnm hcb hrb
  refine wp_region_held_drew (S := fun (w' : World) => w'.cell? ⟨bb, 0, none⟩ = some (.int .i64 e.k) ∧ w'.cell? ⟨bb, 1, none⟩ = some (.int .i64 e.at_) ∧ w'.cell? ⟨bb, 2, none⟩ = some (.int .i64 e.ref) ∧ w'.cell? ⟨bb, 3, none⟩ = some (.int .i64 e.id) ∧ w'.cell? ⟨bb, 4, none⟩ = some (.int .i64 e.list) ∧ w'.cell? ⟨bb, 5, none⟩ = some (.int .i64 e.n) ∧ w'.cell? ⟨bb, 6, none⟩ = some (.slice e.ao e.dl e.cp)) (by kernel_rfl) (FACT.out w2 (Fr.refl _ _)) (fun hHeld => ?_)
  refine wpAnyH_take (i := 0) (oi := _) (v := ?va0) rfl (by kernel_rfl) (by kernel_rfl) (by kernel_rfl) (fun _ _ _ h => h) (Or.inl ⟨by rfl, ?ya0⟩) (by assumption) ?ra0
  case ya0 => intro w1 hSw; obtain ⟨s1, s2, s3, s4, s5, s6, s7⟩ := hSw; go_simp; try with_reducible rfl
  try simp only [List.getElem_toArray, List.getElem_cons_zero, List.getElem_cons_succ, Act.put, List.setIfInBounds_toArray, List.set_cons_zero, List.set_cons_succ]
  refine wpAnyH_take (i := 2) (oi := _) (v := ?va2) rfl (by kernel_rfl) (by kernel_rfl) (by kernel_rfl) (fun _ _ _ h => h) (Or.inl ⟨by rfl, ?ya2⟩) (by assumption) ?ra2
  case ya2 => intro w1 hSw; obtain ⟨s1, s2, s3, s4, s5, s6, s7⟩ := hSw; go_simp; try with_reducible rfl
  try simp only [List.getElem_toArray, List.getElem_cons_zero, List.getElem_cons_succ, Act.put, List.setIfInBounds_toArray, List.set_cons_zero, List.set_cons_succ]
  refine wpAnyH_ready (rs := [1]) (by kernel_rfl) (by simp) ?_
  refine AllReadyH.cons (o := _) rfl (fun K hK => ?_) AllReadyH.nil
  rw [if_pos (by rfl)]
  try simp only [List.getElem_toArray, List.getElem_cons_zero, List.getElem_cons_succ]
  go_simp
  refine (H1.out _).mono ?_
  rintro r3 w3 ⟨rfl, hf3⟩
  have hf3' := (Fr.drewN (fun _ => False) w2 1).trans hf3
  refine hK.out _ _ (FACT.out w3 hf3') (fun hHeld2 => ?_)
  clear hK K
  try simp only [List.getElem_toArray, List.getElem_cons_zero, List.getElem_cons_succ, Act.put, List.setIfInBounds_toArray, List.set_cons_zero, List.set_cons_succ]
  refine wpAnyH_ready (rs := [3]) (by kernel_rfl) (by simp) ?_
  refine AllReadyH.cons (o := _) rfl (fun K hK => ?_) AllReadyH.nil
  rw [if_pos (by rfl)]
  try simp only [List.getElem_toArray, List.getElem_cons_zero, List.getElem_cons_succ]
  go_simp
  refine (H2.out _).mono ?_
  rintro r4 w4 ⟨rfl, hf4⟩
  have hf4' := hf3'.trans hf4
  refine hK.out _ _ (FACT.out w4 hf4') (fun hHeld3 => ?_)
  clear hK K
  try simp only [List.getElem_toArray, List.getElem_cons_zero, List.getElem_cons_succ, Act.put, List.setIfInBounds_toArray, List.set_cons_zero, List.set_cons_succ]
  refine wpAnyH_take (i := 4) (oi := _) (v := ?vb4) rfl (by kernel_rfl) (by kernel_rfl) (by kernel_rfl) (fun _ _ _ h => h) (Or.inl ⟨by rfl, ?yb4⟩) (by assumption) ?rb4
  case yb4 => intro w1 hSw; obtain ⟨s1, s2, s3, s4, s5, s6, s7⟩ := hSw; go_simp; try with_reducible rfl
  try simp only [List.getElem_toArray, List.getElem_cons_zero, List.getElem_cons_succ, Act.put, List.setIfInBounds_toArray, List.set_cons_zero, List.set_cons_succ]
  refine wpAnyH_take (i := 5) (oi := _) (v := ?vb5) rfl (by kernel_rfl) (by kernel_rfl) (by kernel_rfl) (fun _ _ _ h => h) (Or.inl ⟨by rfl, ?yb5⟩) (by assumption) ?rb5
  case yb5 => intro w1 hSw; obtain ⟨s1, s2, s3, s4, s5, s6, s7⟩ := hSw; go_simp; try with_reducible rfl
  try simp only [List.getElem_toArray, List.getElem_cons_zero, List.getElem_cons_succ, Act.put, List.setIfInBounds_toArray, List.set_cons_zero, List.set_cons_succ]
  refine wpAnyH_take (i := 6) (oi := _) (v := ?vb6) rfl (by kernel_rfl) (by kernel_rfl) (by kernel_rfl) (fun _ _ _ h => h) (Or.inl ⟨by rfl, ?yb6⟩) (by assumption) ?rb6
  case yb6 => intro w1 hSw; obtain ⟨s1, s2, s3, s4, s5, s6, s7⟩ := hSw; go_simp; try with_reducible rfl
  try simp only [List.getElem_toArray, List.getElem_cons_zero, List.getElem_cons_succ, Act.put, List.setIfInBounds_toArray, List.set_cons_zero, List.set_cons_succ]
  refine wpAnyH_take (i := 8) (oi := _) (v := ?vb8) rfl (by kernel_rfl) (by kernel_rfl) (by kernel_rfl) (fun _ _ _ h => h) (Or.inl ⟨by rfl, ?yb8⟩) (by assumption) ?rb8
  case yb8 => intro w1 hSw; obtain ⟨s1, s2, s3, s4, s5, s6, s7⟩ := hSw; go_simp; try with_reducible rfl
  try simp only [List.getElem_toArray, List.getElem_cons_zero, List.getElem_cons_succ, Act.put, List.setIfInBounds_toArray, List.set_cons_zero, List.set_cons_succ]
  refine wpAnyH_ready (rs := [7]) (by kernel_rfl) (by simp) ?_
  refine AllReadyH.cons (o := _) rfl (fun K hK => ?_) AllReadyH.nil
  rw [if_pos (by rfl)]
  try simp only [List.getElem_toArray, List.getElem_cons_zero, List.getElem_cons_succ]
  go_simp
  refine (H3.out _).mono ?_
  rintro r5 w5 ⟨rfl, rfl⟩
  refine hK.out _ _ (FACT.out w4 hf4') (fun hHeld4 => ?_)
  clear hK K
  try simp only [List.getElem_toArray, List.getElem_cons_zero, List.getElem_cons_succ, Act.put, List.setIfInBounds_toArray, List.set_cons_zero, List.set_cons_succ]
  refine wpAnyH_ready (rs := [9]) (by kernel_rfl) (by simp) ?_
  refine AllReadyH.cons (o := _) rfl (fun K hK => ?_) AllReadyH.nil
  rw [if_pos (by rfl)]
  try simp only [List.getElem_toArray, List.getElem_cons_zero, List.getElem_cons_succ]
  go_simp
  refine (H4.out _).mono ?_
  rintro r5 w5 ⟨rfl, rfl⟩
  refine hK.out _ _ (FACT.out w4 hf4') (fun hHeld5 => ?_)
  clear hK K
  try simp only [List.getElem_toArray, List.getElem_cons_zero, List.getElem_cons_succ, Act.put, List.setIfInBounds_toArray, List.set_cons_zero, List.set_cons_succ]
  refine wpAnyH_take (i := 10) (oi := _) (v := ?vc10) rfl (by kernel_rfl) (by kernel_rfl) (by kernel_rfl) (fun _ _ _ h => h) (Or.inl ⟨by rfl, ?yc10⟩) (by assumption) ?rc10
  case yc10 => intro w1 hSw; obtain ⟨s1, s2, s3, s4, s5, s6, s7⟩ := hSw; go_simp; try with_reducible rfl
  try simp only [List.getElem_toArray, List.getElem_cons_zero, List.getElem_cons_succ, Act.put, List.setIfInBounds_toArray, List.set_cons_zero, List.set_cons_succ]
  refine wpAnyH_take (i := 11) (oi := _) (v := ?vc11) rfl (by kernel_rfl) (by kernel_rfl) (by kernel_rfl) (fun _ _ _ h => h) (Or.inl ⟨by rfl, ?yc11⟩) (by assumption) ?rc11
  case yc11 => intro w1 hSw; obtain ⟨s1, s2, s3, s4, s5, s6, s7⟩ := hSw; go_simp; try with_reducible rfl
  try simp only [List.getElem_toArray, List.getElem_cons_zero, List.getElem_cons_succ, Act.put, List.setIfInBounds_toArray, List.set_cons_zero, List.set_cons_succ]
  refine wpAnyH_take (i := 12) (oi := _) (v := ?vc12) rfl (by kernel_rfl) (by kernel_rfl) (by kernel_rfl) (fun _ _ _ h => h) (Or.inl ⟨by rfl, ?yc12⟩) (by assumption) ?rc12
  case yc12 => intro w1 hSw; obtain ⟨s1, s2, s3, s4, s5, s6, s7⟩ := hSw; go_simp; try with_reducible rfl
  try simp only [List.getElem_toArray, List.getElem_cons_zero, List.getElem_cons_succ, Act.put, List.setIfInBounds_toArray, List.set_cons_zero, List.set_cons_succ]
  refine wpAnyH_take (i := 13) (oi := _) (v := ?vc13) rfl (by kernel_rfl) (by kernel_rfl) (by kernel_rfl) (fun _ _ _ h => h) (Or.inl ⟨by rfl, ?yc13⟩) (by assumption) ?rc13
  case yc13 => intro w1 hSw; obtain ⟨s1, s2, s3, s4, s5, s6, s7⟩ := hSw; go_simp; try with_reducible rfl
  try simp only [List.getElem_toArray, List.getElem_cons_zero, List.getElem_cons_succ, Act.put, List.setIfInBounds_toArray, List.set_cons_zero, List.set_cons_succ]
  refine wpAnyH_take (i := 15) (oi := _) (v := ?vc15) rfl (by kernel_rfl) (by kernel_rfl) (by kernel_rfl) (fun _ _ _ h => h) (Or.inl ⟨by rfl, ?yc15⟩) (by assumption) ?rc15
  case yc15 => intro w1 hSw; obtain ⟨s1, s2, s3, s4, s5, s6, s7⟩ := hSw; go_simp; try with_reducible rfl
  try simp only [List.getElem_toArray, List.getElem_cons_zero, List.getElem_cons_succ, Act.put, List.setIfInBounds_toArray, List.set_cons_zero, List.set_cons_succ]
  refine wpAnyH_ready (rs := [14]) (by kernel_rfl) (by simp) ?_
  refine AllReadyH.cons (o := _) rfl (fun K hK => ?_) AllReadyH.nil
  rw [if_pos (by rfl)]
  try simp only [List.getElem_toArray, List.getElem_cons_zero, List.getElem_cons_succ]
  go_simp
  refine (HRT.out _).mono ?_
  rintro r5 w5 ⟨rfl, hf5⟩
  have hf5' := hf4'.trans hf5
  refine hK.out _ _ (FACT.out w5 hf5') (fun hHeld6 => ?_)
  clear hK K
  try simp only [List.getElem_toArray, List.getElem_cons_zero, List.getElem_cons_succ, Act.put, List.setIfInBounds_toArray, List.set_cons_zero, List.set_cons_succ]
  refine wpAnyH_ready (rs := [16]) (by kernel_rfl) (by simp) ?_
  refine AllReadyH.cons (o := _) rfl (fun K hK => ?_) AllReadyH.nil
  rw [if_pos (by rfl)]
  try simp only [List.getElem_toArray, List.getElem_cons_zero, List.getElem_cons_succ]
  go_simp
  refine (HRR.out _).mono ?_
  rintro r6 w6 ⟨rfl, hf6⟩
  have hf6' := hf5'.trans hf6
  refine hK.out _ _ (FACT.out w6 hf6') (fun hHeld7 => ?_)
  clear hK K
  try simp only [List.getElem_toArray, List.getElem_cons_zero, List.getElem_cons_succ, Act.put, List.setIfInBounds_toArray, List.set_cons_zero, List.set_cons_succ]
  refine wpAnyH_take (i := 17) (oi := _) (v := ?vd17) rfl (by kernel_rfl) (by kernel_rfl) (by kernel_rfl) (fun _ _ _ h => h) (Or.inl ⟨by rfl, ?yd17⟩) (by assumption) ?rd17
  case yd17 => intro w1 hSw; obtain ⟨s1, s2, s3, s4, s5, s6, s7⟩ := hSw; go_simp; try with_reducible rfl
  try simp only [List.getElem_toArray, List.getElem_cons_zero, List.getElem_cons_succ, Act.put, List.setIfInBounds_toArray, List.set_cons_zero, List.set_cons_succ]
  refine wpAnyH_take (i := 18) (oi := _) (v := ?vd18) rfl (by kernel_rfl) (by kernel_rfl) (by kernel_rfl) (fun _ _ _ h => h) (Or.inl ⟨by rfl, ?yd18⟩) (by assumption) ?rd18
  case yd18 => intro w1 hSw; obtain ⟨s1, s2, s3, s4, s5, s6, s7⟩ := hSw; go_simp; try with_reducible rfl
  try simp only [List.getElem_toArray, List.getElem_cons_zero, List.getElem_cons_succ, Act.put, List.setIfInBounds_toArray, List.set_cons_zero, List.set_cons_succ]
  refine wpAnyH_take (i := 19) (oi := _) (v := ?vd19) rfl (by kernel_rfl) (by kernel_rfl) (by kernel_rfl) (fun _ _ _ h => h) (Or.inl ⟨by rfl, ?yd19⟩) (by assumption) ?rd19
  case yd19 => intro w1 hSw; obtain ⟨s1, s2, s3, s4, s5, s6, s7⟩ := hSw; go_simp; try with_reducible rfl
  try simp only [List.getElem_toArray, List.getElem_cons_zero, List.getElem_cons_succ, Act.put, List.setIfInBounds_toArray, List.set_cons_zero, List.set_cons_succ]
  refine wpAnyH_done (by kernel_rfl) ?_ _
  have HFE := Lib.hid (HF2.out.trans hf6')
  clear hHeld hHeld2 hHeld3 hHeld4 hHeld5 hHeld6 hHeld7 FACT hf3 hf3' hf4 hf4' hf5 hf5' hf6 hf6'
  go_wp2
  go_ret
  exact ⟨rfl, HFE.out.below (Nat.le_refl _) (fun k e => e.elim)⟩
end Go.Proofs.YtbdjnfkhdphhoaaDoor
