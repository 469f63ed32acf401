/- FlowDecisions: the law. -/
import Derived.Test.YtnkelaohcbdjnaaY
import Derived.Test.YtnkelaohcbdjnaaR
import Derived.Deep.RegionHeld3
import Derived.OpenShut
import Derived.ProofKit
import Derived.ChangeOld
import Derived.Deep.Slices
import Derived.SizedLaws
set_option linter.unusedVariables false
set_option linter.unusedSimpArgs false
namespace Go.Proofs.Ytnkelaohcbdjnaa
open Go.RowKit Go.ChangeShapes Go.WideShapes Go.ChangeAt
set_option maxRecDepth 100000 in
theorem dec_open {H : Type} {enc : TypeId × Value → H} {W : World} {r : Reach} {base : Nat} {v : Value} {d : DataW H} {p : List MemPlace} (hv : Value.okWide Try.prog W r base 24 v) (h : DataW.Trod enc Try.prog W 0 (fun _ => true) true 24 v d p) :
    ∃ (k i l n : Int) (ao : Option Addr) (dl cp : Nat), v = .agg #[.int .i64 k, .int .i64 i, .int .i64 l, .int .i64 n, .slice ao dl cp] := by
  have c3 : Try.prog.cellsOf 3 = 1 := by kernel_rfl
  have c22 : Try.prog.cellsOf 22 = 1 := by kernel_rfl
  have c24 : Try.prog.cellsOf 24 = 5 := by kernel_rfl
  obtain ⟨cs, rfl, hsz⟩ := okWide_struct Try.underlying24 hv
  obtain ⟨fuel, h⟩ := h
  obtain ⟨xs, m, _, _, hlen, hxl, hfs⟩ := DataW.trod_struct Try.underlying24 h
  obtain ⟨l⟩ := cs
  rw [c24] at hsz
  match l, hsz with
  | [a, b, c, d, e], _ =>
    have hx5 : xs.length = 5 := hxl
    have e0 : DataW.trod enc Try.prog W 0 (fun _ => true) true m 3 (([a, b, c, d, e].drop 0).take (Try.prog.cellsOf 3)) = xs[0]? := hfs 0 _ rfl
    rw [c3, List.getElem?_eq_getElem (by omega)] at e0
    obtain ⟨z0, hz0, _, _⟩ := DataW.trod_int under3 e0
    simp at hz0
    have e1 : DataW.trod enc Try.prog W 0 (fun _ => true) true m 3 (([a, b, c, d, e].drop 1).take (Try.prog.cellsOf 3)) = xs[1]? := hfs 1 _ rfl
    rw [c3, List.getElem?_eq_getElem (by omega)] at e1
    obtain ⟨z1, hz1, _, _⟩ := DataW.trod_int under3 e1
    simp at hz1
    have e2 : DataW.trod enc Try.prog W 0 (fun _ => true) true m 3 (([a, b, c, d, e].drop 2).take (Try.prog.cellsOf 3)) = xs[2]? := hfs 2 _ rfl
    rw [c3, List.getElem?_eq_getElem (by omega)] at e2
    obtain ⟨z2, hz2, _, _⟩ := DataW.trod_int under3 e2
    simp at hz2
    have e3 : DataW.trod enc Try.prog W 0 (fun _ => true) true m 3 (([a, b, c, d, e].drop 3).take (Try.prog.cellsOf 3)) = xs[3]? := hfs 3 _ rfl
    rw [c3, List.getElem?_eq_getElem (by omega)] at e3
    obtain ⟨z3, hz3, _, _⟩ := DataW.trod_int under3 e3
    simp at hz3
    have e4 : DataW.trod enc Try.prog W 0 (fun _ => true) true m 22 (([a, b, c, d, e].drop 4).take (Try.prog.cellsOf 22)) = xs[4]? := hfs 4 _ rfl
    rw [c22, List.getElem?_eq_getElem (by omega)] at e4
    have hE : ∃ (ao : Option Addr) (dl cp : Nat), e = .slice ao dl cp := by
      rcases Go.Deep.open_slice1 Try.underlying22 (by kernel_rfl) e4 with ⟨h0, _⟩ | ⟨A, len, cap, mm, nn, V, D, Pl, hcs, _⟩
      · simp at h0
        exact ⟨_, _, _, h0⟩
      · simp at hcs
        exact ⟨_, _, _, hcs⟩
    obtain ⟨ao, dl, cp, rfl⟩ := hE
    subst hz0 hz1 hz2 hz3
    exact ⟨z0, z1, z2, z3, ao, dl, cp, rfl⟩
set_option maxRecDepth 100000 in
set_option maxHeartbeats 2000000 in
theorem decisions_law (W : World) (k i l n : Int) (ao : Option Addr) (dl cp : Nat) : Calls Try.prog 3 #[.agg #[.int .i64 k, .int .i64 i, .int .i64 l, .int .i64 n, .slice ao dl cp]] W fun e W' => e = .returned (.bool true) ∧ Below W.heap.size W W' := by
  have hB := Blk.new W 24 #[.int .i64 k, .int .i64 i, .int .i64 l, .int .i64 n, .slice ao dl cp]
  have hF : Fr (fun _ => False) W (W.alloc (.cells #[.int .i64 k, .int .i64 i, .int .i64 l, .int .i64 n, .slice ao dl cp] 24)) := Fr.alloc _ _ _
  obtain ⟨w1, hw1⟩ : ∃ w1, W.alloc (.cells #[.int .i64 k, .int .i64 i, .int .i64 l, .int .i64 n, .slice ao dl cp] 24) = w1 := ⟨_, rfl⟩
  rw [hw1] at hB hF
  have HB := Lib.hid hB
  have HF := Lib.hid hF
  clear hB hF
  go_enter Try.func3, Try.ntmps3
  go_upto_region 1 with (fail)
  try rw [hw1]
  clear hw1
  go_upto_region 3 with (first | (go_at_call 8; refine (known_any _).mono ?_; rintro e w2 ⟨rfl, hf2⟩) | go_in)
  have hF2 := HF.out.trans hf2
  have HF2 := Lib.hid hF2
  have hB2 := HB.out.fr hf2 id
  obtain ⟨bb, hbb⟩ : ∃ b, W.heap.size = b := ⟨_, rfl⟩
  rw [hbb] at hB2 ⊢
  have HB2 := Lib.hid hB2
  have c0 := hB2.cell 0
  have c1 := hB2.cell 1
  have c2 := hB2.cell 2
  have c3 := hB2.cell 3
  have c4 := hB2.cell 4
  simp only [List.getElem?_toArray, List.getElem?_cons_zero, List.getElem?_cons_succ] at c0 c1 c2 c3 c4
  clear hF2 hf2 hB2 hbb HF HB
  by_cases h1 : 8192 < dl
  · have p1 : decide (8192 < (dl : Int)) = true := decide_eq_true (by omega)
    have p2 : decide ((dl : Int) > 8192) = true := decide_eq_true (by omega)
    go_wp2
    go_ret
    exact ⟨rfl, HF2.out.below (Nat.le_refl _) (fun k e => e.elim)⟩
  have p1 : decide (8192 < (dl : Int)) = false := decide_eq_false (by omega)
  have p2 : decide ((dl : Int) > 8192) = false := decide_eq_false (by omega)
  go_upto_region 5 with (fail)
  have FACT : Hid (∀ w', Fr (fun _ => False) w2 w' → w'.cell? ⟨bb, 0, none⟩ = some (.int .i64 k) ∧ w'.cell? ⟨bb, 1, none⟩ = some (.int .i64 i) ∧ w'.cell? ⟨bb, 2, none⟩ = some (.int .i64 l) ∧ w'.cell? ⟨bb, 3, none⟩ = some (.int .i64 n) ∧ w'.cell? ⟨bb, 4, none⟩ = some (.slice ao dl cp)) := Lib.hid (fun w' hf => by
    have h6 := HB2.out.fr hf id
    exact ⟨h6.cell 0, h6.cell 1, h6.cell 2, h6.cell 3, h6.cell 4⟩)
  obtain ⟨mb, hmb⟩ : ∃ m, mayB k i l n dl = m := ⟨_, rfl⟩
  have H1 := Lib.hid (fun w' => may9_any k i l n ao dl cp w')
  have H2 := Lib.hid (fun w' => may10_any k i l n ao dl cp w')
  rw [hmb] at H1 H2
  have pm : (mb == mb) = true := by simp
  refine wp_region_held_drew (S := fun (w' : World) => w'.cell? ⟨bb, 0, none⟩ = some (.int .i64 k) ∧ w'.cell? ⟨bb, 1, none⟩ = some (.int .i64 i) ∧ w'.cell? ⟨bb, 2, none⟩ = some (.int .i64 l) ∧ w'.cell? ⟨bb, 3, none⟩ = some (.int .i64 n) ∧ w'.cell? ⟨bb, 4, none⟩ = some (.slice ao dl cp)) (by kernel_rfl) (FACT.out w2 (Fr.refl _ _)) (fun hHeld => ?_)
  refine wpAnyH_take (i := 0) (oi := _) (v := ?va0) rfl (by kernel_rfl) (by kernel_rfl) (by kernel_rfl) (fun _ _ _ h => h) (Or.inl ⟨by rfl, ?ya0⟩) (by assumption) ?ra0
  case ya0 => intro w1 hSw; obtain ⟨s1, s2, s3, s4, s5⟩ := hSw; go_simp; try with_reducible rfl
  try simp only [List.getElem_toArray, List.getElem_cons_zero, List.getElem_cons_succ, Act.put, List.setIfInBounds_toArray, List.set_cons_zero, List.set_cons_succ]
  refine wpAnyH_take (i := 2) (oi := _) (v := ?va2) rfl (by kernel_rfl) (by kernel_rfl) (by kernel_rfl) (fun _ _ _ h => h) (Or.inl ⟨by rfl, ?ya2⟩) (by assumption) ?ra2
  case ya2 => intro w1 hSw; obtain ⟨s1, s2, s3, s4, s5⟩ := hSw; go_simp; try with_reducible rfl
  try simp only [List.getElem_toArray, List.getElem_cons_zero, List.getElem_cons_succ, Act.put, List.setIfInBounds_toArray, List.set_cons_zero, List.set_cons_succ]
  refine wpAnyH_ready (rs := [1]) (by kernel_rfl) (by simp) ?_
  refine AllReadyH.cons (o := _) rfl (fun K hK => ?_) AllReadyH.nil
  rw [if_pos (by rfl)]
  try simp only [List.getElem_toArray, List.getElem_cons_zero, List.getElem_cons_succ]
  go_simp
  refine (H1.out _).mono ?_
  rintro e w3 ⟨rfl, hf3⟩
  have hf3' := (Fr.drewN (fun _ => False) w2 1).trans hf3
  refine hK.out _ _ (FACT.out w3 hf3') (fun hHeld2 => ?_)
  clear hK K
  try simp only [List.getElem_toArray, List.getElem_cons_zero, List.getElem_cons_succ, Act.put, List.setIfInBounds_toArray, List.set_cons_zero, List.set_cons_succ]
  refine wpAnyH_ready (rs := [3]) (by kernel_rfl) (by simp) ?_
  refine AllReadyH.cons (o := _) rfl (fun K hK => ?_) AllReadyH.nil
  rw [if_pos (by rfl)]
  try simp only [List.getElem_toArray, List.getElem_cons_zero, List.getElem_cons_succ]
  go_simp
  refine (H2.out _).mono ?_
  rintro e w4 ⟨rfl, hf4⟩
  have hf4' := hf3'.trans hf4
  refine hK.out _ _ (FACT.out w4 hf4') (fun hHeld3 => ?_)
  clear hK K
  try simp only [List.getElem_toArray, List.getElem_cons_zero, List.getElem_cons_succ, Act.put, List.setIfInBounds_toArray, List.set_cons_zero, List.set_cons_succ]
  refine wpAnyH_take (i := 4) (oi := _) (v := ?va4) rfl (by kernel_rfl) (by kernel_rfl) (by kernel_rfl) (fun _ _ _ h => h) (Or.inl ⟨by rfl, ?ya4⟩) (by assumption) ?ra4
  case ya4 => intro w1 hSw; obtain ⟨s1, s2, s3, s4, s5⟩ := hSw; go_simp; try with_reducible rfl
  try simp only [List.getElem_toArray, List.getElem_cons_zero, List.getElem_cons_succ, Act.put, List.setIfInBounds_toArray, List.set_cons_zero, List.set_cons_succ]
  refine wpAnyH_take (i := 5) (oi := _) (v := ?va5) rfl (by kernel_rfl) (by kernel_rfl) (by kernel_rfl) (fun _ _ _ h => h) (Or.inl ⟨by rfl, ?ya5⟩) (by assumption) ?ra5
  case ya5 => intro w1 hSw; obtain ⟨s1, s2, s3, s4, s5⟩ := hSw; go_simp; try with_reducible rfl
  try simp only [List.getElem_toArray, List.getElem_cons_zero, List.getElem_cons_succ, Act.put, List.setIfInBounds_toArray, List.set_cons_zero, List.set_cons_succ]
  refine wpAnyH_done (by kernel_rfl) ?_ _
  have HFE := Lib.hid (HF2.out.trans hf4')
  clear hHeld hHeld2 hHeld3 FACT hf3 hf3' hf4 hf4'
  go_wp2
  go_ret
  exact ⟨rfl, HFE.out.below (Nat.le_refl _) (fun k e => e.elim)⟩
end Go.Proofs.Ytnkelaohcbdjnaa
