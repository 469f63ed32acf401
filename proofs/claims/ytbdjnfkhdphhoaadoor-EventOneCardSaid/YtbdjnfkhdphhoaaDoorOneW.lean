/- EventOne: the law. -/
import Derived.Test.YtbdjnfkhdphhoaaDoorM2
import Derived.Test.YtbdjnfkhdphhoaaDoorI
import Derived.Deep.RegionHeld3
set_option linter.unusedVariables false
set_option linter.unusedSimpArgs false
namespace Go.Proofs.YtbdjnfkhdphhoaaDoor
open Go.RowKit Go.Maps
/-- an append, out of its run -/
theorem wp_append_run1 {P : Program} {o : Oper} {a : Act} {K : Act → World → Prop} {Q : Exit → Act → World → Prop} {w w' : World} (s x : Operand) (t : TypeId) (ho : o.op = .call { callee := .builtin .append, args := #[s, x], argTypes := #[t, t] }) (v y r : Value) (hs : a.eval s = v) (hx : a.eval x = y)
    (hr : (Builtin.append_ #[t, t] o.type #[v, y]).run P w = .ok r w') (h : K (a.put o.dst r) w') : o.wp P a w K Q := by
  unfold Oper.wp execOp
  simp only [ho, resolve, invoke, builtin, Sem.run_bind, Sem.run_pure, Result.andThen_ok, List.map_toArray, List.map_cons, List.map_nil, hs, hx, hr]
  exact h
set_option maxRecDepth 100000 in
set_option maxHeartbeats 8000000 in
theorem one_law (W : World) (hL : Laid W) (ao : Option Addr) (len cp : Nat) (l : List Ev) (hlen : l.length = len) (hrow : RowV W ao l) (hd : DataOk W l) (hcp : len ≤ cp) (hcm : cp ≤ 9223372036854775807) (e : Ev) :
    Calls Tryd.prog 4 #[.slice ao len cp, .agg (evc e)] W fun r W' => r = .returned (.bool true) ∧ Below W.heap.size W W' := by
  subst hlen
  obtain ⟨N, hN⟩ : ∃ N, W.heap.size = N := ⟨_, rfl⟩
  have hB := Blk.new W 24 (evc e)
  have hF : Fr (fun _ => False) W (W.alloc (.cells (evc e) 24)) := Fr.alloc _ _ _
  obtain ⟨w1, hw1⟩ : ∃ w1, W.alloc (.cells (evc e) 24) = w1 := ⟨_, rfl⟩
  rw [hw1] at hB hF
  have HL1 := Lib.hid (hL.fr hF id)
  rw [hN] at hB
  have HB1 := Lib.hid hB
  have HF1 := Lib.hid hF
  have HR1 := Lib.hid (hrow.fr hF (fun k e => e.elim))
  have HCP := Lib.hid (And.intro hcp hcm)
  clear hB hF hL hrow hd hcp hcm
  have HNN := Lib.hid hN
  simp only [evc] at hw1
  rw [show Value.agg (evc e) = Value.agg #[.int .i64 e.k, .int .i64 e.at_, .int .i64 e.ref, .int .i64 e.id, .int .i64 e.list, .int .i64 e.n, .slice e.ao e.dl e.cp] from rfl]
  obtain ⟨len, hlen⟩ : ∃ len, l.length = len := ⟨_, rfl⟩
  rw [hlen] at HCP
  have HLEN := Lib.hid hlen
  simp only [hlen]
  go_enter Tryd.func4, Tryd.ntmps4
  go_upto_region 1 with (fail)
  try rw [hw1]
  try rw [hN]
  clear hw1 hN hlen
  go_upto_region 3 with (first | (go_at_call 8; refine (known_any _ HL1.out).mono ?_; rintro r2 w2 ⟨rfl, hf2⟩) | go_in)
  have HF2 := Lib.hid (HF1.out.trans hf2)
  have HB2 := Lib.hid (HB1.out.fr hf2 id)
  have HR2 := Lib.hid (HR1.out.fr hf2 (fun k e => e.elim))
  have HL2 := Lib.hid (HL1.out.fr hf2 id)
  clear hf2 HF1 HB1 HR1 HL1
  have HFEW := Lib.hid (few_any w2 ao cp l HR2.out (by have := HCP.out; have := HLEN.out; omega))
  rw [HLEN.out] at HFEW
  have c6 := HB2.out.cell 6
  simp only [evc, List.getElem?_toArray, List.getElem?_cons_zero, List.getElem?_cons_succ] at c6
  have HEND := Lib.hid (HF2.out.below (Nat.le_refl _) (fun k e => e.elim))
  by_cases h1 : 60 < len
  · have p1 : decide (60 < len) = true := decide_eq_true (by omega)
    have p1' : decide (60 < (len : Int)) = true := decide_eq_true (by omega)
    go_wp2_with (first | (go_at_call 15; refine HFEW.out.mono ?_; rintro r3 w3 ⟨q, rfl, rfl, hq⟩; clear hq; cases q) | go_in)
    all_goals (go_wp2; go_ret; exact ⟨rfl, HEND.out⟩)
  have p1 : decide (60 < len) = false := decide_eq_false (by omega)
  have p1' : decide (60 < (len : Int)) = false := decide_eq_false (by omega)
  by_cases h2 : 5000 < e.dl
  · have p2 : decide (5000 < e.dl) = true := decide_eq_true (by omega)
    have p2' : decide (5000 < (e.dl : Int)) = true := decide_eq_true (by omega)
    go_wp2_with (first | (go_at_call 15; refine HFEW.out.mono ?_; rintro r3 w3 ⟨q, rfl, rfl, hq⟩; clear hq; cases q) | go_in)
    all_goals (go_wp2; go_ret; exact ⟨rfl, HEND.out⟩)
  have p2 : decide (5000 < e.dl) = false := decide_eq_false (by omega)
  have p2' : decide (5000 < (e.dl : Int)) = false := decide_eq_false (by omega)
  have H60 : Hid (len ≤ 60) := Lib.hid (by omega)
  clear h1 h2
  by_cases hg : Good l l.length
  case neg =>
    have HCK := Lib.hid (check_bad w2 ao cp len l HR2.out HLEN.out (by have := H60.out; omega) hg)
    go_wp2_with (first | (go_at_call 15; refine HFEW.out.mono ?_; rintro r3 w3 ⟨q, rfl, rfl, hq⟩; clear hq; cases q) | (go_at_call 16; refine HCK.out.mono ?_; rintro r4 w4 ⟨p, rfl, hf4⟩) | go_in)
    · go_wp2
      go_ret
      exact ⟨rfl, HEND.out⟩
    · go_wp2_with (first | (go_at_call 16; refine HCK.out.mono ?_; rintro r4 w4 ⟨p, rfl, hf4⟩) | go_in)
      go_ret
      exact ⟨rfl, (HF2.out.trans hf4).below (Nat.le_refl _) (fun k e => e.elim)⟩
  have HG := Lib.hid hg
  have HCK := Lib.hid (check_good w2 ao cp len l HR2.out HLEN.out (by have := H60.out; omega) hg)
  go_wp2_with fail
  refine HFEW.out.mono ?_
  rintro r3 w3 ⟨q, rfl, rfl, hq⟩
  clear hq hg
  cases q with
  | false =>
    go_wp2
    go_ret
    exact ⟨rfl, HEND.out⟩
  | true =>
  clear HFEW HEND
  go_upto_region 5 with (first | (go_at_call 16; refine HCK.out.mono ?_; rintro r4 w4 ⟨rfl, hf4⟩) | go_in)
  clear p1 p2 p1' p2' c6
  have HF7 := Lib.hid (HF2.out.trans hf4)
  have HB7 := Lib.hid (HB2.out.fr hf4 id)
  have HR7 := Lib.hid (HR2.out.fr hf4 (fun k e => e.elim))
  have HL7 := Lib.hid (HL2.out.fr hf4 id)
  clear hf4 HF2 HB2 HR2 HL2 HCK
  have hfd : Fr (fun _ => False) w4 w4.drew := Fr.drewN _ w4 1
  obtain ⟨w8, hw8⟩ : ∃ w, w4.drew = w := ⟨_, rfl⟩
  rw [hw8] at hfd
  have HF8 := Lib.hid (HF7.out.trans hfd)
  have HB8 := Lib.hid (HB7.out.fr hfd id)
  have HL8 := Lib.hid (HL7.out.fr hfd id)
  have HR8 := Lib.hid (HR7.out.fr hfd (fun k e => e.elim))
  have FACT : Hid (∀ w', Fr (fun k => w8.heap.size ≤ k) w8 w' → w'.cell? ⟨N, 0, none⟩ = some (.int .i64 e.k) ∧ w'.cell? ⟨N, 1, none⟩ = some (.int .i64 e.at_) ∧ w'.cell? ⟨N, 2, none⟩ = some (.int .i64 e.ref) ∧ w'.cell? ⟨N, 3, none⟩ = some (.int .i64 e.id) ∧ w'.cell? ⟨N, 4, none⟩ = some (.int .i64 e.list) ∧ w'.cell? ⟨N, 5, none⟩ = some (.int .i64 e.n) ∧ w'.cell? ⟨N, 6, none⟩ = some (.slice e.ao e.dl e.cp)) := Lib.hid (fun w' hf => by
    have h6 := HB8.out.fr hf (by have := HB8.out.lt; omega)
    exact ⟨h6.cell 0, h6.cell 1, h6.cell 2, h6.cell 3, h6.cell 4, h6.cell 5, h6.cell 6⟩)
  refine wp_region_held_drew (S := fun (w' : World) => w'.cell? ⟨N, 0, none⟩ = some (.int .i64 e.k) ∧ w'.cell? ⟨N, 1, none⟩ = some (.int .i64 e.at_) ∧ w'.cell? ⟨N, 2, none⟩ = some (.int .i64 e.ref) ∧ w'.cell? ⟨N, 3, none⟩ = some (.int .i64 e.id) ∧ w'.cell? ⟨N, 4, none⟩ = some (.int .i64 e.list) ∧ w'.cell? ⟨N, 5, none⟩ = some (.int .i64 e.n) ∧ w'.cell? ⟨N, 6, none⟩ = some (.slice e.ao e.dl e.cp)) (by kernel_rfl) (by rw [← hw8] at FACT; exact FACT.out w4 ⟨rfl, rfl, rfl, Nat.le_refl _, fun _ _ _ => rfl⟩) (fun hHeld => ?_)
  rw [hw8] at hHeld ⊢
  clear hfd hw8 HF7 HB7 HR7 HL7
  obtain ⟨base, hbase⟩ : ∃ z, w8.heap.size = z := ⟨_, rfl⟩
  have HBASE := Lib.hid hbase
  rw [hbase] at FACT
  have HG8 : Hid (Fr (fun k => base ≤ k) w8 w8) := Lib.hid (Fr.refl _ _)
  clear hbase
  refine wpAnyH_take (i := 1) (oi := _) (v := ?va1) rfl (by kernel_rfl) (by kernel_rfl) (by kernel_rfl) (fun _ _ _ h => h) (Or.inl ⟨by rfl, ?ya1⟩) (by assumption) ?ra1
  case ya1 => intro w1 hSw; obtain ⟨s1, s2, s3, s4, s5, s6, s7⟩ := hSw; go_simp; try with_reducible rfl
  try simp only [List.getElem_toArray, List.getElem_cons_zero, List.getElem_cons_succ, Act.put, List.setIfInBounds_toArray, List.set_cons_zero, List.set_cons_succ]
  refine wpAnyH_take (i := 3) (oi := _) (v := ?va3) rfl (by kernel_rfl) (by kernel_rfl) (by kernel_rfl) (fun _ _ _ h => h) (Or.inl ⟨by rfl, ?ya3⟩) (by assumption) ?ra3
  case ya3 => intro w1 hSw; obtain ⟨s1, s2, s3, s4, s5, s6, s7⟩ := hSw; go_simp; try with_reducible rfl
  try simp only [List.getElem_toArray, List.getElem_cons_zero, List.getElem_cons_succ, Act.put, List.setIfInBounds_toArray, List.set_cons_zero, List.set_cons_succ]
  refine wpAnyH_ready (rs := [0, 4]) (by kernel_rfl) (by simp) ?_
  refine AllReadyH.cons (o := _) rfl (fun K hK => ?_) (AllReadyH.cons (o := _) rfl (fun K hK => ?_) AllReadyH.nil)
  · rw [if_pos (by rfl)]
    try simp only [List.getElem_toArray, List.getElem_cons_zero, List.getElem_cons_succ]
    go_simp
    have hleA1 : base ≤ w8.heap.size := by have := HG8.out.size; have := HBASE.out; omega
    have hoA1 := own_empty w8 base hleA1
    have hfA1 : Fr (fun _ => False) w8 (w8.alloc (.cells #[] 24)) := Fr.alloc _ _ _
    obtain ⟨g0, hg0⟩ : ∃ g, w8.heap.size = g := ⟨_, rfl⟩
    obtain ⟨wA1, hwA1⟩ : ∃ w, w8.alloc (.cells #[] 24) = w := ⟨_, rfl⟩
    rw [hwA1] at hoA1 hfA1 ⊢
    rw [hg0] at hoA1 ⊢
    have HO := Lib.hid hoA1
    have HGA1 : Hid (Fr (fun k => base ≤ k) w8 wA1) := Lib.hid (HG8.out.trans (hfA1.mono fun _ e => e.elim))
    have HFL := Lib.hid hfA1
    clear hoA1 hfA1 hwA1 hg0 hleA1
    refine hK.out _ _ (FACT.out _ HGA1.out) (fun hHA1 => ?_)
    clear hK K
    try simp only [List.getElem_toArray, List.getElem_cons_zero, List.getElem_cons_succ, Act.put, List.setIfInBounds_toArray, List.set_cons_zero, List.set_cons_succ]
    refine wpAnyH_ready (rs := [2, 4]) (by kernel_rfl) (by simp) ?_
    refine AllReadyH.cons (o := _) rfl (fun K hK => ?_) (AllReadyH.cons (o := _) rfl (fun K hK => ?_) AllReadyH.nil)
    · rw [if_pos (by rfl)]
      try simp only [List.getElem_toArray, List.getElem_cons_zero, List.getElem_cons_succ]
      obtain ⟨g2, cap2, wA2, hrunA2, hownA2, hfA2, _⟩ := app_first wA1 base g0 l 30 (by have := HGA1.out.size; have := HBASE.out; omega) HO.out ao cp len (HR8.out.fr HGA1.out (fun k e => by rw [HBASE.out]; exact e)) HLEN.out (by have := H60.out; omega)
      refine wp_append_run1 _ _ _ rfl _ _ _ rfl rfl hrunA2 ?_
      have HGA2 : Hid (Fr (fun k => base ≤ k) w8 wA2) := Lib.hid (HGA1.out.trans hfA2)
      clear HO
      have HO := Lib.hid hownA2
      clear hownA2 hfA2 hrunA2
      refine hK.out _ _ (FACT.out _ HGA2.out) (fun hHA2 => ?_)
      clear hK K
      try simp only [List.getElem_toArray, List.getElem_cons_zero, List.getElem_cons_succ, Act.put, List.setIfInBounds_toArray, List.set_cons_zero, List.set_cons_succ]
      refine wpAnyH_ready (rs := [4]) (by kernel_rfl) (by simp) ?_
      refine AllReadyH.cons (o := _) rfl (fun K hK => ?_) AllReadyH.nil
      rw [if_pos (by rfl)]
      try simp only [List.getElem_toArray, List.getElem_cons_zero, List.getElem_cons_succ]
      go_simp
      have hbA3 := Blk.new wA2 24 #[.int .i64 e.k, .int .i64 e.at_, .int .i64 e.ref, .int .i64 e.id, .int .i64 e.list, .int .i64 e.n, .slice e.ao e.dl e.cp]
      have hfA3 : Fr (fun _ => False) wA2 (wA2.alloc (.cells #[.int .i64 e.k, .int .i64 e.at_, .int .i64 e.ref, .int .i64 e.id, .int .i64 e.list, .int .i64 e.n, .slice e.ao e.dl e.cp] 24)) := Fr.alloc _ _ _
      have hgeA3 : base ≤ wA2.heap.size := by have := HGA2.out.size; have := HBASE.out; omega
      obtain ⟨g1, hg1⟩ : ∃ g, wA2.heap.size = g := ⟨_, rfl⟩
      obtain ⟨wA3, hwA3⟩ : ∃ w, wA2.alloc (.cells #[.int .i64 e.k, .int .i64 e.at_, .int .i64 e.ref, .int .i64 e.id, .int .i64 e.list, .int .i64 e.n, .slice e.ao e.dl e.cp] 24) = w := ⟨_, rfl⟩
      rw [hwA3] at hbA3 hfA3 ⊢
      rw [hg1] at hbA3 hgeA3 ⊢
      have HGA3 : Hid (Fr (fun k => base ≤ k) w8 wA3) := Lib.hid (HGA2.out.trans (hfA3.mono fun _ e => e.elim))
      have HEA3 : Hid (Blk wA3 g1 24 (evc e)) := Lib.hid hbA3
      have HG1 := Lib.hid hgeA3
      have HOA3 := Lib.hid (own_fr HO.out hfA3 id)
      clear HO
      have HO := HOA3
      clear HOA3
      clear hbA3 hfA3 hwA3 hg1 hgeA3
      refine hK.out _ _ (FACT.out _ HGA3.out) (fun hHA3 => ?_)
      clear hK K
      try simp only [List.getElem_toArray, List.getElem_cons_zero, List.getElem_cons_succ, Act.put, List.setIfInBounds_toArray, List.set_cons_zero, List.set_cons_succ]
      have HEV := HEA3
      clear HEA3
      refine wpAnyH_ready (rs := [5]) (by kernel_rfl) (by simp) ?_
      refine AllReadyH.cons (o := _) rfl (fun K hK => ?_) AllReadyH.nil
      rw [if_pos (by rfl)]
      try simp only [List.getElem_toArray, List.getElem_cons_zero, List.getElem_cons_succ]
      obtain ⟨g3, cap3, wA4, hrunA4, hownA4, hfA4⟩ := app_any wA3 base (.slice (some ⟨g2, 0, none⟩) len cap2) len l [e] 30 (by have := HGA3.out.size; have := HBASE.out; omega) HO.out g1 0 1 (row1 HEV.out) (by simp) (by have := H60.out; simp; omega)
      rw [show len + [e].length = len + 1 from rfl] at hrunA4 hownA4
      rw [show [e].length = 1 from rfl] at hrunA4
      refine wp_append_run1 _ _ _ rfl _ _ _ rfl rfl hrunA4 ?_
      have HGA4 : Hid (Fr (fun k => base ≤ k) w8 wA4) := Lib.hid (HGA3.out.trans hfA4)
      have HON := Lib.hid hownA4
      clear hownA4 hfA4 hrunA4 HEV HO
      refine hK.out _ _ (FACT.out _ HGA4.out) (fun hHA4 => ?_)
      clear hK K
      try simp only [List.getElem_toArray, List.getElem_cons_zero, List.getElem_cons_succ, Act.put, List.setIfInBounds_toArray, List.set_cons_zero, List.set_cons_succ]
      refine wpAnyH_take (i := 6) (oi := _) (v := ?vb6) rfl (by kernel_rfl) (by kernel_rfl) (by kernel_rfl) (fun _ _ _ h => h) (Or.inl ⟨by rfl, ?yb6⟩) (by assumption) ?rb6
      case yb6 => intro w1 hSw; obtain ⟨s1, s2, s3, s4, s5, s6, s7⟩ := hSw; go_simp; try with_reducible rfl
      try simp only [List.getElem_toArray, List.getElem_cons_zero, List.getElem_cons_succ, Act.put, List.setIfInBounds_toArray, List.set_cons_zero, List.set_cons_succ]
      refine wpAnyH_done (by kernel_rfl) ?_ _
      clear FACT
      have HRM := Lib.hid (rowV_own HON.out)
      have HFZ := Lib.hid (HF8.out.above HGA4.out (fun k hk => by have := HF8.out.size; have := HBASE.out; omega))
      have HBZ := Lib.hid (HB8.out.fr HGA4.out (by have := HB8.out.lt; have := HBASE.out; omega))
      have HLZ := Lib.hid (HL8.out.fr HGA4.out (by have := HL8.out.lt; have := HBASE.out; omega))
      have HRZ := Lib.hid (HR8.out.fr HGA4.out (fun k e => by rw [HBASE.out]; exact e))
      clear HON HF8 HB8 HL8 HR8 HGA4 hHeld
      obtain ⟨c, hc⟩ : ∃ c, rWhyC l e = c := ⟨_, rfl⟩
      have hc7 : c ≤ 7 := by rw [← hc, why_fault HG.out]; exact fault_le _ _
      obtain ⟨z, hz, hze, hzs⟩ := why_size c hc7
      have HWHY := Lib.hid (rwhy_any wA4 ao cp len l HRZ.out HLEN.out (by have := H60.out; omega) e)
      rw [hc, hz] at HWHY
      have HCC := Lib.hid hc
      have HA4 := Lib.hid hz
      have HZS := Lib.hid hzs
      have c0 := HBZ.out.cell 0
      have c1 := HBZ.out.cell 1
      have c2 := HBZ.out.cell 2
      have c3 := HBZ.out.cell 3
      have c4 := HBZ.out.cell 4
      have c5 := HBZ.out.cell 5
      have c6 := HBZ.out.cell 6
      simp only [evc, List.getElem?_toArray, List.getElem?_cons_zero, List.getElem?_cons_succ] at c0 c1 c2 c3 c4 c5 c6
      clear hc hz hzs hc7
      go_upto_region 7 with (first | (go_at_call 17; refine HWHY.out.mono ?_; rintro r5 w5 ⟨rfl, hf5⟩) | go_in)
      have HF5 := Lib.hid (HFZ.out.trans hf5)
      have HL5 := Lib.hid (HLZ.out.fr hf5 id)
      have HR5 := Lib.hid (HRM.out.1.fr hf5 (fun k e => e.elim))
      clear hf5 HFZ HLZ HRM HBZ HRZ HWHY c0 c1 c2 c3 c4 c5 c6
      have HCK := Lib.hid (check_more w5 _ cap3 len l e HR5.out HLEN.out (by have := H60.out; omega) HG.out c HCC.out)
      go_wp2_with fail
      refine HCK.out.mono ?_
      rintro r6 w6 ⟨hf6, ⟨rfl, rfl⟩ | ⟨b, hc0, rfl, hb⟩⟩
      · have hzt : z.toList.isEmpty = true := hze
        go_wp2
        go_ret
        exact ⟨rfl, (HF5.out.trans hf6).below (Nat.le_refl _) (fun k e => e.elim)⟩
      have hzt : z.toList.isEmpty = false := by rw [hze]; simp [hc0]
      have HB6 := Lib.hid hb
      have HF6 := Lib.hid (HF5.out.trans hf6)
      have HL6 := Lib.hid (HL5.out.fr hf6 id)
      clear hb hf6 hze HF5 HL5 HR5 HCK
      go_upto_region 10 with (fail)
      have hT := Blk.new w6 36 #[.pointer none]
      have hfT : Fr (fun _ => False) w6 (w6.alloc (.cells #[.pointer none] 36)) := Fr.alloc _ _ _
      obtain ⟨tb, htb⟩ : ∃ b, w6.heap.size = b := ⟨_, rfl⟩
      have HTW : Hid (W.heap.size ≤ tb) := Lib.hid (by have := HF6.out.size; omega)
      have HPT : Hid (b ≠ tb) := Lib.hid (by have := HB6.out.lt; omega)
      obtain ⟨w7, hw7⟩ : ∃ w7, w6.alloc (.cells #[.pointer none] 36) = w7 := ⟨_, rfl⟩
      rw [hw7] at hT hfT
      rw [htb] at hT
      have HT7 := Lib.hid hT
      have HB7 := Lib.hid (HB6.out.fr hfT id)
      have HF7 := Lib.hid (HF6.out.trans hfT)
      have HL7 := Lib.hid (HL6.out.fr hfT id)
      clear hT hfT HB6 HF6 HL6
      go_upto_region 11 with (fail)
      try rw [hw7]
      try rw [htb]
      clear hw7 htb
      obtain ⟨n, hn20, HIT, HPL⟩ := num_texts ((len + 1 : Nat) : Int) (by have := H60.out; omega)
      have HN20 := Lib.hid hn20
      have HITA := Lib.hid HIT
      have HPLA := Lib.hid HPL
      rw [HA4.out] at HB7
      have q1 : ¬ 9223372036854775807 < 6 + n.size := by omega
      have q2 : ¬ 9223372036854775807 < 6 + n.size + 2 := by omega
      have q3 : ¬ 9223372036854775807 < 6 + n.size + 2 + z.size := by have := HZS.out; omega
      clear hn20 HIT HPL
      go_wp2_with (first
        | (go_at_call 18; refine (as_any _ _ tb _ HL7.out HT7.out).mono ?_; rintro r8 w9 ⟨rfl, hf9, ht9⟩; have d0 := ht9.cell 0; simp only [List.getElem?_toArray, List.getElem?_cons_zero] at d0; have HB9 := Lib.hid (HB7.out.fr hf9 HPT.out); have HF9 := Lib.hid (HF7.out.above hf9 (fun k e => by subst e; exact HTW.out)); clear hf9 ht9)
        | (go_at_call 19; refine (error_any _ b _ z n _ HB9.out HN20.out HZS.out HITA.out).mono ?_; rintro r10 w10 ⟨rfl, hf10⟩; have HF10 := Lib.hid (HF9.out.trans hf10); clear hf10 d0)
        | (go_at_call 20; refine (HPLA.out _).mono ?_; rintro r11 w11 ⟨rfl, hf11⟩; have HF11 := Lib.hid (HF10.out.trans hf11); clear hf11)
        | go_in)
      go_ret
      refine ⟨?_, HF11.out.below (Nat.le_refl _) (fun k e => e.elim)⟩
      show Ending.returned (Value.bool ((textB n z).toList == (textB n z).toList)) = Ending.returned (Value.bool true)
      rw [beq_self_eq_true]
    · rw [if_pos (by rfl)]
      try simp only [List.getElem_toArray, List.getElem_cons_zero, List.getElem_cons_succ]
      go_simp
      have hbB2 := Blk.new wA1 24 #[.int .i64 e.k, .int .i64 e.at_, .int .i64 e.ref, .int .i64 e.id, .int .i64 e.list, .int .i64 e.n, .slice e.ao e.dl e.cp]
      have hfB2 : Fr (fun _ => False) wA1 (wA1.alloc (.cells #[.int .i64 e.k, .int .i64 e.at_, .int .i64 e.ref, .int .i64 e.id, .int .i64 e.list, .int .i64 e.n, .slice e.ao e.dl e.cp] 24)) := Fr.alloc _ _ _
      have hgeB2 : base ≤ wA1.heap.size := by have := HGA1.out.size; have := HBASE.out; omega
      obtain ⟨g1, hg1⟩ : ∃ g, wA1.heap.size = g := ⟨_, rfl⟩
      obtain ⟨wB2, hwB2⟩ : ∃ w, wA1.alloc (.cells #[.int .i64 e.k, .int .i64 e.at_, .int .i64 e.ref, .int .i64 e.id, .int .i64 e.list, .int .i64 e.n, .slice e.ao e.dl e.cp] 24) = w := ⟨_, rfl⟩
      rw [hwB2] at hbB2 hfB2 ⊢
      rw [hg1] at hbB2 hgeB2 ⊢
      have HNE : Hid (g1 ≠ g0) := Lib.hid (fun e => by have h1 := lt_own HO.out; omega)
      have HGB2 : Hid (Fr (fun k => base ≤ k) w8 wB2) := Lib.hid (HGA1.out.trans (hfB2.mono fun _ e => e.elim))
      have HEB2 : Hid (Blk wB2 g1 24 (evc e)) := Lib.hid hbB2
      have HG1 := Lib.hid hgeB2
      have HOB2 := Lib.hid (own_fr HO.out hfB2 id)
      clear HO
      have HO := HOB2
      clear HOB2
      clear hbB2 hfB2 hwB2 hg1 hgeB2
      refine hK.out _ _ (FACT.out _ HGB2.out) (fun hHB2 => ?_)
      clear hK K
      try simp only [List.getElem_toArray, List.getElem_cons_zero, List.getElem_cons_succ, Act.put, List.setIfInBounds_toArray, List.set_cons_zero, List.set_cons_succ]
      refine wpAnyH_ready (rs := [2]) (by kernel_rfl) (by simp) ?_
      refine AllReadyH.cons (o := _) rfl (fun K hK => ?_) AllReadyH.nil
      rw [if_pos (by rfl)]
      try simp only [List.getElem_toArray, List.getElem_cons_zero, List.getElem_cons_succ]
      obtain ⟨g2, cap2, wB3, hrunB3, hownB3, hfB3, hkB3⟩ := app_first wB2 base g0 l 30 (by have := HGB2.out.size; have := HBASE.out; omega) HO.out ao cp len (HR8.out.fr HGB2.out (fun k e => by rw [HBASE.out]; exact e)) HLEN.out (by have := H60.out; omega)
      refine wp_append_run1 _ _ _ rfl _ _ _ rfl rfl hrunB3 ?_
      have HGB3 : Hid (Fr (fun k => base ≤ k) w8 wB3) := Lib.hid (HGB2.out.trans hfB3)
      have HEV := Lib.hid (HEB2.out.fr hkB3 HNE.out)
      clear HO HEB2
      have HO := Lib.hid hownB3
      clear hownB3 hfB3 hkB3 hrunB3
      refine hK.out _ _ (FACT.out _ HGB3.out) (fun hHB3 => ?_)
      clear hK K
      try simp only [List.getElem_toArray, List.getElem_cons_zero, List.getElem_cons_succ, Act.put, List.setIfInBounds_toArray, List.set_cons_zero, List.set_cons_succ]
      refine wpAnyH_ready (rs := [5]) (by kernel_rfl) (by simp) ?_
      refine AllReadyH.cons (o := _) rfl (fun K hK => ?_) AllReadyH.nil
      rw [if_pos (by rfl)]
      try simp only [List.getElem_toArray, List.getElem_cons_zero, List.getElem_cons_succ]
      obtain ⟨g3, cap3, wB4, hrunB4, hownB4, hfB4⟩ := app_any wB3 base (.slice (some ⟨g2, 0, none⟩) len cap2) len l [e] 30 (by have := HGB3.out.size; have := HBASE.out; omega) HO.out g1 0 1 (row1 HEV.out) (by simp) (by have := H60.out; simp; omega)
      rw [show len + [e].length = len + 1 from rfl] at hrunB4 hownB4
      rw [show [e].length = 1 from rfl] at hrunB4
      refine wp_append_run1 _ _ _ rfl _ _ _ rfl rfl hrunB4 ?_
      have HGB4 : Hid (Fr (fun k => base ≤ k) w8 wB4) := Lib.hid (HGB3.out.trans hfB4)
      have HON := Lib.hid hownB4
      clear hownB4 hfB4 hrunB4 HEV HO
      refine hK.out _ _ (FACT.out _ HGB4.out) (fun hHB4 => ?_)
      clear hK K
      try simp only [List.getElem_toArray, List.getElem_cons_zero, List.getElem_cons_succ, Act.put, List.setIfInBounds_toArray, List.set_cons_zero, List.set_cons_succ]
      refine wpAnyH_take (i := 6) (oi := _) (v := ?vc6) rfl (by kernel_rfl) (by kernel_rfl) (by kernel_rfl) (fun _ _ _ h => h) (Or.inl ⟨by rfl, ?yc6⟩) (by assumption) ?rc6
      case yc6 => intro w1 hSw; obtain ⟨s1, s2, s3, s4, s5, s6, s7⟩ := hSw; go_simp; try with_reducible rfl
      try simp only [List.getElem_toArray, List.getElem_cons_zero, List.getElem_cons_succ, Act.put, List.setIfInBounds_toArray, List.set_cons_zero, List.set_cons_succ]
      refine wpAnyH_done (by kernel_rfl) ?_ _
      clear FACT
      have HRM := Lib.hid (rowV_own HON.out)
      have HFZ := Lib.hid (HF8.out.above HGB4.out (fun k hk => by have := HF8.out.size; have := HBASE.out; omega))
      have HBZ := Lib.hid (HB8.out.fr HGB4.out (by have := HB8.out.lt; have := HBASE.out; omega))
      have HLZ := Lib.hid (HL8.out.fr HGB4.out (by have := HL8.out.lt; have := HBASE.out; omega))
      have HRZ := Lib.hid (HR8.out.fr HGB4.out (fun k e => by rw [HBASE.out]; exact e))
      clear HON HF8 HB8 HL8 HR8 HGB4 hHeld
      obtain ⟨c, hc⟩ : ∃ c, rWhyC l e = c := ⟨_, rfl⟩
      have hc7 : c ≤ 7 := by rw [← hc, why_fault HG.out]; exact fault_le _ _
      obtain ⟨z, hz, hze, hzs⟩ := why_size c hc7
      have HWHY := Lib.hid (rwhy_any wB4 ao cp len l HRZ.out HLEN.out (by have := H60.out; omega) e)
      rw [hc, hz] at HWHY
      have HCC := Lib.hid hc
      have HB4 := Lib.hid hz
      have HZS := Lib.hid hzs
      have c0 := HBZ.out.cell 0
      have c1 := HBZ.out.cell 1
      have c2 := HBZ.out.cell 2
      have c3 := HBZ.out.cell 3
      have c4 := HBZ.out.cell 4
      have c5 := HBZ.out.cell 5
      have c6 := HBZ.out.cell 6
      simp only [evc, List.getElem?_toArray, List.getElem?_cons_zero, List.getElem?_cons_succ] at c0 c1 c2 c3 c4 c5 c6
      clear hc hz hzs hc7
      go_upto_region 7 with (first | (go_at_call 17; refine HWHY.out.mono ?_; rintro r5 w5 ⟨rfl, hf5⟩) | go_in)
      have HF5 := Lib.hid (HFZ.out.trans hf5)
      have HL5 := Lib.hid (HLZ.out.fr hf5 id)
      have HR5 := Lib.hid (HRM.out.1.fr hf5 (fun k e => e.elim))
      clear hf5 HFZ HLZ HRM HBZ HRZ HWHY c0 c1 c2 c3 c4 c5 c6
      have HCK := Lib.hid (check_more w5 _ cap3 len l e HR5.out HLEN.out (by have := H60.out; omega) HG.out c HCC.out)
      go_wp2_with fail
      refine HCK.out.mono ?_
      rintro r6 w6 ⟨hf6, ⟨rfl, rfl⟩ | ⟨b, hc0, rfl, hb⟩⟩
      · have hzt : z.toList.isEmpty = true := hze
        go_wp2
        go_ret
        exact ⟨rfl, (HF5.out.trans hf6).below (Nat.le_refl _) (fun k e => e.elim)⟩
      have hzt : z.toList.isEmpty = false := by rw [hze]; simp [hc0]
      have HB6 := Lib.hid hb
      have HF6 := Lib.hid (HF5.out.trans hf6)
      have HL6 := Lib.hid (HL5.out.fr hf6 id)
      clear hb hf6 hze HF5 HL5 HR5 HCK
      go_upto_region 10 with (fail)
      have hT := Blk.new w6 36 #[.pointer none]
      have hfT : Fr (fun _ => False) w6 (w6.alloc (.cells #[.pointer none] 36)) := Fr.alloc _ _ _
      obtain ⟨tb, htb⟩ : ∃ b, w6.heap.size = b := ⟨_, rfl⟩
      have HTW : Hid (W.heap.size ≤ tb) := Lib.hid (by have := HF6.out.size; omega)
      have HPT : Hid (b ≠ tb) := Lib.hid (by have := HB6.out.lt; omega)
      obtain ⟨w7, hw7⟩ : ∃ w7, w6.alloc (.cells #[.pointer none] 36) = w7 := ⟨_, rfl⟩
      rw [hw7] at hT hfT
      rw [htb] at hT
      have HT7 := Lib.hid hT
      have HB7 := Lib.hid (HB6.out.fr hfT id)
      have HF7 := Lib.hid (HF6.out.trans hfT)
      have HL7 := Lib.hid (HL6.out.fr hfT id)
      clear hT hfT HB6 HF6 HL6
      go_upto_region 11 with (fail)
      try rw [hw7]
      try rw [htb]
      clear hw7 htb
      obtain ⟨n, hn20, HIT, HPL⟩ := num_texts ((len + 1 : Nat) : Int) (by have := H60.out; omega)
      have HN20 := Lib.hid hn20
      have HITA := Lib.hid HIT
      have HPLA := Lib.hid HPL
      rw [HB4.out] at HB7
      have q1 : ¬ 9223372036854775807 < 6 + n.size := by omega
      have q2 : ¬ 9223372036854775807 < 6 + n.size + 2 := by omega
      have q3 : ¬ 9223372036854775807 < 6 + n.size + 2 + z.size := by have := HZS.out; omega
      clear hn20 HIT HPL
      go_wp2_with (first
        | (go_at_call 18; refine (as_any _ _ tb _ HL7.out HT7.out).mono ?_; rintro r8 w9 ⟨rfl, hf9, ht9⟩; have d0 := ht9.cell 0; simp only [List.getElem?_toArray, List.getElem?_cons_zero] at d0; have HB9 := Lib.hid (HB7.out.fr hf9 HPT.out); have HF9 := Lib.hid (HF7.out.above hf9 (fun k e => by subst e; exact HTW.out)); clear hf9 ht9)
        | (go_at_call 19; refine (error_any _ b _ z n _ HB9.out HN20.out HZS.out HITA.out).mono ?_; rintro r10 w10 ⟨rfl, hf10⟩; have HF10 := Lib.hid (HF9.out.trans hf10); clear hf10 d0)
        | (go_at_call 20; refine (HPLA.out _).mono ?_; rintro r11 w11 ⟨rfl, hf11⟩; have HF11 := Lib.hid (HF10.out.trans hf11); clear hf11)
        | go_in)
      go_ret
      refine ⟨?_, HF11.out.below (Nat.le_refl _) (fun k e => e.elim)⟩
      show Ending.returned (Value.bool ((textB n z).toList == (textB n z).toList)) = Ending.returned (Value.bool true)
      rw [beq_self_eq_true]
  · rw [if_pos (by rfl)]
    try simp only [List.getElem_toArray, List.getElem_cons_zero, List.getElem_cons_succ]
    go_simp
    have hbC1 := Blk.new w8 24 #[.int .i64 e.k, .int .i64 e.at_, .int .i64 e.ref, .int .i64 e.id, .int .i64 e.list, .int .i64 e.n, .slice e.ao e.dl e.cp]
    have hfC1 : Fr (fun _ => False) w8 (w8.alloc (.cells #[.int .i64 e.k, .int .i64 e.at_, .int .i64 e.ref, .int .i64 e.id, .int .i64 e.list, .int .i64 e.n, .slice e.ao e.dl e.cp] 24)) := Fr.alloc _ _ _
    have hgeC1 : base ≤ w8.heap.size := by have := HG8.out.size; have := HBASE.out; omega
    obtain ⟨g1, hg1⟩ : ∃ g, w8.heap.size = g := ⟨_, rfl⟩
    obtain ⟨wC1, hwC1⟩ : ∃ w, w8.alloc (.cells #[.int .i64 e.k, .int .i64 e.at_, .int .i64 e.ref, .int .i64 e.id, .int .i64 e.list, .int .i64 e.n, .slice e.ao e.dl e.cp] 24) = w := ⟨_, rfl⟩
    rw [hwC1] at hbC1 hfC1 ⊢
    rw [hg1] at hbC1 hgeC1 ⊢
    have HGC1 : Hid (Fr (fun k => base ≤ k) w8 wC1) := Lib.hid (HG8.out.trans (hfC1.mono fun _ e => e.elim))
    have HEC1 : Hid (Blk wC1 g1 24 (evc e)) := Lib.hid hbC1
    have HG1 := Lib.hid hgeC1
    clear hbC1 hfC1 hwC1 hg1 hgeC1
    refine hK.out _ _ (FACT.out _ HGC1.out) (fun hHC1 => ?_)
    clear hK K
    try simp only [List.getElem_toArray, List.getElem_cons_zero, List.getElem_cons_succ, Act.put, List.setIfInBounds_toArray, List.set_cons_zero, List.set_cons_succ]
    refine wpAnyH_ready (rs := [0]) (by kernel_rfl) (by simp) ?_
    refine AllReadyH.cons (o := _) rfl (fun K hK => ?_) AllReadyH.nil
    rw [if_pos (by rfl)]
    try simp only [List.getElem_toArray, List.getElem_cons_zero, List.getElem_cons_succ]
    go_simp
    have hleC2 : base ≤ wC1.heap.size := by have := HGC1.out.size; have := HBASE.out; omega
    have hoC2 := own_empty wC1 base hleC2
    have hfC2 : Fr (fun _ => False) wC1 (wC1.alloc (.cells #[] 24)) := Fr.alloc _ _ _
    obtain ⟨g0, hg0⟩ : ∃ g, wC1.heap.size = g := ⟨_, rfl⟩
    obtain ⟨wC2, hwC2⟩ : ∃ w, wC1.alloc (.cells #[] 24) = w := ⟨_, rfl⟩
    rw [hwC2] at hoC2 hfC2 ⊢
    rw [hg0] at hoC2 ⊢
    have HNEC : Hid (g1 ≠ g0) := Lib.hid (fun e => by have h1 := HEC1.out.lt; omega)
    have HO := Lib.hid hoC2
    have HGC2 : Hid (Fr (fun k => base ≤ k) w8 wC2) := Lib.hid (HGC1.out.trans (hfC2.mono fun _ e => e.elim))
    have HFL := Lib.hid hfC2
    clear hoC2 hfC2 hwC2 hg0 hleC2
    refine hK.out _ _ (FACT.out _ HGC2.out) (fun hHC2 => ?_)
    clear hK K
    try simp only [List.getElem_toArray, List.getElem_cons_zero, List.getElem_cons_succ, Act.put, List.setIfInBounds_toArray, List.set_cons_zero, List.set_cons_succ]
    have HNE : Hid (g1 ≠ g0) := HNEC
    have HEC2 := Lib.hid (HEC1.out.fr HFL.out id)
    clear HEC1
    refine wpAnyH_ready (rs := [2]) (by kernel_rfl) (by simp) ?_
    refine AllReadyH.cons (o := _) rfl (fun K hK => ?_) AllReadyH.nil
    rw [if_pos (by rfl)]
    try simp only [List.getElem_toArray, List.getElem_cons_zero, List.getElem_cons_succ]
    obtain ⟨g2, cap2, wC3, hrunC3, hownC3, hfC3, hkC3⟩ := app_first wC2 base g0 l 30 (by have := HGC2.out.size; have := HBASE.out; omega) HO.out ao cp len (HR8.out.fr HGC2.out (fun k e => by rw [HBASE.out]; exact e)) HLEN.out (by have := H60.out; omega)
    refine wp_append_run1 _ _ _ rfl _ _ _ rfl rfl hrunC3 ?_
    have HGC3 : Hid (Fr (fun k => base ≤ k) w8 wC3) := Lib.hid (HGC2.out.trans hfC3)
    have HEV := Lib.hid (HEC2.out.fr hkC3 HNE.out)
    clear HO HEC2
    have HO := Lib.hid hownC3
    clear hownC3 hfC3 hkC3 hrunC3
    refine hK.out _ _ (FACT.out _ HGC3.out) (fun hHC3 => ?_)
    clear hK K
    try simp only [List.getElem_toArray, List.getElem_cons_zero, List.getElem_cons_succ, Act.put, List.setIfInBounds_toArray, List.set_cons_zero, List.set_cons_succ]
    refine wpAnyH_ready (rs := [5]) (by kernel_rfl) (by simp) ?_
    refine AllReadyH.cons (o := _) rfl (fun K hK => ?_) AllReadyH.nil
    rw [if_pos (by rfl)]
    try simp only [List.getElem_toArray, List.getElem_cons_zero, List.getElem_cons_succ]
    obtain ⟨g3, cap3, wC4, hrunC4, hownC4, hfC4⟩ := app_any wC3 base (.slice (some ⟨g2, 0, none⟩) len cap2) len l [e] 30 (by have := HGC3.out.size; have := HBASE.out; omega) HO.out g1 0 1 (row1 HEV.out) (by simp) (by have := H60.out; simp; omega)
    rw [show len + [e].length = len + 1 from rfl] at hrunC4 hownC4
    rw [show [e].length = 1 from rfl] at hrunC4
    refine wp_append_run1 _ _ _ rfl _ _ _ rfl rfl hrunC4 ?_
    have HGC4 : Hid (Fr (fun k => base ≤ k) w8 wC4) := Lib.hid (HGC3.out.trans hfC4)
    have HON := Lib.hid hownC4
    clear hownC4 hfC4 hrunC4 HEV HO
    refine hK.out _ _ (FACT.out _ HGC4.out) (fun hHC4 => ?_)
    clear hK K
    try simp only [List.getElem_toArray, List.getElem_cons_zero, List.getElem_cons_succ, Act.put, List.setIfInBounds_toArray, List.set_cons_zero, List.set_cons_succ]
    refine wpAnyH_take (i := 6) (oi := _) (v := ?vd6) rfl (by kernel_rfl) (by kernel_rfl) (by kernel_rfl) (fun _ _ _ h => h) (Or.inl ⟨by rfl, ?yd6⟩) (by assumption) ?rd6
    case yd6 => intro w1 hSw; obtain ⟨s1, s2, s3, s4, s5, s6, s7⟩ := hSw; go_simp; try with_reducible rfl
    try simp only [List.getElem_toArray, List.getElem_cons_zero, List.getElem_cons_succ, Act.put, List.setIfInBounds_toArray, List.set_cons_zero, List.set_cons_succ]
    refine wpAnyH_done (by kernel_rfl) ?_ _
    clear FACT
    have HRM := Lib.hid (rowV_own HON.out)
    have HFZ := Lib.hid (HF8.out.above HGC4.out (fun k hk => by have := HF8.out.size; have := HBASE.out; omega))
    have HBZ := Lib.hid (HB8.out.fr HGC4.out (by have := HB8.out.lt; have := HBASE.out; omega))
    have HLZ := Lib.hid (HL8.out.fr HGC4.out (by have := HL8.out.lt; have := HBASE.out; omega))
    have HRZ := Lib.hid (HR8.out.fr HGC4.out (fun k e => by rw [HBASE.out]; exact e))
    clear HON HF8 HB8 HL8 HR8 HGC4 hHeld
    obtain ⟨c, hc⟩ : ∃ c, rWhyC l e = c := ⟨_, rfl⟩
    have hc7 : c ≤ 7 := by rw [← hc, why_fault HG.out]; exact fault_le _ _
    obtain ⟨z, hz, hze, hzs⟩ := why_size c hc7
    have HWHY := Lib.hid (rwhy_any wC4 ao cp len l HRZ.out HLEN.out (by have := H60.out; omega) e)
    rw [hc, hz] at HWHY
    have HCC := Lib.hid hc
    have HC4 := Lib.hid hz
    have HZS := Lib.hid hzs
    have c0 := HBZ.out.cell 0
    have c1 := HBZ.out.cell 1
    have c2 := HBZ.out.cell 2
    have c3 := HBZ.out.cell 3
    have c4 := HBZ.out.cell 4
    have c5 := HBZ.out.cell 5
    have c6 := HBZ.out.cell 6
    simp only [evc, List.getElem?_toArray, List.getElem?_cons_zero, List.getElem?_cons_succ] at c0 c1 c2 c3 c4 c5 c6
    clear hc hz hzs hc7
    go_upto_region 7 with (first | (go_at_call 17; refine HWHY.out.mono ?_; rintro r5 w5 ⟨rfl, hf5⟩) | go_in)
    have HF5 := Lib.hid (HFZ.out.trans hf5)
    have HL5 := Lib.hid (HLZ.out.fr hf5 id)
    have HR5 := Lib.hid (HRM.out.1.fr hf5 (fun k e => e.elim))
    clear hf5 HFZ HLZ HRM HBZ HRZ HWHY c0 c1 c2 c3 c4 c5 c6
    have HCK := Lib.hid (check_more w5 _ cap3 len l e HR5.out HLEN.out (by have := H60.out; omega) HG.out c HCC.out)
    go_wp2_with fail
    refine HCK.out.mono ?_
    rintro r6 w6 ⟨hf6, ⟨rfl, rfl⟩ | ⟨b, hc0, rfl, hb⟩⟩
    · have hzt : z.toList.isEmpty = true := hze
      go_wp2
      go_ret
      exact ⟨rfl, (HF5.out.trans hf6).below (Nat.le_refl _) (fun k e => e.elim)⟩
    have hzt : z.toList.isEmpty = false := by rw [hze]; simp [hc0]
    have HB6 := Lib.hid hb
    have HF6 := Lib.hid (HF5.out.trans hf6)
    have HL6 := Lib.hid (HL5.out.fr hf6 id)
    clear hb hf6 hze HF5 HL5 HR5 HCK
    go_upto_region 10 with (fail)
    have hT := Blk.new w6 36 #[.pointer none]
    have hfT : Fr (fun _ => False) w6 (w6.alloc (.cells #[.pointer none] 36)) := Fr.alloc _ _ _
    obtain ⟨tb, htb⟩ : ∃ b, w6.heap.size = b := ⟨_, rfl⟩
    have HTW : Hid (W.heap.size ≤ tb) := Lib.hid (by have := HF6.out.size; omega)
    have HPT : Hid (b ≠ tb) := Lib.hid (by have := HB6.out.lt; omega)
    obtain ⟨w7, hw7⟩ : ∃ w7, w6.alloc (.cells #[.pointer none] 36) = w7 := ⟨_, rfl⟩
    rw [hw7] at hT hfT
    rw [htb] at hT
    have HT7 := Lib.hid hT
    have HB7 := Lib.hid (HB6.out.fr hfT id)
    have HF7 := Lib.hid (HF6.out.trans hfT)
    have HL7 := Lib.hid (HL6.out.fr hfT id)
    clear hT hfT HB6 HF6 HL6
    go_upto_region 11 with (fail)
    try rw [hw7]
    try rw [htb]
    clear hw7 htb
    obtain ⟨n, hn20, HIT, HPL⟩ := num_texts ((len + 1 : Nat) : Int) (by have := H60.out; omega)
    have HN20 := Lib.hid hn20
    have HITA := Lib.hid HIT
    have HPLA := Lib.hid HPL
    rw [HC4.out] at HB7
    have q1 : ¬ 9223372036854775807 < 6 + n.size := by omega
    have q2 : ¬ 9223372036854775807 < 6 + n.size + 2 := by omega
    have q3 : ¬ 9223372036854775807 < 6 + n.size + 2 + z.size := by have := HZS.out; omega
    clear hn20 HIT HPL
    go_wp2_with (first
      | (go_at_call 18; refine (as_any _ _ tb _ HL7.out HT7.out).mono ?_; rintro r8 w9 ⟨rfl, hf9, ht9⟩; have d0 := ht9.cell 0; simp only [List.getElem?_toArray, List.getElem?_cons_zero] at d0; have HB9 := Lib.hid (HB7.out.fr hf9 HPT.out); have HF9 := Lib.hid (HF7.out.above hf9 (fun k e => by subst e; exact HTW.out)); clear hf9 ht9)
      | (go_at_call 19; refine (error_any _ b _ z n _ HB9.out HN20.out HZS.out HITA.out).mono ?_; rintro r10 w10 ⟨rfl, hf10⟩; have HF10 := Lib.hid (HF9.out.trans hf10); clear hf10 d0)
      | (go_at_call 20; refine (HPLA.out _).mono ?_; rintro r11 w11 ⟨rfl, hf11⟩; have HF11 := Lib.hid (HF10.out.trans hf11); clear hf11)
      | go_in)
    go_ret
    refine ⟨?_, HF11.out.below (Nat.le_refl _) (fun k e => e.elim)⟩
    show Ending.returned (Value.bool ((textB n z).toList == (textB n z).toList)) = Ending.returned (Value.bool true)
    rw [beq_self_eq_true]
end Go.Proofs.YtbdjnfkhdphhoaaDoor
