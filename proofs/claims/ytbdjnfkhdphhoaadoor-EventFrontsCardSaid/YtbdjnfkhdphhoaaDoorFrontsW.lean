/- EventFronts: the law. -/
import Derived.Test.YtbdjnfkhdphhoaaDoorT
import Derived.Test.YtbdjnfkhdphhoaaDoorL
import Derived.Deep.RegionHeld3
set_option linter.unusedVariables false
set_option linter.unusedSimpArgs false
namespace Go.Proofs.YtbdjnfkhdphhoaaDoor
open Go.RowKit Go.Maps
/-- an append, out of its run -/
theorem wp_append_run {P : Program} {o : Oper} {a : Act} {K : Act → World → Prop} {Q : Exit → Act → World → Prop} {w w' : World} (s x : Operand) (t : TypeId) (ho : o.op = .call { callee := .builtin .append, args := #[s, x], argTypes := #[t, t] }) (v y r : Value) (hs : a.eval s = v) (hx : a.eval x = y)
    (hr : (Builtin.append_ #[t, t] o.type #[v, y]).run P w = .ok r w') (h : K (a.put o.dst r) w') : o.wp P a w K Q := by
  unfold Oper.wp execOp
  simp only [ho, resolve, invoke, builtin, Sem.run_bind, Sem.run_pure, Result.andThen_ok, List.map_toArray, List.map_cons, List.map_nil, hs, hx, hr]
  exact h
set_option maxRecDepth 100000 in
set_option maxHeartbeats 8000000 in
theorem fronts_law (W : World) (hL : Laid W) (ao : Option Addr) (len cp : Nat) (l : List Ev) (hlen : l.length = len) (hrow : RowV W ao l) (hd : DataOk W l) (hcp : len ≤ cp) (hcm : cp ≤ 9223372036854775807) (kd : Int) (e : Ev) :
    Calls Tryd.prog 5 #[.slice ao len cp, .int .i64 kd, .agg (evc e)] W fun r W' => r = .returned (.bool true) ∧ Below W.heap.size W W' := by
  subst hlen
  obtain ⟨N, hN⟩ : ∃ N, W.heap.size = N := ⟨_, rfl⟩
  have hdN : DataIn N W l := fun x hx => by rw [← hN]; exact hd x hx
  have hB := Blk.new W 24 (evc e)
  have hF : Fr (fun _ => False) W (W.alloc (.cells (evc e) 24)) := Fr.alloc _ _ _
  obtain ⟨w1, hw1⟩ : ∃ w1, W.alloc (.cells (evc e) 24) = w1 := ⟨_, rfl⟩
  rw [hw1] at hB hF
  have HL1 := Lib.hid (hL.fr hF id)
  rw [hN] at hB
  have HB1 := Lib.hid hB
  have HF1 := Lib.hid hF
  have HR1 := Lib.hid (hrow.fr hF (fun k e => e.elim))
  have HD1 := Lib.hid (hdN.fr hF)
  have HCP := Lib.hid (And.intro hcp hcm)
  clear hB hF hL hrow hd hdN hcp hcm
  have HNN := Lib.hid hN
  simp only [evc] at hw1
  rw [show Value.agg (evc e) = Value.agg #[.int .i64 e.k, .int .i64 e.at_, .int .i64 e.ref, .int .i64 e.id, .int .i64 e.list, .int .i64 e.n, .slice e.ao e.dl e.cp] from rfl]
  obtain ⟨len, hlen⟩ : ∃ len, l.length = len := ⟨_, rfl⟩
  rw [hlen] at HCP
  have HLEN := Lib.hid hlen
  simp only [hlen]
  go_enter Tryd.func5, Tryd.ntmps5
  go_upto_region 1 with (fail)
  try rw [hw1]
  try rw [hN]
  clear hw1 hN hlen
  go_upto_region 3 with (first | (go_at_call 8; refine (known_any _ HL1.out).mono ?_; rintro r2 w2 ⟨rfl, hf2⟩) | go_in)
  have HF2 := Lib.hid (HF1.out.trans hf2)
  have HB2 := Lib.hid (HB1.out.fr hf2 id)
  have HR2 := Lib.hid (HR1.out.fr hf2 (fun k e => e.elim))
  have HD2 := Lib.hid (HD1.out.fr hf2)
  clear hf2 HF1 HB1 HR1 HD1 HL1
  have HFEW := Lib.hid (few_any w2 ao cp l HR2.out (by have := HCP.out; have := HLEN.out; omega))
  rw [HLEN.out] at HFEW
  have c6 := HB2.out.cell 6
  simp only [evc, List.getElem?_toArray, List.getElem?_cons_zero, List.getElem?_cons_succ] at c6
  have HEND := Lib.hid (HF2.out.below (Nat.le_refl _) (fun k e => e.elim))
  -- what Few says, once for all
  by_cases h1 : 5000 < e.dl
  · have p1 : decide (5000 < (e.dl : Int)) = true := decide_eq_true (by omega)
    go_wp2_with (first | (go_at_call 15; refine HFEW.out.mono ?_; rintro r3 w3 ⟨q, rfl, rfl, hq⟩; clear hq; cases q) | go_in)
    all_goals (go_wp2; go_ret; exact ⟨rfl, HEND.out⟩)
  have p1 : decide (5000 < (e.dl : Int)) = false := decide_eq_false (by omega)
  by_cases h2 : kd < 0
  · have p2 : decide (kd < 0) = true := decide_eq_true h2
    go_wp2_with (first | (go_at_call 15; refine HFEW.out.mono ?_; rintro r3 w3 ⟨q, rfl, rfl, hq⟩; clear hq; cases q) | go_in)
    all_goals (go_wp2; go_ret; exact ⟨rfl, HEND.out⟩)
  have p2 : decide (kd < 0) = false := decide_eq_false h2
  by_cases h3 : (len : Int) < kd
  · have p3 : decide ((len : Int) < kd) = true := decide_eq_true h3
    go_wp2_with (first | (go_at_call 15; refine HFEW.out.mono ?_; rintro r3 w3 ⟨q, rfl, rfl, hq⟩; clear hq; cases q) | go_in)
    all_goals (go_wp2; go_ret; exact ⟨rfl, HEND.out⟩)
  have p3 : decide ((len : Int) < kd) = false := decide_eq_false h3
  obtain ⟨k, rfl⟩ : ∃ k : Nat, kd = k := ⟨kd.toNat, by omega⟩
  have hk : k ≤ len := by omega
  have HK := Lib.hid hk
  have p4 : decide (len < k) = false := decide_eq_false (by omega)
  clear h1 h2 h3 hk
  go_wp2_with fail
  refine HFEW.out.mono ?_
  rintro r3 w3 ⟨q, rfl, rfl, hq⟩
  have HQ := Lib.hid hq
  clear hq
  cases q with
  | false =>
    go_wp2
    go_ret
    exact ⟨rfl, HEND.out⟩
  | true =>
  have H120 : Hid (len ≤ 120) := Lib.hid (HQ.out rfl)
  clear HQ HFEW HEND
  go_upto_region 5 with (fail)
  clear p1 p2 p3 p4 c6
  by_cases hg : Good l l.length
  case neg =>
    have HCK := Lib.hid (check_bad w2 ao cp len l HR2.out HLEN.out (by have := H120.out; omega) hg)
    go_wp2_with (first | (go_at_call 16; refine HCK.out.mono ?_; rintro r4 w4 ⟨p, rfl, hf4⟩) | go_in)
    go_ret
    exact ⟨rfl, (HF2.out.trans hf4).below (Nat.le_refl _) (fun k e => e.elim)⟩
  have HG := Lib.hid hg
  have HCK := Lib.hid (check_good w2 ao cp len l HR2.out HLEN.out (by have := H120.out; omega) hg)
  go_upto_region 7 with (first | (go_at_call 16; refine HCK.out.mono ?_; rintro r4 w4 ⟨rfl, hf4⟩) | go_in)
  have HF4 := Lib.hid (HF2.out.trans hf4)
  have HB4 := Lib.hid (HB2.out.fr hf4 id)
  have HR4 := Lib.hid (HR2.out.fr hf4 (fun k e => e.elim))
  have HD4 := Lib.hid (HD2.out.fr hf4)
  clear hf4 HF2 HB2 HR2 HD2 HCK hg
  have htk : (l.take k).length = k := by have := HK.out; have := HLEN.out; simp; omega
  have HCK := Lib.hid (check_good w4 ao cp k (l.take k) (HR4.out.take k) htk (by have := H120.out; have := HK.out; omega) HG.out.front)
  have HPF := Lib.hid (fun w' (hf : Fr (fun _ => False) w4 w') => prefix_any N w' ao cp cp k l (HR4.out.fr hf (fun k e => e.elim)) (HD4.out.fr hf) (by have := H120.out; have := HLEN.out; omega) (by have := HCP.out; have := HLEN.out; omega) (by have := HK.out; have := HLEN.out; omega))
  simp only [HLEN.out] at HPF
  have hkc : k ≤ cp := by have := HCP.out; have := HK.out; omega
  clear htk
  go_upto_region 9 with (first | (go_at_call 16; refine HCK.out.mono ?_; rintro r5 w5 ⟨rfl, hf5⟩; have HF5 := Lib.hid hf5; clear hf5) | (go_at_call 21; refine (HPF.out _ HF5.out).mono ?_; rintro r6 w6 ⟨rfl, hf6⟩) | go_in)
  have hf46 := HF5.out.trans hf6
  have HF6 := Lib.hid (HF4.out.trans hf46)
  have HB6 := Lib.hid (HB4.out.fr hf46 id)
  have HR6 := Lib.hid (HR4.out.fr hf46 (fun k e => e.elim))
  clear hf46 hf6 HF5 HPF HCK HF4 HB4 HR4 HD4 hkc
  have HST := Lib.hid (stat_any w6 ao cp l HR6.out (by have := H120.out; have := HLEN.out; omega))
  rw [HLEN.out] at HST
  go_upto_region 10 with (first | (go_at_call 22; refine HST.out.mono ?_; rintro r7 w7 ⟨rfl, hf7⟩) | go_in)
  have HF7 := Lib.hid (HF6.out.trans hf7)
  have HB7 := Lib.hid (HB6.out.fr hf7 id)
  have HR7 := Lib.hid (HR6.out.fr hf7 (fun k e => e.elim))
  clear hf7 HF6 HB6 HR6 HST
  obtain ⟨st, hst⟩ : ∃ z, statL l = z := ⟨_, rfl⟩
  have HSL := Lib.hid hst
  rw [hst]
  clear hst
  by_cases h0 : st = 0
  · subst h0
    go_wp2
    go_ret
    exact ⟨rfl, HF7.out.below (Nat.le_refl _) (fun k e => e.elim)⟩
  by_cases h1 : st = 1
  · subst h1
    go_wp2
    go_ret
    exact ⟨rfl, HF7.out.below (Nat.le_refl _) (fun k e => e.elim)⟩
  have p1 : (st == 0) = false := by simp [h0]
  have p2 : (st == 1) = false := by simp [h1]
  have HCL := Lib.hid (good_closed HG.out (by rw [HSL.out]; exact h0) (by rw [HSL.out]; exact h1))
  have HPOS : Hid (0 < len) := Lib.hid (by
    apply Nat.pos_of_ne_zero
    intro h
    have hl : l = [] := List.eq_nil_of_length_eq_zero (by have := HLEN.out; omega)
    have := HSL.out
    rw [hl] at this
    exact h0 this.symm)
  clear h0 h1
  go_upto_region 12 with (fail)
  clear p1 p2
  have hrow7 := HR7.out
  rcases hrow7 with h0 | ⟨b, o, rfl, hbl, hcc⟩
  · have := HPOS.out
    have := HLEN.out
    rw [h0] at this
    simp at this
    omega
  clear hbl hcc
  have hfd : Fr (fun _ => False) w7 w7.drew := Fr.drewN _ w7 1
  obtain ⟨w8, hw8⟩ : ∃ w, w7.drew = w := ⟨_, rfl⟩
  rw [hw8] at hfd
  have HF8 := Lib.hid (HF7.out.trans hfd)
  have HB8 := Lib.hid (HB7.out.fr hfd id)
  have HR8 := Lib.hid (HR7.out.fr hfd (fun k e => e.elim))
  have FACT : Hid (∀ w', Fr (fun k => w8.heap.size ≤ k) w8 w' → w'.cell? ⟨N, 0, none⟩ = some (.int .i64 e.k) ∧ w'.cell? ⟨N, 1, none⟩ = some (.int .i64 e.at_) ∧ w'.cell? ⟨N, 2, none⟩ = some (.int .i64 e.ref) ∧ w'.cell? ⟨N, 3, none⟩ = some (.int .i64 e.id) ∧ w'.cell? ⟨N, 4, none⟩ = some (.int .i64 e.list) ∧ w'.cell? ⟨N, 5, none⟩ = some (.int .i64 e.n) ∧ w'.cell? ⟨N, 6, none⟩ = some (.slice e.ao e.dl e.cp)) := Lib.hid (fun w' hf => by
    have h6 := HB8.out.fr hf (by have := HB8.out.lt; omega)
    exact ⟨h6.cell 0, h6.cell 1, h6.cell 2, h6.cell 3, h6.cell 4, h6.cell 5, h6.cell 6⟩)
  refine wp_region_held_drew (S := fun (w' : World) => w'.cell? ⟨N, 0, none⟩ = some (.int .i64 e.k) ∧ w'.cell? ⟨N, 1, none⟩ = some (.int .i64 e.at_) ∧ w'.cell? ⟨N, 2, none⟩ = some (.int .i64 e.ref) ∧ w'.cell? ⟨N, 3, none⟩ = some (.int .i64 e.id) ∧ w'.cell? ⟨N, 4, none⟩ = some (.int .i64 e.list) ∧ w'.cell? ⟨N, 5, none⟩ = some (.int .i64 e.n) ∧ w'.cell? ⟨N, 6, none⟩ = some (.slice e.ao e.dl e.cp)) (by kernel_rfl) (by rw [← hw8] at FACT; exact FACT.out w7 ⟨rfl, rfl, rfl, Nat.le_refl _, fun _ _ _ => rfl⟩) (fun hHeld => ?_)
  rw [hw8] at hHeld ⊢
  clear hfd hw8 HF7 HB7 HR7
  obtain ⟨base, hbase⟩ : ∃ z, w8.heap.size = z := ⟨_, rfl⟩
  have HBASE := Lib.hid hbase
  rw [hbase] at FACT
  have HG8 : Hid (Fr (fun k => base ≤ k) w8 w8) := Lib.hid (Fr.refl _ _)
  clear hbase
  refine wpAnyH_take (i := 1) (oi := _) (v := ?va1) rfl (by kernel_rfl) (by kernel_rfl) (by kernel_rfl) (fun _ _ _ h => h) (Or.inl ⟨by rfl, ?ya1⟩) (by assumption) ?ra1
  case ya1 => intro w1 hSw; obtain ⟨s1, s2, s3, s4, s5, s6, s7⟩ := hSw; go_simp; try with_reducible rfl
  try simp only [List.getElem_toArray, List.getElem_cons_zero, List.getElem_cons_succ, Act.put, List.setIfInBounds_toArray, List.set_cons_zero, List.set_cons_succ]
  refine wpAnyH_take (i := 3) (oi := _) (v := ?va3) rfl (by kernel_rfl) (by kernel_rfl) (by kernel_rfl) (fun _ _ _ h => h) (Or.inl ⟨by rfl, ?ya3⟩) (by assumption) ?ra3
  case ya3 => intro w1 hSw; obtain ⟨s1, s2, s3, s4, s5, s6, s7⟩ := hSw; go_simp; try with_reducible rfl
  try simp only [List.getElem_toArray, List.getElem_cons_zero, List.getElem_cons_succ, Act.put, List.setIfInBounds_toArray, List.set_cons_zero, List.set_cons_succ]
  refine wpAnyH_ready (rs := [0, 4]) (by kernel_rfl) (by simp) ?_
  refine AllReadyH.cons (o := _) rfl (fun K hK => ?_) (AllReadyH.cons (o := _) rfl (fun K hK => ?_) AllReadyH.nil)
  · rw [if_pos (by rfl)]
    try simp only [List.getElem_toArray, List.getElem_cons_zero, List.getElem_cons_succ]
    go_simp
    have hleA1 : base ≤ w8.heap.size := by have := HG8.out.size; have := HBASE.out; omega
    have hoA1 := own_empty w8 base hleA1
    have hfA1 : Fr (fun _ => False) w8 (w8.alloc (.cells #[] 24)) := Fr.alloc _ _ _
    obtain ⟨g0, hg0⟩ : ∃ g, w8.heap.size = g := ⟨_, rfl⟩
    obtain ⟨wA1, hwA1⟩ : ∃ w, w8.alloc (.cells #[] 24) = w := ⟨_, rfl⟩
    rw [hwA1] at hoA1 hfA1 ⊢
    rw [hg0] at hoA1 ⊢
    have HO := Lib.hid hoA1
    have HGA1 : Hid (Fr (fun k => base ≤ k) w8 wA1) := Lib.hid (HG8.out.trans (hfA1.mono fun _ e => e.elim))
    have HFL := Lib.hid hfA1
    clear hoA1 hfA1 hwA1 hg0 hleA1
    refine hK.out _ _ (FACT.out _ HGA1.out) (fun hHA1 => ?_)
    clear hK K
    try simp only [List.getElem_toArray, List.getElem_cons_zero, List.getElem_cons_succ, Act.put, List.setIfInBounds_toArray, List.set_cons_zero, List.set_cons_succ]
    refine wpAnyH_ready (rs := [2, 4]) (by kernel_rfl) (by simp) ?_
    refine AllReadyH.cons (o := _) rfl (fun K hK => ?_) (AllReadyH.cons (o := _) rfl (fun K hK => ?_) AllReadyH.nil)
    · rw [if_pos (by rfl)]
      try simp only [List.getElem_toArray, List.getElem_cons_zero, List.getElem_cons_succ]
      obtain ⟨g2, cap2, wA2, hrunA2, hownA2, hfA2⟩ := app_any wA1 base (.slice (some ⟨g0, 0, none⟩) 0 0) 0 [] l 30 (by have := HGA1.out.size; have := HBASE.out; omega) HO.out b o cp (HR8.out.fr HGA1.out (fun k e => by rw [HBASE.out]; exact e)) (by have := HPOS.out; have := HLEN.out; omega) (by have := H120.out; have := HLEN.out; omega)
      rw [Nat.zero_add, HLEN.out] at hrunA2 hownA2
      rw [List.nil_append] at hownA2
      refine wp_append_run _ _ _ rfl _ _ _ rfl rfl hrunA2 ?_
      have HGA2 : Hid (Fr (fun k => base ≤ k) w8 wA2) := Lib.hid (HGA1.out.trans hfA2)
      clear HO
      have HO := Lib.hid hownA2
      clear hownA2 hfA2 hrunA2
      refine hK.out _ _ (FACT.out _ HGA2.out) (fun hHA2 => ?_)
      clear hK K
      try simp only [List.getElem_toArray, List.getElem_cons_zero, List.getElem_cons_succ, Act.put, List.setIfInBounds_toArray, List.set_cons_zero, List.set_cons_succ]
      refine wpAnyH_ready (rs := [4]) (by kernel_rfl) (by simp) ?_
      refine AllReadyH.cons (o := _) rfl (fun K hK => ?_) AllReadyH.nil
      rw [if_pos (by rfl)]
      try simp only [List.getElem_toArray, List.getElem_cons_zero, List.getElem_cons_succ]
      go_simp
      have hbA3 := Blk.new wA2 24 #[.int .i64 e.k, .int .i64 e.at_, .int .i64 e.ref, .int .i64 e.id, .int .i64 e.list, .int .i64 e.n, .slice e.ao e.dl e.cp]
      have hfA3 : Fr (fun _ => False) wA2 (wA2.alloc (.cells #[.int .i64 e.k, .int .i64 e.at_, .int .i64 e.ref, .int .i64 e.id, .int .i64 e.list, .int .i64 e.n, .slice e.ao e.dl e.cp] 24)) := Fr.alloc _ _ _
      have hgeA3 : base ≤ wA2.heap.size := by have := HGA2.out.size; have := HBASE.out; omega
      obtain ⟨g1, hg1⟩ : ∃ g, wA2.heap.size = g := ⟨_, rfl⟩
      obtain ⟨wA3, hwA3⟩ : ∃ w, wA2.alloc (.cells #[.int .i64 e.k, .int .i64 e.at_, .int .i64 e.ref, .int .i64 e.id, .int .i64 e.list, .int .i64 e.n, .slice e.ao e.dl e.cp] 24) = w := ⟨_, rfl⟩
      rw [hwA3] at hbA3 hfA3 ⊢
      rw [hg1] at hbA3 hgeA3 ⊢
      have HGA3 : Hid (Fr (fun k => base ≤ k) w8 wA3) := Lib.hid (HGA2.out.trans (hfA3.mono fun _ e => e.elim))
      have HEA3 : Hid (Blk wA3 g1 24 (evc e)) := Lib.hid hbA3
      have HG1 := Lib.hid hgeA3
      have HOA3 := Lib.hid (own_fr HO.out hfA3 id)
      clear HO
      have HO := HOA3
      clear HOA3
      clear hbA3 hfA3 hwA3 hg1 hgeA3
      refine hK.out _ _ (FACT.out _ HGA3.out) (fun hHA3 => ?_)
      clear hK K
      try simp only [List.getElem_toArray, List.getElem_cons_zero, List.getElem_cons_succ, Act.put, List.setIfInBounds_toArray, List.set_cons_zero, List.set_cons_succ]
      have HEV := HEA3
      clear HEA3
      refine wpAnyH_ready (rs := [5]) (by kernel_rfl) (by simp) ?_
      refine AllReadyH.cons (o := _) rfl (fun K hK => ?_) AllReadyH.nil
      rw [if_pos (by rfl)]
      try simp only [List.getElem_toArray, List.getElem_cons_zero, List.getElem_cons_succ]
      obtain ⟨g3, cap3, wA4, hrunA4, hownA4, hfA4⟩ := app_any wA3 base (.slice (some ⟨g2, 0, none⟩) len cap2) len l [e] 30 (by have := HGA3.out.size; have := HBASE.out; omega) HO.out g1 0 1 (row1 HEV.out) (by simp) (by have := H120.out; simp; omega)
      rw [show len + [e].length = len + 1 from rfl] at hrunA4 hownA4
      rw [show [e].length = 1 from rfl] at hrunA4
      refine wp_append_run _ _ _ rfl _ _ _ rfl rfl hrunA4 ?_
      have HGA4 : Hid (Fr (fun k => base ≤ k) w8 wA4) := Lib.hid (HGA3.out.trans hfA4)
      have HON := Lib.hid hownA4
      clear hownA4 hfA4 hrunA4 HEV HO
      refine hK.out _ _ (FACT.out _ HGA4.out) (fun hHA4 => ?_)
      clear hK K
      try simp only [List.getElem_toArray, List.getElem_cons_zero, List.getElem_cons_succ, Act.put, List.setIfInBounds_toArray, List.set_cons_zero, List.set_cons_succ]
      refine wpAnyH_take (i := 6) (oi := _) (v := ?vb6) rfl (by kernel_rfl) (by kernel_rfl) (by kernel_rfl) (fun _ _ _ h => h) (Or.inl ⟨by rfl, ?yb6⟩) (by assumption) ?rb6
      case yb6 => intro w1 hSw; obtain ⟨s1, s2, s3, s4, s5, s6, s7⟩ := hSw; go_simp; try with_reducible rfl
      try simp only [List.getElem_toArray, List.getElem_cons_zero, List.getElem_cons_succ, Act.put, List.setIfInBounds_toArray, List.set_cons_zero, List.set_cons_succ]
      refine wpAnyH_done (by kernel_rfl) ?_ _
      clear FACT
      have HMB := more_bad (e := e) HCL.out
      have HRM := rowV_own HON.out
      have HCK := Lib.hid (check_bad wA4 _ cap3 (len + 1) (l ++ [e]) HRM.1 (by rw [List.length_append, HLEN.out]; rfl) (by have := H120.out; omega) HMB)
      have HFZ := Lib.hid (HF8.out.above HGA4.out (fun k hk => by have := HF8.out.size; have := HBASE.out; omega))
      clear HMB HRM
      go_wp2_with (first | (go_at_call 16; refine HCK.out.mono ?_; rintro r9 w9 ⟨p, rfl, hf9⟩) | go_in)
      go_ret
      exact ⟨rfl, (HFZ.out.trans hf9).below (Nat.le_refl _) (fun k e => e.elim)⟩
    · rw [if_pos (by rfl)]
      try simp only [List.getElem_toArray, List.getElem_cons_zero, List.getElem_cons_succ]
      go_simp
      have hbB2 := Blk.new wA1 24 #[.int .i64 e.k, .int .i64 e.at_, .int .i64 e.ref, .int .i64 e.id, .int .i64 e.list, .int .i64 e.n, .slice e.ao e.dl e.cp]
      have hfB2 : Fr (fun _ => False) wA1 (wA1.alloc (.cells #[.int .i64 e.k, .int .i64 e.at_, .int .i64 e.ref, .int .i64 e.id, .int .i64 e.list, .int .i64 e.n, .slice e.ao e.dl e.cp] 24)) := Fr.alloc _ _ _
      have hgeB2 : base ≤ wA1.heap.size := by have := HGA1.out.size; have := HBASE.out; omega
      obtain ⟨g1, hg1⟩ : ∃ g, wA1.heap.size = g := ⟨_, rfl⟩
      obtain ⟨wB2, hwB2⟩ : ∃ w, wA1.alloc (.cells #[.int .i64 e.k, .int .i64 e.at_, .int .i64 e.ref, .int .i64 e.id, .int .i64 e.list, .int .i64 e.n, .slice e.ao e.dl e.cp] 24) = w := ⟨_, rfl⟩
      rw [hwB2] at hbB2 hfB2 ⊢
      rw [hg1] at hbB2 hgeB2 ⊢
      have HNE : Hid (g1 ≠ g0) := Lib.hid (fun e => by have h1 := lt_own HO.out; omega)
      have HGB2 : Hid (Fr (fun k => base ≤ k) w8 wB2) := Lib.hid (HGA1.out.trans (hfB2.mono fun _ e => e.elim))
      have HEB2 : Hid (Blk wB2 g1 24 (evc e)) := Lib.hid hbB2
      have HG1 := Lib.hid hgeB2
      have HOB2 := Lib.hid (own_fr HO.out hfB2 id)
      clear HO
      have HO := HOB2
      clear HOB2
      clear hbB2 hfB2 hwB2 hg1 hgeB2
      refine hK.out _ _ (FACT.out _ HGB2.out) (fun hHB2 => ?_)
      clear hK K
      try simp only [List.getElem_toArray, List.getElem_cons_zero, List.getElem_cons_succ, Act.put, List.setIfInBounds_toArray, List.set_cons_zero, List.set_cons_succ]
      refine wpAnyH_ready (rs := [2]) (by kernel_rfl) (by simp) ?_
      refine AllReadyH.cons (o := _) rfl (fun K hK => ?_) AllReadyH.nil
      rw [if_pos (by rfl)]
      try simp only [List.getElem_toArray, List.getElem_cons_zero, List.getElem_cons_succ]
      obtain ⟨g2, cap2, wB3, hrunB3, hownB3, hfB3, hkB3⟩ := app_kept wB2 base g0 l 30 (by have := HGB2.out.size; have := HBASE.out; omega) HO.out b o cp (HR8.out.fr HGB2.out (fun k e => by rw [HBASE.out]; exact e)) (by have := HPOS.out; have := HLEN.out; omega) (by have := H120.out; have := HLEN.out; omega)
      rw [HLEN.out] at hrunB3 hownB3
      refine wp_append_run _ _ _ rfl _ _ _ rfl rfl hrunB3 ?_
      have HGB3 : Hid (Fr (fun k => base ≤ k) w8 wB3) := Lib.hid (HGB2.out.trans hfB3)
      have HEV := Lib.hid (HEB2.out.fr hkB3 HNE.out)
      clear HO HEB2
      have HO := Lib.hid hownB3
      clear hownB3 hfB3 hkB3 hrunB3
      refine hK.out _ _ (FACT.out _ HGB3.out) (fun hHB3 => ?_)
      clear hK K
      try simp only [List.getElem_toArray, List.getElem_cons_zero, List.getElem_cons_succ, Act.put, List.setIfInBounds_toArray, List.set_cons_zero, List.set_cons_succ]
      refine wpAnyH_ready (rs := [5]) (by kernel_rfl) (by simp) ?_
      refine AllReadyH.cons (o := _) rfl (fun K hK => ?_) AllReadyH.nil
      rw [if_pos (by rfl)]
      try simp only [List.getElem_toArray, List.getElem_cons_zero, List.getElem_cons_succ]
      obtain ⟨g3, cap3, wB4, hrunB4, hownB4, hfB4⟩ := app_any wB3 base (.slice (some ⟨g2, 0, none⟩) len cap2) len l [e] 30 (by have := HGB3.out.size; have := HBASE.out; omega) HO.out g1 0 1 (row1 HEV.out) (by simp) (by have := H120.out; simp; omega)
      rw [show len + [e].length = len + 1 from rfl] at hrunB4 hownB4
      rw [show [e].length = 1 from rfl] at hrunB4
      refine wp_append_run _ _ _ rfl _ _ _ rfl rfl hrunB4 ?_
      have HGB4 : Hid (Fr (fun k => base ≤ k) w8 wB4) := Lib.hid (HGB3.out.trans hfB4)
      have HON := Lib.hid hownB4
      clear hownB4 hfB4 hrunB4 HEV HO
      refine hK.out _ _ (FACT.out _ HGB4.out) (fun hHB4 => ?_)
      clear hK K
      try simp only [List.getElem_toArray, List.getElem_cons_zero, List.getElem_cons_succ, Act.put, List.setIfInBounds_toArray, List.set_cons_zero, List.set_cons_succ]
      refine wpAnyH_take (i := 6) (oi := _) (v := ?vc6) rfl (by kernel_rfl) (by kernel_rfl) (by kernel_rfl) (fun _ _ _ h => h) (Or.inl ⟨by rfl, ?yc6⟩) (by assumption) ?rc6
      case yc6 => intro w1 hSw; obtain ⟨s1, s2, s3, s4, s5, s6, s7⟩ := hSw; go_simp; try with_reducible rfl
      try simp only [List.getElem_toArray, List.getElem_cons_zero, List.getElem_cons_succ, Act.put, List.setIfInBounds_toArray, List.set_cons_zero, List.set_cons_succ]
      refine wpAnyH_done (by kernel_rfl) ?_ _
      clear FACT
      have HMB := more_bad (e := e) HCL.out
      have HRM := rowV_own HON.out
      have HCK := Lib.hid (check_bad wB4 _ cap3 (len + 1) (l ++ [e]) HRM.1 (by rw [List.length_append, HLEN.out]; rfl) (by have := H120.out; omega) HMB)
      have HFZ := Lib.hid (HF8.out.above HGB4.out (fun k hk => by have := HF8.out.size; have := HBASE.out; omega))
      clear HMB HRM
      go_wp2_with (first | (go_at_call 16; refine HCK.out.mono ?_; rintro r9 w9 ⟨p, rfl, hf9⟩) | go_in)
      go_ret
      exact ⟨rfl, (HFZ.out.trans hf9).below (Nat.le_refl _) (fun k e => e.elim)⟩
  · rw [if_pos (by rfl)]
    try simp only [List.getElem_toArray, List.getElem_cons_zero, List.getElem_cons_succ]
    go_simp
    have hbC1 := Blk.new w8 24 #[.int .i64 e.k, .int .i64 e.at_, .int .i64 e.ref, .int .i64 e.id, .int .i64 e.list, .int .i64 e.n, .slice e.ao e.dl e.cp]
    have hfC1 : Fr (fun _ => False) w8 (w8.alloc (.cells #[.int .i64 e.k, .int .i64 e.at_, .int .i64 e.ref, .int .i64 e.id, .int .i64 e.list, .int .i64 e.n, .slice e.ao e.dl e.cp] 24)) := Fr.alloc _ _ _
    have hgeC1 : base ≤ w8.heap.size := by have := HG8.out.size; have := HBASE.out; omega
    obtain ⟨g1, hg1⟩ : ∃ g, w8.heap.size = g := ⟨_, rfl⟩
    obtain ⟨wC1, hwC1⟩ : ∃ w, w8.alloc (.cells #[.int .i64 e.k, .int .i64 e.at_, .int .i64 e.ref, .int .i64 e.id, .int .i64 e.list, .int .i64 e.n, .slice e.ao e.dl e.cp] 24) = w := ⟨_, rfl⟩
    rw [hwC1] at hbC1 hfC1 ⊢
    rw [hg1] at hbC1 hgeC1 ⊢
    have HGC1 : Hid (Fr (fun k => base ≤ k) w8 wC1) := Lib.hid (HG8.out.trans (hfC1.mono fun _ e => e.elim))
    have HEC1 : Hid (Blk wC1 g1 24 (evc e)) := Lib.hid hbC1
    have HG1 := Lib.hid hgeC1
    clear hbC1 hfC1 hwC1 hg1 hgeC1
    refine hK.out _ _ (FACT.out _ HGC1.out) (fun hHC1 => ?_)
    clear hK K
    try simp only [List.getElem_toArray, List.getElem_cons_zero, List.getElem_cons_succ, Act.put, List.setIfInBounds_toArray, List.set_cons_zero, List.set_cons_succ]
    refine wpAnyH_ready (rs := [0]) (by kernel_rfl) (by simp) ?_
    refine AllReadyH.cons (o := _) rfl (fun K hK => ?_) AllReadyH.nil
    rw [if_pos (by rfl)]
    try simp only [List.getElem_toArray, List.getElem_cons_zero, List.getElem_cons_succ]
    go_simp
    have hleC2 : base ≤ wC1.heap.size := by have := HGC1.out.size; have := HBASE.out; omega
    have hoC2 := own_empty wC1 base hleC2
    have hfC2 : Fr (fun _ => False) wC1 (wC1.alloc (.cells #[] 24)) := Fr.alloc _ _ _
    obtain ⟨g0, hg0⟩ : ∃ g, wC1.heap.size = g := ⟨_, rfl⟩
    obtain ⟨wC2, hwC2⟩ : ∃ w, wC1.alloc (.cells #[] 24) = w := ⟨_, rfl⟩
    rw [hwC2] at hoC2 hfC2 ⊢
    rw [hg0] at hoC2 ⊢
    have HNEC : Hid (g1 ≠ g0) := Lib.hid (fun e => by have h1 := HEC1.out.lt; omega)
    have HO := Lib.hid hoC2
    have HGC2 : Hid (Fr (fun k => base ≤ k) w8 wC2) := Lib.hid (HGC1.out.trans (hfC2.mono fun _ e => e.elim))
    have HFL := Lib.hid hfC2
    clear hoC2 hfC2 hwC2 hg0 hleC2
    refine hK.out _ _ (FACT.out _ HGC2.out) (fun hHC2 => ?_)
    clear hK K
    try simp only [List.getElem_toArray, List.getElem_cons_zero, List.getElem_cons_succ, Act.put, List.setIfInBounds_toArray, List.set_cons_zero, List.set_cons_succ]
    have HNE : Hid (g1 ≠ g0) := HNEC
    have HEC2 := Lib.hid (HEC1.out.fr HFL.out id)
    clear HEC1
    refine wpAnyH_ready (rs := [2]) (by kernel_rfl) (by simp) ?_
    refine AllReadyH.cons (o := _) rfl (fun K hK => ?_) AllReadyH.nil
    rw [if_pos (by rfl)]
    try simp only [List.getElem_toArray, List.getElem_cons_zero, List.getElem_cons_succ]
    obtain ⟨g2, cap2, wC3, hrunC3, hownC3, hfC3, hkC3⟩ := app_kept wC2 base g0 l 30 (by have := HGC2.out.size; have := HBASE.out; omega) HO.out b o cp (HR8.out.fr HGC2.out (fun k e => by rw [HBASE.out]; exact e)) (by have := HPOS.out; have := HLEN.out; omega) (by have := H120.out; have := HLEN.out; omega)
    rw [HLEN.out] at hrunC3 hownC3
    refine wp_append_run _ _ _ rfl _ _ _ rfl rfl hrunC3 ?_
    have HGC3 : Hid (Fr (fun k => base ≤ k) w8 wC3) := Lib.hid (HGC2.out.trans hfC3)
    have HEV := Lib.hid (HEC2.out.fr hkC3 HNE.out)
    clear HO HEC2
    have HO := Lib.hid hownC3
    clear hownC3 hfC3 hkC3 hrunC3
    refine hK.out _ _ (FACT.out _ HGC3.out) (fun hHC3 => ?_)
    clear hK K
    try simp only [List.getElem_toArray, List.getElem_cons_zero, List.getElem_cons_succ, Act.put, List.setIfInBounds_toArray, List.set_cons_zero, List.set_cons_succ]
    refine wpAnyH_ready (rs := [5]) (by kernel_rfl) (by simp) ?_
    refine AllReadyH.cons (o := _) rfl (fun K hK => ?_) AllReadyH.nil
    rw [if_pos (by rfl)]
    try simp only [List.getElem_toArray, List.getElem_cons_zero, List.getElem_cons_succ]
    obtain ⟨g3, cap3, wC4, hrunC4, hownC4, hfC4⟩ := app_any wC3 base (.slice (some ⟨g2, 0, none⟩) len cap2) len l [e] 30 (by have := HGC3.out.size; have := HBASE.out; omega) HO.out g1 0 1 (row1 HEV.out) (by simp) (by have := H120.out; simp; omega)
    rw [show len + [e].length = len + 1 from rfl] at hrunC4 hownC4
    rw [show [e].length = 1 from rfl] at hrunC4
    refine wp_append_run _ _ _ rfl _ _ _ rfl rfl hrunC4 ?_
    have HGC4 : Hid (Fr (fun k => base ≤ k) w8 wC4) := Lib.hid (HGC3.out.trans hfC4)
    have HON := Lib.hid hownC4
    clear hownC4 hfC4 hrunC4 HEV HO
    refine hK.out _ _ (FACT.out _ HGC4.out) (fun hHC4 => ?_)
    clear hK K
    try simp only [List.getElem_toArray, List.getElem_cons_zero, List.getElem_cons_succ, Act.put, List.setIfInBounds_toArray, List.set_cons_zero, List.set_cons_succ]
    refine wpAnyH_take (i := 6) (oi := _) (v := ?vd6) rfl (by kernel_rfl) (by kernel_rfl) (by kernel_rfl) (fun _ _ _ h => h) (Or.inl ⟨by rfl, ?yd6⟩) (by assumption) ?rd6
    case yd6 => intro w1 hSw; obtain ⟨s1, s2, s3, s4, s5, s6, s7⟩ := hSw; go_simp; try with_reducible rfl
    try simp only [List.getElem_toArray, List.getElem_cons_zero, List.getElem_cons_succ, Act.put, List.setIfInBounds_toArray, List.set_cons_zero, List.set_cons_succ]
    refine wpAnyH_done (by kernel_rfl) ?_ _
    clear FACT
    have HMB := more_bad (e := e) HCL.out
    have HRM := rowV_own HON.out
    have HCK := Lib.hid (check_bad wC4 _ cap3 (len + 1) (l ++ [e]) HRM.1 (by rw [List.length_append, HLEN.out]; rfl) (by have := H120.out; omega) HMB)
    have HFZ := Lib.hid (HF8.out.above HGC4.out (fun k hk => by have := HF8.out.size; have := HBASE.out; omega))
    clear HMB HRM
    go_wp2_with (first | (go_at_call 16; refine HCK.out.mono ?_; rintro r9 w9 ⟨p, rfl, hf9⟩) | go_in)
    go_ret
    exact ⟨rfl, (HFZ.out.trans hf9).below (Nat.le_refl _) (fun k e => e.elim)⟩
end Go.Proofs.YtbdjnfkhdphhoaaDoor
