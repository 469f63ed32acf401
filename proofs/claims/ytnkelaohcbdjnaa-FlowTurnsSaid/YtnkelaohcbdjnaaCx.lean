/- put: an event more. -/
import Derived.Test.YtnkelaohcbdjnaaBx
import Derived.Deep.RegionHeld3
import Derived.Deep.MidRow
import Derived.Deep.Cut
import Derived.Deep.CutBlock
import Derived.Deep.DeepCutAuto
set_option linter.unusedVariables false
set_option linter.unusedSimpArgs false
namespace Go.Proofs.Ytnkelaohcbdjnaa
open Go.RowKit Go.Maps
theorem info79 : (Try.prog.info? 79).map (fun i => (i.zero, i.size, i.bytes)) = some (some (.agg #[.int .i64 0, .int .i64 0, .int .i64 0, .int .i64 0, .int .i64 0, .int .i64 0, .slice none 0 0]), 7, 72) := by kernel_rfl
theorem upon_append {P : Program} {o : Oper} {a : Act} {w w' : World} {K : Act → World → Prop} {Q : Exit → Act → World → Prop} {s x : Operand} {t : TypeId} (ho : o.op = .call { callee := .builtin .append, args := #[s, x], argTypes := #[t, t] }) {v xv v' : Value} (hs : a.eval s = v) (hx : a.eval x = xv)
    (hr : (Builtin.append_ #[t, t] o.type #[v, xv]).run P w = .ok v' w') (hK : K (a.put o.dst v') w') : o.wp P a w K Q := by
  unfold Oper.wp execOp
  simp only [ho, resolve, invoke, builtin, Sem.run_bind, Sem.run_pure, Result.andThen_ok, List.map_toArray, List.map_cons, List.map_nil, hs, hx, hr]
  exact hK
/-- one row of seven more, at a full slice -/
theorem appE {S : Nat → Prop} {W : World} {ao : Option Addr} {cp N : Nat} {rows : List (List Value)} (hN : rows.length = N) (h : RowE S W ao cp rows) (h7 : ∀ r ∈ rows, r.length = 7 ∧ ∀ u ∈ r, u.oneCell' = true) (hl : N ≤ 100000) (hS : ∀ k, S k → k < W.heap.size) (ad : Addr) (c : Nat) (news : List Value) (hn : news.length = 7) (hc : ∀ j u, news[j]? = some u → W.cell? (ad.add j) = some u) (h1 : ∀ u ∈ news, u.oneCell' = true) (ty : TypeId) :
    ∃ ao' cp' W', (Builtin.append_ #[66, 66] ty #[.slice ao N N, .slice (some ad) 1 c]).run Try.prog W = .ok (.slice ao' (N + 1) cp') W' ∧ RowE S W' ao' cp' (rows ++ [news]) ∧ Fr (fun _ => False) W W' := by
  subst hN
  obtain ⟨i0, hi, hz0, hz1, hz2⟩ := info_parts info79
  have hfl := flat7 (fun r hr => (h7 r hr).1)
  have key : ∃ v' W', (Builtin.append_ #[66, 66] ty #[.slice ao rows.length rows.length, .slice (some ad) 1 c]).run Try.prog W = .ok v' W' ∧ W'.ownsRow W.heap.size 79 7 v' (rows.length + 1) (rows.flatten ++ news) ∧ W.grownBy W' none := by
    cases ao with
    | some b =>
      obtain ⟨g, rfl, _, _, hcell⟩ := h.2.2.2 b rfl
      have hcell' : ∀ j u, rows.flatten[j]? = some u → W.cell? ((⟨g, 0, none⟩ : Addr).add j) = some u := fun j u hj => by rw [off_add, Nat.zero_add]; exact hcell j u hj
      obtain ⟨v', w', hrun, r1, r2⟩ := run_append_arg_grows (P := Try.prog) W 66 ty 79 i0 _ 7 72 Try.underlying66 hi hz0 hz1 hz2 rfl (by decide) ⟨g, 0, none⟩ rows.length rows.length rows.flatten hfl hcell' ad 1 c news (by omega) hc (by omega) (by unfold maxLen; omega) (by omega)
      exact ⟨v', w', hrun, r1, r2⟩
    | none =>
      obtain ⟨rfl, _⟩ := h.2.2.1 rfl
      obtain ⟨v', w', hrun, r1, r2, _⟩ := run_append_own (P := Try.prog) W W.heap.size 66 ty 79 i0 _ 7 72 Try.underlying66 hi hz0 hz1 hz2 rfl (by decide) (.slice none 0 0) 0 [] (World.ownsRow_nil W _ 79 7) ad 1 c news (by omega) hc h1 (by unfold maxLen; omega) (by omega) (Nat.le_refl _)
      exact ⟨v', w', hrun, r1, r2⟩
  obtain ⟨v', W', hrun, hown, hgr⟩ := key
  have hcs := hown
  rcases hown.2 with ⟨_, h0⟩ | ⟨g, cp', cur, rfl, hb, hgb, hnc, hcm, _, _⟩
  · omega
  · refine ⟨some ⟨g, 0, none⟩, cp', W', hrun, ⟨by rw [List.length_append]; exact hnc, hcm, fun e => (by cases e), fun a e => ?_⟩, Fr.grown hgr (fun k e => nomatch e)⟩
    cases e
    refine ⟨g, rfl, fun e => ?_, (Array.getElem?_eq_some_iff.1 hgb).1, fun j u hj => ?_⟩
    · have := hS g e; omega
    · rw [List.flatten_append, show [news].flatten = news from by simp] at hj
      have hjl := (List.getElem?_eq_some_iff.1 hj).1
      rw [List.length_append, hfl, hn] at hjl
      rw [hcs.cellAt j (by omega), hj]
set_option maxRecDepth 100000 in
set_option maxHeartbeats 4000000 in
theorem put1_any (S : Nat → Prop) (W : World) (hS : ∀ k, S k → k < W.heap.size) (fb mb : Nat) (s : FSt) (h : FL S W fb mb s) (hf : S fb) (hl : s.l.length ≤ 50000) (a r i l n : Int) (dv : Value) (ds : List Value) (hd : RowB (fun _ => False) W dv ds) (hdl : ds.length ≤ 100000) (hd1 : ∀ u ∈ ds, u.oneCell' = true) :
    Calls Try.prog 38 #[.pointer (some ⟨fb, 0, none⟩), .agg #[.int .i64 1, .int .i64 a, .int .i64 r, .int .i64 i, .int .i64 l, .int .i64 n, dv]] W fun e W' => e = .returned (.int .i64 ((s.l.length : Int) + 1)) ∧ FL S W' fb mb ({ s with list := l, n := n, l := s.l ++ [⟨1, a, r, i, l, n, ds⟩] }) ∧ Fr (fun k => k = fb) W W' := by
  have HS := Lib.hid hS
  have HFL := Lib.hid h
  have hlt := h.lt
  have HD := Lib.hid hd
  have HD1 := Lib.hid hd1
  have HDD := Lib.hid (And.intro hdl hd1)
  clear h hS hd hd1
  go_enter Try.func38, Try.ntmps38
  have hs1 : (W.alloc (.cells #[.int .i64 1, .int .i64 a, .int .i64 r, .int .i64 i, .int .i64 l, .int .i64 n, dv] 79)).heap.size = W.heap.size + 1 := by simp
  have hE1 := Blk.new W 79 #[.int .i64 1, .int .i64 a, .int .i64 r, .int .i64 i, .int .i64 l, .int .i64 n, dv]
  have hF1 : Fr (fun _ => False) W (W.alloc (.cells #[.int .i64 1, .int .i64 a, .int .i64 r, .int .i64 i, .int .i64 l, .int .i64 n, dv] 79)) := Fr.alloc _ _ _
  obtain ⟨w1, hw1⟩ : ∃ w1, W.alloc (.cells #[.int .i64 1, .int .i64 a, .int .i64 r, .int .i64 i, .int .i64 l, .int .i64 n, dv] 79) = w1 := ⟨_, rfl⟩
  obtain ⟨eb, heb⟩ : ∃ b, W.heap.size = b := ⟨_, rfl⟩
  have HEB := Lib.hid heb
  rw [hw1] at hs1 hE1 hF1
  rw [heb] at hs1 hE1 hlt
  have HE1 := Lib.hid hE1
  have HF1 := Lib.hid hF1
  have e6 := hE1.cell 6
  simp only [List.getElem?_toArray, List.getElem?_cons_zero, List.getElem?_cons_succ] at e6
  go_upto_region 1 with (fail)
  clear hw1 heb hE1 hF1
  go_wp2_with fail
  refine (clone_any (fun _ => False) (fun k => k = eb ∨ S k) w1 dv ds (HD.out.fr (HF1.out.mono fun _ e => e.elim)) (by omega) HD1.out (fun k e => e.elim (fun e => by omega) (fun e => by have := HS.out k e; have := HEB.out; omega))).mono ?_
  rintro e w2 ⟨VV, rfl, hr2, hf2⟩
  obtain ⟨va, vc, hve⟩ : ∃ va vc, VV = .slice va ds.length vc := by obtain ⟨ao, cap, e, _⟩ := hr2; exact ⟨ao, cap, e⟩
  obtain ⟨dl, hdle⟩ : ∃ dl, ds.length = dl := ⟨_, rfl⟩
  rw [hdle] at hve hdl
  subst hve
  have hE2 := HE1.out.fr hf2 id
  have g6 := hE2.cell 6
  have gf6 := hE2.frozen 6
  simp only [List.getElem?_toArray, List.getElem?_cons_zero, List.getElem?_cons_succ] at g6
  have HE2 := Lib.hid hE2
  have HF2 := Lib.hid (HF1.out.trans hf2)
  have HR2 := Lib.hid hr2
  clear hE2 hf2 hr2 e6 hdle
  go_upto_region 2 with (fail)
  have hE3 := HE2.out.set 6 (.slice va dl vc)
  have hF3 := Fr.setCell (S := fun k => k = eb) w2 ⟨eb, 6, none⟩ (.slice va dl vc) rfl
  obtain ⟨w3, hw3⟩ : ∃ w3, w2.setCell ⟨eb, 6, none⟩ (.slice va dl vc) = w3 := ⟨_, rfl⟩
  rw [hw3] at hE3 hF3 ⊢
  have hFW : Fr (fun _ => False) W w3 := ⟨hF3.os.trans HF2.out.os, hF3.tape.trans HF2.out.tape, hF3.output.trans HF2.out.output, Nat.le_trans HF2.out.size hF3.size, fun k hk _ => (hF3.block k (Nat.lt_of_lt_of_le hk HF2.out.size) (by have := HEB.out; omega)).trans (HF2.out.block k hk id)⟩
  have hr3 : RowB (fun k => k = eb ∨ S k) w3 (.slice va dl vc) ds := HR2.out.fr (hF3.mono fun k e => .inl e)
  have HR4 := Lib.hid (hr3.to (S' := S) (fun k _ e => .inr e))
  have hfl3 := HFL.out.fr0 hFW
  have hE3 : Blk w3 eb 79 #[.int .i64 1, .int .i64 a, .int .i64 r, .int .i64 i, .int .i64 l, .int .i64 n, .slice va dl vc] := hE3
  obtain ⟨ao, cp, vs, hvl, hfb, hrow, hdat⟩ := hfl3.f
  have HVL := Lib.hid hvl
  have HDAT := Lib.hid hdat
  have HR7 := Lib.hid (hdat.rows hvl)
  have HRL := Lib.hid (rowsOf_len hvl)
  have FACTS : Hid (∀ w', Fr (fun _ => False) w3 w' → w'.cell? ⟨fb, 4, none⟩ = some (.slice ao s.l.length cp) ∧ w'.cell? ⟨eb, 0, none⟩ = some (.int .i64 1) ∧ w'.cell? ⟨eb, 1, none⟩ = some (.int .i64 a) ∧ w'.cell? ⟨eb, 2, none⟩ = some (.int .i64 r) ∧ w'.cell? ⟨eb, 3, none⟩ = some (.int .i64 i) ∧ w'.cell? ⟨eb, 4, none⟩ = some (.int .i64 l) ∧ w'.cell? ⟨eb, 5, none⟩ = some (.int .i64 n) ∧ w'.cell? ⟨eb, 6, none⟩ = some (.slice va dl vc)) := Lib.hid (fun w' hf => by
    have h1 := hfb.fr hf id
    have h2 := hE3.fr hf id
    exact ⟨h1.cell 4, h2.cell 0, h2.cell 1, h2.cell 2, h2.cell 3, h2.cell 4, h2.cell 5, h2.cell 6⟩)
  have hne : eb ≠ fb := by omega
  have EFACTS : Hid (∀ w', Fr (fun k => k = fb) w3 w' → w'.cell? ⟨eb, 0, none⟩ = some (.int .i64 1) ∧ w'.cell? ⟨eb, 1, none⟩ = some (.int .i64 a) ∧ w'.cell? ⟨eb, 2, none⟩ = some (.int .i64 r) ∧ w'.cell? ⟨eb, 3, none⟩ = some (.int .i64 i) ∧ w'.cell? ⟨eb, 4, none⟩ = some (.int .i64 l) ∧ w'.cell? ⟨eb, 5, none⟩ = some (.int .i64 n) ∧ w'.cell? ⟨eb, 6, none⟩ = some (.slice va dl vc)) := Lib.hid (fun w' hf => by
    have h2 := hE3.fr hf hne
    exact ⟨h2.cell 0, h2.cell 1, h2.cell 2, h2.cell 3, h2.cell 4, h2.cell 5, h2.cell 6⟩)
  have HE3 := Lib.hid hE3
  have HFL3 := Lib.hid hfl3
  have HFB := Lib.hid hfb
  have HROW := Lib.hid hrow
  have HFW := Lib.hid hFW
  have HR3 := Lib.hid hr3
  have HF23 := Lib.hid hF3
  have hsz := hFW.size
  clear hw3 hE3 hfl3 hfb hrow hdat hvl hFW hr3 hF3 HE1 HF1 HE2 HF2 HR2 HD HFL HD1 g6 gf6
  go_cut [18] (fun _ wx => ∃ ao' cp', Blk wx fb 75 (fcells s (.slice ao' (s.l.length + 1) cp') (.map (some mb))) ∧ RowE S wx ao' cp' (rowsOf s.l vs ++ [ev 1 a r i l n (.slice va dl vc)]) ∧ Blk wx eb 79 #[.int .i64 1, .int .i64 a, .int .i64 r, .int .i64 i, .int .i64 l, .int .i64 n, .slice va dl vc] ∧ Mp iKE wx mb s.mc s.mp ∧ Fr (fun k => k = fb) w3 wx)
  case first =>
    refine wp_region_held_drew (S := fun (w' : World) => Fr (fun k => k = fb) w3 w') (by kernel_rfl) (Fr.drewN _ w3 1) (fun hHeld => ?_)
    refine wpAnyH_take (i := 0) (oi := _) (v := ?va0) rfl (by kernel_rfl) (by kernel_rfl) (by kernel_rfl) (fun _ _ _ h => h) (Or.inl ⟨by rfl, ?ya0⟩) (by assumption) ?ra0
    case ya0 => intro w1 hSw; go_simp; try with_reducible rfl
    try simp only [List.getElem_toArray, List.getElem_cons_zero, List.getElem_cons_succ, Act.put, List.setIfInBounds_toArray, List.set_cons_zero, List.set_cons_succ]
    refine wpAnyH_take (i := 1) (oi := _) (v := ?va1) rfl (by kernel_rfl) (by kernel_rfl) (by kernel_rfl) (fun _ _ _ h => h) (Or.inl ⟨by rfl, ?ya1⟩) (by assumption) ?ra1
    case ya1 => intro w1 hSw; go_simp; try with_reducible rfl
    try simp only [List.getElem_toArray, List.getElem_cons_zero, List.getElem_cons_succ, Act.put, List.setIfInBounds_toArray, List.set_cons_zero, List.set_cons_succ]
    refine wpAnyH_take (i := 2) (oi := _) (v := ?va2) rfl (by kernel_rfl) (by kernel_rfl) (by kernel_rfl) (fun _ _ _ h => h) (Or.inl ⟨by rfl, ?ya2⟩) (by assumption) ?ra2
    case ya2 => intro w1 hSw; go_simp; try with_reducible rfl
    try simp only [List.getElem_toArray, List.getElem_cons_zero, List.getElem_cons_succ, Act.put, List.setIfInBounds_toArray, List.set_cons_zero, List.set_cons_succ]
    refine wpAnyH_take (i := 3) (oi := _) (v := ?va3) rfl (by kernel_rfl) (by kernel_rfl) (by kernel_rfl) (fun _ _ _ h => h) (Or.inl ⟨by rfl, ?ya3⟩) (by assumption) ?ra3
    case ya3 => intro w1 hSw; go_simp; try with_reducible rfl
    try simp only [List.getElem_toArray, List.getElem_cons_zero, List.getElem_cons_succ, Act.put, List.setIfInBounds_toArray, List.set_cons_zero, List.set_cons_succ]
    refine wpAnyH_take (i := 6) (oi := _) (v := ?va6) rfl (by kernel_rfl) (by kernel_rfl) (by kernel_rfl) (fun _ _ _ h => h) (Or.inl ⟨by rfl, ?ya6⟩) (by assumption) ?ra6
    case ya6 => intro w1 hSw; obtain ⟨f1, f2, f3, f4, f5, f6, f7⟩ := EFACTS.out w1 hSw; go_simp; try with_reducible rfl
    try simp only [List.getElem_toArray, List.getElem_cons_zero, List.getElem_cons_succ, Act.put, List.setIfInBounds_toArray, List.set_cons_zero, List.set_cons_succ]
    obtain ⟨g4, _⟩ := FACTS.out w3.drew (Fr.drewN _ w3 1)
    obtain ⟨h4, _⟩ := FACTS.out (w3.alloc (.cells #[.int .i64 1, .int .i64 a, .int .i64 r, .int .i64 i, .int .i64 l, .int .i64 n, .slice va dl vc] 79)) (Fr.alloc _ _ _)
    refine wpAnyH_ready (rs := [4, 7]) (by kernel_rfl) (by simp) ?_
    refine AllReadyH.cons (o := _) rfl (fun K hK => ?_) (AllReadyH.cons (o := _) rfl (fun K hK => ?_) AllReadyH.nil)
    · rw [if_pos (by rfl)]
      try simp only [List.getElem_toArray, List.getElem_cons_zero, List.getElem_cons_succ]
      go_simp
      refine hK.out _ _ (Fr.drewN _ w3 1) (fun hh1 => ?_)
      clear hK K
      try simp only [List.getElem_toArray, List.getElem_cons_zero, List.getElem_cons_succ, Act.put, List.setIfInBounds_toArray, List.set_cons_zero, List.set_cons_succ]
      refine wpAnyH_ready (rs := [5, 7]) (by kernel_rfl) (by simp) ?_
      refine AllReadyH.cons (o := _) rfl (fun K hK => ?_) (AllReadyH.cons (o := _) rfl (fun K hK => ?_) AllReadyH.nil)
      · rw [if_pos (by rfl)]
        try simp only [List.getElem_toArray, List.getElem_cons_zero, List.getElem_cons_succ]
        go_simp
        refine (clip_any _ ao s.l.length cp (HRL.out ▸ HROW.out.1) (fun e => ⟨by rw [← HRL.out, (HROW.out.2.2.1 e).1]; rfl, (HROW.out.2.2.1 e).2⟩) HROW.out.2.1).mono ?_
        rintro e wq ⟨rfl, rfl⟩
        refine hK.out _ _ (Fr.drewN _ w3 1) (fun hh2 => ?_)
        clear hK K
        try simp only [List.getElem_toArray, List.getElem_cons_zero, List.getElem_cons_succ, Act.put, List.setIfInBounds_toArray, List.set_cons_zero, List.set_cons_succ]
        refine wpAnyH_ready (rs := [7]) (by kernel_rfl) (by simp) ?_
        refine AllReadyH.cons (o := _) rfl (fun K hK => ?_) AllReadyH.nil
        rw [if_pos (by rfl)]
        try simp only [List.getElem_toArray, List.getElem_cons_zero, List.getElem_cons_succ]
        go_simp
        refine hK.out _ _ ((Fr.drewN _ w3 1).trans (Fr.alloc _ _ _)) (fun hh3 => ?_)
        clear hK K
        try simp only [List.getElem_toArray, List.getElem_cons_zero, List.getElem_cons_succ, Act.put, List.setIfInBounds_toArray, List.set_cons_zero, List.set_cons_succ]
        have hfA : Fr (fun _ => False) w3 (w3.drew.alloc (.cells #[.int .i64 1, .int .i64 a, .int .i64 r, .int .i64 i, .int .i64 l, .int .i64 n, .slice va dl vc] 79)) := (Fr.drewN _ w3 1).trans (Fr.alloc _ _ _)
        obtain ⟨ao', cp', w5, hrun, hrow5, hf5⟩ := appE HRL.out (HROW.out.fr (hfA.mono fun _ e => e.elim)) HR7.out (by omega) (fun k e => Nat.lt_of_lt_of_le (HS.out k e) (Nat.le_trans hsz hfA.size)) ⟨w3.heap.size, 0, none⟩ 1 (ev 1 a r i l n (.slice va dl vc)) rfl (fun j u hj => by rw [off_add, Nat.zero_add]; exact (World.cell?_alloc_mark w3.drew #[.int .i64 1, .int .i64 a, .int .i64 r, .int .i64 i, .int .i64 l, .int .i64 n, .slice va dl vc] 79 (0, 0) j).trans (by simpa [ev] using hj)) (by intro u hu; simp [ev] at hu; rcases hu with rfl | rfl | rfl | rfl | rfl | rfl | rfl <;> rfl) 66
        have hf35 := hfA.trans hf5
        have hfb5 := HFB.out.fr hf35 id
        refine wpAnyH_ready (rs := [8]) (by kernel_rfl) (by simp) ?_
        refine AllReadyH.cons (o := _) rfl (fun K hK => ?_) AllReadyH.nil
        rw [if_pos (by rfl)]
        try simp only [List.getElem_toArray, List.getElem_cons_zero, List.getElem_cons_succ]
        refine upon_append rfl (by rfl) (by rfl) hrun ?_
        refine hK.out _ _ (hf35.mono fun _ e => e.elim) (fun hHeldAta => ?_)
        clear hK K
        try simp only [List.getElem_toArray, List.getElem_cons_zero, List.getElem_cons_succ, Act.put, List.setIfInBounds_toArray, List.set_cons_zero, List.set_cons_succ]
        have c4 := hfb5.cell 4
        have z4 := hfb5.frozen 4
        simp only [fcells, List.getElem?_toArray, List.getElem?_cons_zero, List.getElem?_cons_succ] at c4
        refine wpAnyH_take (i := 9) (oi := _) (v := ?vta9) rfl (by kernel_rfl) (by kernel_rfl) (by kernel_rfl) (fun _ _ _ h => h) (Or.inl ⟨by rfl, ?yta9⟩) (by assumption) ?rta9
        case yta9 => intro w1 hSw; go_simp; try with_reducible rfl
        try simp only [List.getElem_toArray, List.getElem_cons_zero, List.getElem_cons_succ, Act.put, List.setIfInBounds_toArray, List.set_cons_zero, List.set_cons_succ]
        refine wpAnyH_take (i := 10) (oi := _) (v := ?vta10) rfl (by kernel_rfl) (by kernel_rfl) (by kernel_rfl) (fun _ _ _ h => h) (Or.inl ⟨by rfl, ?yta10⟩) (by assumption) ?rta10
        case yta10 => intro w1 hSw; go_simp; try with_reducible rfl
        try simp only [List.getElem_toArray, List.getElem_cons_zero, List.getElem_cons_succ, Act.put, List.setIfInBounds_toArray, List.set_cons_zero, List.set_cons_succ]
        refine wpAnyH_ready (rs := [11]) (by kernel_rfl) (by simp) ?_
        refine AllReadyH.cons (o := _) rfl (fun K hK => ?_) AllReadyH.nil
        rw [if_pos (by rfl)]
        try simp only [List.getElem_toArray, List.getElem_cons_zero, List.getElem_cons_succ]
        go_simp
        have hset := Fr.setCell (S := fun k => k = fb) w5 ⟨fb, 4, none⟩ (.slice ao' (s.l.length + 1) cp') rfl
        refine hK.out _ _ ((hf35.mono fun _ e => e.elim).trans hset) (fun hHeldBta => ?_)
        clear hK K
        try simp only [List.getElem_toArray, List.getElem_cons_zero, List.getElem_cons_succ, Act.put, List.setIfInBounds_toArray, List.set_cons_zero, List.set_cons_succ]
        refine wpAnyH_done (by kernel_rfl) ?_ _
        clear c4 z4
        go_wp2_with fail
        go_meet
        exact ⟨ao', cp', hfb5.set 4 _, hrow5.fr (hset.mono fun k e => e ▸ hf), (HE3.out.fr hf35 id).fr hset hne, (HFL3.out.m.fr hf35 id).fr hset (fun e => mp_ne HFL3.out.m HFB.out e.symm), (hf35.mono fun _ e => e.elim).trans hset⟩
      · rw [if_pos (by rfl)]
        try simp only [List.getElem_toArray, List.getElem_cons_zero, List.getElem_cons_succ]
        go_simp
        refine hK.out _ _ ((Fr.drewN _ w3 1).trans (Fr.alloc _ _ _)) (fun hh2 => ?_)
        clear hK K
        try simp only [List.getElem_toArray, List.getElem_cons_zero, List.getElem_cons_succ, Act.put, List.setIfInBounds_toArray, List.set_cons_zero, List.set_cons_succ]
        refine wpAnyH_ready (rs := [5]) (by kernel_rfl) (by simp) ?_
        refine AllReadyH.cons (o := _) rfl (fun K hK => ?_) AllReadyH.nil
        rw [if_pos (by rfl)]
        try simp only [List.getElem_toArray, List.getElem_cons_zero, List.getElem_cons_succ]
        go_simp
        refine (clip_any _ ao s.l.length cp (HRL.out ▸ HROW.out.1) (fun e => ⟨by rw [← HRL.out, (HROW.out.2.2.1 e).1]; rfl, (HROW.out.2.2.1 e).2⟩) HROW.out.2.1).mono ?_
        rintro e wq ⟨rfl, rfl⟩
        refine hK.out _ _ ((Fr.drewN _ w3 1).trans (Fr.alloc _ _ _)) (fun hh3 => ?_)
        clear hK K
        try simp only [List.getElem_toArray, List.getElem_cons_zero, List.getElem_cons_succ, Act.put, List.setIfInBounds_toArray, List.set_cons_zero, List.set_cons_succ]
        have hfA : Fr (fun _ => False) w3 (w3.drew.alloc (.cells #[.int .i64 1, .int .i64 a, .int .i64 r, .int .i64 i, .int .i64 l, .int .i64 n, .slice va dl vc] 79)) := (Fr.drewN _ w3 1).trans (Fr.alloc _ _ _)
        obtain ⟨ao', cp', w5, hrun, hrow5, hf5⟩ := appE HRL.out (HROW.out.fr (hfA.mono fun _ e => e.elim)) HR7.out (by omega) (fun k e => Nat.lt_of_lt_of_le (HS.out k e) (Nat.le_trans hsz hfA.size)) ⟨w3.heap.size, 0, none⟩ 1 (ev 1 a r i l n (.slice va dl vc)) rfl (fun j u hj => by rw [off_add, Nat.zero_add]; exact (World.cell?_alloc_mark w3.drew #[.int .i64 1, .int .i64 a, .int .i64 r, .int .i64 i, .int .i64 l, .int .i64 n, .slice va dl vc] 79 (0, 0) j).trans (by simpa [ev] using hj)) (by intro u hu; simp [ev] at hu; rcases hu with rfl | rfl | rfl | rfl | rfl | rfl | rfl <;> rfl) 66
        have hf35 := hfA.trans hf5
        have hfb5 := HFB.out.fr hf35 id
        refine wpAnyH_ready (rs := [8]) (by kernel_rfl) (by simp) ?_
        refine AllReadyH.cons (o := _) rfl (fun K hK => ?_) AllReadyH.nil
        rw [if_pos (by rfl)]
        try simp only [List.getElem_toArray, List.getElem_cons_zero, List.getElem_cons_succ]
        refine upon_append rfl (by rfl) (by rfl) hrun ?_
        refine hK.out _ _ (hf35.mono fun _ e => e.elim) (fun hHeldAtb => ?_)
        clear hK K
        try simp only [List.getElem_toArray, List.getElem_cons_zero, List.getElem_cons_succ, Act.put, List.setIfInBounds_toArray, List.set_cons_zero, List.set_cons_succ]
        have c4 := hfb5.cell 4
        have z4 := hfb5.frozen 4
        simp only [fcells, List.getElem?_toArray, List.getElem?_cons_zero, List.getElem?_cons_succ] at c4
        refine wpAnyH_take (i := 9) (oi := _) (v := ?vtb9) rfl (by kernel_rfl) (by kernel_rfl) (by kernel_rfl) (fun _ _ _ h => h) (Or.inl ⟨by rfl, ?ytb9⟩) (by assumption) ?rtb9
        case ytb9 => intro w1 hSw; go_simp; try with_reducible rfl
        try simp only [List.getElem_toArray, List.getElem_cons_zero, List.getElem_cons_succ, Act.put, List.setIfInBounds_toArray, List.set_cons_zero, List.set_cons_succ]
        refine wpAnyH_take (i := 10) (oi := _) (v := ?vtb10) rfl (by kernel_rfl) (by kernel_rfl) (by kernel_rfl) (fun _ _ _ h => h) (Or.inl ⟨by rfl, ?ytb10⟩) (by assumption) ?rtb10
        case ytb10 => intro w1 hSw; go_simp; try with_reducible rfl
        try simp only [List.getElem_toArray, List.getElem_cons_zero, List.getElem_cons_succ, Act.put, List.setIfInBounds_toArray, List.set_cons_zero, List.set_cons_succ]
        refine wpAnyH_ready (rs := [11]) (by kernel_rfl) (by simp) ?_
        refine AllReadyH.cons (o := _) rfl (fun K hK => ?_) AllReadyH.nil
        rw [if_pos (by rfl)]
        try simp only [List.getElem_toArray, List.getElem_cons_zero, List.getElem_cons_succ]
        go_simp
        have hset := Fr.setCell (S := fun k => k = fb) w5 ⟨fb, 4, none⟩ (.slice ao' (s.l.length + 1) cp') rfl
        refine hK.out _ _ ((hf35.mono fun _ e => e.elim).trans hset) (fun hHeldBtb => ?_)
        clear hK K
        try simp only [List.getElem_toArray, List.getElem_cons_zero, List.getElem_cons_succ, Act.put, List.setIfInBounds_toArray, List.set_cons_zero, List.set_cons_succ]
        refine wpAnyH_done (by kernel_rfl) ?_ _
        clear c4 z4
        go_wp2_with fail
        go_meet
        exact ⟨ao', cp', hfb5.set 4 _, hrow5.fr (hset.mono fun k e => e ▸ hf), (HE3.out.fr hf35 id).fr hset hne, (HFL3.out.m.fr hf35 id).fr hset (fun e => mp_ne HFL3.out.m HFB.out e.symm), (hf35.mono fun _ e => e.elim).trans hset⟩
    · rw [if_pos (by rfl)]
      try simp only [List.getElem_toArray, List.getElem_cons_zero, List.getElem_cons_succ]
      go_simp
      refine hK.out _ _ ((Fr.drewN _ w3 1).trans (Fr.alloc _ _ _)) (fun hh1 => ?_)
      clear hK K
      try simp only [List.getElem_toArray, List.getElem_cons_zero, List.getElem_cons_succ, Act.put, List.setIfInBounds_toArray, List.set_cons_zero, List.set_cons_succ]
      refine wpAnyH_ready (rs := [4]) (by kernel_rfl) (by simp) ?_
      refine AllReadyH.cons (o := _) rfl (fun K hK => ?_) AllReadyH.nil
      rw [if_pos (by rfl)]
      try simp only [List.getElem_toArray, List.getElem_cons_zero, List.getElem_cons_succ]
      go_simp
      refine hK.out _ _ ((Fr.drewN _ w3 1).trans (Fr.alloc _ _ _)) (fun hh2 => ?_)
      clear hK K
      try simp only [List.getElem_toArray, List.getElem_cons_zero, List.getElem_cons_succ, Act.put, List.setIfInBounds_toArray, List.set_cons_zero, List.set_cons_succ]
      refine wpAnyH_ready (rs := [5]) (by kernel_rfl) (by simp) ?_
      refine AllReadyH.cons (o := _) rfl (fun K hK => ?_) AllReadyH.nil
      rw [if_pos (by rfl)]
      try simp only [List.getElem_toArray, List.getElem_cons_zero, List.getElem_cons_succ]
      go_simp
      refine (clip_any _ ao s.l.length cp (HRL.out ▸ HROW.out.1) (fun e => ⟨by rw [← HRL.out, (HROW.out.2.2.1 e).1]; rfl, (HROW.out.2.2.1 e).2⟩) HROW.out.2.1).mono ?_
      rintro e wq ⟨rfl, rfl⟩
      refine hK.out _ _ ((Fr.drewN _ w3 1).trans (Fr.alloc _ _ _)) (fun hh3 => ?_)
      clear hK K
      try simp only [List.getElem_toArray, List.getElem_cons_zero, List.getElem_cons_succ, Act.put, List.setIfInBounds_toArray, List.set_cons_zero, List.set_cons_succ]
      have hfA : Fr (fun _ => False) w3 (w3.drew.alloc (.cells #[.int .i64 1, .int .i64 a, .int .i64 r, .int .i64 i, .int .i64 l, .int .i64 n, .slice va dl vc] 79)) := (Fr.drewN _ w3 1).trans (Fr.alloc _ _ _)
      obtain ⟨ao', cp', w5, hrun, hrow5, hf5⟩ := appE HRL.out (HROW.out.fr (hfA.mono fun _ e => e.elim)) HR7.out (by omega) (fun k e => Nat.lt_of_lt_of_le (HS.out k e) (Nat.le_trans hsz hfA.size)) ⟨w3.heap.size, 0, none⟩ 1 (ev 1 a r i l n (.slice va dl vc)) rfl (fun j u hj => by rw [off_add, Nat.zero_add]; exact (World.cell?_alloc_mark w3.drew #[.int .i64 1, .int .i64 a, .int .i64 r, .int .i64 i, .int .i64 l, .int .i64 n, .slice va dl vc] 79 (0, 0) j).trans (by simpa [ev] using hj)) (by intro u hu; simp [ev] at hu; rcases hu with rfl | rfl | rfl | rfl | rfl | rfl | rfl <;> rfl) 66
      have hf35 := hfA.trans hf5
      have hfb5 := HFB.out.fr hf35 id
      refine wpAnyH_ready (rs := [8]) (by kernel_rfl) (by simp) ?_
      refine AllReadyH.cons (o := _) rfl (fun K hK => ?_) AllReadyH.nil
      rw [if_pos (by rfl)]
      try simp only [List.getElem_toArray, List.getElem_cons_zero, List.getElem_cons_succ]
      refine upon_append rfl (by rfl) (by rfl) hrun ?_
      refine hK.out _ _ (hf35.mono fun _ e => e.elim) (fun hHeldAtc => ?_)
      clear hK K
      try simp only [List.getElem_toArray, List.getElem_cons_zero, List.getElem_cons_succ, Act.put, List.setIfInBounds_toArray, List.set_cons_zero, List.set_cons_succ]
      have c4 := hfb5.cell 4
      have z4 := hfb5.frozen 4
      simp only [fcells, List.getElem?_toArray, List.getElem?_cons_zero, List.getElem?_cons_succ] at c4
      refine wpAnyH_take (i := 9) (oi := _) (v := ?vtc9) rfl (by kernel_rfl) (by kernel_rfl) (by kernel_rfl) (fun _ _ _ h => h) (Or.inl ⟨by rfl, ?ytc9⟩) (by assumption) ?rtc9
      case ytc9 => intro w1 hSw; go_simp; try with_reducible rfl
      try simp only [List.getElem_toArray, List.getElem_cons_zero, List.getElem_cons_succ, Act.put, List.setIfInBounds_toArray, List.set_cons_zero, List.set_cons_succ]
      refine wpAnyH_take (i := 10) (oi := _) (v := ?vtc10) rfl (by kernel_rfl) (by kernel_rfl) (by kernel_rfl) (fun _ _ _ h => h) (Or.inl ⟨by rfl, ?ytc10⟩) (by assumption) ?rtc10
      case ytc10 => intro w1 hSw; go_simp; try with_reducible rfl
      try simp only [List.getElem_toArray, List.getElem_cons_zero, List.getElem_cons_succ, Act.put, List.setIfInBounds_toArray, List.set_cons_zero, List.set_cons_succ]
      refine wpAnyH_ready (rs := [11]) (by kernel_rfl) (by simp) ?_
      refine AllReadyH.cons (o := _) rfl (fun K hK => ?_) AllReadyH.nil
      rw [if_pos (by rfl)]
      try simp only [List.getElem_toArray, List.getElem_cons_zero, List.getElem_cons_succ]
      go_simp
      have hset := Fr.setCell (S := fun k => k = fb) w5 ⟨fb, 4, none⟩ (.slice ao' (s.l.length + 1) cp') rfl
      refine hK.out _ _ ((hf35.mono fun _ e => e.elim).trans hset) (fun hHeldBtc => ?_)
      clear hK K
      try simp only [List.getElem_toArray, List.getElem_cons_zero, List.getElem_cons_succ, Act.put, List.setIfInBounds_toArray, List.set_cons_zero, List.set_cons_succ]
      refine wpAnyH_done (by kernel_rfl) ?_ _
      clear c4 z4
      go_wp2_with fail
      go_meet
      exact ⟨ao', cp', hfb5.set 4 _, hrow5.fr (hset.mono fun k e => e ▸ hf), (HE3.out.fr hf35 id).fr hset hne, (HFL3.out.m.fr hf35 id).fr hset (fun e => mp_ne HFL3.out.m HFB.out e.symm), (hf35.mono fun _ e => e.elim).trans hset⟩
  case rest =>
    obtain ⟨ao', cp', hfb, hrow, heb, hm, hfr⟩ := hcut
    have c4 := hfb.cell 4
    have k0 := heb.cell 0
    simp only [fcells, List.getElem?_toArray, List.getElem?_cons_zero, List.getElem?_cons_succ] at c4 k0
    have HFBX := Lib.hid hfb
    have HEBX := Lib.hid heb
    have HROWX := Lib.hid hrow
    have HMX := Lib.hid hm
    have HFRX := Lib.hid hfr
    have EF : Hid (∀ w', Fr (fun k => k = fb) wc w' → w'.cell? ⟨eb, 2, none⟩ = some (.int .i64 r) ∧ w'.cell? ⟨eb, 4, none⟩ = some (.int .i64 l) ∧ w'.cell? ⟨eb, 5, none⟩ = some (.int .i64 n)) := Lib.hid (fun w' hf => by
      have h2 := HEBX.out.fr hf hne
      exact ⟨h2.cell 2, h2.cell 4, h2.cell 5⟩)
    clear hfb heb hrow hm hfr FACTS EFACTS HE3
    go_upto_region 23 with (fail)
    refine wp_region_held_drew (S := fun (w' : World) => Fr (fun k => k = fb) wc w') (by kernel_rfl) (Fr.drewN _ wc 1) (fun hHeld => ?_)
    refine wpAnyH_take (i := 0) (oi := _) (v := ?vu0) rfl (by kernel_rfl) (by kernel_rfl) (by kernel_rfl) (fun _ _ _ h => h) (Or.inl ⟨by rfl, ?yu0⟩) (by assumption) ?ru0
    case yu0 => intro w1 hSw; obtain ⟨f2, f4, f5⟩ := EF.out w1 hSw; go_simp; try with_reducible rfl
    try simp only [List.getElem_toArray, List.getElem_cons_zero, List.getElem_cons_succ, Act.put, List.setIfInBounds_toArray, List.set_cons_zero, List.set_cons_succ]
    refine wpAnyH_take (i := 1) (oi := _) (v := ?vu1) rfl (by kernel_rfl) (by kernel_rfl) (by kernel_rfl) (fun _ _ _ h => h) (Or.inl ⟨by rfl, ?yu1⟩) (by assumption) ?ru1
    case yu1 => intro w1 hSw; obtain ⟨f2, f4, f5⟩ := EF.out w1 hSw; go_simp; try with_reducible rfl
    try simp only [List.getElem_toArray, List.getElem_cons_zero, List.getElem_cons_succ, Act.put, List.setIfInBounds_toArray, List.set_cons_zero, List.set_cons_succ]
    refine wpAnyH_take (i := 2) (oi := _) (v := ?vu2) rfl (by kernel_rfl) (by kernel_rfl) (by kernel_rfl) (fun _ _ _ h => h) (Or.inl ⟨by rfl, ?yu2⟩) (by assumption) ?ru2
    case yu2 => intro w1 hSw; obtain ⟨f2, f4, f5⟩ := EF.out w1 hSw; go_simp; try with_reducible rfl
    try simp only [List.getElem_toArray, List.getElem_cons_zero, List.getElem_cons_succ, Act.put, List.setIfInBounds_toArray, List.set_cons_zero, List.set_cons_succ]
    refine wpAnyH_take (i := 3) (oi := _) (v := ?vu3) rfl (by kernel_rfl) (by kernel_rfl) (by kernel_rfl) (fun _ _ _ h => h) (Or.inl ⟨by rfl, ?yu3⟩) (by assumption) ?ru3
    case yu3 => intro w1 hSw; obtain ⟨f2, f4, f5⟩ := EF.out w1 hSw; go_simp; try with_reducible rfl
    try simp only [List.getElem_toArray, List.getElem_cons_zero, List.getElem_cons_succ, Act.put, List.setIfInBounds_toArray, List.set_cons_zero, List.set_cons_succ]
    refine wpAnyH_take (i := 4) (oi := _) (v := ?vu4) rfl (by kernel_rfl) (by kernel_rfl) (by kernel_rfl) (fun _ _ _ h => h) (Or.inl ⟨by rfl, ?yu4⟩) (by assumption) ?ru4
    case yu4 => intro w1 hSw; obtain ⟨f2, f4, f5⟩ := EF.out w1 hSw; go_simp; try with_reducible rfl
    try simp only [List.getElem_toArray, List.getElem_cons_zero, List.getElem_cons_succ, Act.put, List.setIfInBounds_toArray, List.set_cons_zero, List.set_cons_succ]
    refine wpAnyH_take (i := 5) (oi := _) (v := ?vu5) rfl (by kernel_rfl) (by kernel_rfl) (by kernel_rfl) (fun _ _ _ h => h) (Or.inl ⟨by rfl, ?yu5⟩) (by assumption) ?ru5
    case yu5 => intro w1 hSw; obtain ⟨f2, f4, f5⟩ := EF.out w1 hSw; go_simp; try with_reducible rfl
    try simp only [List.getElem_toArray, List.getElem_cons_zero, List.getElem_cons_succ, Act.put, List.setIfInBounds_toArray, List.set_cons_zero, List.set_cons_succ]
    refine wpAnyH_take (i := 6) (oi := _) (v := ?vu6) rfl (by kernel_rfl) (by kernel_rfl) (by kernel_rfl) (fun _ _ _ h => h) (Or.inl ⟨by rfl, ?yu6⟩) (by assumption) ?ru6
    case yu6 => intro w1 hSw; obtain ⟨f2, f4, f5⟩ := EF.out w1 hSw; go_simp; try with_reducible rfl
    try simp only [List.getElem_toArray, List.getElem_cons_zero, List.getElem_cons_succ, Act.put, List.setIfInBounds_toArray, List.set_cons_zero, List.set_cons_succ]
    refine wpAnyH_take (i := 7) (oi := _) (v := ?vu7) rfl (by kernel_rfl) (by kernel_rfl) (by kernel_rfl) (fun _ _ _ h => h) (Or.inl ⟨by rfl, ?yu7⟩) (by assumption) ?ru7
    case yu7 => intro w1 hSw; obtain ⟨f2, f4, f5⟩ := EF.out w1 hSw; go_simp; try with_reducible rfl
    try simp only [List.getElem_toArray, List.getElem_cons_zero, List.getElem_cons_succ, Act.put, List.setIfInBounds_toArray, List.set_cons_zero, List.set_cons_succ]
    have b0 : Blk wc.drew fb 75 (fcells s (.slice ao' (s.l.length + 1) cp') (.map (some mb))) := HFBX.out.fr (S := fun _ => False) (Fr.drewN _ wc 1) id
    have F0 : Fr (fun k => k = fb) wc wc.drew := Fr.drewN _ wc 1
    obtain ⟨zz, hzz⟩ : ∃ z, wc.drew = z := ⟨_, rfl⟩
    rw [hzz] at b0 F0 hHeld ⊢
    clear hzz
    have x0 := b0.cell 2
    have y0 := b0.frozen 2
    simp only [fcells, List.getElem?_toArray, List.getElem?_cons_zero, List.getElem?_cons_succ] at x0
    refine wpAnyH_ready (rs := [8]) (by kernel_rfl) (by simp) ?_
    refine AllReadyH.cons (o := _) rfl (fun K hK => ?_) AllReadyH.nil
    rw [if_pos (by rfl)]
    try simp only [List.getElem_toArray, List.getElem_cons_zero, List.getElem_cons_succ]
    go_simp
    have b1 := b0.set 2 (.int .i64 l)
    have F1 := F0.trans (Fr.setCell (S := fun k => k = fb) _ ⟨fb, 2, none⟩ (.int .i64 l) rfl)
    clear x0 y0
    refine hK.out _ _ F1 (fun hhu0 => ?_)
    clear hK K
    try simp only [List.getElem_toArray, List.getElem_cons_zero, List.getElem_cons_succ, Act.put, List.setIfInBounds_toArray, List.set_cons_zero, List.set_cons_succ]
    obtain ⟨z0, hz0⟩ : ∃ z, (zz).setCell ⟨fb, 2, none⟩ (.int .i64 l) = z := ⟨_, rfl⟩
    rw [hz0] at b1 F1 hhu0 ⊢
    clear hz0 b0 F0
    refine wpAnyH_take (i := 9) (oi := _) (v := ?vu9) rfl (by kernel_rfl) (by kernel_rfl) (by kernel_rfl) (fun _ _ _ h => h) (Or.inl ⟨by rfl, ?yu9⟩) (by assumption) ?ru9
    case yu9 => intro w1 hSw; go_simp; try with_reducible rfl
    try simp only [List.getElem_toArray, List.getElem_cons_zero, List.getElem_cons_succ, Act.put, List.setIfInBounds_toArray, List.set_cons_zero, List.set_cons_succ]
    refine wpAnyH_take (i := 10) (oi := _) (v := ?vu10) rfl (by kernel_rfl) (by kernel_rfl) (by kernel_rfl) (fun _ _ _ h => h) (Or.inl ⟨by rfl, ?yu10⟩) (by assumption) ?ru10
    case yu10 => intro w1 hSw; go_simp; try with_reducible rfl
    try simp only [List.getElem_toArray, List.getElem_cons_zero, List.getElem_cons_succ, Act.put, List.setIfInBounds_toArray, List.set_cons_zero, List.set_cons_succ]
    have x1 := b1.cell 3
    have y1 := b1.frozen 3
    simp only [fcells, List.getElem?_toArray, List.setIfInBounds_toArray, List.set_cons_zero, List.set_cons_succ, List.getElem?_cons_zero, List.getElem?_cons_succ] at x1
    refine wpAnyH_ready (rs := [11]) (by kernel_rfl) (by simp) ?_
    refine AllReadyH.cons (o := _) rfl (fun K hK => ?_) AllReadyH.nil
    rw [if_pos (by rfl)]
    try simp only [List.getElem_toArray, List.getElem_cons_zero, List.getElem_cons_succ]
    go_simp
    have b2 := b1.set 3 (.int .i64 n)
    have F2 := F1.trans (Fr.setCell (S := fun k => k = fb) _ ⟨fb, 3, none⟩ (.int .i64 n) rfl)
    clear x1 y1
    refine hK.out _ _ F2 (fun hhu1 => ?_)
    clear hK K
    try simp only [List.getElem_toArray, List.getElem_cons_zero, List.getElem_cons_succ, Act.put, List.setIfInBounds_toArray, List.set_cons_zero, List.set_cons_succ]
    obtain ⟨z1, hz1⟩ : ∃ z, (z0).setCell ⟨fb, 3, none⟩ (.int .i64 n) = z := ⟨_, rfl⟩
    rw [hz1] at b2 F2 hhu1 ⊢
    clear hz1 b1 F1
    refine wpAnyH_done (by kernel_rfl) ?_ _
    go_wp2
    go_ret
    have hWW := HFW.out.mono (S' := fun k => k = fb) (fun _ e => e.elim)
    have hall := (hWW.trans HFRX.out).trans F2
    refine ⟨rfl, ⟨⟨ao', cp', vs ++ [.slice va dl vc], by rw [List.length_append, List.length_append, HVL.out]; rfl, ?_, ?_, ?_⟩, HMX.out.fr F2 (fun e => mp_ne HMX.out HFBX.out e.symm), ?_, ?_⟩, hall⟩
    · rw [List.length_append]; exact b2
    · rw [rowsOf_snoc HVL.out]; exact HROWX.out.fr (F2.mono fun k e => e ▸ hf)
    · exact (HDAT.out.fr (HFRX.out.mono fun k e => e ▸ hf) |>.fr (F2.mono fun k e => e ▸ hf)).snoc HVL.out ⟨1, a, r, i, l, n, ds⟩ _ (HR4.out.fr (HFRX.out.mono fun k e => e ▸ hf) |>.fr (F2.mono fun k e => e ▸ hf))
    · intro q hq; rcases List.mem_append.1 hq with hq | hq; exact HFL3.out.ok q hq; rw [List.mem_singleton.1 hq]; exact HDD.out
    · rw [List.length_append]; show _ + 1 ≤ _; omega
set_option maxRecDepth 100000 in
set_option maxHeartbeats 4000000 in
theorem put2_any (S : Nat → Prop) (W : World) (hS : ∀ k, S k → k < W.heap.size) (fb mb : Nat) (s : FSt) (h : FL S W fb mb s) (hf : S fb) (hl : s.l.length ≤ 50000) (a r i l n : Int) (dv : Value) (ds : List Value) (hd : RowB (fun _ => False) W dv ds) (hdl : ds.length ≤ 100000) (hd1 : ∀ u ∈ ds, u.oneCell' = true) :
    Calls Try.prog 38 #[.pointer (some ⟨fb, 0, none⟩), .agg #[.int .i64 2, .int .i64 a, .int .i64 r, .int .i64 i, .int .i64 l, .int .i64 n, dv]] W fun e W' => e = .returned (.int .i64 ((s.l.length : Int) + 1)) ∧ FL S W' fb mb ({ s with task := 1, at_ := (s.l.length : Int) + 1, bg := 0, turn := n, late := false, l := s.l ++ [⟨2, a, r, i, l, n, ds⟩] }) ∧ Fr (fun k => k = fb) W W' := by
  have HS := Lib.hid hS
  have HFL := Lib.hid h
  have hlt := h.lt
  have HD := Lib.hid hd
  have HD1 := Lib.hid hd1
  have HDD := Lib.hid (And.intro hdl hd1)
  clear h hS hd hd1
  go_enter Try.func38, Try.ntmps38
  have hs1 : (W.alloc (.cells #[.int .i64 2, .int .i64 a, .int .i64 r, .int .i64 i, .int .i64 l, .int .i64 n, dv] 79)).heap.size = W.heap.size + 1 := by simp
  have hE1 := Blk.new W 79 #[.int .i64 2, .int .i64 a, .int .i64 r, .int .i64 i, .int .i64 l, .int .i64 n, dv]
  have hF1 : Fr (fun _ => False) W (W.alloc (.cells #[.int .i64 2, .int .i64 a, .int .i64 r, .int .i64 i, .int .i64 l, .int .i64 n, dv] 79)) := Fr.alloc _ _ _
  obtain ⟨w1, hw1⟩ : ∃ w1, W.alloc (.cells #[.int .i64 2, .int .i64 a, .int .i64 r, .int .i64 i, .int .i64 l, .int .i64 n, dv] 79) = w1 := ⟨_, rfl⟩
  obtain ⟨eb, heb⟩ : ∃ b, W.heap.size = b := ⟨_, rfl⟩
  have HEB := Lib.hid heb
  rw [hw1] at hs1 hE1 hF1
  rw [heb] at hs1 hE1 hlt
  have HE1 := Lib.hid hE1
  have HF1 := Lib.hid hF1
  have e6 := hE1.cell 6
  simp only [List.getElem?_toArray, List.getElem?_cons_zero, List.getElem?_cons_succ] at e6
  go_upto_region 1 with (fail)
  clear hw1 heb hE1 hF1
  go_wp2_with fail
  refine (clone_any (fun _ => False) (fun k => k = eb ∨ S k) w1 dv ds (HD.out.fr (HF1.out.mono fun _ e => e.elim)) (by omega) HD1.out (fun k e => e.elim (fun e => by omega) (fun e => by have := HS.out k e; have := HEB.out; omega))).mono ?_
  rintro e w2 ⟨VV, rfl, hr2, hf2⟩
  obtain ⟨va, vc, hve⟩ : ∃ va vc, VV = .slice va ds.length vc := by obtain ⟨ao, cap, e, _⟩ := hr2; exact ⟨ao, cap, e⟩
  obtain ⟨dl, hdle⟩ : ∃ dl, ds.length = dl := ⟨_, rfl⟩
  rw [hdle] at hve hdl
  subst hve
  have hE2 := HE1.out.fr hf2 id
  have g6 := hE2.cell 6
  have gf6 := hE2.frozen 6
  simp only [List.getElem?_toArray, List.getElem?_cons_zero, List.getElem?_cons_succ] at g6
  have HE2 := Lib.hid hE2
  have HF2 := Lib.hid (HF1.out.trans hf2)
  have HR2 := Lib.hid hr2
  clear hE2 hf2 hr2 e6 hdle
  go_upto_region 2 with (fail)
  have hE3 := HE2.out.set 6 (.slice va dl vc)
  have hF3 := Fr.setCell (S := fun k => k = eb) w2 ⟨eb, 6, none⟩ (.slice va dl vc) rfl
  obtain ⟨w3, hw3⟩ : ∃ w3, w2.setCell ⟨eb, 6, none⟩ (.slice va dl vc) = w3 := ⟨_, rfl⟩
  rw [hw3] at hE3 hF3 ⊢
  have hFW : Fr (fun _ => False) W w3 := ⟨hF3.os.trans HF2.out.os, hF3.tape.trans HF2.out.tape, hF3.output.trans HF2.out.output, Nat.le_trans HF2.out.size hF3.size, fun k hk _ => (hF3.block k (Nat.lt_of_lt_of_le hk HF2.out.size) (by have := HEB.out; omega)).trans (HF2.out.block k hk id)⟩
  have hr3 : RowB (fun k => k = eb ∨ S k) w3 (.slice va dl vc) ds := HR2.out.fr (hF3.mono fun k e => .inl e)
  have HR4 := Lib.hid (hr3.to (S' := S) (fun k _ e => .inr e))
  have hfl3 := HFL.out.fr0 hFW
  have hE3 : Blk w3 eb 79 #[.int .i64 2, .int .i64 a, .int .i64 r, .int .i64 i, .int .i64 l, .int .i64 n, .slice va dl vc] := hE3
  obtain ⟨ao, cp, vs, hvl, hfb, hrow, hdat⟩ := hfl3.f
  have HVL := Lib.hid hvl
  have HDAT := Lib.hid hdat
  have HR7 := Lib.hid (hdat.rows hvl)
  have HRL := Lib.hid (rowsOf_len hvl)
  have FACTS : Hid (∀ w', Fr (fun _ => False) w3 w' → w'.cell? ⟨fb, 4, none⟩ = some (.slice ao s.l.length cp) ∧ w'.cell? ⟨eb, 0, none⟩ = some (.int .i64 2) ∧ w'.cell? ⟨eb, 1, none⟩ = some (.int .i64 a) ∧ w'.cell? ⟨eb, 2, none⟩ = some (.int .i64 r) ∧ w'.cell? ⟨eb, 3, none⟩ = some (.int .i64 i) ∧ w'.cell? ⟨eb, 4, none⟩ = some (.int .i64 l) ∧ w'.cell? ⟨eb, 5, none⟩ = some (.int .i64 n) ∧ w'.cell? ⟨eb, 6, none⟩ = some (.slice va dl vc)) := Lib.hid (fun w' hf => by
    have h1 := hfb.fr hf id
    have h2 := hE3.fr hf id
    exact ⟨h1.cell 4, h2.cell 0, h2.cell 1, h2.cell 2, h2.cell 3, h2.cell 4, h2.cell 5, h2.cell 6⟩)
  have hne : eb ≠ fb := by omega
  have EFACTS : Hid (∀ w', Fr (fun k => k = fb) w3 w' → w'.cell? ⟨eb, 0, none⟩ = some (.int .i64 2) ∧ w'.cell? ⟨eb, 1, none⟩ = some (.int .i64 a) ∧ w'.cell? ⟨eb, 2, none⟩ = some (.int .i64 r) ∧ w'.cell? ⟨eb, 3, none⟩ = some (.int .i64 i) ∧ w'.cell? ⟨eb, 4, none⟩ = some (.int .i64 l) ∧ w'.cell? ⟨eb, 5, none⟩ = some (.int .i64 n) ∧ w'.cell? ⟨eb, 6, none⟩ = some (.slice va dl vc)) := Lib.hid (fun w' hf => by
    have h2 := hE3.fr hf hne
    exact ⟨h2.cell 0, h2.cell 1, h2.cell 2, h2.cell 3, h2.cell 4, h2.cell 5, h2.cell 6⟩)
  have HE3 := Lib.hid hE3
  have HFL3 := Lib.hid hfl3
  have HFB := Lib.hid hfb
  have HROW := Lib.hid hrow
  have HFW := Lib.hid hFW
  have HR3 := Lib.hid hr3
  have HF23 := Lib.hid hF3
  have hsz := hFW.size
  clear hw3 hE3 hfl3 hfb hrow hdat hvl hFW hr3 hF3 HE1 HF1 HE2 HF2 HR2 HD HFL HD1 g6 gf6
  go_cut [18] (fun _ wx => ∃ ao' cp', Blk wx fb 75 (fcells s (.slice ao' (s.l.length + 1) cp') (.map (some mb))) ∧ RowE S wx ao' cp' (rowsOf s.l vs ++ [ev 2 a r i l n (.slice va dl vc)]) ∧ Blk wx eb 79 #[.int .i64 2, .int .i64 a, .int .i64 r, .int .i64 i, .int .i64 l, .int .i64 n, .slice va dl vc] ∧ Mp iKE wx mb s.mc s.mp ∧ Fr (fun k => k = fb) w3 wx)
  case first =>
    refine wp_region_held_drew (S := fun (w' : World) => Fr (fun k => k = fb) w3 w') (by kernel_rfl) (Fr.drewN _ w3 1) (fun hHeld => ?_)
    refine wpAnyH_take (i := 0) (oi := _) (v := ?va0) rfl (by kernel_rfl) (by kernel_rfl) (by kernel_rfl) (fun _ _ _ h => h) (Or.inl ⟨by rfl, ?ya0⟩) (by assumption) ?ra0
    case ya0 => intro w1 hSw; go_simp; try with_reducible rfl
    try simp only [List.getElem_toArray, List.getElem_cons_zero, List.getElem_cons_succ, Act.put, List.setIfInBounds_toArray, List.set_cons_zero, List.set_cons_succ]
    refine wpAnyH_take (i := 1) (oi := _) (v := ?va1) rfl (by kernel_rfl) (by kernel_rfl) (by kernel_rfl) (fun _ _ _ h => h) (Or.inl ⟨by rfl, ?ya1⟩) (by assumption) ?ra1
    case ya1 => intro w1 hSw; go_simp; try with_reducible rfl
    try simp only [List.getElem_toArray, List.getElem_cons_zero, List.getElem_cons_succ, Act.put, List.setIfInBounds_toArray, List.set_cons_zero, List.set_cons_succ]
    refine wpAnyH_take (i := 2) (oi := _) (v := ?va2) rfl (by kernel_rfl) (by kernel_rfl) (by kernel_rfl) (fun _ _ _ h => h) (Or.inl ⟨by rfl, ?ya2⟩) (by assumption) ?ra2
    case ya2 => intro w1 hSw; go_simp; try with_reducible rfl
    try simp only [List.getElem_toArray, List.getElem_cons_zero, List.getElem_cons_succ, Act.put, List.setIfInBounds_toArray, List.set_cons_zero, List.set_cons_succ]
    refine wpAnyH_take (i := 3) (oi := _) (v := ?va3) rfl (by kernel_rfl) (by kernel_rfl) (by kernel_rfl) (fun _ _ _ h => h) (Or.inl ⟨by rfl, ?ya3⟩) (by assumption) ?ra3
    case ya3 => intro w1 hSw; go_simp; try with_reducible rfl
    try simp only [List.getElem_toArray, List.getElem_cons_zero, List.getElem_cons_succ, Act.put, List.setIfInBounds_toArray, List.set_cons_zero, List.set_cons_succ]
    refine wpAnyH_take (i := 6) (oi := _) (v := ?va6) rfl (by kernel_rfl) (by kernel_rfl) (by kernel_rfl) (fun _ _ _ h => h) (Or.inl ⟨by rfl, ?ya6⟩) (by assumption) ?ra6
    case ya6 => intro w1 hSw; obtain ⟨f1, f2, f3, f4, f5, f6, f7⟩ := EFACTS.out w1 hSw; go_simp; try with_reducible rfl
    try simp only [List.getElem_toArray, List.getElem_cons_zero, List.getElem_cons_succ, Act.put, List.setIfInBounds_toArray, List.set_cons_zero, List.set_cons_succ]
    obtain ⟨g4, _⟩ := FACTS.out w3.drew (Fr.drewN _ w3 1)
    obtain ⟨h4, _⟩ := FACTS.out (w3.alloc (.cells #[.int .i64 2, .int .i64 a, .int .i64 r, .int .i64 i, .int .i64 l, .int .i64 n, .slice va dl vc] 79)) (Fr.alloc _ _ _)
    refine wpAnyH_ready (rs := [4, 7]) (by kernel_rfl) (by simp) ?_
    refine AllReadyH.cons (o := _) rfl (fun K hK => ?_) (AllReadyH.cons (o := _) rfl (fun K hK => ?_) AllReadyH.nil)
    · rw [if_pos (by rfl)]
      try simp only [List.getElem_toArray, List.getElem_cons_zero, List.getElem_cons_succ]
      go_simp
      refine hK.out _ _ (Fr.drewN _ w3 1) (fun hh1 => ?_)
      clear hK K
      try simp only [List.getElem_toArray, List.getElem_cons_zero, List.getElem_cons_succ, Act.put, List.setIfInBounds_toArray, List.set_cons_zero, List.set_cons_succ]
      refine wpAnyH_ready (rs := [5, 7]) (by kernel_rfl) (by simp) ?_
      refine AllReadyH.cons (o := _) rfl (fun K hK => ?_) (AllReadyH.cons (o := _) rfl (fun K hK => ?_) AllReadyH.nil)
      · rw [if_pos (by rfl)]
        try simp only [List.getElem_toArray, List.getElem_cons_zero, List.getElem_cons_succ]
        go_simp
        refine (clip_any _ ao s.l.length cp (HRL.out ▸ HROW.out.1) (fun e => ⟨by rw [← HRL.out, (HROW.out.2.2.1 e).1]; rfl, (HROW.out.2.2.1 e).2⟩) HROW.out.2.1).mono ?_
        rintro e wq ⟨rfl, rfl⟩
        refine hK.out _ _ (Fr.drewN _ w3 1) (fun hh2 => ?_)
        clear hK K
        try simp only [List.getElem_toArray, List.getElem_cons_zero, List.getElem_cons_succ, Act.put, List.setIfInBounds_toArray, List.set_cons_zero, List.set_cons_succ]
        refine wpAnyH_ready (rs := [7]) (by kernel_rfl) (by simp) ?_
        refine AllReadyH.cons (o := _) rfl (fun K hK => ?_) AllReadyH.nil
        rw [if_pos (by rfl)]
        try simp only [List.getElem_toArray, List.getElem_cons_zero, List.getElem_cons_succ]
        go_simp
        refine hK.out _ _ ((Fr.drewN _ w3 1).trans (Fr.alloc _ _ _)) (fun hh3 => ?_)
        clear hK K
        try simp only [List.getElem_toArray, List.getElem_cons_zero, List.getElem_cons_succ, Act.put, List.setIfInBounds_toArray, List.set_cons_zero, List.set_cons_succ]
        have hfA : Fr (fun _ => False) w3 (w3.drew.alloc (.cells #[.int .i64 2, .int .i64 a, .int .i64 r, .int .i64 i, .int .i64 l, .int .i64 n, .slice va dl vc] 79)) := (Fr.drewN _ w3 1).trans (Fr.alloc _ _ _)
        obtain ⟨ao', cp', w5, hrun, hrow5, hf5⟩ := appE HRL.out (HROW.out.fr (hfA.mono fun _ e => e.elim)) HR7.out (by omega) (fun k e => Nat.lt_of_lt_of_le (HS.out k e) (Nat.le_trans hsz hfA.size)) ⟨w3.heap.size, 0, none⟩ 1 (ev 2 a r i l n (.slice va dl vc)) rfl (fun j u hj => by rw [off_add, Nat.zero_add]; exact (World.cell?_alloc_mark w3.drew #[.int .i64 2, .int .i64 a, .int .i64 r, .int .i64 i, .int .i64 l, .int .i64 n, .slice va dl vc] 79 (0, 0) j).trans (by simpa [ev] using hj)) (by intro u hu; simp [ev] at hu; rcases hu with rfl | rfl | rfl | rfl | rfl | rfl | rfl <;> rfl) 66
        have hf35 := hfA.trans hf5
        have hfb5 := HFB.out.fr hf35 id
        refine wpAnyH_ready (rs := [8]) (by kernel_rfl) (by simp) ?_
        refine AllReadyH.cons (o := _) rfl (fun K hK => ?_) AllReadyH.nil
        rw [if_pos (by rfl)]
        try simp only [List.getElem_toArray, List.getElem_cons_zero, List.getElem_cons_succ]
        refine upon_append rfl (by rfl) (by rfl) hrun ?_
        refine hK.out _ _ (hf35.mono fun _ e => e.elim) (fun hHeldAta => ?_)
        clear hK K
        try simp only [List.getElem_toArray, List.getElem_cons_zero, List.getElem_cons_succ, Act.put, List.setIfInBounds_toArray, List.set_cons_zero, List.set_cons_succ]
        have c4 := hfb5.cell 4
        have z4 := hfb5.frozen 4
        simp only [fcells, List.getElem?_toArray, List.getElem?_cons_zero, List.getElem?_cons_succ] at c4
        refine wpAnyH_take (i := 9) (oi := _) (v := ?vta9) rfl (by kernel_rfl) (by kernel_rfl) (by kernel_rfl) (fun _ _ _ h => h) (Or.inl ⟨by rfl, ?yta9⟩) (by assumption) ?rta9
        case yta9 => intro w1 hSw; go_simp; try with_reducible rfl
        try simp only [List.getElem_toArray, List.getElem_cons_zero, List.getElem_cons_succ, Act.put, List.setIfInBounds_toArray, List.set_cons_zero, List.set_cons_succ]
        refine wpAnyH_take (i := 10) (oi := _) (v := ?vta10) rfl (by kernel_rfl) (by kernel_rfl) (by kernel_rfl) (fun _ _ _ h => h) (Or.inl ⟨by rfl, ?yta10⟩) (by assumption) ?rta10
        case yta10 => intro w1 hSw; go_simp; try with_reducible rfl
        try simp only [List.getElem_toArray, List.getElem_cons_zero, List.getElem_cons_succ, Act.put, List.setIfInBounds_toArray, List.set_cons_zero, List.set_cons_succ]
        refine wpAnyH_ready (rs := [11]) (by kernel_rfl) (by simp) ?_
        refine AllReadyH.cons (o := _) rfl (fun K hK => ?_) AllReadyH.nil
        rw [if_pos (by rfl)]
        try simp only [List.getElem_toArray, List.getElem_cons_zero, List.getElem_cons_succ]
        go_simp
        have hset := Fr.setCell (S := fun k => k = fb) w5 ⟨fb, 4, none⟩ (.slice ao' (s.l.length + 1) cp') rfl
        refine hK.out _ _ ((hf35.mono fun _ e => e.elim).trans hset) (fun hHeldBta => ?_)
        clear hK K
        try simp only [List.getElem_toArray, List.getElem_cons_zero, List.getElem_cons_succ, Act.put, List.setIfInBounds_toArray, List.set_cons_zero, List.set_cons_succ]
        refine wpAnyH_done (by kernel_rfl) ?_ _
        clear c4 z4
        go_wp2_with fail
        go_meet
        exact ⟨ao', cp', hfb5.set 4 _, hrow5.fr (hset.mono fun k e => e ▸ hf), (HE3.out.fr hf35 id).fr hset hne, (HFL3.out.m.fr hf35 id).fr hset (fun e => mp_ne HFL3.out.m HFB.out e.symm), (hf35.mono fun _ e => e.elim).trans hset⟩
      · rw [if_pos (by rfl)]
        try simp only [List.getElem_toArray, List.getElem_cons_zero, List.getElem_cons_succ]
        go_simp
        refine hK.out _ _ ((Fr.drewN _ w3 1).trans (Fr.alloc _ _ _)) (fun hh2 => ?_)
        clear hK K
        try simp only [List.getElem_toArray, List.getElem_cons_zero, List.getElem_cons_succ, Act.put, List.setIfInBounds_toArray, List.set_cons_zero, List.set_cons_succ]
        refine wpAnyH_ready (rs := [5]) (by kernel_rfl) (by simp) ?_
        refine AllReadyH.cons (o := _) rfl (fun K hK => ?_) AllReadyH.nil
        rw [if_pos (by rfl)]
        try simp only [List.getElem_toArray, List.getElem_cons_zero, List.getElem_cons_succ]
        go_simp
        refine (clip_any _ ao s.l.length cp (HRL.out ▸ HROW.out.1) (fun e => ⟨by rw [← HRL.out, (HROW.out.2.2.1 e).1]; rfl, (HROW.out.2.2.1 e).2⟩) HROW.out.2.1).mono ?_
        rintro e wq ⟨rfl, rfl⟩
        refine hK.out _ _ ((Fr.drewN _ w3 1).trans (Fr.alloc _ _ _)) (fun hh3 => ?_)
        clear hK K
        try simp only [List.getElem_toArray, List.getElem_cons_zero, List.getElem_cons_succ, Act.put, List.setIfInBounds_toArray, List.set_cons_zero, List.set_cons_succ]
        have hfA : Fr (fun _ => False) w3 (w3.drew.alloc (.cells #[.int .i64 2, .int .i64 a, .int .i64 r, .int .i64 i, .int .i64 l, .int .i64 n, .slice va dl vc] 79)) := (Fr.drewN _ w3 1).trans (Fr.alloc _ _ _)
        obtain ⟨ao', cp', w5, hrun, hrow5, hf5⟩ := appE HRL.out (HROW.out.fr (hfA.mono fun _ e => e.elim)) HR7.out (by omega) (fun k e => Nat.lt_of_lt_of_le (HS.out k e) (Nat.le_trans hsz hfA.size)) ⟨w3.heap.size, 0, none⟩ 1 (ev 2 a r i l n (.slice va dl vc)) rfl (fun j u hj => by rw [off_add, Nat.zero_add]; exact (World.cell?_alloc_mark w3.drew #[.int .i64 2, .int .i64 a, .int .i64 r, .int .i64 i, .int .i64 l, .int .i64 n, .slice va dl vc] 79 (0, 0) j).trans (by simpa [ev] using hj)) (by intro u hu; simp [ev] at hu; rcases hu with rfl | rfl | rfl | rfl | rfl | rfl | rfl <;> rfl) 66
        have hf35 := hfA.trans hf5
        have hfb5 := HFB.out.fr hf35 id
        refine wpAnyH_ready (rs := [8]) (by kernel_rfl) (by simp) ?_
        refine AllReadyH.cons (o := _) rfl (fun K hK => ?_) AllReadyH.nil
        rw [if_pos (by rfl)]
        try simp only [List.getElem_toArray, List.getElem_cons_zero, List.getElem_cons_succ]
        refine upon_append rfl (by rfl) (by rfl) hrun ?_
        refine hK.out _ _ (hf35.mono fun _ e => e.elim) (fun hHeldAtb => ?_)
        clear hK K
        try simp only [List.getElem_toArray, List.getElem_cons_zero, List.getElem_cons_succ, Act.put, List.setIfInBounds_toArray, List.set_cons_zero, List.set_cons_succ]
        have c4 := hfb5.cell 4
        have z4 := hfb5.frozen 4
        simp only [fcells, List.getElem?_toArray, List.getElem?_cons_zero, List.getElem?_cons_succ] at c4
        refine wpAnyH_take (i := 9) (oi := _) (v := ?vtb9) rfl (by kernel_rfl) (by kernel_rfl) (by kernel_rfl) (fun _ _ _ h => h) (Or.inl ⟨by rfl, ?ytb9⟩) (by assumption) ?rtb9
        case ytb9 => intro w1 hSw; go_simp; try with_reducible rfl
        try simp only [List.getElem_toArray, List.getElem_cons_zero, List.getElem_cons_succ, Act.put, List.setIfInBounds_toArray, List.set_cons_zero, List.set_cons_succ]
        refine wpAnyH_take (i := 10) (oi := _) (v := ?vtb10) rfl (by kernel_rfl) (by kernel_rfl) (by kernel_rfl) (fun _ _ _ h => h) (Or.inl ⟨by rfl, ?ytb10⟩) (by assumption) ?rtb10
        case ytb10 => intro w1 hSw; go_simp; try with_reducible rfl
        try simp only [List.getElem_toArray, List.getElem_cons_zero, List.getElem_cons_succ, Act.put, List.setIfInBounds_toArray, List.set_cons_zero, List.set_cons_succ]
        refine wpAnyH_ready (rs := [11]) (by kernel_rfl) (by simp) ?_
        refine AllReadyH.cons (o := _) rfl (fun K hK => ?_) AllReadyH.nil
        rw [if_pos (by rfl)]
        try simp only [List.getElem_toArray, List.getElem_cons_zero, List.getElem_cons_succ]
        go_simp
        have hset := Fr.setCell (S := fun k => k = fb) w5 ⟨fb, 4, none⟩ (.slice ao' (s.l.length + 1) cp') rfl
        refine hK.out _ _ ((hf35.mono fun _ e => e.elim).trans hset) (fun hHeldBtb => ?_)
        clear hK K
        try simp only [List.getElem_toArray, List.getElem_cons_zero, List.getElem_cons_succ, Act.put, List.setIfInBounds_toArray, List.set_cons_zero, List.set_cons_succ]
        refine wpAnyH_done (by kernel_rfl) ?_ _
        clear c4 z4
        go_wp2_with fail
        go_meet
        exact ⟨ao', cp', hfb5.set 4 _, hrow5.fr (hset.mono fun k e => e ▸ hf), (HE3.out.fr hf35 id).fr hset hne, (HFL3.out.m.fr hf35 id).fr hset (fun e => mp_ne HFL3.out.m HFB.out e.symm), (hf35.mono fun _ e => e.elim).trans hset⟩
    · rw [if_pos (by rfl)]
      try simp only [List.getElem_toArray, List.getElem_cons_zero, List.getElem_cons_succ]
      go_simp
      refine hK.out _ _ ((Fr.drewN _ w3 1).trans (Fr.alloc _ _ _)) (fun hh1 => ?_)
      clear hK K
      try simp only [List.getElem_toArray, List.getElem_cons_zero, List.getElem_cons_succ, Act.put, List.setIfInBounds_toArray, List.set_cons_zero, List.set_cons_succ]
      refine wpAnyH_ready (rs := [4]) (by kernel_rfl) (by simp) ?_
      refine AllReadyH.cons (o := _) rfl (fun K hK => ?_) AllReadyH.nil
      rw [if_pos (by rfl)]
      try simp only [List.getElem_toArray, List.getElem_cons_zero, List.getElem_cons_succ]
      go_simp
      refine hK.out _ _ ((Fr.drewN _ w3 1).trans (Fr.alloc _ _ _)) (fun hh2 => ?_)
      clear hK K
      try simp only [List.getElem_toArray, List.getElem_cons_zero, List.getElem_cons_succ, Act.put, List.setIfInBounds_toArray, List.set_cons_zero, List.set_cons_succ]
      refine wpAnyH_ready (rs := [5]) (by kernel_rfl) (by simp) ?_
      refine AllReadyH.cons (o := _) rfl (fun K hK => ?_) AllReadyH.nil
      rw [if_pos (by rfl)]
      try simp only [List.getElem_toArray, List.getElem_cons_zero, List.getElem_cons_succ]
      go_simp
      refine (clip_any _ ao s.l.length cp (HRL.out ▸ HROW.out.1) (fun e => ⟨by rw [← HRL.out, (HROW.out.2.2.1 e).1]; rfl, (HROW.out.2.2.1 e).2⟩) HROW.out.2.1).mono ?_
      rintro e wq ⟨rfl, rfl⟩
      refine hK.out _ _ ((Fr.drewN _ w3 1).trans (Fr.alloc _ _ _)) (fun hh3 => ?_)
      clear hK K
      try simp only [List.getElem_toArray, List.getElem_cons_zero, List.getElem_cons_succ, Act.put, List.setIfInBounds_toArray, List.set_cons_zero, List.set_cons_succ]
      have hfA : Fr (fun _ => False) w3 (w3.drew.alloc (.cells #[.int .i64 2, .int .i64 a, .int .i64 r, .int .i64 i, .int .i64 l, .int .i64 n, .slice va dl vc] 79)) := (Fr.drewN _ w3 1).trans (Fr.alloc _ _ _)
      obtain ⟨ao', cp', w5, hrun, hrow5, hf5⟩ := appE HRL.out (HROW.out.fr (hfA.mono fun _ e => e.elim)) HR7.out (by omega) (fun k e => Nat.lt_of_lt_of_le (HS.out k e) (Nat.le_trans hsz hfA.size)) ⟨w3.heap.size, 0, none⟩ 1 (ev 2 a r i l n (.slice va dl vc)) rfl (fun j u hj => by rw [off_add, Nat.zero_add]; exact (World.cell?_alloc_mark w3.drew #[.int .i64 2, .int .i64 a, .int .i64 r, .int .i64 i, .int .i64 l, .int .i64 n, .slice va dl vc] 79 (0, 0) j).trans (by simpa [ev] using hj)) (by intro u hu; simp [ev] at hu; rcases hu with rfl | rfl | rfl | rfl | rfl | rfl | rfl <;> rfl) 66
      have hf35 := hfA.trans hf5
      have hfb5 := HFB.out.fr hf35 id
      refine wpAnyH_ready (rs := [8]) (by kernel_rfl) (by simp) ?_
      refine AllReadyH.cons (o := _) rfl (fun K hK => ?_) AllReadyH.nil
      rw [if_pos (by rfl)]
      try simp only [List.getElem_toArray, List.getElem_cons_zero, List.getElem_cons_succ]
      refine upon_append rfl (by rfl) (by rfl) hrun ?_
      refine hK.out _ _ (hf35.mono fun _ e => e.elim) (fun hHeldAtc => ?_)
      clear hK K
      try simp only [List.getElem_toArray, List.getElem_cons_zero, List.getElem_cons_succ, Act.put, List.setIfInBounds_toArray, List.set_cons_zero, List.set_cons_succ]
      have c4 := hfb5.cell 4
      have z4 := hfb5.frozen 4
      simp only [fcells, List.getElem?_toArray, List.getElem?_cons_zero, List.getElem?_cons_succ] at c4
      refine wpAnyH_take (i := 9) (oi := _) (v := ?vtc9) rfl (by kernel_rfl) (by kernel_rfl) (by kernel_rfl) (fun _ _ _ h => h) (Or.inl ⟨by rfl, ?ytc9⟩) (by assumption) ?rtc9
      case ytc9 => intro w1 hSw; go_simp; try with_reducible rfl
      try simp only [List.getElem_toArray, List.getElem_cons_zero, List.getElem_cons_succ, Act.put, List.setIfInBounds_toArray, List.set_cons_zero, List.set_cons_succ]
      refine wpAnyH_take (i := 10) (oi := _) (v := ?vtc10) rfl (by kernel_rfl) (by kernel_rfl) (by kernel_rfl) (fun _ _ _ h => h) (Or.inl ⟨by rfl, ?ytc10⟩) (by assumption) ?rtc10
      case ytc10 => intro w1 hSw; go_simp; try with_reducible rfl
      try simp only [List.getElem_toArray, List.getElem_cons_zero, List.getElem_cons_succ, Act.put, List.setIfInBounds_toArray, List.set_cons_zero, List.set_cons_succ]
      refine wpAnyH_ready (rs := [11]) (by kernel_rfl) (by simp) ?_
      refine AllReadyH.cons (o := _) rfl (fun K hK => ?_) AllReadyH.nil
      rw [if_pos (by rfl)]
      try simp only [List.getElem_toArray, List.getElem_cons_zero, List.getElem_cons_succ]
      go_simp
      have hset := Fr.setCell (S := fun k => k = fb) w5 ⟨fb, 4, none⟩ (.slice ao' (s.l.length + 1) cp') rfl
      refine hK.out _ _ ((hf35.mono fun _ e => e.elim).trans hset) (fun hHeldBtc => ?_)
      clear hK K
      try simp only [List.getElem_toArray, List.getElem_cons_zero, List.getElem_cons_succ, Act.put, List.setIfInBounds_toArray, List.set_cons_zero, List.set_cons_succ]
      refine wpAnyH_done (by kernel_rfl) ?_ _
      clear c4 z4
      go_wp2_with fail
      go_meet
      exact ⟨ao', cp', hfb5.set 4 _, hrow5.fr (hset.mono fun k e => e ▸ hf), (HE3.out.fr hf35 id).fr hset hne, (HFL3.out.m.fr hf35 id).fr hset (fun e => mp_ne HFL3.out.m HFB.out e.symm), (hf35.mono fun _ e => e.elim).trans hset⟩
  case rest =>
    obtain ⟨ao', cp', hfb, hrow, heb, hm, hfr⟩ := hcut
    have c4 := hfb.cell 4
    have k0 := heb.cell 0
    simp only [fcells, List.getElem?_toArray, List.getElem?_cons_zero, List.getElem?_cons_succ] at c4 k0
    have HFBX := Lib.hid hfb
    have HEBX := Lib.hid heb
    have HROWX := Lib.hid hrow
    have HMX := Lib.hid hm
    have HFRX := Lib.hid hfr
    have EF : Hid (∀ w', Fr (fun k => k = fb) wc w' → w'.cell? ⟨eb, 2, none⟩ = some (.int .i64 r) ∧ w'.cell? ⟨eb, 4, none⟩ = some (.int .i64 l) ∧ w'.cell? ⟨eb, 5, none⟩ = some (.int .i64 n)) := Lib.hid (fun w' hf => by
      have h2 := HEBX.out.fr hf hne
      exact ⟨h2.cell 2, h2.cell 4, h2.cell 5⟩)
    clear hfb heb hrow hm hfr FACTS EFACTS HE3
    go_upto_region 24 with (fail)
    refine wp_region_held_drew (S := fun (w' : World) => Fr (fun k => k = fb) wc w') (by kernel_rfl) (Fr.drewN _ wc 1) (fun hHeld => ?_)
    refine wpAnyH_take (i := 0) (oi := _) (v := ?vu0) rfl (by kernel_rfl) (by kernel_rfl) (by kernel_rfl) (fun _ _ _ h => h) (Or.inl ⟨by rfl, ?yu0⟩) (by assumption) ?ru0
    case yu0 => intro w1 hSw; obtain ⟨f2, f4, f5⟩ := EF.out w1 hSw; go_simp; try with_reducible rfl
    try simp only [List.getElem_toArray, List.getElem_cons_zero, List.getElem_cons_succ, Act.put, List.setIfInBounds_toArray, List.set_cons_zero, List.set_cons_succ]
    refine wpAnyH_take (i := 1) (oi := _) (v := ?vu1) rfl (by kernel_rfl) (by kernel_rfl) (by kernel_rfl) (fun _ _ _ h => h) (Or.inl ⟨by rfl, ?yu1⟩) (by assumption) ?ru1
    case yu1 => intro w1 hSw; obtain ⟨f2, f4, f5⟩ := EF.out w1 hSw; go_simp; try with_reducible rfl
    try simp only [List.getElem_toArray, List.getElem_cons_zero, List.getElem_cons_succ, Act.put, List.setIfInBounds_toArray, List.set_cons_zero, List.set_cons_succ]
    refine wpAnyH_take (i := 2) (oi := _) (v := ?vu2) rfl (by kernel_rfl) (by kernel_rfl) (by kernel_rfl) (fun _ _ _ h => h) (Or.inl ⟨by rfl, ?yu2⟩) (by assumption) ?ru2
    case yu2 => intro w1 hSw; obtain ⟨f2, f4, f5⟩ := EF.out w1 hSw; go_simp; try with_reducible rfl
    try simp only [List.getElem_toArray, List.getElem_cons_zero, List.getElem_cons_succ, Act.put, List.setIfInBounds_toArray, List.set_cons_zero, List.set_cons_succ]
    refine wpAnyH_take (i := 3) (oi := _) (v := ?vu3) rfl (by kernel_rfl) (by kernel_rfl) (by kernel_rfl) (fun _ _ _ h => h) (Or.inl ⟨by rfl, ?yu3⟩) (by assumption) ?ru3
    case yu3 => intro w1 hSw; obtain ⟨f2, f4, f5⟩ := EF.out w1 hSw; go_simp; try with_reducible rfl
    try simp only [List.getElem_toArray, List.getElem_cons_zero, List.getElem_cons_succ, Act.put, List.setIfInBounds_toArray, List.set_cons_zero, List.set_cons_succ]
    refine wpAnyH_take (i := 4) (oi := _) (v := ?vu4) rfl (by kernel_rfl) (by kernel_rfl) (by kernel_rfl) (fun _ _ _ h => h) (Or.inl ⟨by rfl, ?yu4⟩) (by assumption) ?ru4
    case yu4 => intro w1 hSw; obtain ⟨f2, f4, f5⟩ := EF.out w1 hSw; go_simp; try with_reducible rfl
    try simp only [List.getElem_toArray, List.getElem_cons_zero, List.getElem_cons_succ, Act.put, List.setIfInBounds_toArray, List.set_cons_zero, List.set_cons_succ]
    refine wpAnyH_take (i := 5) (oi := _) (v := ?vu5) rfl (by kernel_rfl) (by kernel_rfl) (by kernel_rfl) (fun _ _ _ h => h) (Or.inl ⟨by rfl, ?yu5⟩) (by assumption) ?ru5
    case yu5 => intro w1 hSw; obtain ⟨f2, f4, f5⟩ := EF.out w1 hSw; go_simp; try with_reducible rfl
    try simp only [List.getElem_toArray, List.getElem_cons_zero, List.getElem_cons_succ, Act.put, List.setIfInBounds_toArray, List.set_cons_zero, List.set_cons_succ]
    refine wpAnyH_take (i := 6) (oi := _) (v := ?vu6) rfl (by kernel_rfl) (by kernel_rfl) (by kernel_rfl) (fun _ _ _ h => h) (Or.inl ⟨by rfl, ?yu6⟩) (by assumption) ?ru6
    case yu6 => intro w1 hSw; obtain ⟨f2, f4, f5⟩ := EF.out w1 hSw; go_simp; try with_reducible rfl
    try simp only [List.getElem_toArray, List.getElem_cons_zero, List.getElem_cons_succ, Act.put, List.setIfInBounds_toArray, List.set_cons_zero, List.set_cons_succ]
    refine wpAnyH_take (i := 7) (oi := _) (v := ?vu7) rfl (by kernel_rfl) (by kernel_rfl) (by kernel_rfl) (fun _ _ _ h => h) (Or.inl ⟨by rfl, ?yu7⟩) (by assumption) ?ru7
    case yu7 => intro w1 hSw; obtain ⟨f2, f4, f5⟩ := EF.out w1 hSw; go_simp; try with_reducible rfl
    try simp only [List.getElem_toArray, List.getElem_cons_zero, List.getElem_cons_succ, Act.put, List.setIfInBounds_toArray, List.set_cons_zero, List.set_cons_succ]
    refine wpAnyH_take (i := 8) (oi := _) (v := ?vu8) rfl (by kernel_rfl) (by kernel_rfl) (by kernel_rfl) (fun _ _ _ h => h) (Or.inl ⟨by rfl, ?yu8⟩) (by assumption) ?ru8
    case yu8 => intro w1 hSw; obtain ⟨f2, f4, f5⟩ := EF.out w1 hSw; go_simp; try with_reducible rfl
    try simp only [List.getElem_toArray, List.getElem_cons_zero, List.getElem_cons_succ, Act.put, List.setIfInBounds_toArray, List.set_cons_zero, List.set_cons_succ]
    refine wpAnyH_take (i := 9) (oi := _) (v := ?vu9) rfl (by kernel_rfl) (by kernel_rfl) (by kernel_rfl) (fun _ _ _ h => h) (Or.inl ⟨by rfl, ?yu9⟩) (by assumption) ?ru9
    case yu9 => intro w1 hSw; obtain ⟨f2, f4, f5⟩ := EF.out w1 hSw; go_simp; try with_reducible rfl
    try simp only [List.getElem_toArray, List.getElem_cons_zero, List.getElem_cons_succ, Act.put, List.setIfInBounds_toArray, List.set_cons_zero, List.set_cons_succ]
    have b0 : Blk wc.drew fb 75 (fcells s (.slice ao' (s.l.length + 1) cp') (.map (some mb))) := HFBX.out.fr (S := fun _ => False) (Fr.drewN _ wc 1) id
    have F0 : Fr (fun k => k = fb) wc wc.drew := Fr.drewN _ wc 1
    obtain ⟨zz, hzz⟩ : ∃ z, wc.drew = z := ⟨_, rfl⟩
    rw [hzz] at b0 F0 hHeld ⊢
    clear hzz
    have x0 := b0.cell 5
    have y0 := b0.frozen 5
    simp only [fcells, List.getElem?_toArray, List.getElem?_cons_zero, List.getElem?_cons_succ] at x0
    refine wpAnyH_ready (rs := [10]) (by kernel_rfl) (by simp) ?_
    refine AllReadyH.cons (o := _) rfl (fun K hK => ?_) AllReadyH.nil
    rw [if_pos (by rfl)]
    try simp only [List.getElem_toArray, List.getElem_cons_zero, List.getElem_cons_succ]
    go_simp
    have b1 := b0.set 5 (.int .i64 1)
    have F1 := F0.trans (Fr.setCell (S := fun k => k = fb) _ ⟨fb, 5, none⟩ (.int .i64 1) rfl)
    clear x0 y0
    refine hK.out _ _ F1 (fun hhu0 => ?_)
    clear hK K
    try simp only [List.getElem_toArray, List.getElem_cons_zero, List.getElem_cons_succ, Act.put, List.setIfInBounds_toArray, List.set_cons_zero, List.set_cons_succ]
    obtain ⟨z0, hz0⟩ : ∃ z, (zz).setCell ⟨fb, 5, none⟩ (.int .i64 1) = z := ⟨_, rfl⟩
    rw [hz0] at b1 F1 hhu0 ⊢
    clear hz0 b0 F0
    refine wpAnyH_take (i := 11) (oi := _) (v := ?vu11) rfl (by kernel_rfl) (by kernel_rfl) (by kernel_rfl) (fun _ _ _ h => h) (Or.inl ⟨by rfl, ?yu11⟩) (by assumption) ?ru11
    case yu11 => intro w1 hSw; go_simp; try with_reducible rfl
    try simp only [List.getElem_toArray, List.getElem_cons_zero, List.getElem_cons_succ, Act.put, List.setIfInBounds_toArray, List.set_cons_zero, List.set_cons_succ]
    refine wpAnyH_take (i := 12) (oi := _) (v := ?vu12) rfl (by kernel_rfl) (by kernel_rfl) (by kernel_rfl) (fun _ _ _ h => h) (Or.inl ⟨by rfl, ?yu12⟩) (by assumption) ?ru12
    case yu12 => intro w1 hSw; go_simp; try with_reducible rfl
    try simp only [List.getElem_toArray, List.getElem_cons_zero, List.getElem_cons_succ, Act.put, List.setIfInBounds_toArray, List.set_cons_zero, List.set_cons_succ]
    have x1 := b1.cell 6
    have y1 := b1.frozen 6
    simp only [fcells, List.getElem?_toArray, List.setIfInBounds_toArray, List.set_cons_zero, List.set_cons_succ, List.getElem?_cons_zero, List.getElem?_cons_succ] at x1
    refine wpAnyH_ready (rs := [13]) (by kernel_rfl) (by simp) ?_
    refine AllReadyH.cons (o := _) rfl (fun K hK => ?_) AllReadyH.nil
    rw [if_pos (by rfl)]
    try simp only [List.getElem_toArray, List.getElem_cons_zero, List.getElem_cons_succ]
    go_simp
    have b2 := b1.set 6 (.int .i64 ((s.l.length : Int) + 1))
    have F2 := F1.trans (Fr.setCell (S := fun k => k = fb) _ ⟨fb, 6, none⟩ (.int .i64 ((s.l.length : Int) + 1)) rfl)
    clear x1 y1
    refine hK.out _ _ F2 (fun hhu1 => ?_)
    clear hK K
    try simp only [List.getElem_toArray, List.getElem_cons_zero, List.getElem_cons_succ, Act.put, List.setIfInBounds_toArray, List.set_cons_zero, List.set_cons_succ]
    obtain ⟨z1, hz1⟩ : ∃ z, (z0).setCell ⟨fb, 6, none⟩ (.int .i64 ((s.l.length : Int) + 1)) = z := ⟨_, rfl⟩
    rw [hz1] at b2 F2 hhu1 ⊢
    clear hz1 b1 F1
    refine wpAnyH_take (i := 14) (oi := _) (v := ?vu14) rfl (by kernel_rfl) (by kernel_rfl) (by kernel_rfl) (fun _ _ _ h => h) (Or.inl ⟨by rfl, ?yu14⟩) (by assumption) ?ru14
    case yu14 => intro w1 hSw; go_simp; try with_reducible rfl
    try simp only [List.getElem_toArray, List.getElem_cons_zero, List.getElem_cons_succ, Act.put, List.setIfInBounds_toArray, List.set_cons_zero, List.set_cons_succ]
    refine wpAnyH_take (i := 15) (oi := _) (v := ?vu15) rfl (by kernel_rfl) (by kernel_rfl) (by kernel_rfl) (fun _ _ _ h => h) (Or.inl ⟨by rfl, ?yu15⟩) (by assumption) ?ru15
    case yu15 => intro w1 hSw; go_simp; try with_reducible rfl
    try simp only [List.getElem_toArray, List.getElem_cons_zero, List.getElem_cons_succ, Act.put, List.setIfInBounds_toArray, List.set_cons_zero, List.set_cons_succ]
    have x2 := b2.cell 7
    have y2 := b2.frozen 7
    simp only [fcells, List.getElem?_toArray, List.setIfInBounds_toArray, List.set_cons_zero, List.set_cons_succ, List.getElem?_cons_zero, List.getElem?_cons_succ] at x2
    refine wpAnyH_ready (rs := [16]) (by kernel_rfl) (by simp) ?_
    refine AllReadyH.cons (o := _) rfl (fun K hK => ?_) AllReadyH.nil
    rw [if_pos (by rfl)]
    try simp only [List.getElem_toArray, List.getElem_cons_zero, List.getElem_cons_succ]
    go_simp
    have b3 := b2.set 7 (.int .i64 0)
    have F3 := F2.trans (Fr.setCell (S := fun k => k = fb) _ ⟨fb, 7, none⟩ (.int .i64 0) rfl)
    clear x2 y2
    refine hK.out _ _ F3 (fun hhu2 => ?_)
    clear hK K
    try simp only [List.getElem_toArray, List.getElem_cons_zero, List.getElem_cons_succ, Act.put, List.setIfInBounds_toArray, List.set_cons_zero, List.set_cons_succ]
    obtain ⟨z2, hz2⟩ : ∃ z, (z1).setCell ⟨fb, 7, none⟩ (.int .i64 0) = z := ⟨_, rfl⟩
    rw [hz2] at b3 F3 hhu2 ⊢
    clear hz2 b2 F2
    refine wpAnyH_take (i := 17) (oi := _) (v := ?vu17) rfl (by kernel_rfl) (by kernel_rfl) (by kernel_rfl) (fun _ _ _ h => h) (Or.inl ⟨by rfl, ?yu17⟩) (by assumption) ?ru17
    case yu17 => intro w1 hSw; go_simp; try with_reducible rfl
    try simp only [List.getElem_toArray, List.getElem_cons_zero, List.getElem_cons_succ, Act.put, List.setIfInBounds_toArray, List.set_cons_zero, List.set_cons_succ]
    refine wpAnyH_take (i := 18) (oi := _) (v := ?vu18) rfl (by kernel_rfl) (by kernel_rfl) (by kernel_rfl) (fun _ _ _ h => h) (Or.inl ⟨by rfl, ?yu18⟩) (by assumption) ?ru18
    case yu18 => intro w1 hSw; go_simp; try with_reducible rfl
    try simp only [List.getElem_toArray, List.getElem_cons_zero, List.getElem_cons_succ, Act.put, List.setIfInBounds_toArray, List.set_cons_zero, List.set_cons_succ]
    have x3 := b3.cell 8
    have y3 := b3.frozen 8
    simp only [fcells, List.getElem?_toArray, List.setIfInBounds_toArray, List.set_cons_zero, List.set_cons_succ, List.getElem?_cons_zero, List.getElem?_cons_succ] at x3
    refine wpAnyH_ready (rs := [19]) (by kernel_rfl) (by simp) ?_
    refine AllReadyH.cons (o := _) rfl (fun K hK => ?_) AllReadyH.nil
    rw [if_pos (by rfl)]
    try simp only [List.getElem_toArray, List.getElem_cons_zero, List.getElem_cons_succ]
    go_simp
    have b4 := b3.set 8 (.int .i64 n)
    have F4 := F3.trans (Fr.setCell (S := fun k => k = fb) _ ⟨fb, 8, none⟩ (.int .i64 n) rfl)
    clear x3 y3
    refine hK.out _ _ F4 (fun hhu3 => ?_)
    clear hK K
    try simp only [List.getElem_toArray, List.getElem_cons_zero, List.getElem_cons_succ, Act.put, List.setIfInBounds_toArray, List.set_cons_zero, List.set_cons_succ]
    obtain ⟨z3, hz3⟩ : ∃ z, (z2).setCell ⟨fb, 8, none⟩ (.int .i64 n) = z := ⟨_, rfl⟩
    rw [hz3] at b4 F4 hhu3 ⊢
    clear hz3 b3 F3
    refine wpAnyH_take (i := 20) (oi := _) (v := ?vu20) rfl (by kernel_rfl) (by kernel_rfl) (by kernel_rfl) (fun _ _ _ h => h) (Or.inl ⟨by rfl, ?yu20⟩) (by assumption) ?ru20
    case yu20 => intro w1 hSw; go_simp; try with_reducible rfl
    try simp only [List.getElem_toArray, List.getElem_cons_zero, List.getElem_cons_succ, Act.put, List.setIfInBounds_toArray, List.set_cons_zero, List.set_cons_succ]
    refine wpAnyH_take (i := 21) (oi := _) (v := ?vu21) rfl (by kernel_rfl) (by kernel_rfl) (by kernel_rfl) (fun _ _ _ h => h) (Or.inl ⟨by rfl, ?yu21⟩) (by assumption) ?ru21
    case yu21 => intro w1 hSw; go_simp; try with_reducible rfl
    try simp only [List.getElem_toArray, List.getElem_cons_zero, List.getElem_cons_succ, Act.put, List.setIfInBounds_toArray, List.set_cons_zero, List.set_cons_succ]
    have x4 := b4.cell 9
    have y4 := b4.frozen 9
    simp only [fcells, List.getElem?_toArray, List.setIfInBounds_toArray, List.set_cons_zero, List.set_cons_succ, List.getElem?_cons_zero, List.getElem?_cons_succ] at x4
    refine wpAnyH_ready (rs := [22]) (by kernel_rfl) (by simp) ?_
    refine AllReadyH.cons (o := _) rfl (fun K hK => ?_) AllReadyH.nil
    rw [if_pos (by rfl)]
    try simp only [List.getElem_toArray, List.getElem_cons_zero, List.getElem_cons_succ]
    go_simp
    have b5 := b4.set 9 (.bool false)
    have F5 := F4.trans (Fr.setCell (S := fun k => k = fb) _ ⟨fb, 9, none⟩ (.bool false) rfl)
    clear x4 y4
    refine hK.out _ _ F5 (fun hhu4 => ?_)
    clear hK K
    try simp only [List.getElem_toArray, List.getElem_cons_zero, List.getElem_cons_succ, Act.put, List.setIfInBounds_toArray, List.set_cons_zero, List.set_cons_succ]
    obtain ⟨z4, hz4⟩ : ∃ z, (z3).setCell ⟨fb, 9, none⟩ (.bool false) = z := ⟨_, rfl⟩
    rw [hz4] at b5 F5 hhu4 ⊢
    clear hz4 b4 F4
    refine wpAnyH_done (by kernel_rfl) ?_ _
    go_wp2
    go_ret
    have hWW := HFW.out.mono (S' := fun k => k = fb) (fun _ e => e.elim)
    have hall := (hWW.trans HFRX.out).trans F5
    refine ⟨rfl, ⟨⟨ao', cp', vs ++ [.slice va dl vc], by rw [List.length_append, List.length_append, HVL.out]; rfl, ?_, ?_, ?_⟩, HMX.out.fr F5 (fun e => mp_ne HMX.out HFBX.out e.symm), ?_, ?_⟩, hall⟩
    · rw [List.length_append]; exact b5
    · rw [rowsOf_snoc HVL.out]; exact HROWX.out.fr (F5.mono fun k e => e ▸ hf)
    · exact (HDAT.out.fr (HFRX.out.mono fun k e => e ▸ hf) |>.fr (F5.mono fun k e => e ▸ hf)).snoc HVL.out ⟨2, a, r, i, l, n, ds⟩ _ (HR4.out.fr (HFRX.out.mono fun k e => e ▸ hf) |>.fr (F5.mono fun k e => e ▸ hf))
    · intro q hq; rcases List.mem_append.1 hq with hq | hq; exact HFL3.out.ok q hq; rw [List.mem_singleton.1 hq]; exact HDD.out
    · rw [List.length_append]; show _ + 1 ≤ _; omega
end Go.Proofs.Ytnkelaohcbdjnaa
