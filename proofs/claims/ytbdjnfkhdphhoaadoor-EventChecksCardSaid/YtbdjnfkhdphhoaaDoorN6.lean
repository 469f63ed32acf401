/- The document's Open: the Ids of what is open of a kind, rising. -/
import Derived.Test.YtbdjnfkhdphhoaaDoorN4
import Derived.Test.YtbdjnfkhdphhoaaDoorN2
import Derived.Test.YtbdjnfkhdphhoaaDoorR2
import Derived.Deep.RegionHeld3
set_option linter.unusedVariables false
set_option linter.unusedSimpArgs false
namespace Go.Proofs.YtbdjnfkhdphhoaaDoor
open Go.RowKit Go.Maps
/-- an append, out of its run -/
theorem wp_append_runI {P : Program} {o : Oper} {a : Act} {K : Act → World → Prop} {Q : Exit → Act → World → Prop} {w w' : World} (s x : Operand) (t : TypeId) (ho : o.op = .call { callee := .builtin .append, args := #[s, x], argTypes := #[t, t] }) (v y r : Value) (hs : a.eval s = v) (hx : a.eval x = y)
    (hr : (Builtin.append_ #[t, t] o.type #[v, y]).run P w = .ok r w') (h : K (a.put o.dst r) w') : o.wp P a w K Q := by
  unfold Oper.wp execOp
  simp only [ho, resolve, invoke, builtin, Sem.run_bind, Sem.run_pure, Result.andThen_ok, List.map_toArray, List.map_cons, List.map_nil, hs, hx, hr]
  exact h
theorem wpList_appRun {P : Program} {ops : Array Oper} {rest : List Oper} {o : Oper} {a : Act} {Q : Exit → Act → World → Prop} {w w' : World} (hgd : o.guard = none) (s x : Operand) (t : TypeId) (ho : o.op = .call { callee := .builtin .append, args := #[s, x], argTypes := #[t, t] }) (v y r : Value) (hs : a.eval s = v) (hx : a.eval x = y)
    (hr : (Builtin.append_ #[t, t] o.type #[v, y]).run P w = .ok r w') (h : wpList P ops Q rest (a.put o.dst r) w') : wpList P ops Q (o :: rest) a w :=
  wpList_plain hgd fun _ hK => wp_append_runI s x t ho v y r hs hx hr (hK _ _ h)
theorem rowI1 {W : World} {b : Nat} {x : Int} (h : Blk W b 3 #[.int .i64 x]) : RowI W (some ⟨b, 0, none⟩) [x] :=
  .inr ⟨b, 0, rfl, h.lt, fun i y hy => by
    rcases i with _ | i
    · cases hy; exact h.cell 0
    · simp at hy⟩
theorem RowI.frN {W W2 : World} {N : Nat} {ao : Option Addr} {xs : List Int} (h : RowI W ao xs) (hN : W.heap.size = N) (hf : Fr (fun k => N ≤ k) W W2) : RowI W2 ao xs := by
  rcases h with h | ⟨b, o, rfl, h2, h3⟩
  · exact .inl h
  · exact .inr ⟨b, o, rfl, Nat.lt_of_lt_of_le h2 hf.size, fun i x hx => (World.cell?_of_block (hf.block b h2 (fun e => by omega))).trans (h3 i x hx)⟩
theorem OwnI.lt {W : World} {B : Nat} {v : Value} {xs : List Int} (h : OwnI W B v xs) {k : Nat} (hk : v.ownBlock = some k) : k < W.heap.size := (h.ob hk).2.1
set_option maxRecDepth 100000 in
set_option maxHeartbeats 4000000 in
theorem ropenk_any (W : World) (ao : Option Addr) (cp n : Nat) (l : List Ev) (hl : RowV W ao l) (hnl : l.length = n) (hcp : n ≤ cp) (hn : n ≤ 10000) (k : Int) : Calls Tryd.prog 27 #[.slice ao n cp, .int .i64 k] W fun r W' => ∃ (v : Value) (xs : List Int), r = .returned v ∧ OwnI W' W.heap.size v xs ∧ xs.Pairwise (· ≤ ·) ∧ xs.Perm (rIds l k n) ∧ Fr (fun _ => False) W W' := by
  have HNL := Lib.hid hnl
  have HN := Lib.hid hn
  have HROW := Lib.hid hl
  have HCP := Lib.hid hcp
  obtain ⟨B, hB⟩ : ∃ B, W.heap.size = B := ⟨_, rfl⟩
  have HB := Lib.hid hB
  rw [hB]
  clear hnl hn hl hcp hB
  go_enter Tryd.func27, Tryd.ntmps27
  go_wp2_with fail
  go_loopw [5, 6] (fun ov iv wr => ∃ (i : Nat) (vo : Value) (xs : List Int), i ≤ n ∧ iv = .int .i64 i ∧ vo = ov ∧ OwnI wr B vo xs ∧ xs.Pairwise (· ≤ ·) ∧ xs.Perm (rIds l k i) ∧ Fr (fun _ => False) W wr) (fun _ iv _ => n - (intOf iv).toNat)
  case atStart => exact ⟨0, _, [], Nat.zero_le _, rfl, rfl, OwnI.none _ _, List.Pairwise.nil, List.Perm.refl _, Fr.refl _ _⟩
  case round =>
    obtain ⟨i, vo, xs, hi, rfl, rfl, ho, hp, hq, hf⟩ := hrel
    have HO := Lib.hid ho
    have HP := Lib.hid hp
    have HQ := Lib.hid hq
    have HF := Lib.hid hf
    clear ho hp hq hf
    have hnn := HN.out
    by_cases hlt : i < n
    · have p0 : decide ((i : Int) < n) = true := decide_eq_true (by omega)
      have p0' : decide (i < n) = true := decide_eq_true hlt
      obtain ⟨e, he⟩ : ∃ e, l[i]? = some e := ⟨_, List.getElem?_eq_getElem (by rw [HNL.out]; exact hlt)⟩
      have HKD := Lib.hid (rKind_at he)
      have HID : Hid (idAt l ((i : Int) + 1) = e.id) := Lib.hid (by
        unfold idAt evAt
        rw [if_neg (by omega), show ((i : Int) + 1 - 1).toNat = i by omega, he])
      have HLEN : Hid (xs.length ≤ i) := Lib.hid (by
        rw [HQ.out.length_eq]
        unfold rIds
        rw [List.length_map]
        exact Nat.le_trans (List.length_filter_le _ _) (by rw [List.length_range]; exact Nat.le_refl _))
      have hrow := HROW.out
      obtain ⟨b, o, rfl, hc⟩ := hrow.at_ he
      have c0 : wr.cell? ⟨b, o + i * 7 + 0, none⟩ = some (.int .i64 e.k) := hc wr HF.out 0 _ rfl
      have HC3 : Hid (∀ w', Fr (fun _ => False) W w' → w'.cell? ⟨b, o + i * 7 + 3, none⟩ = some (.int .i64 e.id)) := Lib.hid (fun w' h => hc w' h 3 _ rfl)
      rw [Nat.add_zero] at c0
      have hw : wrap64 ((i : Int) + 1) = (i : Int) + 1 := by rw [wrap64]; omega
      have HW := Lib.hid hw
      have HI := Lib.hid (And.intro hi hlt)
      clear he hc hi hw
      obtain ⟨kd, hkd⟩ : ∃ z, e.k = z := ⟨_, rfl⟩
      rw [hkd] at c0 HKD
      clear hkd
      have HNEXT : Hid (rIds l k (i + 1) = if ((kd == k) && rOpen l ((i : Int) + 1)) = true then rIds l k i ++ [e.id] else rIds l k i) := Lib.hid (by
        rw [rIds_succ, HID.out]
        unfold inK
        rw [HKD.out])
      obtain ⟨bo, hbo⟩ : ∃ z, rOpen l ((i : Int) + 1) = z := ⟨_, rfl⟩
      have HOP := Lib.hid (ropen_any wr _ cp n l (HROW.out.fr HF.out (fun _ e => e.elim)) HNL.out (by omega) ((i : Int) + 1))
      rw [hbo] at HOP HNEXT
      clear hbo
      by_cases hk : ¬ kd = k

      · have p1 : (kd == k) = false := by simp [hk]
        rw [p1, Bool.false_and, if_neg (by decide)] at HNEXT
        go_wp2
        go_roundw
        case rel => exact ⟨i + 1, vo, xs, by have := HI.out; omega, by go_num, rfl, HO.out.fr (Fr.refl _ _) (fun _ _ h => h), HP.out, by rw [HNEXT.out]; exact HQ.out, HF.out.trans (Fr.refl _ _)⟩
        case measure => have := HI.out; simp [intOf]; omega
      have hk2 : kd = k := Classical.byContradiction hk
      subst hk2
      clear hk
      have p1 : (kd == kd) = true := by simp
      rw [p1, Bool.true_and] at HNEXT
      cases bo with
      | false =>
        rw [if_neg (by decide)] at HNEXT
        go_wp2_with (first | (go_at_call 37; refine HOP.out.mono ?_; rintro r2 w2 ⟨rfl, hf2⟩) | go_in)
        go_roundw
        case rel => exact ⟨i + 1, vo, xs, by have := HI.out; omega, by go_num, rfl, HO.out.fr hf2 (fun _ _ h => h), HP.out, by rw [HNEXT.out]; exact HQ.out, HF.out.trans hf2⟩
        case measure => have := HI.out; simp [intOf]; omega
      | true =>
        rw [if_pos rfl] at HNEXT
        obtain ⟨id, hid⟩ : ∃ z, e.id = z := ⟨_, rfl⟩
        rw [hid] at HNEXT HC3
        clear hid
        go_upto_region 6 with (first | (go_at_call 37; refine HOP.out.mono ?_; rintro r2 w2 ⟨rfl, hf2⟩) | go_in)
        have HF2 := Lib.hid (HF.out.trans hf2)
        have ho2 := HO.out.fr hf2 (fun _ _ h => h)
        obtain ⟨ao2, cap, rfl, hxc, hxm, hxr, hxo⟩ := ho2.row
        have HO2 := Lib.hid ho2
        have HXR := Lib.hid hxr
        have HXO := Lib.hid hxo
        clear ho2 hxr hxo hf2 HF HOP p1 p0 p0' hnn
        obtain ⟨m, hm⟩ : ∃ m, xs.length = m := ⟨_, rfl⟩
        rw [hm] at hxc HLEN
        have HM := Lib.hid hm
        have HCAP := Lib.hid (And.intro hxc hxm)
        simp only [hm]
        clear hm hxc hxm HO
        go_wp2_with fail
        go_loopw [7] (fun jv wz => ∃ j : Nat, j ≤ m ∧ jv = .int .i64 j ∧ (∀ q y, q < j → xs[q]? = some y → y < id) ∧ Fr (fun _ => False) w2 wz) (fun jv _ => m - (intOf jv).toNat)
        case atStart => exact ⟨0, Nat.zero_le _, rfl, fun q y h => by omega, Fr.refl _ _⟩
        case round =>
          obtain ⟨j, hj, rfl, hlow, hfz⟩ := hrel
          have HLOW := Lib.hid hlow
          have HFZ := Lib.hid hfz
          have HJ := Lib.hid hj
          clear hlow hfz
          by_cases hjl : j < m
          · have p2 : decide ((j : Int) < m) = true := decide_eq_true (by omega)
            have p2' : decide (j < m) = true := decide_eq_true hjl
            obtain ⟨x, hx⟩ : ∃ x, xs[j]? = some x := ⟨_, List.getElem?_eq_getElem (by rw [HM.out]; exact hjl)⟩
            have hx0 := (HXR.out.fr HFZ.out (fun _ _ h => h)).at_ hx
            obtain ⟨b3, o3, rfl, d0⟩ := hx0
            have d1 := HC3.out _ (HF2.out.trans HFZ.out)
            have HX := Lib.hid hx
            have HJL := Lib.hid hjl
            clear hx
            by_cases hlt2 : x < id
            · have p3 : decide (x < id) = true := decide_eq_true hlt2
              have hwj : wrap64 ((j : Int) + 1) = ((j + 1 : Nat) : Int) := by have := HLEN.out; have := HN.out; have := HI.out; rw [wrap64]; omega
              have HWJ := Lib.hid hwj
              clear hwj
              go_upto_region 7 with (fail)
              go_quiet (fail)
              go_wp2
              go_roundw
              case rel =>
                refine ⟨j + 1, by have := HJL.out; omega, by rw [HWJ.out], fun q y hq hy => ?_, HFZ.out.trans (Fr.drewN _ _ _)⟩
                by_cases e : q = j
                · subst e
                  rw [HX.out] at hy
                  cases hy
                  exact hlt2
                · exact HLOW.out q y (by omega) hy
              case measure => (try rw [HWJ.out]); clear HWJ; have := HJL.out; simp [intOf]; omega
            · have p3 : decide (x < id) = false := decide_eq_false hlt2
              have HGE : Hid (∀ y, xs[j]? = some y → id ≤ y) := Lib.hid (fun y hy => by rw [HX.out] at hy; cases hy; omega)
              clear HX HJL hlt2
              go_upto_region 7 with (fail)
              go_quiet (fail)
              go_upto_region 9 with (fail)
              have hfd : Fr (fun _ => False) wr ((wr.drewN nq).drew) := ⟨rfl, rfl, rfl, Nat.le_refl _, fun _ _ _ => rfl⟩
              have HF8 : Hid (Fr (fun _ => False) W ((wr.drewN nq).drew)) := Lib.hid (HF2.out.trans (HFZ.out.trans hfd))
              have HX8 : Hid (RowI ((wr.drewN nq).drew) (some ⟨b3, o3, none⟩) xs) := Lib.hid (HXR.out.fr (HFZ.out.trans hfd) (fun _ _ h => h))
              refine wp_region_held_drew (S := fun (w' : World) => w'.cell? ⟨b, o + i * 7 + 3, none⟩ = some (.int .i64 id)) (by kernel_rfl) (HC3.out _ HF8.out) (fun hHeld => ?_)
              obtain ⟨w8, hw8⟩ : ∃ w, (wr.drewN nq).drew = w := ⟨_, rfl⟩
              rw [hw8] at hHeld HF8 HX8 ⊢
              have FACT : Hid (∀ w', Fr (fun k => w8.heap.size ≤ k) w8 w' → w'.cell? ⟨b, o + i * 7 + 3, none⟩ = some (.int .i64 id)) := Lib.hid (fun w' hf => HC3.out _ (HF8.out.above hf (fun k hk => by have := HF8.out.size; omega)))
              obtain ⟨base, hbase⟩ : ∃ z, w8.heap.size = z := ⟨_, rfl⟩
              have HBASE := Lib.hid hbase
              have HBB : Hid (B ≤ base) := Lib.hid (by have := HF8.out.size; have := HB.out; omega)
              rw [hbase] at FACT
              have HG8 : Hid (Fr (fun k => base ≤ k) w8 w8) := Lib.hid (Fr.refl _ _)
              have hjcap : j ≤ cap := by have := HCAP.out.1; have := HJ.out; omega
              have HJC := Lib.hid hjcap
              have HM5 : Hid (m ≤ 10000) := Lib.hid (by have := HLEN.out; have := HN.out; have := HI.out; omega)
              have HTK : Hid ((xs.take j).length = j) := Lib.hid (by rw [List.length_take, HM.out]; exact Nat.min_eq_left HJ.out)
              clear hw8 hfd hbase HFZ
              refine wpAnyH_take (i := 1) (oi := _) (v := ?vpa1) rfl (by kernel_rfl) (by kernel_rfl) (by kernel_rfl) (fun _ _ _ h => h) (Or.inl ⟨by rfl, ?ypa1⟩) (by assumption) ?rpa1
              case ypa1 => intro w1 hSw; have s1 := hSw; go_simp; try with_reducible rfl
              try simp only [List.getElem_toArray, List.getElem_cons_zero, List.getElem_cons_succ, Act.put, List.setIfInBounds_toArray, List.set_cons_zero, List.set_cons_succ]
              refine wpAnyH_take (i := 2) (oi := _) (v := ?vpa2) rfl (by kernel_rfl) (by kernel_rfl) (by kernel_rfl) (fun _ _ _ h => h) (Or.inl ⟨by rfl, ?ypa2⟩) (by assumption) ?rpa2
              case ypa2 => intro w1 hSw; have s1 := hSw; go_simp; try with_reducible rfl
              try simp only [List.getElem_toArray, List.getElem_cons_zero, List.getElem_cons_succ, Act.put, List.setIfInBounds_toArray, List.set_cons_zero, List.set_cons_succ]
              refine wpAnyH_take (i := 3) (oi := _) (v := ?vpa3) rfl (by kernel_rfl) (by kernel_rfl) (by kernel_rfl) (fun _ _ _ h => h) (Or.inl ⟨by rfl, ?ypa3⟩) (by assumption) ?rpa3
              case ypa3 => intro w1 hSw; have s1 := hSw; go_simp; try with_reducible rfl
              try simp only [List.getElem_toArray, List.getElem_cons_zero, List.getElem_cons_succ, Act.put, List.setIfInBounds_toArray, List.set_cons_zero, List.set_cons_succ]
              refine wpAnyH_take (i := 5) (oi := _) (v := ?vpa5) rfl (by kernel_rfl) (by kernel_rfl) (by kernel_rfl) (fun _ _ _ h => h) (Or.inl ⟨by rfl, ?ypa5⟩) (by assumption) ?rpa5
              case ypa5 => intro w1 hSw; have s1 := hSw; go_simp; try with_reducible rfl
              try simp only [List.getElem_toArray, List.getElem_cons_zero, List.getElem_cons_succ, Act.put, List.setIfInBounds_toArray, List.set_cons_zero, List.set_cons_succ]
              refine wpAnyH_take (i := 6) (oi := _) (v := ?vpa6) rfl (by kernel_rfl) (by kernel_rfl) (by kernel_rfl) (fun _ _ _ h => h) (Or.inl ⟨by rfl, ?ypa6⟩) (by assumption) ?rpa6
              case ypa6 => intro w1 hSw; have s1 := hSw; go_simp; try with_reducible rfl
              try simp only [List.getElem_toArray, List.getElem_cons_zero, List.getElem_cons_succ, Act.put, List.setIfInBounds_toArray, List.set_cons_zero, List.set_cons_succ]
              refine wpAnyH_take (i := 7) (oi := _) (v := ?vpa7) rfl (by kernel_rfl) (by kernel_rfl) (by kernel_rfl) (fun _ _ _ h => h) (Or.inl ⟨by rfl, ?ypa7⟩) (by assumption) ?rpa7
              case ypa7 => intro w1 hSw; have s1 := hSw; go_simp; try with_reducible rfl
              try simp only [List.getElem_toArray, List.getElem_cons_zero, List.getElem_cons_succ, Act.put, List.setIfInBounds_toArray, List.set_cons_zero, List.set_cons_succ]
              refine wpAnyH_take (i := 8) (oi := _) (v := ?vpa8) rfl (by kernel_rfl) (by kernel_rfl) (by kernel_rfl) (fun _ _ _ h => h) (Or.inl ⟨by rfl, ?ypa8⟩) (by assumption) ?rpa8
              case ypa8 => intro w1 hSw; have s1 := hSw; go_simp; try with_reducible rfl
              try simp only [List.getElem_toArray, List.getElem_cons_zero, List.getElem_cons_succ, Act.put, List.setIfInBounds_toArray, List.set_cons_zero, List.set_cons_succ]
              refine wpAnyH_take (i := 9) (oi := _) (v := ?vpa9) rfl (by kernel_rfl) (by kernel_rfl) (by kernel_rfl) (fun _ _ _ h => h) (Or.inl ⟨by rfl, ?ypa9⟩) (by assumption) ?rpa9
              case ypa9 => intro w1 hSw; have s1 := hSw; go_simp; try with_reducible rfl
              try simp only [List.getElem_toArray, List.getElem_cons_zero, List.getElem_cons_succ, Act.put, List.setIfInBounds_toArray, List.set_cons_zero, List.set_cons_succ]
              refine wpAnyH_ready (rs := [0, 10]) (by kernel_rfl) (by simp) ?_
              refine AllReadyH.cons (o := _) rfl (fun K hK => ?_) (AllReadyH.cons (o := _) rfl (fun K hK => ?_) AllReadyH.nil)
              · rw [if_pos (by rfl)]
                try simp only [List.getElem_toArray, List.getElem_cons_zero, List.getElem_cons_succ]
                go_simp
                have hleA1 : B ≤ w8.heap.size := by have := HG8.out.size; have := HBASE.out; have := HBB.out; omega
                have hoA1 := OwnI.empty w8 B hleA1
                have hfA1 : Fr (fun _ => False) w8 (w8.alloc (.cells #[] 3)) := Fr.alloc _ _ _
                have hgeA1 : base ≤ w8.heap.size := by have := HG8.out.size; have := HBASE.out; omega
                obtain ⟨g0, hg0⟩ : ∃ g, w8.heap.size = g := ⟨_, rfl⟩
                obtain ⟨wA1, hwA1⟩ : ∃ w, w8.alloc (.cells #[] 3) = w := ⟨_, rfl⟩
                rw [hwA1] at hoA1 hfA1 ⊢
                rw [hg0] at hoA1 hgeA1 ⊢
                have HG0 := Lib.hid hgeA1
                have HO := Lib.hid hoA1
                have HGA1 : Hid (Fr (fun k => base ≤ k) w8 wA1) := Lib.hid (HG8.out.trans (hfA1.mono fun _ e => e.elim))
                have HFL := Lib.hid hfA1
                clear hoA1 hfA1 hwA1 hg0 hleA1 hgeA1
                refine hK.out _ _ (FACT.out _ HGA1.out) (fun hHA1 => ?_)
                clear hK K
                try simp only [List.getElem_toArray, List.getElem_cons_zero, List.getElem_cons_succ, Act.put, List.setIfInBounds_toArray, List.set_cons_zero, List.set_cons_succ]
                refine wpAnyH_ready (rs := [4, 10]) (by kernel_rfl) (by simp) ?_
                refine AllReadyH.cons (o := _) rfl (fun K hK => ?_) (AllReadyH.cons (o := _) rfl (fun K hK => ?_) AllReadyH.nil)
                · rw [if_pos (by rfl)]
                  try simp only [List.getElem_toArray, List.getElem_cons_zero, List.getElem_cons_succ]
                  obtain ⟨v2, wA2, hrunA2, hownA2, hfA2, hobA2⟩ := app_i wA1 B (.slice (some ⟨g0, 0, none⟩) 0 0) [] (xs.take j) 47 (by have := HGA1.out.size; have := HBASE.out; have := HBB.out; omega) HO.out (some ⟨b3, o3, none⟩) cap j ((HX8.out.frN HBASE.out HGA1.out).take j) HTK.out (by have := HM5.out; have := HJ.out; simp; omega)
                  rw [List.nil_append] at hownA2
                  refine wp_append_runI _ _ _ rfl _ _ _ rfl rfl hrunA2 ?_
                  have HGA2 : Hid (Fr (fun k => base ≤ k) w8 wA2) := Lib.hid (HGA1.out.trans (hfA2.mono fun k e => by cases e; exact HG0.out))
                  have HOB : Hid (∀ k, v2.ownBlock = some k → base ≤ k) := Lib.hid (fun k e => by
                    rcases hobA2 with h | h
                    · rw [h] at e; cases e; exact HG0.out
                    · rw [h] at e; cases e; have := HGA1.out.size; have := HBASE.out; omega)
                  clear HO
                  have HO := Lib.hid hownA2
                  clear hownA2 hfA2 hrunA2 hobA2
                  refine hK.out _ _ (FACT.out _ HGA2.out) (fun hHA2 => ?_)
                  clear hK K
                  try simp only [List.getElem_toArray, List.getElem_cons_zero, List.getElem_cons_succ, Act.put, List.setIfInBounds_toArray, List.set_cons_zero, List.set_cons_succ]
                  refine wpAnyH_ready (rs := [10]) (by kernel_rfl) (by simp) ?_
                  refine AllReadyH.cons (o := _) rfl (fun K hK => ?_) AllReadyH.nil
                  rw [if_pos (by rfl)]
                  try simp only [List.getElem_toArray, List.getElem_cons_zero, List.getElem_cons_succ]
                  go_simp
                  have hbA3 := Blk.new wA2 3 #[.int .i64 id]
                  have hfA3 : Fr (fun _ => False) wA2 (wA2.alloc (.cells #[.int .i64 id] 3)) := Fr.alloc _ _ _
                  obtain ⟨g1, hg1⟩ : ∃ g, wA2.heap.size = g := ⟨_, rfl⟩
                  obtain ⟨wA3, hwA3⟩ : ∃ w, wA2.alloc (.cells #[.int .i64 id] 3) = w := ⟨_, rfl⟩
                  rw [hwA3] at hbA3 hfA3 ⊢
                  rw [hg1] at hbA3 ⊢
                  have HGA3 : Hid (Fr (fun k => base ≤ k) w8 wA3) := Lib.hid (HGA2.out.trans (hfA3.mono fun _ e => e.elim))
                  have HEA3 := Lib.hid hbA3
                  have HOA3 := Lib.hid (HO.out.fr hfA3 (fun _ _ h => h))
                  clear HO
                  have HO := HOA3
                  clear HOA3
                  clear hbA3 hfA3 hwA3 hg1
                  refine hK.out _ _ (FACT.out _ HGA3.out) (fun hHA3 => ?_)
                  clear hK K
                  try simp only [List.getElem_toArray, List.getElem_cons_zero, List.getElem_cons_succ, Act.put, List.setIfInBounds_toArray, List.set_cons_zero, List.set_cons_succ]
                  have HEV := HEA3
                  clear HEA3
                  refine wpAnyH_ready (rs := [11]) (by kernel_rfl) (by simp) ?_
                  refine AllReadyH.cons (o := _) rfl (fun K hK => ?_) AllReadyH.nil
                  rw [if_pos (by rfl)]
                  try simp only [List.getElem_toArray, List.getElem_cons_zero, List.getElem_cons_succ]
                  obtain ⟨v3, wA4, hrunA4, hownA4, hfA4, hobA4⟩ := app_i wA3 B v2 (xs.take j) [id] 47 (by have := HGA3.out.size; have := HBASE.out; have := HBB.out; omega) HO.out (some ⟨g1, 0, none⟩) 1 1 (rowI1 HEV.out) rfl (by have := HM5.out; have := HJ.out; rw [HTK.out]; omega)
                  refine wp_append_runI _ _ _ rfl _ _ _ rfl rfl hrunA4 ?_
                  have HGA4 : Hid (Fr (fun k => base ≤ k) w8 wA4) := Lib.hid (HGA3.out.trans (hfA4.mono fun k e => HOB.out k e))
                  have HOC : Hid (∀ k, v3.ownBlock = some k → base ≤ k) := Lib.hid (fun k e => by
                    rcases hobA4 with h | h
                    · rw [h] at e; exact HOB.out k e
                    · rw [h] at e; cases e; have := HGA3.out.size; have := HBASE.out; omega)
                  have HON := Lib.hid hownA4
                  clear hownA4 hfA4 hrunA4 hobA4 HEV HO HOB
                  refine hK.out _ _ (FACT.out _ HGA4.out) (fun hHA4 => ?_)
                  clear hK K
                  try simp only [List.getElem_toArray, List.getElem_cons_zero, List.getElem_cons_succ, Act.put, List.setIfInBounds_toArray, List.set_cons_zero, List.set_cons_succ]
                  refine wpAnyH_take (i := 12) (oi := _) (v := ?vpb12) rfl (by kernel_rfl) (by kernel_rfl) (by kernel_rfl) (fun _ _ _ h => h) (Or.inl ⟨by rfl, ?ypb12⟩) (by assumption) ?rpb12
                  case ypb12 => intro w1 hSw; have s1 := hSw; go_simp; try with_reducible rfl
                  try simp only [List.getElem_toArray, List.getElem_cons_zero, List.getElem_cons_succ, Act.put, List.setIfInBounds_toArray, List.set_cons_zero, List.set_cons_succ]
                  refine wpAnyH_done (by kernel_rfl) ?_ _
                  clear FACT
                  have HTL : Hid ((xs.take j ++ [id]).length ≤ 20000) := Lib.hid (by rw [List.length_append, HTK.out]; have := HM5.out; have := HJ.out; simp; omega)
                  obtain ⟨v4, wz4, hrun4, hown4, hf4, _⟩ := app_i wA4 B v3 (xs.take j ++ [id]) (xs.drop j) 47 (by have := HGA4.out.size; have := HBASE.out; have := HBB.out; omega) HON.out (if cap = j then some ⟨b3, o3, none⟩ else some ⟨b3, o3 + j, none⟩) (cap - j) (m - j) (by rw [if_neg (by have := HJC.out; have := HCAP.out.1; omega)]; exact (HX8.out.frN HBASE.out HGA4.out).drop j) (by rw [List.length_drop, HM.out]) (by have := HTL.out; have := HM5.out; omega)
                  have HOW4 := Lib.hid hown4
                  have HF4 := Lib.hid (HF8.out.above (HGA4.out.trans (hf4.mono fun k e => HOC.out k e)) (fun k hk => by have := HF8.out.size; have := HBASE.out; omega))
                  clear hown4 hf4
                  go_wp2_with (at_builtin; refine wpList_appRun rfl _ _ _ rfl _ _ _ rfl rfl hrun4 ?_)
                  clear hrun4
                  go_roundw
                  case rel => exact ⟨i + 1, v4, _, by have := HI.out; omega, by rw [HW.out]; go_num, rfl, HOW4.out, ins_pw HP.out HLOW.out HGE.out, by rw [HNEXT.out]; exact (ins_perm xs id j).trans (HQ.out.append_right [id]), HF4.out⟩
                  case measure => (try rw [HW.out]); clear HW; have := HI.out; simp [intOf]; omega
                · rw [if_pos (by rfl)]
                  try simp only [List.getElem_toArray, List.getElem_cons_zero, List.getElem_cons_succ]
                  go_simp
                  have hbB2 := Blk.new wA1 3 #[.int .i64 id]
                  have hfB2 : Fr (fun _ => False) wA1 (wA1.alloc (.cells #[.int .i64 id] 3)) := Fr.alloc _ _ _
                  obtain ⟨g1, hg1⟩ : ∃ g, wA1.heap.size = g := ⟨_, rfl⟩
                  have HNE : Hid (g1 ≠ g0) := Lib.hid (fun e => by have h1 := HO.out.lt (k := g0) rfl; omega)
                  obtain ⟨wB2, hwB2⟩ : ∃ w, wA1.alloc (.cells #[.int .i64 id] 3) = w := ⟨_, rfl⟩
                  rw [hwB2] at hbB2 hfB2 ⊢
                  rw [hg1] at hbB2 ⊢
                  have HGB2 : Hid (Fr (fun k => base ≤ k) w8 wB2) := Lib.hid (HGA1.out.trans (hfB2.mono fun _ e => e.elim))
                  have HEB2 := Lib.hid hbB2
                  have HOB2 := Lib.hid (HO.out.fr hfB2 (fun _ _ h => h))
                  clear HO
                  have HO := HOB2
                  clear HOB2
                  clear hbB2 hfB2 hwB2 hg1
                  refine hK.out _ _ (FACT.out _ HGB2.out) (fun hHB2 => ?_)
                  clear hK K
                  try simp only [List.getElem_toArray, List.getElem_cons_zero, List.getElem_cons_succ, Act.put, List.setIfInBounds_toArray, List.set_cons_zero, List.set_cons_succ]
                  refine wpAnyH_ready (rs := [4]) (by kernel_rfl) (by simp) ?_
                  refine AllReadyH.cons (o := _) rfl (fun K hK => ?_) AllReadyH.nil
                  rw [if_pos (by rfl)]
                  try simp only [List.getElem_toArray, List.getElem_cons_zero, List.getElem_cons_succ]
                  obtain ⟨v2, wB3, hrunB3, hownB3, hfB3, hobB3⟩ := app_i wB2 B (.slice (some ⟨g0, 0, none⟩) 0 0) [] (xs.take j) 47 (by have := HGB2.out.size; have := HBASE.out; have := HBB.out; omega) HO.out (some ⟨b3, o3, none⟩) cap j ((HX8.out.frN HBASE.out HGB2.out).take j) HTK.out (by have := HM5.out; have := HJ.out; simp; omega)
                  rw [List.nil_append] at hownB3
                  refine wp_append_runI _ _ _ rfl _ _ _ rfl rfl hrunB3 ?_
                  have HGB3 : Hid (Fr (fun k => base ≤ k) w8 wB3) := Lib.hid (HGB2.out.trans (hfB3.mono fun k e => by cases e; exact HG0.out))
                  have HOB : Hid (∀ k, v2.ownBlock = some k → base ≤ k) := Lib.hid (fun k e => by
                    rcases hobB3 with h | h
                    · rw [h] at e; cases e; exact HG0.out
                    · rw [h] at e; cases e; have := HGB2.out.size; have := HBASE.out; omega)
                  have HEV := Lib.hid (HEB2.out.fr hfB3 (fun e => HNE.out (Option.some.inj e).symm))
                  clear HEB2
                  clear HO
                  have HO := Lib.hid hownB3
                  clear hownB3 hfB3 hrunB3 hobB3
                  refine hK.out _ _ (FACT.out _ HGB3.out) (fun hHB3 => ?_)
                  clear hK K
                  try simp only [List.getElem_toArray, List.getElem_cons_zero, List.getElem_cons_succ, Act.put, List.setIfInBounds_toArray, List.set_cons_zero, List.set_cons_succ]
                  refine wpAnyH_ready (rs := [11]) (by kernel_rfl) (by simp) ?_
                  refine AllReadyH.cons (o := _) rfl (fun K hK => ?_) AllReadyH.nil
                  rw [if_pos (by rfl)]
                  try simp only [List.getElem_toArray, List.getElem_cons_zero, List.getElem_cons_succ]
                  obtain ⟨v3, wB4, hrunB4, hownB4, hfB4, hobB4⟩ := app_i wB3 B v2 (xs.take j) [id] 47 (by have := HGB3.out.size; have := HBASE.out; have := HBB.out; omega) HO.out (some ⟨g1, 0, none⟩) 1 1 (rowI1 HEV.out) rfl (by have := HM5.out; have := HJ.out; rw [HTK.out]; omega)
                  refine wp_append_runI _ _ _ rfl _ _ _ rfl rfl hrunB4 ?_
                  have HGB4 : Hid (Fr (fun k => base ≤ k) w8 wB4) := Lib.hid (HGB3.out.trans (hfB4.mono fun k e => HOB.out k e))
                  have HOC : Hid (∀ k, v3.ownBlock = some k → base ≤ k) := Lib.hid (fun k e => by
                    rcases hobB4 with h | h
                    · rw [h] at e; exact HOB.out k e
                    · rw [h] at e; cases e; have := HGB3.out.size; have := HBASE.out; omega)
                  have HON := Lib.hid hownB4
                  clear hownB4 hfB4 hrunB4 hobB4 HEV HO HOB
                  refine hK.out _ _ (FACT.out _ HGB4.out) (fun hHB4 => ?_)
                  clear hK K
                  try simp only [List.getElem_toArray, List.getElem_cons_zero, List.getElem_cons_succ, Act.put, List.setIfInBounds_toArray, List.set_cons_zero, List.set_cons_succ]
                  refine wpAnyH_take (i := 12) (oi := _) (v := ?vpc12) rfl (by kernel_rfl) (by kernel_rfl) (by kernel_rfl) (fun _ _ _ h => h) (Or.inl ⟨by rfl, ?ypc12⟩) (by assumption) ?rpc12
                  case ypc12 => intro w1 hSw; have s1 := hSw; go_simp; try with_reducible rfl
                  try simp only [List.getElem_toArray, List.getElem_cons_zero, List.getElem_cons_succ, Act.put, List.setIfInBounds_toArray, List.set_cons_zero, List.set_cons_succ]
                  refine wpAnyH_done (by kernel_rfl) ?_ _
                  clear FACT
                  have HTL : Hid ((xs.take j ++ [id]).length ≤ 20000) := Lib.hid (by rw [List.length_append, HTK.out]; have := HM5.out; have := HJ.out; simp; omega)
                  obtain ⟨v4, wz4, hrun4, hown4, hf4, _⟩ := app_i wB4 B v3 (xs.take j ++ [id]) (xs.drop j) 47 (by have := HGB4.out.size; have := HBASE.out; have := HBB.out; omega) HON.out (if cap = j then some ⟨b3, o3, none⟩ else some ⟨b3, o3 + j, none⟩) (cap - j) (m - j) (by rw [if_neg (by have := HJC.out; have := HCAP.out.1; omega)]; exact (HX8.out.frN HBASE.out HGB4.out).drop j) (by rw [List.length_drop, HM.out]) (by have := HTL.out; have := HM5.out; omega)
                  have HOW4 := Lib.hid hown4
                  have HF4 := Lib.hid (HF8.out.above (HGB4.out.trans (hf4.mono fun k e => HOC.out k e)) (fun k hk => by have := HF8.out.size; have := HBASE.out; omega))
                  clear hown4 hf4
                  go_wp2_with (at_builtin; refine wpList_appRun rfl _ _ _ rfl _ _ _ rfl rfl hrun4 ?_)
                  clear hrun4
                  go_roundw
                  case rel => exact ⟨i + 1, v4, _, by have := HI.out; omega, by rw [HW.out]; go_num, rfl, HOW4.out, ins_pw HP.out HLOW.out HGE.out, by rw [HNEXT.out]; exact (ins_perm xs id j).trans (HQ.out.append_right [id]), HF4.out⟩
                  case measure => (try rw [HW.out]); clear HW; have := HI.out; simp [intOf]; omega
              · rw [if_pos (by rfl)]
                try simp only [List.getElem_toArray, List.getElem_cons_zero, List.getElem_cons_succ]
                go_simp
                have hbC1 := Blk.new w8 3 #[.int .i64 id]
                have hfC1 : Fr (fun _ => False) w8 (w8.alloc (.cells #[.int .i64 id] 3)) := Fr.alloc _ _ _
                obtain ⟨g1, hg1⟩ : ∃ g, w8.heap.size = g := ⟨_, rfl⟩
                obtain ⟨wC1, hwC1⟩ : ∃ w, w8.alloc (.cells #[.int .i64 id] 3) = w := ⟨_, rfl⟩
                rw [hwC1] at hbC1 hfC1 ⊢
                rw [hg1] at hbC1 ⊢
                have HGC1 : Hid (Fr (fun k => base ≤ k) w8 wC1) := Lib.hid (HG8.out.trans (hfC1.mono fun _ e => e.elim))
                have HEC1 := Lib.hid hbC1
                clear hbC1 hfC1 hwC1 hg1
                refine hK.out _ _ (FACT.out _ HGC1.out) (fun hHC1 => ?_)
                clear hK K
                try simp only [List.getElem_toArray, List.getElem_cons_zero, List.getElem_cons_succ, Act.put, List.setIfInBounds_toArray, List.set_cons_zero, List.set_cons_succ]
                refine wpAnyH_ready (rs := [0]) (by kernel_rfl) (by simp) ?_
                refine AllReadyH.cons (o := _) rfl (fun K hK => ?_) AllReadyH.nil
                rw [if_pos (by rfl)]
                try simp only [List.getElem_toArray, List.getElem_cons_zero, List.getElem_cons_succ]
                go_simp
                have hleC2 : B ≤ wC1.heap.size := by have := HGC1.out.size; have := HBASE.out; have := HBB.out; omega
                have hoC2 := OwnI.empty wC1 B hleC2
                have hfC2 : Fr (fun _ => False) wC1 (wC1.alloc (.cells #[] 3)) := Fr.alloc _ _ _
                have hgeC2 : base ≤ wC1.heap.size := by have := HGC1.out.size; have := HBASE.out; omega
                obtain ⟨g0, hg0⟩ : ∃ g, wC1.heap.size = g := ⟨_, rfl⟩
                obtain ⟨wC2, hwC2⟩ : ∃ w, wC1.alloc (.cells #[] 3) = w := ⟨_, rfl⟩
                rw [hwC2] at hoC2 hfC2 ⊢
                rw [hg0] at hoC2 hgeC2 ⊢
                have HG0 := Lib.hid hgeC2
                have HO := Lib.hid hoC2
                have HGC2 : Hid (Fr (fun k => base ≤ k) w8 wC2) := Lib.hid (HGC1.out.trans (hfC2.mono fun _ e => e.elim))
                have HFL := Lib.hid hfC2
                have HNE : Hid (g1 ≠ g0) := Lib.hid (fun e => by have h1 := HEC1.out.lt; omega)
                have HEC2 := Lib.hid (HEC1.out.fr HFL.out (fun e => e))
                clear HEC1
                clear hoC2 hfC2 hwC2 hg0 hleC2 hgeC2
                refine hK.out _ _ (FACT.out _ HGC2.out) (fun hHC2 => ?_)
                clear hK K
                try simp only [List.getElem_toArray, List.getElem_cons_zero, List.getElem_cons_succ, Act.put, List.setIfInBounds_toArray, List.set_cons_zero, List.set_cons_succ]
                refine wpAnyH_ready (rs := [4]) (by kernel_rfl) (by simp) ?_
                refine AllReadyH.cons (o := _) rfl (fun K hK => ?_) AllReadyH.nil
                rw [if_pos (by rfl)]
                try simp only [List.getElem_toArray, List.getElem_cons_zero, List.getElem_cons_succ]
                obtain ⟨v2, wC3, hrunC3, hownC3, hfC3, hobC3⟩ := app_i wC2 B (.slice (some ⟨g0, 0, none⟩) 0 0) [] (xs.take j) 47 (by have := HGC2.out.size; have := HBASE.out; have := HBB.out; omega) HO.out (some ⟨b3, o3, none⟩) cap j ((HX8.out.frN HBASE.out HGC2.out).take j) HTK.out (by have := HM5.out; have := HJ.out; simp; omega)
                rw [List.nil_append] at hownC3
                refine wp_append_runI _ _ _ rfl _ _ _ rfl rfl hrunC3 ?_
                have HGC3 : Hid (Fr (fun k => base ≤ k) w8 wC3) := Lib.hid (HGC2.out.trans (hfC3.mono fun k e => by cases e; exact HG0.out))
                have HOB : Hid (∀ k, v2.ownBlock = some k → base ≤ k) := Lib.hid (fun k e => by
                  rcases hobC3 with h | h
                  · rw [h] at e; cases e; exact HG0.out
                  · rw [h] at e; cases e; have := HGC2.out.size; have := HBASE.out; omega)
                have HEV := Lib.hid (HEC2.out.fr hfC3 (fun e => HNE.out (Option.some.inj e).symm))
                clear HEC2
                clear HO
                have HO := Lib.hid hownC3
                clear hownC3 hfC3 hrunC3 hobC3
                refine hK.out _ _ (FACT.out _ HGC3.out) (fun hHC3 => ?_)
                clear hK K
                try simp only [List.getElem_toArray, List.getElem_cons_zero, List.getElem_cons_succ, Act.put, List.setIfInBounds_toArray, List.set_cons_zero, List.set_cons_succ]
                refine wpAnyH_ready (rs := [11]) (by kernel_rfl) (by simp) ?_
                refine AllReadyH.cons (o := _) rfl (fun K hK => ?_) AllReadyH.nil
                rw [if_pos (by rfl)]
                try simp only [List.getElem_toArray, List.getElem_cons_zero, List.getElem_cons_succ]
                obtain ⟨v3, wC4, hrunC4, hownC4, hfC4, hobC4⟩ := app_i wC3 B v2 (xs.take j) [id] 47 (by have := HGC3.out.size; have := HBASE.out; have := HBB.out; omega) HO.out (some ⟨g1, 0, none⟩) 1 1 (rowI1 HEV.out) rfl (by have := HM5.out; have := HJ.out; rw [HTK.out]; omega)
                refine wp_append_runI _ _ _ rfl _ _ _ rfl rfl hrunC4 ?_
                have HGC4 : Hid (Fr (fun k => base ≤ k) w8 wC4) := Lib.hid (HGC3.out.trans (hfC4.mono fun k e => HOB.out k e))
                have HOC : Hid (∀ k, v3.ownBlock = some k → base ≤ k) := Lib.hid (fun k e => by
                  rcases hobC4 with h | h
                  · rw [h] at e; exact HOB.out k e
                  · rw [h] at e; cases e; have := HGC3.out.size; have := HBASE.out; omega)
                have HON := Lib.hid hownC4
                clear hownC4 hfC4 hrunC4 hobC4 HEV HO HOB
                refine hK.out _ _ (FACT.out _ HGC4.out) (fun hHC4 => ?_)
                clear hK K
                try simp only [List.getElem_toArray, List.getElem_cons_zero, List.getElem_cons_succ, Act.put, List.setIfInBounds_toArray, List.set_cons_zero, List.set_cons_succ]
                refine wpAnyH_take (i := 12) (oi := _) (v := ?vpd12) rfl (by kernel_rfl) (by kernel_rfl) (by kernel_rfl) (fun _ _ _ h => h) (Or.inl ⟨by rfl, ?ypd12⟩) (by assumption) ?rpd12
                case ypd12 => intro w1 hSw; have s1 := hSw; go_simp; try with_reducible rfl
                try simp only [List.getElem_toArray, List.getElem_cons_zero, List.getElem_cons_succ, Act.put, List.setIfInBounds_toArray, List.set_cons_zero, List.set_cons_succ]
                refine wpAnyH_done (by kernel_rfl) ?_ _
                clear FACT
                have HTL : Hid ((xs.take j ++ [id]).length ≤ 20000) := Lib.hid (by rw [List.length_append, HTK.out]; have := HM5.out; have := HJ.out; simp; omega)
                obtain ⟨v4, wz4, hrun4, hown4, hf4, _⟩ := app_i wC4 B v3 (xs.take j ++ [id]) (xs.drop j) 47 (by have := HGC4.out.size; have := HBASE.out; have := HBB.out; omega) HON.out (if cap = j then some ⟨b3, o3, none⟩ else some ⟨b3, o3 + j, none⟩) (cap - j) (m - j) (by rw [if_neg (by have := HJC.out; have := HCAP.out.1; omega)]; exact (HX8.out.frN HBASE.out HGC4.out).drop j) (by rw [List.length_drop, HM.out]) (by have := HTL.out; have := HM5.out; omega)
                have HOW4 := Lib.hid hown4
                have HF4 := Lib.hid (HF8.out.above (HGC4.out.trans (hf4.mono fun k e => HOC.out k e)) (fun k hk => by have := HF8.out.size; have := HBASE.out; omega))
                clear hown4 hf4
                go_wp2_with (at_builtin; refine wpList_appRun rfl _ _ _ rfl _ _ _ rfl rfl hrun4 ?_)
                clear hrun4
                go_roundw
                case rel => exact ⟨i + 1, v4, _, by have := HI.out; omega, by rw [HW.out]; go_num, rfl, HOW4.out, ins_pw HP.out HLOW.out HGE.out, by rw [HNEXT.out]; exact (ins_perm xs id j).trans (HQ.out.append_right [id]), HF4.out⟩
                case measure => (try rw [HW.out]); clear HW; have := HI.out; simp [intOf]; omega
          · obtain rfl : j = m := by omega
            have p2 : decide ((j : Int) < j) = false := decide_eq_false (by omega)
            have p2' : decide (j < j) = false := decide_eq_false (by omega)
            have HGE : Hid (∀ y, xs[j]? = some y → id ≤ y) := Lib.hid (fun y hy => by have := (List.getElem?_eq_some_iff.1 hy).1; have := HM.out; omega)
            clear hjl
            go_upto_region 7 with (fail)
            go_quiet (fail)
            go_upto_region 9 with (fail)
            have hfd : Fr (fun _ => False) wr ((wr.drewN nq).drew) := ⟨rfl, rfl, rfl, Nat.le_refl _, fun _ _ _ => rfl⟩
            have HF8 : Hid (Fr (fun _ => False) W ((wr.drewN nq).drew)) := Lib.hid (HF2.out.trans (HFZ.out.trans hfd))
            have HX8 : Hid (RowI ((wr.drewN nq).drew) ao2 xs) := Lib.hid (HXR.out.fr (HFZ.out.trans hfd) (fun _ _ h => h))
            refine wp_region_held_drew (S := fun (w' : World) => w'.cell? ⟨b, o + i * 7 + 3, none⟩ = some (.int .i64 id)) (by kernel_rfl) (HC3.out _ HF8.out) (fun hHeld => ?_)
            obtain ⟨w8, hw8⟩ : ∃ w, (wr.drewN nq).drew = w := ⟨_, rfl⟩
            rw [hw8] at hHeld HF8 HX8 ⊢
            have FACT : Hid (∀ w', Fr (fun k => w8.heap.size ≤ k) w8 w' → w'.cell? ⟨b, o + i * 7 + 3, none⟩ = some (.int .i64 id)) := Lib.hid (fun w' hf => HC3.out _ (HF8.out.above hf (fun k hk => by have := HF8.out.size; omega)))
            obtain ⟨base, hbase⟩ : ∃ z, w8.heap.size = z := ⟨_, rfl⟩
            have HBASE := Lib.hid hbase
            have HBB : Hid (B ≤ base) := Lib.hid (by have := HF8.out.size; have := HB.out; omega)
            rw [hbase] at FACT
            have HG8 : Hid (Fr (fun k => base ≤ k) w8 w8) := Lib.hid (Fr.refl _ _)
            have hjcap : j ≤ cap := by have := HCAP.out.1; have := HJ.out; omega
            have HJC := Lib.hid hjcap
            have HM5 : Hid (j ≤ 10000) := Lib.hid (by have := HLEN.out; have := HN.out; have := HI.out; omega)
            have HTK : Hid ((xs.take j).length = j) := Lib.hid (by rw [List.length_take, HM.out]; exact Nat.min_eq_left HJ.out)
            clear hw8 hfd hbase HFZ
            refine wpAnyH_take (i := 1) (oi := _) (v := ?vqa1) rfl (by kernel_rfl) (by kernel_rfl) (by kernel_rfl) (fun _ _ _ h => h) (Or.inl ⟨by rfl, ?yqa1⟩) (by assumption) ?rqa1
            case yqa1 => intro w1 hSw; have s1 := hSw; go_simp; try with_reducible rfl
            try simp only [List.getElem_toArray, List.getElem_cons_zero, List.getElem_cons_succ, Act.put, List.setIfInBounds_toArray, List.set_cons_zero, List.set_cons_succ]
            refine wpAnyH_take (i := 2) (oi := _) (v := ?vqa2) rfl (by kernel_rfl) (by kernel_rfl) (by kernel_rfl) (fun _ _ _ h => h) (Or.inl ⟨by rfl, ?yqa2⟩) (by assumption) ?rqa2
            case yqa2 => intro w1 hSw; have s1 := hSw; go_simp; try with_reducible rfl
            try simp only [List.getElem_toArray, List.getElem_cons_zero, List.getElem_cons_succ, Act.put, List.setIfInBounds_toArray, List.set_cons_zero, List.set_cons_succ]
            refine wpAnyH_take (i := 3) (oi := _) (v := ?vqa3) rfl (by kernel_rfl) (by kernel_rfl) (by kernel_rfl) (fun _ _ _ h => h) (Or.inl ⟨by rfl, ?yqa3⟩) (by assumption) ?rqa3
            case yqa3 => intro w1 hSw; have s1 := hSw; go_simp; try with_reducible rfl
            try simp only [List.getElem_toArray, List.getElem_cons_zero, List.getElem_cons_succ, Act.put, List.setIfInBounds_toArray, List.set_cons_zero, List.set_cons_succ]
            refine wpAnyH_take (i := 5) (oi := _) (v := ?vqa5) rfl (by kernel_rfl) (by kernel_rfl) (by kernel_rfl) (fun _ _ _ h => h) (Or.inl ⟨by rfl, ?yqa5⟩) (by assumption) ?rqa5
            case yqa5 => intro w1 hSw; have s1 := hSw; go_simp; try with_reducible rfl
            try simp only [List.getElem_toArray, List.getElem_cons_zero, List.getElem_cons_succ, Act.put, List.setIfInBounds_toArray, List.set_cons_zero, List.set_cons_succ]
            refine wpAnyH_take (i := 6) (oi := _) (v := ?vqa6) rfl (by kernel_rfl) (by kernel_rfl) (by kernel_rfl) (fun _ _ _ h => h) (Or.inl ⟨by rfl, ?yqa6⟩) (by assumption) ?rqa6
            case yqa6 => intro w1 hSw; have s1 := hSw; go_simp; try with_reducible rfl
            try simp only [List.getElem_toArray, List.getElem_cons_zero, List.getElem_cons_succ, Act.put, List.setIfInBounds_toArray, List.set_cons_zero, List.set_cons_succ]
            refine wpAnyH_take (i := 7) (oi := _) (v := ?vqa7) rfl (by kernel_rfl) (by kernel_rfl) (by kernel_rfl) (fun _ _ _ h => h) (Or.inl ⟨by rfl, ?yqa7⟩) (by assumption) ?rqa7
            case yqa7 => intro w1 hSw; have s1 := hSw; go_simp; try with_reducible rfl
            try simp only [List.getElem_toArray, List.getElem_cons_zero, List.getElem_cons_succ, Act.put, List.setIfInBounds_toArray, List.set_cons_zero, List.set_cons_succ]
            refine wpAnyH_take (i := 8) (oi := _) (v := ?vqa8) rfl (by kernel_rfl) (by kernel_rfl) (by kernel_rfl) (fun _ _ _ h => h) (Or.inl ⟨by rfl, ?yqa8⟩) (by assumption) ?rqa8
            case yqa8 => intro w1 hSw; have s1 := hSw; go_simp; try with_reducible rfl
            try simp only [List.getElem_toArray, List.getElem_cons_zero, List.getElem_cons_succ, Act.put, List.setIfInBounds_toArray, List.set_cons_zero, List.set_cons_succ]
            refine wpAnyH_take (i := 9) (oi := _) (v := ?vqa9) rfl (by kernel_rfl) (by kernel_rfl) (by kernel_rfl) (fun _ _ _ h => h) (Or.inl ⟨by rfl, ?yqa9⟩) (by assumption) ?rqa9
            case yqa9 => intro w1 hSw; have s1 := hSw; go_simp; try with_reducible rfl
            try simp only [List.getElem_toArray, List.getElem_cons_zero, List.getElem_cons_succ, Act.put, List.setIfInBounds_toArray, List.set_cons_zero, List.set_cons_succ]
            refine wpAnyH_ready (rs := [0, 10]) (by kernel_rfl) (by simp) ?_
            refine AllReadyH.cons (o := _) rfl (fun K hK => ?_) (AllReadyH.cons (o := _) rfl (fun K hK => ?_) AllReadyH.nil)
            · rw [if_pos (by rfl)]
              try simp only [List.getElem_toArray, List.getElem_cons_zero, List.getElem_cons_succ]
              go_simp
              have hleA1 : B ≤ w8.heap.size := by have := HG8.out.size; have := HBASE.out; have := HBB.out; omega
              have hoA1 := OwnI.empty w8 B hleA1
              have hfA1 : Fr (fun _ => False) w8 (w8.alloc (.cells #[] 3)) := Fr.alloc _ _ _
              have hgeA1 : base ≤ w8.heap.size := by have := HG8.out.size; have := HBASE.out; omega
              obtain ⟨g0, hg0⟩ : ∃ g, w8.heap.size = g := ⟨_, rfl⟩
              obtain ⟨wA1, hwA1⟩ : ∃ w, w8.alloc (.cells #[] 3) = w := ⟨_, rfl⟩
              rw [hwA1] at hoA1 hfA1 ⊢
              rw [hg0] at hoA1 hgeA1 ⊢
              have HG0 := Lib.hid hgeA1
              have HO := Lib.hid hoA1
              have HGA1 : Hid (Fr (fun k => base ≤ k) w8 wA1) := Lib.hid (HG8.out.trans (hfA1.mono fun _ e => e.elim))
              have HFL := Lib.hid hfA1
              clear hoA1 hfA1 hwA1 hg0 hleA1 hgeA1
              refine hK.out _ _ (FACT.out _ HGA1.out) (fun hHA1 => ?_)
              clear hK K
              try simp only [List.getElem_toArray, List.getElem_cons_zero, List.getElem_cons_succ, Act.put, List.setIfInBounds_toArray, List.set_cons_zero, List.set_cons_succ]
              refine wpAnyH_ready (rs := [4, 10]) (by kernel_rfl) (by simp) ?_
              refine AllReadyH.cons (o := _) rfl (fun K hK => ?_) (AllReadyH.cons (o := _) rfl (fun K hK => ?_) AllReadyH.nil)
              · rw [if_pos (by rfl)]
                try simp only [List.getElem_toArray, List.getElem_cons_zero, List.getElem_cons_succ]
                obtain ⟨v2, wA2, hrunA2, hownA2, hfA2, hobA2⟩ := app_i wA1 B (.slice (some ⟨g0, 0, none⟩) 0 0) [] (xs.take j) 47 (by have := HGA1.out.size; have := HBASE.out; have := HBB.out; omega) HO.out ao2 cap j ((HX8.out.frN HBASE.out HGA1.out).take j) HTK.out (by have := HM5.out; have := HJ.out; simp; omega)
                rw [List.nil_append] at hownA2
                refine wp_append_runI _ _ _ rfl _ _ _ rfl rfl hrunA2 ?_
                have HGA2 : Hid (Fr (fun k => base ≤ k) w8 wA2) := Lib.hid (HGA1.out.trans (hfA2.mono fun k e => by cases e; exact HG0.out))
                have HOB : Hid (∀ k, v2.ownBlock = some k → base ≤ k) := Lib.hid (fun k e => by
                  rcases hobA2 with h | h
                  · rw [h] at e; cases e; exact HG0.out
                  · rw [h] at e; cases e; have := HGA1.out.size; have := HBASE.out; omega)
                clear HO
                have HO := Lib.hid hownA2
                clear hownA2 hfA2 hrunA2 hobA2
                refine hK.out _ _ (FACT.out _ HGA2.out) (fun hHA2 => ?_)
                clear hK K
                try simp only [List.getElem_toArray, List.getElem_cons_zero, List.getElem_cons_succ, Act.put, List.setIfInBounds_toArray, List.set_cons_zero, List.set_cons_succ]
                refine wpAnyH_ready (rs := [10]) (by kernel_rfl) (by simp) ?_
                refine AllReadyH.cons (o := _) rfl (fun K hK => ?_) AllReadyH.nil
                rw [if_pos (by rfl)]
                try simp only [List.getElem_toArray, List.getElem_cons_zero, List.getElem_cons_succ]
                go_simp
                have hbA3 := Blk.new wA2 3 #[.int .i64 id]
                have hfA3 : Fr (fun _ => False) wA2 (wA2.alloc (.cells #[.int .i64 id] 3)) := Fr.alloc _ _ _
                obtain ⟨g1, hg1⟩ : ∃ g, wA2.heap.size = g := ⟨_, rfl⟩
                obtain ⟨wA3, hwA3⟩ : ∃ w, wA2.alloc (.cells #[.int .i64 id] 3) = w := ⟨_, rfl⟩
                rw [hwA3] at hbA3 hfA3 ⊢
                rw [hg1] at hbA3 ⊢
                have HGA3 : Hid (Fr (fun k => base ≤ k) w8 wA3) := Lib.hid (HGA2.out.trans (hfA3.mono fun _ e => e.elim))
                have HEA3 := Lib.hid hbA3
                have HOA3 := Lib.hid (HO.out.fr hfA3 (fun _ _ h => h))
                clear HO
                have HO := HOA3
                clear HOA3
                clear hbA3 hfA3 hwA3 hg1
                refine hK.out _ _ (FACT.out _ HGA3.out) (fun hHA3 => ?_)
                clear hK K
                try simp only [List.getElem_toArray, List.getElem_cons_zero, List.getElem_cons_succ, Act.put, List.setIfInBounds_toArray, List.set_cons_zero, List.set_cons_succ]
                have HEV := HEA3
                clear HEA3
                refine wpAnyH_ready (rs := [11]) (by kernel_rfl) (by simp) ?_
                refine AllReadyH.cons (o := _) rfl (fun K hK => ?_) AllReadyH.nil
                rw [if_pos (by rfl)]
                try simp only [List.getElem_toArray, List.getElem_cons_zero, List.getElem_cons_succ]
                obtain ⟨v3, wA4, hrunA4, hownA4, hfA4, hobA4⟩ := app_i wA3 B v2 (xs.take j) [id] 47 (by have := HGA3.out.size; have := HBASE.out; have := HBB.out; omega) HO.out (some ⟨g1, 0, none⟩) 1 1 (rowI1 HEV.out) rfl (by have := HM5.out; have := HJ.out; rw [HTK.out]; omega)
                refine wp_append_runI _ _ _ rfl _ _ _ rfl rfl hrunA4 ?_
                have HGA4 : Hid (Fr (fun k => base ≤ k) w8 wA4) := Lib.hid (HGA3.out.trans (hfA4.mono fun k e => HOB.out k e))
                have HOC : Hid (∀ k, v3.ownBlock = some k → base ≤ k) := Lib.hid (fun k e => by
                  rcases hobA4 with h | h
                  · rw [h] at e; exact HOB.out k e
                  · rw [h] at e; cases e; have := HGA3.out.size; have := HBASE.out; omega)
                have HON := Lib.hid hownA4
                clear hownA4 hfA4 hrunA4 hobA4 HEV HO HOB
                refine hK.out _ _ (FACT.out _ HGA4.out) (fun hHA4 => ?_)
                clear hK K
                try simp only [List.getElem_toArray, List.getElem_cons_zero, List.getElem_cons_succ, Act.put, List.setIfInBounds_toArray, List.set_cons_zero, List.set_cons_succ]
                refine wpAnyH_take (i := 12) (oi := _) (v := ?vqb12) rfl (by kernel_rfl) (by kernel_rfl) (by kernel_rfl) (fun _ _ _ h => h) (Or.inl ⟨by rfl, ?yqb12⟩) (by assumption) ?rqb12
                case yqb12 => intro w1 hSw; have s1 := hSw; go_simp; try with_reducible rfl
                try simp only [List.getElem_toArray, List.getElem_cons_zero, List.getElem_cons_succ, Act.put, List.setIfInBounds_toArray, List.set_cons_zero, List.set_cons_succ]
                refine wpAnyH_done (by kernel_rfl) ?_ _
                clear FACT
                have HTL : Hid ((xs.take j ++ [id]).length ≤ 20000) := Lib.hid (by rw [List.length_append, HTK.out]; have := HM5.out; have := HJ.out; simp; omega)
                obtain ⟨v4, wz4, hrun4, hown4, hf4, _⟩ := app_i wA4 B v3 (xs.take j ++ [id]) (xs.drop j) 47 (by have := HGA4.out.size; have := HBASE.out; have := HBB.out; omega) HON.out (if cap = j then ao2 else Option.map (fun x => x.add j) ao2) (cap - j) 0 (.inl (List.drop_eq_nil_of_le (by have := HM.out; omega))) (by rw [List.length_drop, HM.out]; omega) (by have := HTL.out; have := HM5.out; omega)
                have HOW4 := Lib.hid hown4
                have HF4 := Lib.hid (HF8.out.above (HGA4.out.trans (hf4.mono fun k e => HOC.out k e)) (fun k hk => by have := HF8.out.size; have := HBASE.out; omega))
                clear hown4 hf4
                go_wp2_with (at_builtin; refine wpList_appRun rfl _ _ _ rfl _ _ _ rfl rfl hrun4 ?_)
                clear hrun4
                go_roundw
                case rel => exact ⟨i + 1, v4, _, by have := HI.out; omega, by rw [HW.out]; go_num, rfl, HOW4.out, ins_pw HP.out HLOW.out HGE.out, by rw [HNEXT.out]; exact (ins_perm xs id j).trans (HQ.out.append_right [id]), HF4.out⟩
                case measure => (try rw [HW.out]); clear HW; have := HI.out; simp [intOf]; omega
              · rw [if_pos (by rfl)]
                try simp only [List.getElem_toArray, List.getElem_cons_zero, List.getElem_cons_succ]
                go_simp
                have hbB2 := Blk.new wA1 3 #[.int .i64 id]
                have hfB2 : Fr (fun _ => False) wA1 (wA1.alloc (.cells #[.int .i64 id] 3)) := Fr.alloc _ _ _
                obtain ⟨g1, hg1⟩ : ∃ g, wA1.heap.size = g := ⟨_, rfl⟩
                have HNE : Hid (g1 ≠ g0) := Lib.hid (fun e => by have h1 := HO.out.lt (k := g0) rfl; omega)
                obtain ⟨wB2, hwB2⟩ : ∃ w, wA1.alloc (.cells #[.int .i64 id] 3) = w := ⟨_, rfl⟩
                rw [hwB2] at hbB2 hfB2 ⊢
                rw [hg1] at hbB2 ⊢
                have HGB2 : Hid (Fr (fun k => base ≤ k) w8 wB2) := Lib.hid (HGA1.out.trans (hfB2.mono fun _ e => e.elim))
                have HEB2 := Lib.hid hbB2
                have HOB2 := Lib.hid (HO.out.fr hfB2 (fun _ _ h => h))
                clear HO
                have HO := HOB2
                clear HOB2
                clear hbB2 hfB2 hwB2 hg1
                refine hK.out _ _ (FACT.out _ HGB2.out) (fun hHB2 => ?_)
                clear hK K
                try simp only [List.getElem_toArray, List.getElem_cons_zero, List.getElem_cons_succ, Act.put, List.setIfInBounds_toArray, List.set_cons_zero, List.set_cons_succ]
                refine wpAnyH_ready (rs := [4]) (by kernel_rfl) (by simp) ?_
                refine AllReadyH.cons (o := _) rfl (fun K hK => ?_) AllReadyH.nil
                rw [if_pos (by rfl)]
                try simp only [List.getElem_toArray, List.getElem_cons_zero, List.getElem_cons_succ]
                obtain ⟨v2, wB3, hrunB3, hownB3, hfB3, hobB3⟩ := app_i wB2 B (.slice (some ⟨g0, 0, none⟩) 0 0) [] (xs.take j) 47 (by have := HGB2.out.size; have := HBASE.out; have := HBB.out; omega) HO.out ao2 cap j ((HX8.out.frN HBASE.out HGB2.out).take j) HTK.out (by have := HM5.out; have := HJ.out; simp; omega)
                rw [List.nil_append] at hownB3
                refine wp_append_runI _ _ _ rfl _ _ _ rfl rfl hrunB3 ?_
                have HGB3 : Hid (Fr (fun k => base ≤ k) w8 wB3) := Lib.hid (HGB2.out.trans (hfB3.mono fun k e => by cases e; exact HG0.out))
                have HOB : Hid (∀ k, v2.ownBlock = some k → base ≤ k) := Lib.hid (fun k e => by
                  rcases hobB3 with h | h
                  · rw [h] at e; cases e; exact HG0.out
                  · rw [h] at e; cases e; have := HGB2.out.size; have := HBASE.out; omega)
                have HEV := Lib.hid (HEB2.out.fr hfB3 (fun e => HNE.out (Option.some.inj e).symm))
                clear HEB2
                clear HO
                have HO := Lib.hid hownB3
                clear hownB3 hfB3 hrunB3 hobB3
                refine hK.out _ _ (FACT.out _ HGB3.out) (fun hHB3 => ?_)
                clear hK K
                try simp only [List.getElem_toArray, List.getElem_cons_zero, List.getElem_cons_succ, Act.put, List.setIfInBounds_toArray, List.set_cons_zero, List.set_cons_succ]
                refine wpAnyH_ready (rs := [11]) (by kernel_rfl) (by simp) ?_
                refine AllReadyH.cons (o := _) rfl (fun K hK => ?_) AllReadyH.nil
                rw [if_pos (by rfl)]
                try simp only [List.getElem_toArray, List.getElem_cons_zero, List.getElem_cons_succ]
                obtain ⟨v3, wB4, hrunB4, hownB4, hfB4, hobB4⟩ := app_i wB3 B v2 (xs.take j) [id] 47 (by have := HGB3.out.size; have := HBASE.out; have := HBB.out; omega) HO.out (some ⟨g1, 0, none⟩) 1 1 (rowI1 HEV.out) rfl (by have := HM5.out; have := HJ.out; rw [HTK.out]; omega)
                refine wp_append_runI _ _ _ rfl _ _ _ rfl rfl hrunB4 ?_
                have HGB4 : Hid (Fr (fun k => base ≤ k) w8 wB4) := Lib.hid (HGB3.out.trans (hfB4.mono fun k e => HOB.out k e))
                have HOC : Hid (∀ k, v3.ownBlock = some k → base ≤ k) := Lib.hid (fun k e => by
                  rcases hobB4 with h | h
                  · rw [h] at e; exact HOB.out k e
                  · rw [h] at e; cases e; have := HGB3.out.size; have := HBASE.out; omega)
                have HON := Lib.hid hownB4
                clear hownB4 hfB4 hrunB4 hobB4 HEV HO HOB
                refine hK.out _ _ (FACT.out _ HGB4.out) (fun hHB4 => ?_)
                clear hK K
                try simp only [List.getElem_toArray, List.getElem_cons_zero, List.getElem_cons_succ, Act.put, List.setIfInBounds_toArray, List.set_cons_zero, List.set_cons_succ]
                refine wpAnyH_take (i := 12) (oi := _) (v := ?vqc12) rfl (by kernel_rfl) (by kernel_rfl) (by kernel_rfl) (fun _ _ _ h => h) (Or.inl ⟨by rfl, ?yqc12⟩) (by assumption) ?rqc12
                case yqc12 => intro w1 hSw; have s1 := hSw; go_simp; try with_reducible rfl
                try simp only [List.getElem_toArray, List.getElem_cons_zero, List.getElem_cons_succ, Act.put, List.setIfInBounds_toArray, List.set_cons_zero, List.set_cons_succ]
                refine wpAnyH_done (by kernel_rfl) ?_ _
                clear FACT
                have HTL : Hid ((xs.take j ++ [id]).length ≤ 20000) := Lib.hid (by rw [List.length_append, HTK.out]; have := HM5.out; have := HJ.out; simp; omega)
                obtain ⟨v4, wz4, hrun4, hown4, hf4, _⟩ := app_i wB4 B v3 (xs.take j ++ [id]) (xs.drop j) 47 (by have := HGB4.out.size; have := HBASE.out; have := HBB.out; omega) HON.out (if cap = j then ao2 else Option.map (fun x => x.add j) ao2) (cap - j) 0 (.inl (List.drop_eq_nil_of_le (by have := HM.out; omega))) (by rw [List.length_drop, HM.out]; omega) (by have := HTL.out; have := HM5.out; omega)
                have HOW4 := Lib.hid hown4
                have HF4 := Lib.hid (HF8.out.above (HGB4.out.trans (hf4.mono fun k e => HOC.out k e)) (fun k hk => by have := HF8.out.size; have := HBASE.out; omega))
                clear hown4 hf4
                go_wp2_with (at_builtin; refine wpList_appRun rfl _ _ _ rfl _ _ _ rfl rfl hrun4 ?_)
                clear hrun4
                go_roundw
                case rel => exact ⟨i + 1, v4, _, by have := HI.out; omega, by rw [HW.out]; go_num, rfl, HOW4.out, ins_pw HP.out HLOW.out HGE.out, by rw [HNEXT.out]; exact (ins_perm xs id j).trans (HQ.out.append_right [id]), HF4.out⟩
                case measure => (try rw [HW.out]); clear HW; have := HI.out; simp [intOf]; omega
            · rw [if_pos (by rfl)]
              try simp only [List.getElem_toArray, List.getElem_cons_zero, List.getElem_cons_succ]
              go_simp
              have hbC1 := Blk.new w8 3 #[.int .i64 id]
              have hfC1 : Fr (fun _ => False) w8 (w8.alloc (.cells #[.int .i64 id] 3)) := Fr.alloc _ _ _
              obtain ⟨g1, hg1⟩ : ∃ g, w8.heap.size = g := ⟨_, rfl⟩
              obtain ⟨wC1, hwC1⟩ : ∃ w, w8.alloc (.cells #[.int .i64 id] 3) = w := ⟨_, rfl⟩
              rw [hwC1] at hbC1 hfC1 ⊢
              rw [hg1] at hbC1 ⊢
              have HGC1 : Hid (Fr (fun k => base ≤ k) w8 wC1) := Lib.hid (HG8.out.trans (hfC1.mono fun _ e => e.elim))
              have HEC1 := Lib.hid hbC1
              clear hbC1 hfC1 hwC1 hg1
              refine hK.out _ _ (FACT.out _ HGC1.out) (fun hHC1 => ?_)
              clear hK K
              try simp only [List.getElem_toArray, List.getElem_cons_zero, List.getElem_cons_succ, Act.put, List.setIfInBounds_toArray, List.set_cons_zero, List.set_cons_succ]
              refine wpAnyH_ready (rs := [0]) (by kernel_rfl) (by simp) ?_
              refine AllReadyH.cons (o := _) rfl (fun K hK => ?_) AllReadyH.nil
              rw [if_pos (by rfl)]
              try simp only [List.getElem_toArray, List.getElem_cons_zero, List.getElem_cons_succ]
              go_simp
              have hleC2 : B ≤ wC1.heap.size := by have := HGC1.out.size; have := HBASE.out; have := HBB.out; omega
              have hoC2 := OwnI.empty wC1 B hleC2
              have hfC2 : Fr (fun _ => False) wC1 (wC1.alloc (.cells #[] 3)) := Fr.alloc _ _ _
              have hgeC2 : base ≤ wC1.heap.size := by have := HGC1.out.size; have := HBASE.out; omega
              obtain ⟨g0, hg0⟩ : ∃ g, wC1.heap.size = g := ⟨_, rfl⟩
              obtain ⟨wC2, hwC2⟩ : ∃ w, wC1.alloc (.cells #[] 3) = w := ⟨_, rfl⟩
              rw [hwC2] at hoC2 hfC2 ⊢
              rw [hg0] at hoC2 hgeC2 ⊢
              have HG0 := Lib.hid hgeC2
              have HO := Lib.hid hoC2
              have HGC2 : Hid (Fr (fun k => base ≤ k) w8 wC2) := Lib.hid (HGC1.out.trans (hfC2.mono fun _ e => e.elim))
              have HFL := Lib.hid hfC2
              have HNE : Hid (g1 ≠ g0) := Lib.hid (fun e => by have h1 := HEC1.out.lt; omega)
              have HEC2 := Lib.hid (HEC1.out.fr HFL.out (fun e => e))
              clear HEC1
              clear hoC2 hfC2 hwC2 hg0 hleC2 hgeC2
              refine hK.out _ _ (FACT.out _ HGC2.out) (fun hHC2 => ?_)
              clear hK K
              try simp only [List.getElem_toArray, List.getElem_cons_zero, List.getElem_cons_succ, Act.put, List.setIfInBounds_toArray, List.set_cons_zero, List.set_cons_succ]
              refine wpAnyH_ready (rs := [4]) (by kernel_rfl) (by simp) ?_
              refine AllReadyH.cons (o := _) rfl (fun K hK => ?_) AllReadyH.nil
              rw [if_pos (by rfl)]
              try simp only [List.getElem_toArray, List.getElem_cons_zero, List.getElem_cons_succ]
              obtain ⟨v2, wC3, hrunC3, hownC3, hfC3, hobC3⟩ := app_i wC2 B (.slice (some ⟨g0, 0, none⟩) 0 0) [] (xs.take j) 47 (by have := HGC2.out.size; have := HBASE.out; have := HBB.out; omega) HO.out ao2 cap j ((HX8.out.frN HBASE.out HGC2.out).take j) HTK.out (by have := HM5.out; have := HJ.out; simp; omega)
              rw [List.nil_append] at hownC3
              refine wp_append_runI _ _ _ rfl _ _ _ rfl rfl hrunC3 ?_
              have HGC3 : Hid (Fr (fun k => base ≤ k) w8 wC3) := Lib.hid (HGC2.out.trans (hfC3.mono fun k e => by cases e; exact HG0.out))
              have HOB : Hid (∀ k, v2.ownBlock = some k → base ≤ k) := Lib.hid (fun k e => by
                rcases hobC3 with h | h
                · rw [h] at e; cases e; exact HG0.out
                · rw [h] at e; cases e; have := HGC2.out.size; have := HBASE.out; omega)
              have HEV := Lib.hid (HEC2.out.fr hfC3 (fun e => HNE.out (Option.some.inj e).symm))
              clear HEC2
              clear HO
              have HO := Lib.hid hownC3
              clear hownC3 hfC3 hrunC3 hobC3
              refine hK.out _ _ (FACT.out _ HGC3.out) (fun hHC3 => ?_)
              clear hK K
              try simp only [List.getElem_toArray, List.getElem_cons_zero, List.getElem_cons_succ, Act.put, List.setIfInBounds_toArray, List.set_cons_zero, List.set_cons_succ]
              refine wpAnyH_ready (rs := [11]) (by kernel_rfl) (by simp) ?_
              refine AllReadyH.cons (o := _) rfl (fun K hK => ?_) AllReadyH.nil
              rw [if_pos (by rfl)]
              try simp only [List.getElem_toArray, List.getElem_cons_zero, List.getElem_cons_succ]
              obtain ⟨v3, wC4, hrunC4, hownC4, hfC4, hobC4⟩ := app_i wC3 B v2 (xs.take j) [id] 47 (by have := HGC3.out.size; have := HBASE.out; have := HBB.out; omega) HO.out (some ⟨g1, 0, none⟩) 1 1 (rowI1 HEV.out) rfl (by have := HM5.out; have := HJ.out; rw [HTK.out]; omega)
              refine wp_append_runI _ _ _ rfl _ _ _ rfl rfl hrunC4 ?_
              have HGC4 : Hid (Fr (fun k => base ≤ k) w8 wC4) := Lib.hid (HGC3.out.trans (hfC4.mono fun k e => HOB.out k e))
              have HOC : Hid (∀ k, v3.ownBlock = some k → base ≤ k) := Lib.hid (fun k e => by
                rcases hobC4 with h | h
                · rw [h] at e; exact HOB.out k e
                · rw [h] at e; cases e; have := HGC3.out.size; have := HBASE.out; omega)
              have HON := Lib.hid hownC4
              clear hownC4 hfC4 hrunC4 hobC4 HEV HO HOB
              refine hK.out _ _ (FACT.out _ HGC4.out) (fun hHC4 => ?_)
              clear hK K
              try simp only [List.getElem_toArray, List.getElem_cons_zero, List.getElem_cons_succ, Act.put, List.setIfInBounds_toArray, List.set_cons_zero, List.set_cons_succ]
              refine wpAnyH_take (i := 12) (oi := _) (v := ?vqd12) rfl (by kernel_rfl) (by kernel_rfl) (by kernel_rfl) (fun _ _ _ h => h) (Or.inl ⟨by rfl, ?yqd12⟩) (by assumption) ?rqd12
              case yqd12 => intro w1 hSw; have s1 := hSw; go_simp; try with_reducible rfl
              try simp only [List.getElem_toArray, List.getElem_cons_zero, List.getElem_cons_succ, Act.put, List.setIfInBounds_toArray, List.set_cons_zero, List.set_cons_succ]
              refine wpAnyH_done (by kernel_rfl) ?_ _
              clear FACT
              have HTL : Hid ((xs.take j ++ [id]).length ≤ 20000) := Lib.hid (by rw [List.length_append, HTK.out]; have := HM5.out; have := HJ.out; simp; omega)
              obtain ⟨v4, wz4, hrun4, hown4, hf4, _⟩ := app_i wC4 B v3 (xs.take j ++ [id]) (xs.drop j) 47 (by have := HGC4.out.size; have := HBASE.out; have := HBB.out; omega) HON.out (if cap = j then ao2 else Option.map (fun x => x.add j) ao2) (cap - j) 0 (.inl (List.drop_eq_nil_of_le (by have := HM.out; omega))) (by rw [List.length_drop, HM.out]; omega) (by have := HTL.out; have := HM5.out; omega)
              have HOW4 := Lib.hid hown4
              have HF4 := Lib.hid (HF8.out.above (HGC4.out.trans (hf4.mono fun k e => HOC.out k e)) (fun k hk => by have := HF8.out.size; have := HBASE.out; omega))
              clear hown4 hf4
              go_wp2_with (at_builtin; refine wpList_appRun rfl _ _ _ rfl _ _ _ rfl rfl hrun4 ?_)
              clear hrun4
              go_roundw
              case rel => exact ⟨i + 1, v4, _, by have := HI.out; omega, by rw [HW.out]; go_num, rfl, HOW4.out, ins_pw HP.out HLOW.out HGE.out, by rw [HNEXT.out]; exact (ins_perm xs id j).trans (HQ.out.append_right [id]), HF4.out⟩
              case measure => (try rw [HW.out]); clear HW; have := HI.out; simp [intOf]; omega
    · obtain rfl : i = n := by omega
      have p0 : decide ((i : Int) < i) = false := decide_eq_false (by omega)
      have p0' : decide (i < i) = false := decide_eq_false (by omega)
      go_wp2
      go_ret
      exact ⟨_, xs, rfl, HO.out, HP.out, HQ.out, HF.out⟩
/-- ONE KIND's, AS BOTH TELL THEM -/
theorem ropen_tells (W : World) (ao : Option Addr) (cp n : Nat) (l : List Ev) (hl : RowV W ao l) (hnl : l.length = n) (hcp : n ≤ cp) (hn : n ≤ 10000) (k : Int) (c : Nat) (h : (k = 7 ∧ c = 0) ∨ (k = 12 ∧ c = 1) ∨ (k = 17 ∧ c = 2)) : Calls Tryd.prog 27 #[.slice ao n cp, .int .i64 k] W fun r W' => ∃ (bo : Option Addr) (cq : Nat), r = .returned (.slice bo (tells l c).length cq) ∧ RowI W' bo (tells l c) ∧ Fr (fun _ => False) W W' := by
  refine (ropenk_any W ao cp n l hl hnl hcp hn k).mono ?_
  rintro r W' ⟨v, xs, rfl, ho, hs, hp, hf⟩
  obtain rfl := tells_ref h hs (by rw [hnl]; exact hp)
  obtain ⟨ao2, cap, rfl, _, _, h3, _⟩ := ho.row
  exact ⟨ao2, cap, rfl, h3, hf⟩
end Go.Proofs.YtbdjnfkhdphhoaaDoor
