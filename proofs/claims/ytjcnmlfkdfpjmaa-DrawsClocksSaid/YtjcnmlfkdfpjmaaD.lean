/- Due's order, the sort by it, Due. -/
import Derived.Test.YtjcnmlfkdfpjmaaC
import Derived.Test.YtjcnmlfkdfpjmaaT
import Derived.Deep.RegionHeld3
import Derived.Deep.MidRow
import Derived.Deep.Cut
set_option linter.unusedVariables false
set_option linter.unusedSimpArgs false
namespace Go.Proofs.Ytjcnmlfkdfpjmaa
open Go.RowKit Go.Maps Go.Sort Go.Shelf
variable {W : World} {cb mb N : Nat} {now : Int} {F : Int → Option Int}
theorem cmp_any (x y : Int) (w : World) : Calls Try.prog 35 #[.int .i64 x, .int .i64 y] w fun e w' => e = .returned (.int .i64 (Lib.compareInt x y)) ∧ w' = w := by
  have hcon := AnyG.cmp_Compare_int Try.cmp35 x y w
  change Calls Try.prog 35 _ _ _ at hcon
  exact hcon
set_option maxRecDepth 100000 in
theorem or_any (W : World) (b : Nat) (x y : Int) (h0 : W.cell? ⟨b, 0, none⟩ = some (.int .i64 x)) (h1 : W.cell? ⟨b, 1, none⟩ = some (.int .i64 y)) :
    Calls Try.prog 34 #[.slice (some ⟨b, 0, none⟩) 2 2] W fun e w' => e = .returned (.int .i64 (if x ≠ 0 then x else y)) ∧ W = w' := by
  by_cases hx : x = 0
  · rw [if_neg (by simp [hx])]
    subst hx
    by_cases hy : y = 0
    · subst hy
      go_enter Try.func34, Try.ntmps34
      go_wp2
      refine wp_loop_rounds 3 ?_
      rw [rounds_succ]
      go_wp2
      rw [rounds_succ]
      go_wp2
      rw [rounds_succ]
      go_wp2
      go_ret
      exact ⟨rfl, rfl⟩
    · have p2 : (y != 0) = true := by simp [hy]
      clear hy
      go_enter Try.func34, Try.ntmps34
      go_wp2
      refine wp_loop_rounds 3 ?_
      rw [rounds_succ]
      go_wp2
      rw [rounds_succ]
      go_wp2
      go_ret
      exact ⟨rfl, rfl⟩
  · have p1 : (x != 0) = true := by simp [hx]
    rw [if_pos hx]
    clear hx
    go_enter Try.func34, Try.ntmps34
    go_wp2
    refine wp_loop_rounds 3 ?_
    rw [rounds_succ]
    go_wp2
    go_ret
    exact ⟨rfl, rfl⟩
def atF (F : Int → Option Int) (x : Int) : Int := (F x).getD 0
def cfF (F : Int → Option Int) (x y : Int) : Int := if Lib.compareInt (atF F x) (atF F y) ≠ 0 then Lib.compareInt (atF F x) (atF F y) else Lib.compareInt x y
theorem grow_fr (W : World) (q : Nat) (os : Array Obj) : Fr (fun _ => False) W (grow (W.drewN q) os) :=
  ⟨rfl, rfl, rfl, by simp [grow, World.drewN], fun k hk _ => by
    show (W.heap ++ os)[k]? = _
    exact Array.getElem?_append_left hk⟩
set_option maxRecDepth 100000 in
set_option maxHeartbeats 1000000 in
theorem clo_any (h : CK W cb mb now N F) (bx : Nat) (hbx : W.cell? ⟨bx, 0, none⟩ = some (.pointer (some ⟨cb, 0, none⟩))) (x y : Int) (hx : iKE.ok x) (hy : iKE.ok y) :
    Calls Try.prog 33 #[.int .i64 x, .int .i64 y, .pointer (some ⟨bx, 0, none⟩)] W fun e W' => e = .returned (.int .i64 (cfF F x y)) ∧ ∃ q os, W' = grow (W.drewN q) os := by
  have hmk : ∀ w', (∃ q os, w' = grow (W.drewN q) os) → (∃ q os, w' = grow (W.drewN q) os) ∧ w'.cell? ⟨bx, 0, none⟩ = some (.pointer (some ⟨cb, 0, none⟩)) ∧ w'.cell? ⟨cb, 1, none⟩ = some (.map (some mb)) ∧
      (Instr.lookup 32 (.map (some mb)) (.int .i64 x) false).run Try.prog w' = .ok (.int .i64 (atF F x)) w' ∧ (Instr.lookup 32 (.map (some mb)) (.int .i64 y) false).run Try.prog w' = .ok (.int .i64 (atF F y)) w' := by
    rintro w' ⟨q, os, rfl⟩
    have hf := grow_fr W q os
    have h' := h.kept hf
    have c1 := h'.s.cell 1
    simp only [List.getElem?_toArray, List.getElem?_cons_zero, List.getElem?_cons_succ] at c1
    exact ⟨⟨q, os, rfl⟩, (World.cell?_of_block (hf.block bx (lt_of_cell hbx) id)).trans hbx, c1, h'.look hx, h'.look hy⟩
  have HM := Lib.hid hmk
  have H0 := hmk W ⟨0, #[], by rw [grow_empty]; rfl⟩
  clear hmk h hbx hx hy
  unfold cfF
  obtain ⟨u, hu⟩ : ∃ u, atF F x = u := ⟨_, rfl⟩
  obtain ⟨v, hv⟩ : ∃ v, atF F y = v := ⟨_, rfl⟩
  rw [hu, hv] at HM H0
  rw [hu, hv]
  clear hu hv
  obtain ⟨r1, hr1⟩ : ∃ r1, Lib.compareInt u v = r1 := ⟨_, rfl⟩
  obtain ⟨r2, hr2⟩ : ∃ r2, Lib.compareInt x y = r2 := ⟨_, rfl⟩
  have C1 := Lib.hid (fun w => hr1 ▸ cmp_any u v w)
  have C2 := Lib.hid (fun w => hr2 ▸ cmp_any x y w)
  rw [hr1, hr2]
  clear hr1 hr2
  obtain ⟨r3, hr3⟩ : ∃ r3, (if r1 ≠ 0 then r1 else r2) = r3 := ⟨_, rfl⟩
  have C3 := Lib.hid (fun W b => hr3 ▸ or_any W b r1 r2)
  rw [hr3]
  clear hr3
  go_enter Try.func33, Try.ntmps33
  go_upto_region 1 with (fail)
  refine wp_region_held_drew (S := fun (w' : World) => (∃ q os, w' = grow (W.drewN q) os) ∧ w'.cell? ⟨bx, 0, none⟩ = some (.pointer (some ⟨cb, 0, none⟩)) ∧ w'.cell? ⟨cb, 1, none⟩ = some (.map (some mb)) ∧
      (Instr.lookup 32 (.map (some mb)) (.int .i64 x) false).run Try.prog w' = .ok (.int .i64 u) w' ∧ (Instr.lookup 32 (.map (some mb)) (.int .i64 y) false).run Try.prog w' = .ok (.int .i64 v) w') (by kernel_rfl) (HM.out _ ⟨1, #[], by rw [grow_empty]; rfl⟩) (fun hHeld => ?_)
  refine wpAnyH_take (i := 0) (oi := _) (v := ?v0) rfl (by kernel_rfl) (by kernel_rfl) (by kernel_rfl) (fun _ _ _ h => h) (Or.inl ⟨by rfl, ?y0⟩) (by assumption) ?r0
  case y0 => intro w1 hSw; obtain ⟨_, s1, s2, s3, s4⟩ := hSw; go_simp; try with_reducible rfl
  try simp only [List.getElem_toArray, List.getElem_cons_zero, List.getElem_cons_succ, Act.put, List.setIfInBounds_toArray, List.set_cons_zero, List.set_cons_succ]
  refine wpAnyH_take (i := 1) (oi := _) (v := ?v1) rfl (by kernel_rfl) (by kernel_rfl) (by kernel_rfl) (fun _ _ _ h => h) (Or.inl ⟨by rfl, ?y1⟩) (by assumption) ?r1
  case y1 => intro w1 hSw; obtain ⟨_, s1, s2, s3, s4⟩ := hSw; go_simp; try with_reducible rfl
  try simp only [List.getElem_toArray, List.getElem_cons_zero, List.getElem_cons_succ, Act.put, List.setIfInBounds_toArray, List.set_cons_zero, List.set_cons_succ]
  refine wpAnyH_take (i := 2) (oi := _) (v := ?v2) rfl (by kernel_rfl) (by kernel_rfl) (by kernel_rfl) (fun _ _ _ h => h) (Or.inl ⟨by rfl, ?y2⟩) (by assumption) ?r2
  case y2 => intro w1 hSw; obtain ⟨_, s1, s2, s3, s4⟩ := hSw; go_simp; try with_reducible rfl
  try simp only [List.getElem_toArray, List.getElem_cons_zero, List.getElem_cons_succ, Act.put, List.setIfInBounds_toArray, List.set_cons_zero, List.set_cons_succ]
  refine wpAnyH_take (i := 3) (oi := _) (v := ?v3) rfl (by kernel_rfl) (by kernel_rfl) (by kernel_rfl) (fun _ _ _ h => h) (Or.inl ⟨by rfl, ?y3⟩) (by assumption) ?r3
  case y3 => intro w1 hSw; obtain ⟨_, s1, s2, s3, s4⟩ := hSw; go_simp; try with_reducible rfl
  try simp only [List.getElem_toArray, List.getElem_cons_zero, List.getElem_cons_succ, Act.put, List.setIfInBounds_toArray, List.set_cons_zero, List.set_cons_succ]
  refine wpAnyH_take (i := 4) (oi := _) (v := ?v4) rfl (by kernel_rfl) (by kernel_rfl) (by kernel_rfl) (fun _ _ _ h => h) (Or.inl ⟨by rfl, ?y4⟩) (by assumption) ?r4
  case y4 => intro w1 hSw; obtain ⟨_, s1, s2, s3, s4⟩ := hSw; go_simp; try with_reducible rfl
  try simp only [List.getElem_toArray, List.getElem_cons_zero, List.getElem_cons_succ, Act.put, List.setIfInBounds_toArray, List.set_cons_zero, List.set_cons_succ]
  refine wpAnyH_take (i := 5) (oi := _) (v := ?v5) rfl (by kernel_rfl) (by kernel_rfl) (by kernel_rfl) (fun _ _ _ h => h) (Or.inl ⟨by rfl, ?y5⟩) (by assumption) ?r5
  case y5 => intro w1 hSw; obtain ⟨_, s1, s2, s3, s4⟩ := hSw; go_simp; try with_reducible rfl
  try simp only [List.getElem_toArray, List.getElem_cons_zero, List.getElem_cons_succ, Act.put, List.setIfInBounds_toArray, List.set_cons_zero, List.set_cons_succ]
  refine wpAnyH_take (i := 6) (oi := _) (v := ?v6) rfl (by kernel_rfl) (by kernel_rfl) (by kernel_rfl) (fun _ _ _ h => h) (Or.inl ⟨by rfl, ?y6⟩) (by assumption) ?r6
  case y6 => intro w1 hSw; obtain ⟨_, s1, s2, s3, s4⟩ := hSw; go_simp; try with_reducible rfl
  try simp only [List.getElem_toArray, List.getElem_cons_zero, List.getElem_cons_succ, Act.put, List.setIfInBounds_toArray, List.set_cons_zero, List.set_cons_succ]
  refine wpAnyH_take (i := 7) (oi := _) (v := ?v7) rfl (by kernel_rfl) (by kernel_rfl) (by kernel_rfl) (fun _ _ _ h => h) (Or.inl ⟨by rfl, ?y7⟩) (by assumption) ?r7
  case y7 => intro w1 hSw; obtain ⟨_, s1, s2, s3, s4⟩ := hSw; go_simp; try with_reducible rfl
  try simp only [List.getElem_toArray, List.getElem_cons_zero, List.getElem_cons_succ, Act.put, List.setIfInBounds_toArray, List.set_cons_zero, List.set_cons_succ]
  refine wpAnyH_take (i := 8) (oi := _) (v := ?v8) rfl (by kernel_rfl) (by kernel_rfl) (by kernel_rfl) (fun _ _ _ h => h) (Or.inl ⟨by rfl, ?y8⟩) (by assumption) ?r8
  case y8 => intro w1 hSw; obtain ⟨_, s1, s2, s3, s4⟩ := hSw; go_simp; try with_reducible rfl
  try simp only [List.getElem_toArray, List.getElem_cons_zero, List.getElem_cons_succ, Act.put, List.setIfInBounds_toArray, List.set_cons_zero, List.set_cons_succ]
  refine wpAnyH_take (i := 9) (oi := _) (v := ?v9) rfl (by kernel_rfl) (by kernel_rfl) (by kernel_rfl) (fun _ _ _ h => h) (Or.inl ⟨by rfl, ?y9⟩) (by assumption) ?r9
  case y9 => intro w1 hSw; obtain ⟨_, s1, s2, s3, s4⟩ := hSw; go_simp; try with_reducible rfl
  try simp only [List.getElem_toArray, List.getElem_cons_zero, List.getElem_cons_succ, Act.put, List.setIfInBounds_toArray, List.set_cons_zero, List.set_cons_succ]
  refine wpAnyH_take (i := 10) (oi := _) (v := ?v10) rfl (by kernel_rfl) (by kernel_rfl) (by kernel_rfl) (fun _ _ _ h => h) (Or.inl ⟨by rfl, ?y10⟩) (by assumption) ?r10
  case y10 => intro w1 hSw; obtain ⟨_, s1, s2, s3, s4⟩ := hSw; go_simp; try with_reducible rfl
  try simp only [List.getElem_toArray, List.getElem_cons_zero, List.getElem_cons_succ, Act.put, List.setIfInBounds_toArray, List.set_cons_zero, List.set_cons_succ]
  refine wpAnyH_take (i := 11) (oi := _) (v := ?v11) rfl (by kernel_rfl) (by kernel_rfl) (by kernel_rfl) (fun _ _ _ h => h) (Or.inl ⟨by rfl, ?y11⟩) (by assumption) ?r11
  case y11 => intro w1 hSw; obtain ⟨_, s1, s2, s3, s4⟩ := hSw; go_simp; try with_reducible rfl
  try simp only [List.getElem_toArray, List.getElem_cons_zero, List.getElem_cons_succ, Act.put, List.setIfInBounds_toArray, List.set_cons_zero, List.set_cons_succ]
  refine wpAnyH_take (i := 13) (oi := _) (v := ?v13) rfl (by kernel_rfl) (by kernel_rfl) (by kernel_rfl) (fun _ _ _ h => h) (Or.inl ⟨by rfl, ?y13⟩) (by assumption) ?r13
  case y13 => intro w1 hSw; obtain ⟨_, s1, s2, s3, s4⟩ := hSw; go_simp; try with_reducible rfl
  try simp only [List.getElem_toArray, List.getElem_cons_zero, List.getElem_cons_succ, Act.put, List.setIfInBounds_toArray, List.set_cons_zero, List.set_cons_succ]
  refine wpAnyH_take (i := 14) (oi := _) (v := ?v14) rfl (by kernel_rfl) (by kernel_rfl) (by kernel_rfl) (fun _ _ _ h => h) (Or.inl ⟨by rfl, ?y14⟩) (by assumption) ?r14
  case y14 => intro w1 hSw; obtain ⟨_, s1, s2, s3, s4⟩ := hSw; go_simp; try with_reducible rfl
  try simp only [List.getElem_toArray, List.getElem_cons_zero, List.getElem_cons_succ, Act.put, List.setIfInBounds_toArray, List.set_cons_zero, List.set_cons_succ]
  refine wpAnyH_ready (rs := [12]) (by kernel_rfl) (by simp) ?_
  refine AllReadyH.cons (o := _) rfl (fun K hK => ?_) AllReadyH.nil
  rw [if_pos (by rfl)]
  try simp only [List.getElem_toArray, List.getElem_cons_zero, List.getElem_cons_succ]
  go_simp
  refine (C1.out _).mono ?_
  rintro e w' ⟨rfl, rfl⟩
  refine hK.out _ _ (HM.out _ ⟨1, #[], by rw [grow_empty]; rfl⟩) (fun hHeld2 => ?_)
  clear hK K
  try simp only [List.getElem_toArray, List.getElem_cons_zero, List.getElem_cons_succ, Act.put, List.setIfInBounds_toArray, List.set_cons_zero, List.set_cons_succ]
  refine wpAnyH_ready (rs := [15]) (by kernel_rfl) (by simp) ?_
  refine AllReadyH.cons (o := _) rfl (fun K hK => ?_) AllReadyH.nil
  rw [if_pos (by rfl)]
  try simp only [List.getElem_toArray, List.getElem_cons_zero, List.getElem_cons_succ]
  go_simp
  refine (C2.out _).mono ?_
  rintro e w' ⟨rfl, rfl⟩
  refine hK.out _ _ (HM.out _ ⟨1, #[], by rw [grow_empty]; rfl⟩) (fun hHeld3 => ?_)
  clear hK K
  try simp only [List.getElem_toArray, List.getElem_cons_zero, List.getElem_cons_succ, Act.put, List.setIfInBounds_toArray, List.set_cons_zero, List.set_cons_succ]
  refine wpAnyH_ready (rs := [16]) (by kernel_rfl) (by simp) ?_
  refine AllReadyH.cons (o := _) rfl (fun K hK => ?_) AllReadyH.nil
  rw [if_pos (by rfl)]
  try simp only [List.getElem_toArray, List.getElem_cons_zero, List.getElem_cons_succ]
  go_simp
  refine hK.out _ _ (HM.out _ ⟨1, #[_], by rw [← alloc_eq_grow]; rfl⟩) (fun hHeld4 => ?_)
  clear hK K
  try simp only [List.getElem_toArray, List.getElem_cons_zero, List.getElem_cons_succ, Act.put, List.setIfInBounds_toArray, List.set_cons_zero, List.set_cons_succ]
  refine wpAnyH_ready (rs := [17]) (by kernel_rfl) (by simp) ?_
  refine AllReadyH.cons (o := _) rfl (fun K hK => ?_) AllReadyH.nil
  rw [if_pos (by rfl)]
  try simp only [List.getElem_toArray, List.getElem_cons_zero, List.getElem_cons_succ]
  go_simp
  refine (C3.out _ _ (by simp) (by simp)).mono ?_
  rintro e w' ⟨rfl, rfl⟩
  refine hK.out _ _ (HM.out _ ⟨1, #[_], by rw [← alloc_eq_grow]; rfl⟩) (fun hHeld5 => ?_)
  clear hK K
  try simp only [List.getElem_toArray, List.getElem_cons_zero, List.getElem_cons_succ, Act.put, List.setIfInBounds_toArray, List.set_cons_zero, List.set_cons_succ]
  refine wpAnyH_take (i := 18) (oi := _) (v := ?v18) rfl (by kernel_rfl) (by kernel_rfl) (by kernel_rfl) (fun _ _ _ h => h) (Or.inl ⟨by rfl, ?y18⟩) (by assumption) ?r18
  case y18 => intro w1 hSw; obtain ⟨_, s1, s2, s3, s4⟩ := hSw; go_simp; try with_reducible rfl
  try simp only [List.getElem_toArray, List.getElem_cons_zero, List.getElem_cons_succ, Act.put, List.setIfInBounds_toArray, List.set_cons_zero, List.set_cons_succ]
  refine wpAnyH_done (by kernel_rfl) ?_ _
  go_wp2
  go_ret
  exact ⟨rfl, 1, #[_], by rw [← alloc_eq_grow]; rfl⟩

theorem keys_of {P : Program} {k : TypeId} (hk : P.underlying k = some (.int .i64)) {W : World} {b c : Nat} {D : DataW Value} (hown : W.ownsMap P k rawR b c D) :
    (intKeys D).Nodup ∧ (intKeys D).length = Maps.size D ∧ ∀ x, x ∈ intKeys D ↔ (Lit.int .i64 x).wf = true ∧ Maps.has D (.int .i64 x) = true := by
  obtain ⟨es, hD, hpw, _⟩ := hown.entries (int_keyed hk)
  obtain ⟨es', hD', hko⟩ := hown.keysOf
  obtain rfl : es = es' := by rw [hD] at hD'; simpa using hD'
  have hwf := intKeys_wf hown hk
  subst hD
  have hk' : ∀ p ∈ es, ∃ x, p.1 = .int .i64 x := fun p hp => by obtain ⟨v, hv⟩ := hko p hp; obtain ⟨x, _, hx, _⟩ := Maps.keyOf_i64 hk hv; exact ⟨x, hx⟩
  refine ⟨?_, by simp [intKeys, Maps.size], fun x => ⟨fun hx => ⟨hwf x hx, ?_⟩, fun ⟨_, hx⟩ => ?_⟩⟩
  · show (es.map fun p => Go.intOf p.1).Nodup
    refine List.pairwise_map.2 (hpw.imp_of_mem fun {p q} hp' hq' hne e => hne ?_)
    obtain ⟨a, ha⟩ := hk' p hp'
    obtain ⟨b, hb⟩ := hk' q hq'
    rw [ha, hb] at e ⊢
    exact congrArg _ e
  · obtain ⟨p, hp, rfl⟩ := List.mem_map.1 hx
    obtain ⟨a, ha⟩ := hk' p hp
    rw [has_eq, List.any_eq_true]
    exact ⟨p, hp, by rw [ha]; simp [Lit.sameKey, Go.intOf]⟩
  · rw [has_eq, List.any_eq_true] at hx
    obtain ⟨p, hp, hs⟩ := hx
    obtain ⟨a, ha⟩ := hk' p hp
    rw [ha] at hs
    exact List.mem_map.2 ⟨p, hp, by rw [ha]; simpa [Lit.sameKey, Go.intOf] using hs⟩
/-! the sort by tick, then number -/
def nrm (x : Int) : Int := if (Lit.int .i64 x).wf = true then x else 0
theorem nrm_ok (x : Int) : iKE.ok (nrm x) := by
  unfold nrm
  split
  · assumption
  · exact show (Lit.int .i64 0).wf = true by decide
theorem nrm_id {x : Int} (h : iKE.ok x) : nrm x = x := if_pos h
def encN (x : Int) : Value := .int .i64 (nrm x)
def ltA (F : Int → Option Int) (x y : Int) : Prop := atF F x < atF F y ∨ atF F x = atF F y ∧ x < y
def cfN (F : Int → Option Int) (x y : Int) : Int := cfF F (nrm x) (nrm y)
theorem cmpI (x y : Int) : (Lib.compareInt x y < 0 ↔ x < y) ∧ (Lib.compareInt x y ≠ 0 ↔ x ≠ y) := by
  unfold Lib.compareInt
  by_cases h1 : x < y
  · simp [h1]; omega
  · by_cases h2 : y < x
    · simp [h1, h2]; omega
    · simp [h1, h2]; omega
theorem cf_lt (F : Int → Option Int) (x y : Int) : cfF F x y < 0 ↔ ltA F x y := by
  unfold cfF ltA
  have h1 := cmpI (atF F x) (atF F y)
  have h2 := cmpI x y
  by_cases e : Lib.compareInt (atF F x) (atF F y) ≠ 0
  · rw [if_pos e, h1.1]
    have := h1.2.1 e
    omega
  · rw [if_neg e, h2.1]
    have : ¬ (atF F x ≠ atF F y) := fun q => e (h1.2.2 q)
    omega
theorem ltN_t (F : Int → Option Int) (x y : Int) : ltOf (cfN F) x y = true ↔ ltA F (nrm x) (nrm y) := by
  unfold ltOf cfN
  rw [decide_eq_true_iff]
  exact cf_lt F _ _
theorem ltN_f (F : Int → Option Int) (x y : Int) : ltOf (cfN F) x y = false ↔ ¬ ltA F (nrm x) (nrm y) := by
  rw [← ltN_t, Bool.not_eq_true]
theorem swoN (F : Int → Option Int) : SWO (ltOf (cfN F)) where
  irrefl x := by rw [ltN_f]; unfold ltA; omega
  trans x y z h1 h2 := by rw [ltN_t] at *; unfold ltA at *; omega
  ntrans x y z h1 h2 := by rw [ltN_f] at *; unfold ltA at *; omega
theorem sw_fr {w : World} {g n : Nat} {os : Array Obj} (d : Array Int) : Fr (fun k => k = g) w (sortWorld encN w g 0 n d os) := by
  refine ⟨rfl, rfl, rfl, by simp [sortWorld], fun k hk hne => ?_⟩
  unfold sortWorld
  rw [heap_grow_old _ _ (by simpa using hk)]
  have : g ≠ k := fun e => hne e.symm
  simp [putRow, mapBlock, Sort.ahead, Array.getElem?_modify, this]
theorem sw_heap {w : World} {g n : Nat} {os : Array Obj} {cur : Array Value} {e : TypeId} {fr : Nat × Nat} (d : Array Int) (hb : w.heap[g]? = some (.cells cur e fr)) :
    (sortWorld encN w g 0 n d os).heap[g]? = some (.cells (putCells encN 0 d cur) e fr) := by
  have hg : g < w.heap.size := (Array.getElem?_eq_some_iff.1 hb).1
  unfold sortWorld
  rw [heap_grow_old _ _ (by simpa using hg)]
  simp [putRow, mapBlock, Sort.ahead, Array.getElem?_modify, hb, onCells]
theorem take_put (cur : Array Value) (ts : List Int) (h : ts.length ≤ cur.size) : (putCells encN 0 ts.toArray cur).toList.take ts.length = ts.map encN := by
  apply List.ext_getElem?
  intro j
  by_cases hj : j < ts.length
  · rw [List.getElem?_take_of_lt hj, Array.getElem?_toList]
    simp [putCells, hj, show j < cur.size by omega]
  · rw [List.getElem?_take_eq_none (by omega), List.getElem?_eq_none (by simp; omega)]
set_option maxRecDepth 100000 in
set_option maxHeartbeats 1000000 in
theorem sf_any (h : CK W cb mb now N F) (hN : N ≤ 1000000) (kb bx : Nat) (hkb : W.cell? ⟨kb, 0, none⟩ = some (.map (some mb))) (hbx : W.cell? ⟨bx, 0, none⟩ = some (.pointer (some ⟨cb, 0, none⟩))) :
    Calls Try.prog 31 #[.func (.func 43) #[] #[.pointer (some ⟨kb, 0, none⟩)], .func (.func 33) #[] #[.pointer (some ⟨bx, 0, none⟩)]] W fun e W' => ∃ (v : Value) (ss : List Int), e = .returned v ∧ W'.ownsRow W.heap.size 3 1 v ss.length (ss.map (Value.int .i64)) ∧ ss.Pairwise (ltA F) ∧ (∀ x, x ∈ ss ↔ iKE.ok x ∧ F x ≠ none) ∧ ss.length ≤ N ∧ Below W.heap.size W W' := by
  obtain ⟨c, hc, hM⟩ := h.m
  have hbl := hM.lt
  obtain ⟨D, hown, hsize, hD⟩ := hM
  obtain ⟨k1, k2, k3⟩ := keys_of under3 hown
  have hmem : ∀ x, x ∈ intKeys D ↔ iKE.ok x ∧ F x ≠ none := fun x => by
    rw [k3 x]
    refine and_congr_right fun hx => ?_
    have h1 := (hD x hx).1
    have h1' : Maps.has D (.int .i64 x) = ((F x).map (Value.int .i64)).isSome := h1
    rw [h1']
    cases F x <;> simp
  have hmax : Maps.size D ≤ maxLen := by unfold maxLen; omega
  have hbytes : Maps.size D * 8 ≤ 140737488355328 := by omega
  have hseq : SeqGives Fence.wide 4 Try.prog 43 #[.pointer (some ⟨kb, 0, none⟩)] encZ (fun ss => ss.Perm (intKeys D)) (Maps.size D) W :=
    AnyZI.keys_gives (ρ := Try.keys32_ren) { Try.keys32 with } Fence.wide _ trivial rfl (by omega) kb mb c D _ (lt_of_cell hkb) hkb hown
  have hcol := callsIn_wide.1 (AnyZI.collect_in Try.collect40 Fence.wide 6 trivial trivial rfl (by omega) 43 #[.pointer (some ⟨kb, 0, none⟩)] trivial (enters_of Try.func43 (by kernel_rfl) rfl) _ _ hmax hbytes _ hseq)
  change Calls Try.prog 40 _ _ _ at hcol
  have HC := Lib.hid hcol
  have HM := Lib.hid (And.intro k1 hmem)
  have HL := Lib.hid (k2.trans hsize)
  have HB := Lib.hid hbx
  have HK := Lib.hid h
  have hlt := h.lt
  have hbxl : bx < W.heap.size := lt_of_cell hbx
  clear hcol hmem k1 k2 k3 hD hown hsize hmax hbytes hseq h hbx hkb
  go_enter Try.func31, Try.ntmps31
  go_wp2_with fail
  refine HC.out.mono ?_
  rintro e W1 ⟨v, ss, rfl, hS, hrow, hnil, hb⟩
  have hwf : ∀ x ∈ ss, iKE.ok x := fun x hx => ((HM.out.2 x).1 (hS.mem_iff.1 hx)).1
  have hnd : ss.Nodup := hS.nodup_iff.2 HM.out.1
  have hlen : ss.length ≤ N := by rw [hS.length_eq, HL.out]; exact hc
  rcases hrow.2 with ⟨rfl, hz⟩ | ⟨gb, cap, cur, rfl, hbase, hgb, r1, r2, r3, r4⟩
  · have hss : ss = [] := List.eq_nil_of_length_eq_zero hz
    subst hss
    have hs0 := fun w => AnyF.slices_SortFunc_none { Try.sortf42 with } none 0 (.func (.func 33) #[] #[.pointer (some ⟨bx, 0, none⟩)]) w
    change ∀ w, Calls Try.prog 42 _ _ _ at hs0
    have HS0 := Lib.hid hs0
    clear hs0
    go_wp2_with (go_at_call 42; refine (HS0.out _).mono ?_; rintro e w' ⟨rfl, rfl⟩)
    go_ret
    exact ⟨_, [], rfl, hrow, List.Pairwise.nil, fun x => by rw [← HM.out.2 x]; exact hS.mem_iff, by simp, hb⟩
  · have hfr1 : Fr (fun _ => False) W W1 := ⟨hb.os, hb.tape, hb.output, hb.size, fun k hk _ => hb.block k hk⟩
    have hK1 := HK.out.kept hfr1
    have hmapN : ss.map encN = ss.map (Value.int .i64) := List.map_congr_left (fun x hx => by unfold encN; rw [nrm_id (hwf x hx)])
    have hH : Holds encN W1 gb 0 ss.toArray := by
      have h0 := holds_of_block_i hgb (by simpa using r4)
      intro j hj
      have hj' : j < ss.length := by simpa using hj
      have := h0 j hj
      refine ⟨?_, this.2⟩
      rw [this.1]
      unfold encN
      rw [nrm_id]
      exact hwf _ (by rw [List.getElem!_toArray, List.getElem!_eq_getElem?_getD, List.getElem?_eq_getElem hj']; exact List.getElem_mem hj')
    have hgl : gb < W1.heap.size := (Array.getElem?_eq_some_iff.1 hgb).1
    have hcmp : CmpLays1 Try.prog 33 #[.pointer (some ⟨bx, 0, none⟩)] encN (cfN F) gb 0 ss.toArray.size W1 := fun m os dk hs x y => by
      have hf := sw_fr (w := W1) (g := gb) (n := m) (os := os) dk
      have hcb : ¬ (cb = gb) := by omega
      have hmb : ¬ (mb = gb) := by omega
      have hbb : ¬ (bx = gb) := by omega
      exact clo_any (hK1.fr hf hcb hmb) bx ((World.cell?_of_block (hf.block bx (by have := hb.size; omega) hbb)).trans ((World.cell?_of_block (hb.block bx hbxl)).trans HB.out)) (nrm x) (nrm y) (nrm_ok x) (nrm_ok y)
    have hsrt := Any.slices_SortFunc Try.sortf42 encN (fun _ => rfl) (cfN F) (swoN F) 33 #[.pointer (some ⟨bx, 0, none⟩)] gb 0 cap ss.toArray W1 (enters_of Try.func33 (by kernel_rfl) rfl) hcmp hH hgl (by simp; omega)
    change Calls Try.prog 42 _ _ _ at hsrt
    rw [List.size_toArray] at hsrt
    have HS := Lib.hid hsrt
    clear hsrt hcmp hH hK1
    go_wp2_with (go_at_call 42; refine HS.out.mono ?_; rintro e w' ⟨rfl, d', n, os, hp, hso, rfl⟩)
    go_ret
    obtain ⟨hsz, _, hperm⟩ := hp
    have hsz' : d'.toList.length = ss.length := by simpa using hsz
    have hperm' : d'.toList.Perm ss := by
      have e1 : d'.extract 0 ss.length = d' := by rw [← hsz', Array.length_toList, Array.extract_size]
      have e2 : ss.toArray.extract 0 ss.length = ss.toArray := by rw [← List.size_toArray, Array.extract_size]
      rw [e1, e2] at hperm
      simpa using hperm
    have hwf' : ∀ x ∈ d'.toList, iKE.ok x := fun x hx => hwf x (hperm'.mem_iff.1 hx)
    have hmapN' : d'.toList.map encN = d'.toList.map (Value.int .i64) := List.map_congr_left (fun x hx => by unfold encN; rw [nrm_id (hwf' x hx)])
    refine ⟨_, d'.toList, rfl, ?_, ?_, fun x => ?_, by omega, ?_⟩
    · rw [← hmapN', hsz']
      refine ⟨by simp [hsz'], .inr ⟨gb, cap, _, rfl, hbase, sw_heap d' hgb, r1, r2, by simp [putCells, r3], ?_⟩⟩
      rw [Nat.mul_one, ← hsz']
      have := take_put cur d'.toList (by omega)
      simpa using this
    · refine List.pairwise_iff_getElem.2 fun i j hi hj hij => ?_
      have hi' : i < ss.length := by omega
      have hj' : j < ss.length := by omega
      have hs := hso i j (Nat.zero_le _) hij hj'
      have hi2 : i < d'.size := by simpa using hi
      have hj2 : j < d'.size := by simpa using hj
      rw [getElem!_pos d' i hi2, getElem!_pos d' j hj2, ltN_f, nrm_id (hwf' _ (by simp)), nrm_id (hwf' _ (by simp))] at hs
      have hne : d'.toList[i] ≠ d'.toList[j] := List.pairwise_iff_getElem.1 (hperm'.nodup_iff.2 hnd) i j hi hj hij
      simp only [Array.getElem_toList] at hne ⊢
      unfold ltA at hs ⊢
      omega
    · rw [← HM.out.2 x]
      exact (hperm'.trans hS).mem_iff
    · exact hb.grown (row := some gb) ⟨(sw_fr d').os, (sw_fr d').tape, (sw_fr d').output, (sw_fr d').size, fun k hk hne => (sw_fr d').block k hk (fun e => hne (by rw [e]))⟩ hb.size (fun j hj => by cases hj; exact hbase)
end Go.Proofs.Ytjcnmlfkdfpjmaa
