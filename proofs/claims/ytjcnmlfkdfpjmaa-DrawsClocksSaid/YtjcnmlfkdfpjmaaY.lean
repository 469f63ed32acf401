/- The reference's clock: its alarms by tick and number. -/
import Derived.Test.YtjcnmlfkdfpjmaaR
import Derived.Deep.RegionHeld3
import Derived.Deep.MidRow
import Derived.Deep.Cut
import Derived.Maps.AppendAt
set_option linter.unusedVariables false
set_option linter.unusedSimpArgs false
namespace Go.Proofs.Ytjcnmlfkdfpjmaa
open Go.RowKit Go.Maps
def flat (L : List (Int × Int)) : List Value := L.flatMap (fun p => [.int .i64 p.1, .int .i64 p.2])
theorem flat_cons (p : Int × Int) (L : List (Int × Int)) : flat (p :: L) = .int .i64 p.1 :: .int .i64 p.2 :: flat L := rfl
theorem flat_append (L M : List (Int × Int)) : flat (L ++ M) = flat L ++ flat M := List.flatMap_append ..
theorem flat_len (L : List (Int × Int)) : (flat L).length = L.length * 2 := by
  induction L with
  | nil => rfl
  | cons p L ih => rw [flat_cons, List.length_cons, List.length_cons, ih, List.length_cons]; omega
theorem flat_drop (L : List (Int × Int)) : ∀ k, flat (L.drop k) = (flat L).drop (k * 2) := by
  induction L with
  | nil => intro k; simp [flat]
  | cons p L ih =>
    intro k
    cases k with
    | zero => rfl
    | succ k =>
      rw [List.drop_succ_cons, ih k, flat_cons, show (k + 1) * 2 = k * 2 + 1 + 1 by omega, List.drop_succ_cons, List.drop_succ_cons]
theorem flat_take (L : List (Int × Int)) : ∀ k, flat (L.take k) = (flat L).take (k * 2) := by
  induction L with
  | nil => intro k; simp [flat]
  | cons p L ih =>
    intro k
    cases k with
    | zero => simp [flat]
    | succ k =>
      rw [List.take_succ_cons, flat_cons, ih k, flat_cons, show (k + 1) * 2 = k * 2 + 1 + 1 by omega, List.take_succ_cons, List.take_succ_cons]
theorem flat_at {L : List (Int × Int)} {j : Nat} {p : Int × Int} (h : L[j]? = some p) : (flat L)[j * 2]? = some (.int .i64 p.1) ∧ (flat L)[j * 2 + 1]? = some (.int .i64 p.2) := by
  have h1 : L.drop j = p :: L.drop (j + 1) := by
    obtain ⟨hj, hp⟩ := List.getElem?_eq_some_iff.1 h
    rw [List.drop_eq_getElem_cons hj, hp]
  have h2 := flat_drop L j
  rw [h1, flat_cons] at h2
  have e0 : ((flat L).drop (j * 2))[0]? = some (.int .i64 p.1) := by rw [← h2]; rfl
  have e1 : ((flat L).drop (j * 2))[1]? = some (.int .i64 p.2) := by rw [← h2]; rfl
  rw [List.getElem?_drop] at e0 e1
  exact ⟨e0, e1⟩
theorem flat_one (L : List (Int × Int)) : ∀ u ∈ flat L, u.oneCell' = true := by
  intro u hu
  obtain ⟨p, _, hp⟩ := List.mem_flatMap.1 hu
  simp at hp
  rcases hp with rfl | rfl <;> rfl
/-- THE REFERENCE'S CLOCK: the struct in block rb, its row at or behind B0 -/
structure RC (W : World) (rb B0 : Nat) (T : Int) (L : List (Int × Int)) : Prop where
  s : ∃ sv, Blk W rb 54 #[.int .i64 T, sv] ∧ W.ownsRow B0 72 2 sv L.length (flat L)
  d : rb < B0 ∧ B0 ≤ W.heap.size
variable {W : World} {rb B0 : Nat} {T : Int} {L : List (Int × Int)}
theorem owns_fr {S : Nat → Prop} {W W' : World} {sv : Value} {n : Nat} {xs : List Value} (h : W.ownsRow B0 72 2 sv n xs) (hf : Fr S W W') (hS : ∀ k, S k → k < B0) : W'.ownsRow B0 72 2 sv n xs := by
  refine ⟨h.1, ?_⟩
  rcases h.2 with h2 | ⟨g, cap, cur, h1, h2, h3, h4⟩
  · exact .inl h2
  · exact .inr ⟨g, cap, cur, h1, h2, (hf.block g (Array.getElem?_eq_some_iff.1 h3).1 (fun e => by have := hS g e; omega)).trans h3, h4⟩
theorem RC.fr {S : Nat → Prop} {W' : World} (h : RC W rb B0 T L) (hf : Fr S W W') (h1 : ¬ S rb) (hS : ∀ k, S k → k < B0) : RC W' rb B0 T L := by
  obtain ⟨sv, h2, h3⟩ := h.s
  exact ⟨⟨sv, h2.fr hf h1, owns_fr h3 hf hS⟩, h.d.1, Nat.le_trans h.d.2 hf.size⟩
theorem RC.kept {W' : World} (h : RC W rb B0 T L) (hf : Fr (fun _ => False) W W') : RC W' rb B0 T L := h.fr hf id (fun _ e => e.elim)
/-- the slice's form, its cells -/
theorem RC.open (h : RC W rb B0 T L) : ∃ ao cp, Blk W rb 54 #[.int .i64 T, .slice ao L.length cp] ∧ L.length ≤ cp ∧ cp ≤ maxLen ∧ ((ao = none ∧ L = [] ∧ cp = 0) ∨ ∃ g, ao = some ⟨g, 0, none⟩ ∧ B0 ≤ g ∧ (∀ j u, (flat L)[j]? = some u → W.cell? ⟨g, j, none⟩ = some u)) := by
  obtain ⟨sv, h1, h2⟩ := h.s
  have hcs := h2
  rcases h2.2 with ⟨rfl, h0⟩ | ⟨g, cp, cur, rfl, hb, hgb, hnc, hcm, _, _⟩
  · exact ⟨none, 0, by rw [h0]; exact h1, by omega, by decide, .inl ⟨rfl, List.eq_nil_of_length_eq_zero h0, rfl⟩⟩
  · refine ⟨some ⟨g, 0, none⟩, cp, h1, hnc, hcm, .inr ⟨g, rfl, hb, fun j u hj => ?_⟩⟩
    have hjl := (List.getElem?_eq_some_iff.1 hj).1
    rw [flat_len] at hjl
    rw [hcs.cellAt j hjl, hj]
theorem infoA : (Try.prog.info? 72).map (fun i => (i.zero, i.size, i.bytes)) = some (some (.agg #[.int .i64 0, .int .i64 0]), 2, 16) := by kernel_rfl
set_option maxRecDepth 100000 in
theorem rtick_any (h : RC W rb B0 T L) (h0 : 0 ≤ T) (h1 : T ≤ 1000000000000000) (n : Int) :
    Calls Try.prog 24 #[.pointer (some ⟨rb, 0, none⟩), .int .i64 n] W fun e W' => e = .returned (.int .i64 (tickF T n)) ∧ RC W' rb B0 (tickF T n) L ∧ Fr (fun k => k = rb) W W' := by
  obtain ⟨sv, hs, ho⟩ := h.s
  have c0 := hs.cell 0
  have f0 := hs.frozen 0
  simp only [List.getElem?_toArray, List.getElem?_cons_zero, List.getElem?_cons_succ] at c0
  have H := Lib.hid h
  have HS := Lib.hid hs
  have HO := Lib.hid ho
  unfold tickF
  by_cases g1 : 1 ≤ n
  · have p1 : decide (1 ≤ n) = true := decide_eq_true g1
    by_cases g2 : n ≤ 1048576
    · have p2 : decide (n ≤ 1048576) = true := decide_eq_true g2
      rw [if_pos ⟨g1, g2⟩]
      have hw : IntKind.i64.wrap (T + n) = T + n := IntWalk.i64_in _ (by omega)
      clear h hs ho
      go_enter Try.func24, Try.ntmps24
      go_wp2
      go_ret
      have hf := Fr.setCell (S := fun k => k = rb) W ⟨rb, 0, none⟩ (.int .i64 (T + n)) rfl
      refine ⟨rfl, ⟨⟨sv, ?_, owns_fr HO.out hf (fun k e => by have := H.out.d.1; omega)⟩, H.out.d.1, Nat.le_trans H.out.d.2 hf.size⟩, hf⟩
      have := HS.out.set 0 (.int .i64 (T + n))
      simpa using this
    · have p2 : decide (n ≤ 1048576) = false := decide_eq_false g2
      rw [if_neg (fun e => g2 e.2)]
      clear h hs ho
      go_enter Try.func24, Try.ntmps24
      go_wp2
      go_ret
      exact ⟨rfl, H.out, Fr.refl _ _⟩
  · have p1 : decide (1 ≤ n) = false := decide_eq_false g1
    rw [if_neg (fun e => g1 e.1)]
    clear h hs ho
    go_enter Try.func24, Try.ntmps24
    go_wp2
    go_ret
    exact ⟨rfl, H.out, Fr.refl _ _⟩
set_option maxRecDepth 100000 in
theorem rnext_clock (h : RC W rb B0 T L) (hL : L.length ≤ 1000000) :
    Calls Try.prog 30 #[.pointer (some ⟨rb, 0, none⟩)] W fun e W' => e = .returned (.tuple #[.int .i64 ((L[0]?.map (·.2)).getD 0), .bool (L[0]?).isSome]) ∧ W = W' := by
  obtain ⟨ao, cp, hs, hcp, hcm, hc⟩ := h.open
  have c1 := hs.cell 1
  simp only [List.getElem?_toArray, List.getElem?_cons_zero, List.getElem?_cons_succ] at c1
  clear h hs
  cases L with
  | nil =>
    simp only [List.length_nil] at c1
    simp only [List.getElem?_nil, Option.map_none, Option.getD_none, Option.isSome_none]
    clear hc
    go_enter Try.func30, Try.ntmps30
    go_wp2
    go_ret2
    exact ⟨rfl, rfl⟩
  | cons p L =>
    rcases hc with ⟨_, h, _⟩ | ⟨g, rfl, hg, hcell⟩
    · cases h
    have d1 := hcell 1 _ rfl
    simp only [List.length_cons] at c1
    obtain ⟨n, hn⟩ : ∃ n, L.length + 1 = n := ⟨_, rfl⟩
    rw [hn] at c1
    have p0 : ((n : Int) == 0) = false := by rw [beq_eq_false_iff_ne]; omega
    have i0 : (0 : Int) < (n : Int) := by omega
    simp only [List.getElem?_cons_zero, Option.map_some, Option.getD_some, Option.isSome_some]
    clear hcell hn hcp hL
    go_enter Try.func30, Try.ntmps30
    go_wp2
    go_ret2
    exact ⟨rfl, rfl⟩
theorem upon_append {P : Program} {o : Oper} {a : Act} {w w' : World} {K : Act → World → Prop} {Q : Exit → Act → World → Prop} {s x : Operand} {t : TypeId} (ho : o.op = .call { callee := .builtin .append, args := #[s, x], argTypes := #[t, t] }) {v xv v' : Value} (hs : a.eval s = v) (hx : a.eval x = xv)
    (hr : (Builtin.append_ #[t, t] o.type #[v, xv]).run P w = .ok v' w') (hK : K (a.put o.dst v') w') : o.wp P a w K Q := by
  unfold Oper.wp execOp
  simp only [ho, resolve, invoke, builtin, Sem.run_bind, Sem.run_pure, Result.andThen_ok, List.map_toArray, List.map_cons, List.map_nil, hs, hx, hr]
  exact hK
theorem Fr.by_own {w w1 w2 : World} {v : Value} (h1 : Fr (fun _ => False) w w1) (hg : w1.grownBy w2 v.ownBlock) (hv : ∀ k, v.ownBlock = some k → w.heap.size ≤ k) : Fr (fun _ => False) w w2 :=
  ⟨hg.os.trans h1.os, hg.tape.trans h1.tape, hg.output.trans h1.output, Nat.le_trans h1.size hg.size, fun k hk hn => (hg.block k (Nat.lt_of_lt_of_le hk h1.size) (fun e => by have := hv k e.symm; omega)).trans (h1.block k hk hn)⟩
set_option maxRecDepth 100000 in
set_option maxHeartbeats 2000000 in
theorem rdrop_any (h : RC W rb B0 T L) (hL : L.length ≤ 1000) (x : Int) :
    Calls Try.prog 27 #[.pointer (some ⟨rb, 0, none⟩), .int .i64 x] W fun e W' => Fr (fun k => k = rb) W W' ∧ (((∀ p ∈ L, p.1 ≠ x) ∧ e = .returned (.bool false) ∧ RC W' rb B0 T L) ∨ ∃ i p, L[i]? = some p ∧ p.1 = x ∧ e = .returned (.bool true) ∧ RC W' rb B0 T (L.take i ++ L.drop (i + 1))) := by
  obtain ⟨ao, cp, hs, hcp, hcm, hc⟩ := h.open
  have c1 := hs.cell 1
  have f1 := hs.frozen 1
  simp only [List.getElem?_toArray, List.getElem?_cons_zero, List.getElem?_cons_succ] at c1
  have H := Lib.hid h
  have HS := Lib.hid hs
  obtain ⟨n, hn⟩ : ∃ n, L.length = n := ⟨_, rfl⟩
  rw [hn] at c1 hcp hL
  have HN := Lib.hid hn
  have HC := Lib.hid hc
  clear h hs hn hc
  go_enter Try.func27, Try.ntmps27
  go_wp2
  go_loopw [5] (fun kv wr => ∃ i : Nat, i ≤ n ∧ kv = .int .i64 i ∧ (∀ j p, j < i → L[j]? = some p → p.1 ≠ x) ∧ W = wr) (fun kv _ => n - (intOf kv).toNat)
  case atStart => exact ⟨0, by omega, rfl, fun j p h => by omega, rfl⟩
  case round =>
    obtain ⟨i, hi, rfl, hno, rfl⟩ := hrel
    by_cases hlt : i < n
    · have p0 : decide ((i : Int) < n) = true := decide_eq_true (by omega)
      have i0 : (i : Int) < (n : Int) := by omega
      obtain ⟨q, hq⟩ : ∃ q, L[i]? = some q := ⟨_, List.getElem?_eq_getElem (by rw [HN.out]; exact hlt)⟩
      rcases HC.out with ⟨_, h, _⟩ | ⟨g, rfl, hg, hcell⟩
      · have := HN.out; rw [h] at this; simp at this; omega
      have d0 := hcell (i * 2) _ (flat_at hq).1
      have HQ := Lib.hid hq
      have HCE := Lib.hid hcell
      have HNO := Lib.hid hno
      clear hcell hq hno
      by_cases hid : q.1 = x
      · have p1 : (q.1 == x) = true := by simp [hid]
        have HID := Lib.hid hid
        have b1 : i ≤ cp := by omega
        have b2 : i + 1 ≤ n := hlt
        have b3 : ((i : Int) + 1).toNat = i + 1 := by omega
        have b4 : (0 : Int) ≤ (i : Int) + 1 := by omega
        have b5 : (i : Int) + 1 ≤ (n : Int) := by omega
        have b6 : i + 1 ≤ cp := by omega
        have b7 : IntKind.i64.wrap ((i : Int) + 1) = (i : Int) + 1 := IntWalk.i64_in _ (by omega)
        clear hid
        obtain ⟨A, hA, hAc⟩ : ∃ A : Addr, (if cp = i + 1 then some (⟨g, 0, none⟩ : Addr) else some ⟨g, (i + 1) * 2, none⟩) = some A ∧ ∀ j u, (flat (L.drop (i + 1)))[j]? = some u → W.cell? (A.add j) = some u := by
          by_cases e : cp = i + 1
          · rw [if_pos e]
            refine ⟨_, rfl, fun j u hj => ?_⟩
            have : L.drop (i + 1) = [] := List.drop_eq_nil_of_le (by rw [HN.out]; omega)
            rw [this] at hj
            simp [flat] at hj
          · rw [if_neg e]
            refine ⟨_, rfl, fun j u hj => ?_⟩
            rw [flat_drop, List.getElem?_drop] at hj
            rw [off_add]
            exact HCE.out _ u hj
        have HAC := Lib.hid hAc
        clear hAc
        go_upto_region 5 with (fail)
        have hHeld : W.drew.cell? ⟨rb, 1, none⟩ = some (.slice (some ⟨g, 0, none⟩) n cp) := c1
        refine wp_region_t (S := fun (w' : World) => w'.cell? ⟨rb, 1, none⟩ = some (.slice (some ⟨g, 0, none⟩) n cp)) (t := 19) (by kernel_rfl) ?_
        refine wpT.take (i := 0) (oi := _) (v := ?v0) rfl (by kernel_rfl) (by kernel_rfl) (by kernel_rfl) (by kernel_rfl) (fun _ _ _ h => h) (Or.inl ⟨by rfl, ?y0⟩) (by assumption) ?r0
        case y0 => intro w1 hSw; go_simp; try with_reducible rfl
        try simp only [List.getElem_toArray, List.getElem_cons_zero, List.getElem_cons_succ, Act.put, List.setIfInBounds_toArray, List.set_cons_zero, List.set_cons_succ]
        refine wpT.take (i := 2) (oi := _) (v := ?v2) rfl (by kernel_rfl) (by kernel_rfl) (by kernel_rfl) (by kernel_rfl) (fun _ _ _ h => h) (Or.inl ⟨by rfl, ?y2⟩) (by assumption) ?r2
        case y2 => intro w1 hSw; go_simp; try with_reducible rfl
        try simp only [List.getElem_toArray, List.getElem_cons_zero, List.getElem_cons_succ, Act.put, List.setIfInBounds_toArray, List.set_cons_zero, List.set_cons_succ]
        refine wpT.take (i := 3) (oi := _) (v := ?v3) rfl (by kernel_rfl) (by kernel_rfl) (by kernel_rfl) (by kernel_rfl) (fun _ _ _ h => h) (Or.inl ⟨by rfl, ?y3⟩) (by assumption) ?r3
        case y3 => intro w1 hSw; go_simp; try with_reducible rfl
        try simp only [List.getElem_toArray, List.getElem_cons_zero, List.getElem_cons_succ, Act.put, List.setIfInBounds_toArray, List.set_cons_zero, List.set_cons_succ]
        refine wpT.take (i := 4) (oi := _) (v := ?v4) rfl (by kernel_rfl) (by kernel_rfl) (by kernel_rfl) (by kernel_rfl) (fun _ _ _ h => h) (Or.inl ⟨by rfl, ?y4⟩) (by assumption) ?r4
        case y4 => intro w1 hSw; go_simp; try with_reducible rfl
        try simp only [List.getElem_toArray, List.getElem_cons_zero, List.getElem_cons_succ, Act.put, List.setIfInBounds_toArray, List.set_cons_zero, List.set_cons_succ]
        refine wpT.take (i := 5) (oi := _) (v := ?v5) rfl (by kernel_rfl) (by kernel_rfl) (by kernel_rfl) (by kernel_rfl) (fun _ _ _ h => h) (Or.inl ⟨by rfl, ?y5⟩) (by assumption) ?r5
        case y5 => intro w1 hSw; go_simp; try with_reducible rfl
        try simp only [List.getElem_toArray, List.getElem_cons_zero, List.getElem_cons_succ, Act.put, List.setIfInBounds_toArray, List.set_cons_zero, List.set_cons_succ]
        refine wpT.take (i := 6) (oi := _) (v := ?v6) rfl (by kernel_rfl) (by kernel_rfl) (by kernel_rfl) (by kernel_rfl) (fun _ _ _ h => h) (Or.inl ⟨by rfl, ?y6⟩) (by assumption) ?r6
        case y6 => intro w1 hSw; go_simp; try with_reducible rfl
        try simp only [List.getElem_toArray, List.getElem_cons_zero, List.getElem_cons_succ, Act.put, List.setIfInBounds_toArray, List.set_cons_zero, List.set_cons_succ]
        refine wpT.take (i := 7) (oi := _) (v := ?v7) rfl (by kernel_rfl) (by kernel_rfl) (by kernel_rfl) (by kernel_rfl) (fun _ _ _ h => h) (Or.inl ⟨by rfl, ?y7⟩) (by assumption) ?r7
        case y7 => intro w1 hSw; go_simp; try with_reducible rfl
        try simp only [List.getElem_toArray, List.getElem_cons_zero, List.getElem_cons_succ, Act.put, List.setIfInBounds_toArray, List.set_cons_zero, List.set_cons_succ]
        refine wpT.take (i := 9) (oi := _) (v := ?v9) rfl (by kernel_rfl) (by kernel_rfl) (by kernel_rfl) (by kernel_rfl) (fun _ _ _ h => h) (Or.inl ⟨by rfl, ?y9⟩) (by assumption) ?r9
        case y9 => intro w1 hSw; go_simp; try with_reducible rfl
        try simp only [List.getElem_toArray, List.getElem_cons_zero, List.getElem_cons_succ, Act.put, List.setIfInBounds_toArray, List.set_cons_zero, List.set_cons_succ]
        refine wpT.take (i := 10) (oi := _) (v := ?v10) rfl (by kernel_rfl) (by kernel_rfl) (by kernel_rfl) (by kernel_rfl) (fun _ _ _ h => h) (Or.inl ⟨by rfl, ?y10⟩) (by assumption) ?r10
        case y10 => intro w1 hSw; go_simp; try with_reducible rfl
        try simp only [List.getElem_toArray, List.getElem_cons_zero, List.getElem_cons_succ, Act.put, List.setIfInBounds_toArray, List.set_cons_zero, List.set_cons_succ]
        refine wpT.take (i := 11) (oi := _) (v := ?v11) rfl (by kernel_rfl) (by kernel_rfl) (by kernel_rfl) (by kernel_rfl) (fun _ _ _ h => h) (Or.inl ⟨by rfl, ?y11⟩) (by assumption) ?r11
        case y11 => intro w1 hSw; go_simp; try with_reducible rfl
        try simp only [List.getElem_toArray, List.getElem_cons_zero, List.getElem_cons_succ, Act.put, List.setIfInBounds_toArray, List.set_cons_zero, List.set_cons_succ]
        refine wpT.take (i := 12) (oi := _) (v := ?v12) rfl (by kernel_rfl) (by kernel_rfl) (by kernel_rfl) (by kernel_rfl) (fun _ _ _ h => h) (Or.inl ⟨by rfl, ?y12⟩) (by assumption) ?r12
        case y12 => intro w1 hSw; go_simp; try with_reducible rfl
        try simp only [List.getElem_toArray, List.getElem_cons_zero, List.getElem_cons_succ, Act.put, List.setIfInBounds_toArray, List.set_cons_zero, List.set_cons_succ]
        refine wpT.take (i := 13) (oi := _) (v := ?v13) rfl (by kernel_rfl) (by kernel_rfl) (by kernel_rfl) (by kernel_rfl) (fun _ _ _ h => h) (Or.inl ⟨by rfl, ?y13⟩) (by assumption) ?r13
        case y13 => intro w1 hSw; go_simp; try with_reducible rfl
        try simp only [List.getElem_toArray, List.getElem_cons_zero, List.getElem_cons_succ, Act.put, List.setIfInBounds_toArray, List.set_cons_zero, List.set_cons_succ]
        refine wpT.take (i := 14) (oi := _) (v := ?v14) rfl (by kernel_rfl) (by kernel_rfl) (by kernel_rfl) (by kernel_rfl) (fun _ _ _ h => h) (Or.inl ⟨by rfl, ?y14⟩) (by assumption) ?r14
        case y14 => intro w1 hSw; go_simp; try with_reducible rfl
        try simp only [List.getElem_toArray, List.getElem_cons_zero, List.getElem_cons_succ, Act.put, List.setIfInBounds_toArray, List.set_cons_zero, List.set_cons_succ]
        refine wpT.take (i := 15) (oi := _) (v := ?v15) rfl (by kernel_rfl) (by kernel_rfl) (by kernel_rfl) (by kernel_rfl) (fun _ _ _ h => h) (Or.inl ⟨by rfl, ?y15⟩) (by assumption) ?r15
        case y15 => intro w1 hSw; go_simp; try with_reducible rfl
        try simp only [List.getElem_toArray, List.getElem_cons_zero, List.getElem_cons_succ, Act.put, List.setIfInBounds_toArray, List.set_cons_zero, List.set_cons_succ]
        refine wpT.one (i := 1) (o := _) (by kernel_rfl) rfl (fun K hK => ?_)
        rw [if_pos (by rfl)]
        try simp only [List.getElem_toArray, List.getElem_cons_zero, List.getElem_cons_succ]
        go_simp
        have hHeld2 := (show ((W.alloc (.cells #[] 72)).drew).cell? ⟨rb, 1, none⟩ = some (.slice (some ⟨g, 0, none⟩) n cp) from ((Fr.alloc (fun _ => False) W (.cells #[] 72)).block rb HS.out.lt id |> World.cell?_of_block).trans c1)
        refine hK.out _ _ (fun _ => hHeld2) ?_
        clear hK K
        try simp only [List.getElem_toArray, List.getElem_cons_zero, List.getElem_cons_succ, Act.put, List.setIfInBounds_toArray, List.set_cons_zero, List.set_cons_succ]
        have hfa : Fr (fun _ => False) W ((W.alloc (.cells #[] 72)).drew) := (Fr.alloc _ W _).trans (Fr.drewN _ _ 1)
        obtain ⟨i0, hi0, hz0, hz1, hz2⟩ := info_parts infoA
        have hcW : ∀ j u, (flat L)[j]? = some u → g < W.heap.size ∧ W.cell? ⟨g, j, none⟩ = some u := fun j u hj => ⟨lt_of_cell (HCE.out j u hj), HCE.out j u hj⟩
        have hown0 : ((W.alloc (.cells #[] 72)).drew).ownsRow W.heap.size 72 2 (.slice (some ⟨W.heap.size, 0, none⟩) 0 0) 0 [] := ⟨rfl, .inr ⟨_, 0, #[], rfl, Nat.le_refl _, World.alloc_heap_new W _, Nat.le_refl _, by decide, rfl, rfl⟩⟩
        obtain ⟨v1, w1, hrun1, hown1, hg1, _, hob1⟩ := run_append_own_at (P := Try.prog) ((W.alloc (.cells #[] 72)).drew) W.heap.size 52 52 72 i0 _ 2 16 Try.underlying52 hi0 hz0 hz1 hz2 rfl (by omega) _ 0 [] hown0 ⟨g, 0, none⟩ i cp (flat (L.take i)) (by rw [flat_len, List.length_take, HN.out]; omega)
          (fun j u hj => by
            rw [flat_take] at hj
            have hjl : j < i * 2 := by have := (List.getElem?_eq_some_iff.1 hj).1; rw [List.length_take] at this; omega
            rw [List.getElem?_take_of_lt hjl] at hj
            have := hcW j u hj
            rw [off_add, Nat.zero_add]
            exact (World.cell?_of_block (hfa.block g this.1 id)).trans this.2)
          (fun u hu => flat_one _ u hu) (by unfold maxLen; omega) (by omega) (by simp)
        have hob0 := hown1.lt
        have hf1 : Fr (fun _ => False) W w1 := hfa.by_own hg1 (fun k e => by simp [Value.ownBlock] at e; omega)
        rw [Nat.zero_add, List.nil_append] at hown1
        obtain ⟨v2, w2, hrun2, hown2, hg2, _, hob2⟩ := run_append_own_at (P := Try.prog) w1 W.heap.size 52 52 72 i0 _ 2 16 Try.underlying52 hi0 hz0 hz1 hz2 rfl (by omega) v1 i _ hown1 A (n - (i + 1)) (cp - (i + 1)) (flat (L.drop (i + 1))) (by rw [flat_len, List.length_drop, HN.out])
          (fun j u hj => by
            have := HAC.out j u hj
            exact (World.cell?_of_block (hf1.block _ (lt_of_cell this) id)).trans this)
          (fun u hu => flat_one _ u hu) (by unfold maxLen; omega) (by omega) hf1.size
        obtain ⟨ao2, m2, cp2, rfl⟩ : ∃ ao2 m2 cp2, v2 = .slice ao2 m2 cp2 := by
          rcases hown2.2 with ⟨rfl, _⟩ | ⟨g', cap', cur', rfl, _⟩
          · exact ⟨_, _, _, rfl⟩
          · exact ⟨_, _, _, rfl⟩
        have hf2 : Fr (fun _ => False) W w2 := hf1.by_own hg2 (fun k e => (hob0 k e).1)
        have e1 := (World.cell?_of_block (hf1.block rb HS.out.lt id)).trans c1
        have e2 := (World.cell?_of_block (hf2.block rb HS.out.lt id)).trans c1
        have hs2 : Blk w2 rb 54 #[.int .i64 T, .slice (some ⟨g, 0, none⟩) L.length cp] := HS.out.fr hf2 id
        have e3 := hs2.frozen 1
        rw [← flat_append] at hown2
        have hlen2 : i + (n - (i + 1)) = (L.take i ++ L.drop (i + 1)).length := by rw [List.length_append, List.length_take, List.length_drop, HN.out]; omega
        rw [hlen2] at hown2
        have hsz2 := hf2.size
        have hB0 := H.out.d
        have hs3 := hs2.set 1 (.slice ao2 m2 cp2)
        have hf3 := Fr.setCell (S := fun k => k = rb) w2 ⟨rb, 1, none⟩ (.slice ao2 m2 cp2) rfl
        have hRC : RC (w2.setCell ⟨rb, 1, none⟩ (.slice ao2 m2 cp2)) rb B0 T (L.take i ++ L.drop (i + 1)) := by
          refine ⟨⟨.slice ao2 m2 cp2, by simpa using hs3, ?_⟩, hB0.1, Nat.le_trans (Nat.le_trans hB0.2 hsz2) hf3.size⟩
          refine owns_fr ?_ hf3 (fun k e => by omega)
          refine ⟨hown2.1, ?_⟩
          rcases hown2.2 with h | ⟨g', cap', cur', h1, h2, h3⟩
          · exact .inl h
          · exact .inr ⟨g', cap', cur', h1, by omega, h3⟩
        have HRC := Lib.hid hRC
        have HF3 := Lib.hid ((hf2.mono (S' := fun k => k = rb) fun _ e => e.elim).trans hf3)
        have e4 : (w2.setCell ⟨rb, 1, none⟩ (.slice ao2 m2 cp2)).cell? ⟨rb, 1, none⟩ = some (.slice ao2 m2 cp2) := setCell_self _ e2
        clear hRC hs3 hf3 hown2 hown1 hown0 hcW hfa hg1 hg2 hob1 hob2 hob0 hs2
        refine wpT.one (i := 8) (o := _) (by kernel_rfl) rfl (fun K hK => ?_)
        rw [if_pos (by rfl)]
        try simp only [List.getElem_toArray, List.getElem_cons_zero, List.getElem_cons_succ]
        refine upon_append rfl rfl rfl hrun1 ?_
        refine hK.out _ _ (fun _ => e1) ?_
        clear hK K
        try simp only [List.getElem_toArray, List.getElem_cons_zero, List.getElem_cons_succ, Act.put, List.setIfInBounds_toArray, List.set_cons_zero, List.set_cons_succ]
        refine wpT.one (i := 16) (o := _) (by kernel_rfl) rfl (fun K hK => ?_)
        rw [if_pos (by rfl)]
        try simp only [List.getElem_toArray, List.getElem_cons_zero, List.getElem_cons_succ]
        refine upon_append rfl rfl rfl hrun2 ?_
        refine hK.out _ _ (fun _ => e2) ?_
        clear hK K
        try simp only [List.getElem_toArray, List.getElem_cons_zero, List.getElem_cons_succ, Act.put, List.setIfInBounds_toArray, List.set_cons_zero, List.set_cons_succ]
        refine wpT.one (i := 17) (o := _) (by kernel_rfl) rfl (fun K hK => ?_)
        rw [if_pos (by rfl)]
        try simp only [List.getElem_toArray, List.getElem_cons_zero, List.getElem_cons_succ]
        go_simp
        refine hK.out _ _ (fun _ => e2) ?_
        clear hK K
        try simp only [List.getElem_toArray, List.getElem_cons_zero, List.getElem_cons_succ, Act.put, List.setIfInBounds_toArray, List.set_cons_zero, List.set_cons_succ]
        refine wpT.one (i := 18) (o := _) (by kernel_rfl) rfl (fun K hK => ?_)
        rw [if_pos (by rfl)]
        try simp only [List.getElem_toArray, List.getElem_cons_zero, List.getElem_cons_succ]
        go_simp
        refine hK.out _ _ (fun _ => e2) ?_
        clear hK K
        try simp only [List.getElem_toArray, List.getElem_cons_zero, List.getElem_cons_succ, Act.put, List.setIfInBounds_toArray, List.set_cons_zero, List.set_cons_succ]
        refine wpT.one (i := 19) (o := _) (by kernel_rfl) rfl (fun K hK => ?_)
        rw [if_pos (by rfl)]
        try simp only [List.getElem_toArray, List.getElem_cons_zero, List.getElem_cons_succ]
        go_simp
        refine hK.out _ _ (fun h => absurd rfl h) ?_
        clear hK K
        try simp only [List.getElem_toArray, List.getElem_cons_zero, List.getElem_cons_succ, Act.put, List.setIfInBounds_toArray, List.set_cons_zero, List.set_cons_succ]
        refine wpT.done (by kernel_rfl) ?_ _
        clear hHeld hHeld2 e1 e2 e3 e4 hrun1 hrun2 HAC HC HCE
        go_wp2
        go_ret
        exact ⟨HF3.out, .inr ⟨i, q, HQ.out, HID.out, rfl, HRC.out⟩⟩
      · have p1 : (q.1 == x) = false := by simp [hid]
        have HNO2 : Hid (∀ j p, j < i + 1 → L[j]? = some p → p.1 ≠ x) := Lib.hid (fun j p hj hp => by
          by_cases e : j = i
          · subst e; rw [HQ.out] at hp; cases hp; exact hid
          · exact HNO.out j p (by omega) hp)
        clear hid
        go_wp2
        go_roundw
        case rel => exact ⟨i + 1, by omega, by go_num, HNO2.out, trivial⟩
        case measure => simp [intOf]; omega
    · obtain rfl : i = n := by omega
      have p0 : decide ((i : Int) < i) = false := decide_eq_false (by omega)
      go_wp2
      go_ret
      exact ⟨Fr.refl _ _, .inl ⟨fun p hp => by
        obtain ⟨j, hj⟩ := List.getElem?_of_mem hp
        exact hno j p (by have := (List.getElem?_eq_some_iff.1 hj).1; have := HN.out; omega) hj, rfl, H.out⟩⟩
end Go.Proofs.Ytjcnmlfkdfpjmaa
