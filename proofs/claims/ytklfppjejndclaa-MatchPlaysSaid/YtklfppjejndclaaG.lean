/- The reference's Len, Peek, Pop, Push. -/
import Derived.Test.YtklfppjejndclaaF
set_option linter.unusedVariables false
set_option linter.unusedSimpArgs false
namespace Go.Proofs.Ytklfppjejndclaa.P2
open Go.RowKit Go.Maps Go.Sort
variable {W : World} {rb B0 : Nat} {T : Int} {L : List (Int × Int)}
/-- the tasks of one list -/
def At (L : List (Int × Int)) (x : Int) : List Int := (L.filter (fun p => p.1 == x)).map (·.2)
theorem At_append (L M : List (Int × Int)) (x : Int) : At (L ++ M) x = At L x ++ At M x := by unfold At; rw [List.filter_append, List.map_append]
theorem At_one (p : Int × Int) (x : Int) : At [p] x = if p.1 = x then [p.2] else [] := by
  unfold At
  by_cases h : p.1 = x
  · simp [h]
  · simp [h]
theorem At_succ {i : Nat} {q : Int × Int} (h : L[i]? = some q) (x : Int) : At (L.take (i + 1)) x = At (L.take i) x ++ (if q.1 = x then [q.2] else []) := by
  rw [List.take_add_one, h, At_append, ← At_one]; rfl
theorem At_none {x : Int} (h : ∀ p ∈ L, p.1 ≠ x) : At L x = [] := by
  unfold At
  rw [List.filter_eq_nil_iff.2 (fun p hp => by simp [h p hp])]
  rfl
theorem At_len (L : List (Int × Int)) (x : Int) : (At L x).length ≤ L.length := by unfold At; rw [List.length_map]; exact List.length_filter_le _ _
theorem split_at {i : Nat} {p : Int × Int} (h : L[i]? = some p) : L = L.take i ++ p :: L.drop (i + 1) := by
  obtain ⟨hi, hp⟩ := List.getElem?_eq_some_iff.1 h
  conv => lhs; rw [← List.take_append_drop i L, List.drop_eq_getElem_cons hi, hp]
/-- the row's block -/
def rowB (W : World) (rb : Nat) : Option Nat := match W.cell? ⟨rb, 1, none⟩ with | some v => v.ownBlock | none => none
/-- the blocks that the reference may turn -/
def SB (W : World) (rb : Nat) (k : Nat) : Prop := k = rb ∨ rowB W rb = some k
theorem rowB_of {sv : Value} (h : Blk W rb 64 #[.int .i64 T, sv]) : rowB W rb = sv.ownBlock := by
  unfold rowB
  have := h.cell 1
  simp only [List.getElem?_toArray, List.getElem?_cons_zero, List.getElem?_cons_succ] at this
  rw [this]
/-- a turn of the reference -/
structure Turn (W W' : World) (rb : Nat) : Prop where
  fr : Fr (SB W rb) W W'
  row : ∀ k, rowB W' rb = some k → rowB W rb = some k ∨ W.heap.size ≤ k
theorem Turn.refl (W : World) (rb : Nat) : Turn W W rb := ⟨Fr.refl _ _, fun _ h => .inl h⟩
theorem rowB_fr {S : Nat → Prop} {W W' : World} {sv : Value} (h : Blk W rb 64 #[.int .i64 T, sv]) (hf : Fr S W W') (hn : ¬ S rb) : rowB W' rb = rowB W rb := by rw [rowB_of h, rowB_of (h.fr hf hn)]
theorem Turn.drewN (W : World) (rb n : Nat) : Turn W (W.drewN n) rb := ⟨Fr.drewN _ _ _, fun _ h => .inl h⟩
set_option maxRecDepth 100000 in
theorem rlen_any (h : RC W rb B0 T L) (hL : L.length ≤ 1000) (x : Int) :
    Calls Try.prog 19 #[.pointer (some ⟨rb, 0, none⟩), .int .i64 x] W fun e W' => e = .returned (.int .i64 ((At L x).length : Int)) ∧ W = W' := by
  obtain ⟨ao, cp, hs, hcp, hcm, hc⟩ := h.open
  have c1 := hs.cell 1
  simp only [List.getElem?_toArray, List.getElem?_cons_zero, List.getElem?_cons_succ] at c1
  obtain ⟨n, hn⟩ : ∃ n, L.length = n := ⟨_, rfl⟩
  rw [hn] at c1 hcp hL
  have HN := Lib.hid hn
  have HC := Lib.hid hc
  clear h hs hn hc
  go_enter Try.func19, Try.ntmps19
  go_wp2
  go_loopw [5, 6] (fun cv kv wr => ∃ i : Nat, i ≤ n ∧ kv = .int .i64 i ∧ cv = .int .i64 ((At (L.take i) x).length : Int) ∧ W = wr) (fun _ kv _ => n - (intOf kv).toNat)
  case atStart => exact ⟨0, by omega, rfl, rfl, rfl⟩
  case round =>
    obtain ⟨i, hi, rfl, rfl, rfl⟩ := hrel
    by_cases hlt : i < n
    · have p0 : decide ((i : Int) < n) = true := decide_eq_true (by omega)
      have i0 : (i : Int) < (n : Int) := by omega
      obtain ⟨q, hq⟩ : ∃ q, L[i]? = some q := ⟨_, List.getElem?_eq_getElem (by rw [HN.out]; exact hlt)⟩
      rcases HC.out with ⟨_, h, _⟩ | ⟨g, rfl, hg, hcell⟩
      · have := HN.out; rw [h] at this; simp at this; omega
      have d0 := hcell (i * 2) _ (flat_at hq).1
      have hsu := At_succ hq x
      have hle : (At (L.take i) x).length ≤ i := Nat.le_trans (At_len _ _) (by rw [List.length_take]; omega)
      obtain ⟨m, hm⟩ : ∃ m, (At (L.take i) x).length = m := ⟨_, rfl⟩
      rw [hm] at hle ⊢
      have hsl : (At (L.take (i + 1)) x).length = m + (if q.1 = x then 1 else 0) := by
        rw [hsu, List.length_append, hm]; split <;> rfl
      have HSL := Lib.hid hsl
      clear hcell hq hsu hm hsl
      by_cases hid : q.1 = x
      · have p1 : (q.1 == x) = true := by simp [hid]
        have HID := Lib.hid hid
        clear hid
        go_wp2
        go_roundw
        case rel => exact ⟨i + 1, by omega, by go_num, (by rw [HSL.out, if_pos HID.out]; go_num), trivial⟩
        case measure => simp [intOf]; omega
      · have p1 : (q.1 == x) = false := by simp [hid]
        have HID := Lib.hid hid
        clear hid
        go_wp2
        go_roundw
        case rel => exact ⟨i + 1, by omega, by go_num, (by rw [HSL.out, if_neg HID.out]; rfl), trivial⟩
        case measure => simp [intOf]; omega
    · obtain rfl : i = n := by omega
      have p0 : decide ((i : Int) < i) = false := decide_eq_false (by omega)
      have ht : L.take i = L := List.take_of_length_le (by rw [HN.out]; exact Nat.le_refl _)
      rw [ht]
      clear ht
      go_wp2
      go_ret
      exact ⟨rfl, rfl⟩
/-- the first one -/
theorem At_first {i : Nat} {q : Int × Int} {x : Int} (h : L[i]? = some q) (he : q.1 = x) (hno : ∀ (j : Nat) (p : Int × Int), j < i → L[j]? = some p → p.1 ≠ x) : At L x = q.2 :: At (L.drop (i + 1)) x := by
  conv => lhs; rw [split_at h, At_append]
  rw [At_none (fun p hp => by
    obtain ⟨j, hj⟩ := List.getElem?_of_mem hp
    have hji : j < i := by have := (List.getElem?_eq_some_iff.1 hj).1; rw [List.length_take] at this; omega
    rw [List.getElem?_take_of_lt hji] at hj
    exact hno j p hji hj), List.nil_append]
  unfold At
  rw [List.filter_cons_of_pos (by simp [he])]
  rfl
set_option maxRecDepth 100000 in
theorem rpeek_any (h : RC W rb B0 T L) (hL : L.length ≤ 1000) (x : Int) :
    Calls Try.prog 35 #[.pointer (some ⟨rb, 0, none⟩), .int .i64 x] W fun e W' => e = .returned (.tuple #[.int .i64 (((At L x)[0]?).getD 0), .bool ((At L x)[0]?).isSome]) ∧ W = W' := by
  obtain ⟨ao, cp, hs, hcp, hcm, hc⟩ := h.open
  have c1 := hs.cell 1
  simp only [List.getElem?_toArray, List.getElem?_cons_zero, List.getElem?_cons_succ] at c1
  obtain ⟨n, hn⟩ : ∃ n, L.length = n := ⟨_, rfl⟩
  rw [hn] at c1 hcp hL
  have HN := Lib.hid hn
  have HC := Lib.hid hc
  clear h hs hn hc
  go_enter Try.func35, Try.ntmps35
  go_wp2
  go_loopw [6] (fun kv wr => ∃ i : Nat, i ≤ n ∧ kv = .int .i64 i ∧ (∀ j p, j < i → L[j]? = some p → p.1 ≠ x) ∧ W = wr) (fun kv _ => n - (intOf kv).toNat)
  case atStart => exact ⟨0, by omega, rfl, fun j p h => by omega, rfl⟩
  case round =>
    obtain ⟨i, hi, rfl, hno, rfl⟩ := hrel
    by_cases hlt : i < n
    · have p0 : decide ((i : Int) < n) = true := decide_eq_true (by omega)
      have i0 : (i : Int) < (n : Int) := by omega
      obtain ⟨q, hq⟩ : ∃ q, L[i]? = some q := ⟨_, List.getElem?_eq_getElem (by rw [HN.out]; exact hlt)⟩
      rcases HC.out with ⟨_, h, _⟩ | ⟨g, rfl, hg, hcell⟩
      · have := HN.out; rw [h] at this; simp at this; omega
      have d0 := hcell (i * 2) _ (flat_at hq).1
      have d1 := hcell (i * 2 + 1) _ (flat_at hq).2
      have HQ := Lib.hid hq
      have HNO := Lib.hid hno
      clear hcell hq hno
      by_cases hid : q.1 = x
      · have p1 : (q.1 == x) = true := by simp [hid]
        have HA := Lib.hid (At_first HQ.out hid HNO.out)
        clear hid
        go_wp2
        go_ret2
        refine ⟨?_, rfl⟩
        rw [HA.out]; rfl
      · have p1 : (q.1 == x) = false := by simp [hid]
        have HNO2 : Hid (∀ j p, j < i + 1 → L[j]? = some p → p.1 ≠ x) := Lib.hid (fun j p hj hp => by
          by_cases e : j = i
          · subst e; rw [HQ.out] at hp; cases hp; exact hid
          · exact HNO.out j p (by omega) hp)
        clear hid
        go_wp2
        go_roundw
        case rel => exact ⟨i + 1, by omega, by go_num, HNO2.out, trivial⟩
        case measure => simp [intOf]; omega
    · obtain rfl : i = n := by omega
      have p0 : decide ((i : Int) < i) = false := decide_eq_false (by omega)
      have hz : At L x = [] := At_none (fun p hp => by
        obtain ⟨j, hj⟩ := List.getElem?_of_mem hp
        exact hno j p (by have := (List.getElem?_eq_some_iff.1 hj).1; have := HN.out; omega) hj)
      have HZ := Lib.hid hz
      clear hno hz
      go_wp2
      go_ret2
      refine ⟨?_, rfl⟩
      rw [HZ.out]; rfl
set_option maxRecDepth 100000 in
set_option maxHeartbeats 2000000 in
theorem rpop_any (h : RC W rb B0 T L) (hL : L.length ≤ 1000) (x : Int) :
    Calls Try.prog 16 #[.pointer (some ⟨rb, 0, none⟩), .int .i64 x] W fun e W' => Turn W W' rb ∧ (((∀ p ∈ L, p.1 ≠ x) ∧ e = .returned (.tuple #[.int .i64 0, .bool false]) ∧ RC W' rb B0 T L) ∨ ∃ (i : Nat) (y v : Int), L[i]? = some (y, v) ∧ y = x ∧ (∀ (j : Nat) (a b : Int), j < i → L[j]? = some (a, b) → a ≠ x) ∧ e = .returned (.tuple #[.int .i64 v, .bool true]) ∧ RC W' rb B0 T (L.take i ++ L.drop (i + 1))) := by
  obtain ⟨ao, cp, hs, hcp, hcm, hc⟩ := h.open
  have c1 := hs.cell 1
  have f1 := hs.frozen 1
  simp only [List.getElem?_toArray, List.getElem?_cons_zero, List.getElem?_cons_succ] at c1
  have H := Lib.hid h
  have HS := Lib.hid hs
  obtain ⟨n, hn⟩ : ∃ n, L.length = n := ⟨_, rfl⟩
  rw [hn] at c1 hcp hL
  have HN := Lib.hid hn
  have HC := Lib.hid hc
  clear h hs hn hc
  go_enter Try.func16, Try.ntmps16
  go_wp2
  go_loopw [6] (fun kv wr => ∃ i : Nat, i ≤ n ∧ kv = .int .i64 i ∧ (∀ j p, j < i → L[j]? = some p → p.1 ≠ x) ∧ W = wr) (fun kv _ => n - (intOf kv).toNat)
  case atStart => exact ⟨0, by omega, rfl, fun j p h => by omega, rfl⟩
  case round =>
    obtain ⟨i, hi, rfl, hno, rfl⟩ := hrel
    by_cases hlt : i < n
    · have p0 : decide ((i : Int) < n) = true := decide_eq_true (by omega)
      have i0 : (i : Int) < (n : Int) := by omega
      obtain ⟨q, hq⟩ : ∃ q, L[i]? = some q := ⟨_, List.getElem?_eq_getElem (by rw [HN.out]; exact hlt)⟩
      rcases HC.out with ⟨_, h, _⟩ | ⟨g, rfl, hg, hcell⟩
      · have := HN.out; rw [h] at this; simp at this; omega
      have d0 := hcell (i * 2) _ (flat_at hq).1
      have d1 := hcell (i * 2 + 1) _ (flat_at hq).2
      have HQ := Lib.hid hq
      have HCE := Lib.hid hcell
      have HNO := Lib.hid hno
      clear hcell hq hno
      by_cases hid : q.1 = x
      · have p1 : (q.1 == x) = true := by simp [hid]
        have HID := Lib.hid hid
        have b1 : i ≤ cp := by omega
        have b2 : i + 1 ≤ n := hlt
        have b3 : ((i : Int) + 1).toNat = i + 1 := by omega
        have b4 : (0 : Int) ≤ (i : Int) + 1 := by omega
        have b5 : (i : Int) + 1 ≤ (n : Int) := by omega
        have b6 : i + 1 ≤ cp := by omega
        have b7 : IntKind.i64.wrap ((i : Int) + 1) = (i : Int) + 1 := IntWalk.i64_in _ (by omega)
        clear hid
        obtain ⟨A, hA, hAc⟩ : ∃ A : Addr, (if cp = i + 1 then some (⟨g, 0, none⟩ : Addr) else some ⟨g, (i + 1) * 2, none⟩) = some A ∧ ∀ j u, (flat (L.drop (i + 1)))[j]? = some u → W.cell? (A.add j) = some u := by
          by_cases e : cp = i + 1
          · rw [if_pos e]
            refine ⟨_, rfl, fun j u hj => ?_⟩
            have : L.drop (i + 1) = [] := List.drop_eq_nil_of_le (by rw [HN.out]; omega)
            rw [this] at hj
            simp [flat] at hj
          · rw [if_neg e]
            refine ⟨_, rfl, fun j u hj => ?_⟩
            rw [flat_drop, List.getElem?_drop] at hj
            rw [off_add]
            exact HCE.out _ u hj
        have HAC := Lib.hid hAc
        clear hAc
        go_upto_region 6 with (fail)
        have hHeld : W.drew.cell? ⟨rb, 1, none⟩ = some (.slice (some ⟨g, 0, none⟩) n cp) := c1
        refine wp_region_t (S := fun (w' : World) => w'.cell? ⟨rb, 1, none⟩ = some (.slice (some ⟨g, 0, none⟩) n cp)) (t := 19) (by kernel_rfl) ?_
        refine wpT.take (i := 0) (oi := _) (v := ?v0) rfl (by kernel_rfl) (by kernel_rfl) (by kernel_rfl) (by kernel_rfl) (fun _ _ _ h => h) (Or.inl ⟨by rfl, ?y0⟩) (by assumption) ?r0
        case y0 => intro w1 hSw; go_simp; try with_reducible rfl
        try simp only [List.getElem_toArray, List.getElem_cons_zero, List.getElem_cons_succ, Act.put, List.setIfInBounds_toArray, List.set_cons_zero, List.set_cons_succ]
        refine wpT.take (i := 2) (oi := _) (v := ?v2) rfl (by kernel_rfl) (by kernel_rfl) (by kernel_rfl) (by kernel_rfl) (fun _ _ _ h => h) (Or.inl ⟨by rfl, ?y2⟩) (by assumption) ?r2
        case y2 => intro w1 hSw; go_simp; try with_reducible rfl
        try simp only [List.getElem_toArray, List.getElem_cons_zero, List.getElem_cons_succ, Act.put, List.setIfInBounds_toArray, List.set_cons_zero, List.set_cons_succ]
        refine wpT.take (i := 3) (oi := _) (v := ?v3) rfl (by kernel_rfl) (by kernel_rfl) (by kernel_rfl) (by kernel_rfl) (fun _ _ _ h => h) (Or.inl ⟨by rfl, ?y3⟩) (by assumption) ?r3
        case y3 => intro w1 hSw; go_simp; try with_reducible rfl
        try simp only [List.getElem_toArray, List.getElem_cons_zero, List.getElem_cons_succ, Act.put, List.setIfInBounds_toArray, List.set_cons_zero, List.set_cons_succ]
        refine wpT.take (i := 4) (oi := _) (v := ?v4) rfl (by kernel_rfl) (by kernel_rfl) (by kernel_rfl) (by kernel_rfl) (fun _ _ _ h => h) (Or.inl ⟨by rfl, ?y4⟩) (by assumption) ?r4
        case y4 => intro w1 hSw; go_simp; try with_reducible rfl
        try simp only [List.getElem_toArray, List.getElem_cons_zero, List.getElem_cons_succ, Act.put, List.setIfInBounds_toArray, List.set_cons_zero, List.set_cons_succ]
        refine wpT.take (i := 5) (oi := _) (v := ?v5) rfl (by kernel_rfl) (by kernel_rfl) (by kernel_rfl) (by kernel_rfl) (fun _ _ _ h => h) (Or.inl ⟨by rfl, ?y5⟩) (by assumption) ?r5
        case y5 => intro w1 hSw; go_simp; try with_reducible rfl
        try simp only [List.getElem_toArray, List.getElem_cons_zero, List.getElem_cons_succ, Act.put, List.setIfInBounds_toArray, List.set_cons_zero, List.set_cons_succ]
        refine wpT.take (i := 6) (oi := _) (v := ?v6) rfl (by kernel_rfl) (by kernel_rfl) (by kernel_rfl) (by kernel_rfl) (fun _ _ _ h => h) (Or.inl ⟨by rfl, ?y6⟩) (by assumption) ?r6
        case y6 => intro w1 hSw; go_simp; try with_reducible rfl
        try simp only [List.getElem_toArray, List.getElem_cons_zero, List.getElem_cons_succ, Act.put, List.setIfInBounds_toArray, List.set_cons_zero, List.set_cons_succ]
        refine wpT.take (i := 7) (oi := _) (v := ?v7) rfl (by kernel_rfl) (by kernel_rfl) (by kernel_rfl) (by kernel_rfl) (fun _ _ _ h => h) (Or.inl ⟨by rfl, ?y7⟩) (by assumption) ?r7
        case y7 => intro w1 hSw; go_simp; try with_reducible rfl
        try simp only [List.getElem_toArray, List.getElem_cons_zero, List.getElem_cons_succ, Act.put, List.setIfInBounds_toArray, List.set_cons_zero, List.set_cons_succ]
        refine wpT.take (i := 9) (oi := _) (v := ?v9) rfl (by kernel_rfl) (by kernel_rfl) (by kernel_rfl) (by kernel_rfl) (fun _ _ _ h => h) (Or.inl ⟨by rfl, ?y9⟩) (by assumption) ?r9
        case y9 => intro w1 hSw; go_simp; try with_reducible rfl
        try simp only [List.getElem_toArray, List.getElem_cons_zero, List.getElem_cons_succ, Act.put, List.setIfInBounds_toArray, List.set_cons_zero, List.set_cons_succ]
        refine wpT.take (i := 10) (oi := _) (v := ?v10) rfl (by kernel_rfl) (by kernel_rfl) (by kernel_rfl) (by kernel_rfl) (fun _ _ _ h => h) (Or.inl ⟨by rfl, ?y10⟩) (by assumption) ?r10
        case y10 => intro w1 hSw; go_simp; try with_reducible rfl
        try simp only [List.getElem_toArray, List.getElem_cons_zero, List.getElem_cons_succ, Act.put, List.setIfInBounds_toArray, List.set_cons_zero, List.set_cons_succ]
        refine wpT.take (i := 11) (oi := _) (v := ?v11) rfl (by kernel_rfl) (by kernel_rfl) (by kernel_rfl) (by kernel_rfl) (fun _ _ _ h => h) (Or.inl ⟨by rfl, ?y11⟩) (by assumption) ?r11
        case y11 => intro w1 hSw; go_simp; try with_reducible rfl
        try simp only [List.getElem_toArray, List.getElem_cons_zero, List.getElem_cons_succ, Act.put, List.setIfInBounds_toArray, List.set_cons_zero, List.set_cons_succ]
        refine wpT.take (i := 12) (oi := _) (v := ?v12) rfl (by kernel_rfl) (by kernel_rfl) (by kernel_rfl) (by kernel_rfl) (fun _ _ _ h => h) (Or.inl ⟨by rfl, ?y12⟩) (by assumption) ?r12
        case y12 => intro w1 hSw; go_simp; try with_reducible rfl
        try simp only [List.getElem_toArray, List.getElem_cons_zero, List.getElem_cons_succ, Act.put, List.setIfInBounds_toArray, List.set_cons_zero, List.set_cons_succ]
        refine wpT.take (i := 13) (oi := _) (v := ?v13) rfl (by kernel_rfl) (by kernel_rfl) (by kernel_rfl) (by kernel_rfl) (fun _ _ _ h => h) (Or.inl ⟨by rfl, ?y13⟩) (by assumption) ?r13
        case y13 => intro w1 hSw; go_simp; try with_reducible rfl
        try simp only [List.getElem_toArray, List.getElem_cons_zero, List.getElem_cons_succ, Act.put, List.setIfInBounds_toArray, List.set_cons_zero, List.set_cons_succ]
        refine wpT.take (i := 14) (oi := _) (v := ?v14) rfl (by kernel_rfl) (by kernel_rfl) (by kernel_rfl) (by kernel_rfl) (fun _ _ _ h => h) (Or.inl ⟨by rfl, ?y14⟩) (by assumption) ?r14
        case y14 => intro w1 hSw; go_simp; try with_reducible rfl
        try simp only [List.getElem_toArray, List.getElem_cons_zero, List.getElem_cons_succ, Act.put, List.setIfInBounds_toArray, List.set_cons_zero, List.set_cons_succ]
        refine wpT.take (i := 15) (oi := _) (v := ?v15) rfl (by kernel_rfl) (by kernel_rfl) (by kernel_rfl) (by kernel_rfl) (fun _ _ _ h => h) (Or.inl ⟨by rfl, ?y15⟩) (by assumption) ?r15
        case y15 => intro w1 hSw; go_simp; try with_reducible rfl
        try simp only [List.getElem_toArray, List.getElem_cons_zero, List.getElem_cons_succ, Act.put, List.setIfInBounds_toArray, List.set_cons_zero, List.set_cons_succ]
        refine wpT.one (i := 1) (o := _) (by kernel_rfl) rfl (fun K hK => ?_)
        rw [if_pos (by rfl)]
        try simp only [List.getElem_toArray, List.getElem_cons_zero, List.getElem_cons_succ]
        go_simp
        have hHeld2 := (show ((W.alloc (.cells #[] 66)).drew).cell? ⟨rb, 1, none⟩ = some (.slice (some ⟨g, 0, none⟩) n cp) from ((Fr.alloc (fun _ => False) W (.cells #[] 66)).block rb HS.out.lt id |> World.cell?_of_block).trans c1)
        refine hK.out _ _ (fun _ => hHeld2) ?_
        clear hK K
        try simp only [List.getElem_toArray, List.getElem_cons_zero, List.getElem_cons_succ, Act.put, List.setIfInBounds_toArray, List.set_cons_zero, List.set_cons_succ]
        have hfa : Fr (fun _ => False) W ((W.alloc (.cells #[] 66)).drew) := (Fr.alloc _ W _).trans (Fr.drewN _ _ 1)
        obtain ⟨i0, hi0, hz0, hz1, hz2⟩ := info_parts infoA
        have hcW : ∀ j u, (flat L)[j]? = some u → g < W.heap.size ∧ W.cell? ⟨g, j, none⟩ = some u := fun j u hj => ⟨lt_of_cell (HCE.out j u hj), HCE.out j u hj⟩
        have hown0 : ((W.alloc (.cells #[] 66)).drew).ownsRow W.heap.size 66 2 (.slice (some ⟨W.heap.size, 0, none⟩) 0 0) 0 [] := ⟨rfl, .inr ⟨_, 0, #[], rfl, Nat.le_refl _, World.alloc_heap_new W _, Nat.le_refl _, by decide, rfl, rfl⟩⟩
        obtain ⟨v1, w1, hrun1, hown1, hg1, _, hob1⟩ := run_append_own_at (P := Try.prog) ((W.alloc (.cells #[] 66)).drew) W.heap.size 62 62 66 i0 _ 2 16 Try.underlying62 hi0 hz0 hz1 hz2 rfl (by omega) _ 0 [] hown0 ⟨g, 0, none⟩ i cp (flat (L.take i)) (by rw [flat_len, List.length_take, HN.out]; omega)
          (fun j u hj => by
            rw [flat_take] at hj
            have hjl : j < i * 2 := by have := (List.getElem?_eq_some_iff.1 hj).1; rw [List.length_take] at this; omega
            rw [List.getElem?_take_of_lt hjl] at hj
            have := hcW j u hj
            rw [off_add, Nat.zero_add]
            exact (World.cell?_of_block (hfa.block g this.1 id)).trans this.2)
          (fun u hu => flat_one _ u hu) (by unfold maxLen; omega) (by omega) (by simp)
        have hob0 := hown1.lt
        have hf1 : Fr (fun _ => False) W w1 := hfa.by_own hg1 (fun k e => by simp [Value.ownBlock] at e; omega)
        rw [Nat.zero_add, List.nil_append] at hown1
        obtain ⟨v2, w2, hrun2, hown2, hg2, _, hob2⟩ := run_append_own_at (P := Try.prog) w1 W.heap.size 62 62 66 i0 _ 2 16 Try.underlying62 hi0 hz0 hz1 hz2 rfl (by omega) v1 i _ hown1 A (n - (i + 1)) (cp - (i + 1)) (flat (L.drop (i + 1))) (by rw [flat_len, List.length_drop, HN.out])
          (fun j u hj => by
            have := HAC.out j u hj
            exact (World.cell?_of_block (hf1.block _ (lt_of_cell this) id)).trans this)
          (fun u hu => flat_one _ u hu) (by unfold maxLen; omega) (by omega) hf1.size
        obtain ⟨ao2, m2, cp2, rfl⟩ : ∃ ao2 m2 cp2, v2 = .slice ao2 m2 cp2 := by
          rcases hown2.2 with ⟨rfl, _⟩ | ⟨g', cap', cur', rfl, _⟩
          · exact ⟨_, _, _, rfl⟩
          · exact ⟨_, _, _, rfl⟩
        have hf2 : Fr (fun _ => False) W w2 := hf1.by_own hg2 (fun k e => (hob0 k e).1)
        have e1 := (World.cell?_of_block (hf1.block rb HS.out.lt id)).trans c1
        have e2 := (World.cell?_of_block (hf2.block rb HS.out.lt id)).trans c1
        have hs2 : Blk w2 rb 64 #[.int .i64 T, .slice (some ⟨g, 0, none⟩) L.length cp] := HS.out.fr hf2 id
        have e3 := hs2.frozen 1
        rw [← flat_append] at hown2
        have hlen2 : i + (n - (i + 1)) = (L.take i ++ L.drop (i + 1)).length := by rw [List.length_append, List.length_take, List.length_drop, HN.out]; omega
        rw [hlen2] at hown2
        have hsz2 := hf2.size
        have hB0 := H.out.d
        have hs3 := hs2.set 1 (.slice ao2 m2 cp2)
        have hf3 := Fr.setCell (S := fun k => k = rb) w2 ⟨rb, 1, none⟩ (.slice ao2 m2 cp2) rfl
        have hRC : RC (w2.setCell ⟨rb, 1, none⟩ (.slice ao2 m2 cp2)) rb B0 T (L.take i ++ L.drop (i + 1)) := by
          refine ⟨⟨.slice ao2 m2 cp2, by simpa using hs3, ?_⟩, hB0.1, Nat.le_trans (Nat.le_trans hB0.2 hsz2) hf3.size⟩
          refine owns_fr ?_ hf3 (fun k e => by omega)
          refine ⟨hown2.1, ?_⟩
          rcases hown2.2 with h | ⟨g', cap', cur', h1, h2, h3⟩
          · exact .inl h
          · exact .inr ⟨g', cap', cur', h1, by omega, h3⟩
        have HRC := Lib.hid hRC
        have HF3 := Lib.hid (show Turn W (w2.setCell ⟨rb, 1, none⟩ (.slice ao2 m2 cp2)) rb from ⟨((hf2.mono (S' := fun k => k = rb) fun _ e => e.elim).trans hf3).mono fun k e => .inl e, fun k hk => .inr (by
          rw [rowB_of (T := T) (sv := .slice ao2 m2 cp2) (by simpa using hs3)] at hk
          exact (hown2.lt k hk).1)⟩)
        have e4 : (w2.setCell ⟨rb, 1, none⟩ (.slice ao2 m2 cp2)).cell? ⟨rb, 1, none⟩ = some (.slice ao2 m2 cp2) := setCell_self _ e2
        clear hRC hs3 hf3 hown2 hown1 hown0 hcW hfa hg1 hg2 hob1 hob2 hob0 hs2
        refine wpT.one (i := 8) (o := _) (by kernel_rfl) rfl (fun K hK => ?_)
        rw [if_pos (by rfl)]
        try simp only [List.getElem_toArray, List.getElem_cons_zero, List.getElem_cons_succ]
        refine upon_append rfl rfl rfl hrun1 ?_
        refine hK.out _ _ (fun _ => e1) ?_
        clear hK K
        try simp only [List.getElem_toArray, List.getElem_cons_zero, List.getElem_cons_succ, Act.put, List.setIfInBounds_toArray, List.set_cons_zero, List.set_cons_succ]
        refine wpT.one (i := 16) (o := _) (by kernel_rfl) rfl (fun K hK => ?_)
        rw [if_pos (by rfl)]
        try simp only [List.getElem_toArray, List.getElem_cons_zero, List.getElem_cons_succ]
        refine upon_append rfl rfl rfl hrun2 ?_
        refine hK.out _ _ (fun _ => e2) ?_
        clear hK K
        try simp only [List.getElem_toArray, List.getElem_cons_zero, List.getElem_cons_succ, Act.put, List.setIfInBounds_toArray, List.set_cons_zero, List.set_cons_succ]
        refine wpT.one (i := 17) (o := _) (by kernel_rfl) rfl (fun K hK => ?_)
        rw [if_pos (by rfl)]
        try simp only [List.getElem_toArray, List.getElem_cons_zero, List.getElem_cons_succ]
        go_simp
        refine hK.out _ _ (fun _ => e2) ?_
        clear hK K
        try simp only [List.getElem_toArray, List.getElem_cons_zero, List.getElem_cons_succ, Act.put, List.setIfInBounds_toArray, List.set_cons_zero, List.set_cons_succ]
        refine wpT.one (i := 18) (o := _) (by kernel_rfl) rfl (fun K hK => ?_)
        rw [if_pos (by rfl)]
        try simp only [List.getElem_toArray, List.getElem_cons_zero, List.getElem_cons_succ]
        go_simp
        refine hK.out _ _ (fun _ => e2) ?_
        clear hK K
        try simp only [List.getElem_toArray, List.getElem_cons_zero, List.getElem_cons_succ, Act.put, List.setIfInBounds_toArray, List.set_cons_zero, List.set_cons_succ]
        refine wpT.one (i := 19) (o := _) (by kernel_rfl) rfl (fun K hK => ?_)
        rw [if_pos (by rfl)]
        try simp only [List.getElem_toArray, List.getElem_cons_zero, List.getElem_cons_succ]
        go_simp
        refine hK.out _ _ (fun h => absurd rfl h) ?_
        clear hK K
        try simp only [List.getElem_toArray, List.getElem_cons_zero, List.getElem_cons_succ, Act.put, List.setIfInBounds_toArray, List.set_cons_zero, List.set_cons_succ]
        refine wpT.done (by kernel_rfl) ?_ _
        clear hHeld hHeld2 e1 e2 e3 e4 hrun1 hrun2 HAC HC HCE
        go_wp2
        go_ret2
        exact ⟨HF3.out, .inr ⟨i, q.1, q.2, HQ.out, HID.out, fun j a b hj hp => HNO.out j (a, b) hj hp, rfl, HRC.out⟩⟩
      · have p1 : (q.1 == x) = false := by simp [hid]
        have HNO2 : Hid (∀ j p, j < i + 1 → L[j]? = some p → p.1 ≠ x) := Lib.hid (fun j p hj hp => by
          by_cases e : j = i
          · subst e; rw [HQ.out] at hp; cases hp; exact hid
          · exact HNO.out j p (by omega) hp)
        clear hid
        go_wp2
        go_roundw
        case rel => exact ⟨i + 1, by omega, by go_num, HNO2.out, trivial⟩
        case measure => simp [intOf]; omega
    · obtain rfl : i = n := by omega
      have p0 : decide ((i : Int) < i) = false := decide_eq_false (by omega)
      go_wp2
      go_ret2
      exact ⟨Turn.refl _ _, .inl ⟨fun p hp => by
        obtain ⟨j, hj⟩ := List.getElem?_of_mem hp
        exact hno j p (by have := (List.getElem?_eq_some_iff.1 hj).1; have := HN.out; omega) hj, rfl, H.out⟩⟩
set_option maxRecDepth 100000 in
set_option maxHeartbeats 1000000 in
theorem rpush_any (h : RC W rb B0 T L) (hL : L.length ≤ 1000) (x v : Int) :
    Calls Try.prog 15 #[.pointer (some ⟨rb, 0, none⟩), .int .i64 x, .int .i64 v] W fun e W' => Turn W W' rb ∧ ((T ≤ (At L x).length ∧ e = .returned (.int .i64 4) ∧ RC W' rb B0 T L) ∨ (¬ T ≤ (At L x).length ∧ e = .returned (.int .i64 0) ∧ RC W' rb B0 T (L ++ [(x, v)]))) := by
  have HL : Hid (∀ n, Calls Try.prog 19 #[.pointer (some ⟨rb, 0, none⟩), .int .i64 x] (W.drewN n) fun e W' => e = .returned (.int .i64 ((At L x).length : Int)) ∧ W' = W.drewN n) := Lib.hid fun n => (rlen_any (h.kept (Fr.drewN _ W n)) hL x).mono fun _ _ h => ⟨h.1, h.2.symm⟩
  obtain ⟨sv, hs, ho⟩ := h.s
  have c0 := hs.cell 0
  have c1 := hs.cell 1
  have f1 := hs.frozen 1
  simp only [List.getElem?_toArray, List.getElem?_cons_zero, List.getElem?_cons_succ] at c0 c1
  have H := Lib.hid h
  have HS := Lib.hid hs
  have HO := Lib.hid ho
  have hrl := hs.lt
  obtain ⟨ao, cp, rfl⟩ : ∃ ao cp, sv = .slice ao L.length cp := owns_slice ho
  obtain ⟨m, hm⟩ : ∃ m, (At L x).length = m := ⟨_, rfl⟩
  rw [hm] at HL ⊢
  clear h hs ho hm
  by_cases hf : T ≤ (m : Int)
  · refine Calls.mono (?_ : Calls _ _ _ _ (fun e W' => Turn W W' rb ∧ e = .returned (.int .i64 4) ∧ RC W' rb B0 T L)) (fun e W' h => ⟨h.1, .inl ⟨hf, h.2⟩⟩)
    have p1 : decide (T ≤ (m : Int)) = true := decide_eq_true hf
    go_enter Try.func15, Try.ntmps15
    go_wp2
    go_quiet ((go_at_call 19; exact Calls.quiet_of_same (HL.out _)))
    go_wp2
    go_ret
    exact ⟨Turn.drewN _ _ _, rfl, H.out.kept (Fr.drewN _ _ _)⟩
  · refine Calls.mono (?_ : Calls _ _ _ _ (fun e W' => Turn W W' rb ∧ e = .returned (.int .i64 0) ∧ RC W' rb B0 T (L ++ [(x, v)]))) (fun e W' h => ⟨h.1, .inr ⟨hf, h.2⟩⟩)
    have p1 : decide (T ≤ (m : Int)) = false := decide_eq_false hf
    obtain ⟨i0, hi, hz0, hz1, hz2⟩ := info_parts infoA
    obtain ⟨n, hn⟩ : ∃ n, L.length = n := ⟨_, rfl⟩
    rw [hn] at c1 hL HS HO
    have HN := Lib.hid hn
    have hownq : ∀ z, ((W.drewN z).alloc (.cells #[.int .i64 x, .int .i64 v] 66)).ownsRow B0 66 2 (.slice ao n cp) n (flat L) := fun z => (show (W.drewN z).ownsRow B0 66 2 (.slice ao n cp) n (flat L) from HO.out).alloc _
    have hnews : ∀ (z j : Nat) (u : Value), [Value.int .i64 x, .int .i64 v][j]? = some u → ((W.drewN z).alloc (.cells #[.int .i64 x, .int .i64 v] 66)).cell? ((⟨W.heap.size, 0, none⟩ : Addr).add j) = some u := fun z j u hj => by
      rw [off_add, Nat.zero_add]
      show ((W.drewN z).alloc _).cell? ⟨(W.drewN z).heap.size, j, none⟩ = some u
      rw [World.cell?_alloc_mark]
      simpa using hj
    have hone : ∀ u ∈ [Value.int .i64 x, .int .i64 v], u.oneCell' = true := by
      intro u hu; simp at hu; rcases hu with rfl | rfl <;> rfl
    have b1 : n + 1 ≤ maxLen := by unfold maxLen; omega
    have b2 : (n + 1) * 16 ≤ 140737488355328 := by omega
    have hd := H.out.d
    have hsz : ∀ z, B0 ≤ ((W.drewN z).alloc (.cells #[.int .i64 x, .int .i64 v] 66)).heap.size := fun z => by simp; omega
    have HOW := Lib.hid hownq
    have HNW := Lib.hid hnews
    have HSZ := Lib.hid hsz
    have HON := Lib.hid hone
    have hneb : ∀ k, (Value.slice ao n cp).ownBlock = some k → B0 ≤ k := fun k e => (HO.out.lt k e).1
    have HNE := Lib.hid hneb
    clear hownq hnews hsz hone hn hneb
    go_enter Try.func15, Try.ntmps15
    go_wp2
    go_quiet ((go_at_call 19; exact Calls.quiet_of_same (HL.out _)))
    go_wp2_with (first
      | (at_builtin
         refine wpList_append_own_at _ rfl _ _ 62 rfl B0 66 i0 _ 2 16 Try.underlying62 hi hz0 hz1 hz2 rfl (by decide) (.slice ao n cp) n (flat L) rfl (HOW.out _) ⟨W.heap.size, 0, none⟩ 1 1 [.int .i64 x, .int .i64 v] rfl rfl (HNW.out _) HON.out b1 b2 (HSZ.out _) ?_
         intro v' w1 hown1 hgrow1 hnil1 hblk1
         have hfA : Fr (fun k => (Value.slice ao n cp).ownBlock = some k) W w1 := ((Fr.drewN _ W _).trans (Fr.alloc _ _ _)).trans (Fr.grown hgrow1 (fun k e => e))
         have hsA := HS.out.fr hfA (fun e => by have := HNE.out _ e; omega)
         obtain ⟨a3, q3, rfl⟩ := owns_slice hown1
         have d2 := hsA.cell 1
         have f2 := hsA.frozen 1
         simp only [List.getElem?_toArray, List.getElem?_cons_zero, List.getElem?_cons_succ] at d2
         have HO1 := Lib.hid hown1
         have HB1 := Lib.hid hblk1
         have HFA := Lib.hid hfA
         have HSA := Lib.hid hsA
         clear hown1 hgrow1 hnil1 hblk1 hfA hsA)
      | fail)
    go_ret
    have hs4 := HSA.out.set 1 (.slice a3 (n + 1) q3)
    have hf4 := Fr.setCell (S := fun k => k = rb) w1 ⟨rb, 1, none⟩ (.slice a3 (n + 1) q3) rfl
    have hz : B0 ≤ w1.heap.size := Nat.le_trans hd.2 HFA.out.size
    have hr0 := rowB_of HS.out
    refine ⟨⟨(HFA.out.mono fun k e => .inr (by rw [hr0]; exact e)).trans (hf4.mono fun k e => .inl e), fun k hk => ?_⟩, rfl, ⟨⟨_, by simpa using hs4, ?_⟩, hd.1, Nat.le_trans hz hf4.size⟩⟩
    · rw [rowB_of (T := T) (sv := .slice a3 (n + 1) q3) (by simpa using hs4)] at hk
      rcases HB1.out with e | e
      · rw [hr0, ← e]; exact .inl hk
      · rw [e] at hk
        have := Option.some.inj hk
        simp at this
        exact .inr (by omega)
    · have e1 : (L ++ [(x, v)]).length = n + 1 := by rw [List.length_append, HN.out]; rfl
      have e2 : flat (L ++ [(x, v)]) = flat L ++ [.int .i64 x, .int .i64 v] := by rw [flat_append]; rfl
      rw [e1, e2]
      exact ownsG_fr HO1.out hf4 (fun j e1 e2 => by have := (HO1.out.lt j e2).1; omega)
end Go.Proofs.Ytklfppjejndclaa.P2
