/- The document's Status and Check; are rows of integers the same; do they rise. -/
import Derived.Test.YtbdjnfkhdphhoaaDoorN1
import Derived.Test.YtbdjnfkhdphhoaaDoorZ4
import Derived.Test.YtbdjnfkhdphhoaaDoorL
import Derived.Deep.RegionHeld3
set_option linter.unusedVariables false
set_option linter.unusedSimpArgs false
namespace Go.Proofs.YtbdjnfkhdphhoaaDoor
open Go.RowKit Go.Maps
set_option maxRecDepth 100000 in
set_option maxHeartbeats 2000000 in
theorem rstat_any (W : World) (ao : Option Addr) (cp : Nat) (l : List Ev) (hl : RowV W ao l) (hn : l.length ≤ 100000) : Calls Tryd.prog 24 #[.slice ao l.length cp] W fun r W' => r = .returned (.int .i64 (statL l)) ∧ Fr (fun _ => False) W W' := by
  rcases List.eq_nil_or_concat l with rfl | ⟨l', e, hle⟩
  · rw [show ([] : List Ev).length = 0 from rfl]
    go_enter Tryd.func24, Tryd.ntmps24
    go_wp2
    go_ret
    exact ⟨rfl, Fr.refl _ _⟩
  · rw [List.concat_eq_append] at hle
    subst hle
    have hs : statL (l' ++ [e]) = statK e.k := by simp [statL]
    rw [hs]
    rcases hl with h0 | ⟨b, o, rfl, hb, hc⟩
    · simp at h0
    have c0 : W.cell? ⟨b, o + l'.length * 7, none⟩ = some (.int .i64 e.k) := hc l'.length e (by simp) 0 _ rfl
    have hlen : (l' ++ [e]).length = l'.length + 1 := by simp
    rw [hlen] at hn ⊢
    obtain ⟨n, hnn⟩ : ∃ n, l'.length = n := ⟨_, rfl⟩
    rw [hnn] at hn c0 ⊢
    have p0 : (((n + 1 : Nat) : Int) == 0) = false := by simp; omega
    have w1 : IntKind.i64.wrap (((n + 1 : Nat) : Int) - 1) = (n : Int) := by simp [IntKind.wrap, IntKind.bits, IntKind.signed]; omega
    obtain ⟨k, hk⟩ : ∃ k, e.k = k := ⟨_, rfl⟩
    rw [hk] at c0 ⊢
    clear hk hc hs hlen hnn
    have hn2 : n + 1 ≤ 100000 := hn
    by_cases h19 : k = 19
    · subst h19
      go_enter Tryd.func24, Tryd.ntmps24
      go_wp2
      go_ret
      exact ⟨rfl, Fr.refl _ _⟩
    have r19 : (k == 19) = false := by simp [h19]
    by_cases h20 : k = 20
    · subst h20
      go_enter Tryd.func24, Tryd.ntmps24
      go_wp2
      go_ret
      exact ⟨rfl, Fr.refl _ _⟩
    have r20 : (k == 20) = false := by simp [h20]
    by_cases h21 : k = 21
    · subst h21
      go_enter Tryd.func24, Tryd.ntmps24
      go_wp2
      go_ret
      exact ⟨rfl, Fr.refl _ _⟩
    have r21 : (k == 21) = false := by simp [h21]
    by_cases h22 : k = 22
    · subst h22
      go_enter Tryd.func24, Tryd.ntmps24
      go_wp2
      go_ret
      exact ⟨rfl, Fr.refl _ _⟩
    have r22 : (k == 22) = false := by simp [h22]
    by_cases h23 : k = 23
    · subst h23
      go_enter Tryd.func24, Tryd.ntmps24
      go_wp2
      go_ret
      exact ⟨rfl, Fr.refl _ _⟩
    have r23 : (k == 23) = false := by simp [h23]
    go_enter Tryd.func24, Tryd.ntmps24
    go_wp2
    go_ret
    exact ⟨by simp [statK, h19, h20, h21, h22, h23], Fr.refl _ _⟩
theorem RowI.at_ {W : World} {ao : Option Addr} {xs : List Int} {i : Nat} {x : Int} (h : RowI W ao xs) (he : xs[i]? = some x) : ∃ b o, ao = some ⟨b, o, none⟩ ∧ W.cell? ⟨b, o + i, none⟩ = some (.int .i64 x) := by
  rcases h with h | ⟨b, o, h1, h2, h3⟩
  · rw [h] at he; simp at he
  · exact ⟨b, o, h1, h3 i x he⟩
set_option maxRecDepth 100000 in
set_option maxHeartbeats 2000000 in
theorem ints_any (W : World) (ao bo : Option Addr) (cp cq n : Nat) (xs : List Int) (ha : RowI W ao xs) (hb : RowI W bo xs) (hnl : xs.length = n) (hn : n ≤ 100000) : Calls Tryd.prog 26 #[.slice ao n cp, .slice bo n cq] W fun r W' => r = .returned (.bool true) ∧ Fr (fun _ => False) W W' := by
  have HNL := Lib.hid hnl
  have HA := Lib.hid ha
  have HB := Lib.hid hb
  have HN := Lib.hid hn
  clear hnl ha hb hn
  go_enter Tryd.func26, Tryd.ntmps26
  go_upto_region 3 with (fail)
  go_wp2_with fail
  go_loopw [5] (fun iv wr => ∃ i : Nat, i ≤ n ∧ iv = .int .i64 i ∧ Fr (fun _ => False) W wr) (fun iv _ => n - (intOf iv).toNat)
  case atStart => exact ⟨0, Nat.zero_le _, rfl, Fr.refl _ _⟩
  case round =>
    obtain ⟨i, hi, rfl, hf⟩ := hrel
    have HF := Lib.hid hf
    clear hf
    have hnn := HN.out
    by_cases hlt : i < n
    · have p0 : decide ((i : Int) < n) = true := decide_eq_true (by omega)
      have p0' : decide (i < n) = true := decide_eq_true hlt
      obtain ⟨x, hx⟩ : ∃ x, xs[i]? = some x := ⟨_, List.getElem?_eq_getElem (by rw [HNL.out]; exact hlt)⟩
      obtain ⟨b, o, rfl, c0⟩ := (HA.out.fr HF.out (fun _ _ => id)).at_ hx
      obtain ⟨b2, o2, rfl, c1⟩ := (HB.out.fr HF.out (fun _ _ => id)).at_ hx
      have p1 : (x == x) = true := by simp
      have hw : wrap64 ((i : Int) + 1) = ((i + 1 : Nat) : Int) := by rw [wrap64]; omega
      clear hx hw
      go_upto_region 6 with (fail)
      go_quiet (fail)
      go_wp2
      go_roundw
      case rel => exact ⟨i + 1, by omega, by go_num, HF.out.trans (Fr.drewN _ _ _)⟩
      case measure => simp [intOf]; omega
    · obtain rfl : i = n := by omega
      have p0 : decide ((i : Int) < i) = false := decide_eq_false (by omega)
      go_wp2
      go_ret
      exact ⟨rfl, HF.out⟩
set_option maxRecDepth 100000 in
set_option maxHeartbeats 2000000 in
theorem rises_any (W : World) (ao : Option Addr) (cp n : Nat) (xs : List Int) (ha : RowI W ao xs) (hnl : xs.length = n) (hn : n ≤ 100000) (hs : ∀ (i : Nat) x y, xs[i]? = some x → xs[i + 1]? = some y → x < y) : Calls Tryd.prog 29 #[.slice ao n cp] W fun r W' => r = .returned (.bool true) ∧ Fr (fun _ => False) W W' := by
  have HNL := Lib.hid hnl
  have HA := Lib.hid ha
  have HN := Lib.hid hn
  have HS := Lib.hid hs
  clear hnl ha hn hs
  go_enter Tryd.func29, Tryd.ntmps29
  go_wp2_with fail
  go_loopw [3] (fun iv wr => ∃ i : Nat, (i ≤ n ∨ i = 0) ∧ iv = .int .i64 ((i + 1 : Nat) : Int) ∧ Fr (fun _ => False) W wr) (fun iv _ => n + 1 - (intOf iv).toNat)
  case atStart => exact ⟨0, .inr rfl, rfl, Fr.refl _ _⟩
  case round =>
    obtain ⟨i, hi, rfl, hf⟩ := hrel
    have HF := Lib.hid hf
    clear hf
    have hnn := HN.out
    by_cases hlt : i + 1 < n
    · have p0 : decide (((i + 1 : Nat) : Int) < n) = true := decide_eq_true (by omega)
      have p0' : decide (i + 1 < n) = true := decide_eq_true hlt
      obtain ⟨x, hx⟩ : ∃ x, xs[i]? = some x := ⟨_, List.getElem?_eq_getElem (by rw [HNL.out]; omega)⟩
      obtain ⟨y, hy⟩ : ∃ y, xs[i + 1]? = some y := ⟨_, List.getElem?_eq_getElem (by rw [HNL.out]; exact hlt)⟩
      have hxy := HS.out i x y hx hy
      obtain ⟨b, o, rfl, c0⟩ := (HA.out.fr HF.out (fun _ _ => id)).at_ hx
      obtain ⟨b2, o2, e2, c1⟩ := (HA.out.fr HF.out (fun _ _ => id)).at_ hy
      cases e2
      have p1 : decide (y ≤ x) = false := decide_eq_false (by omega)
      have hw : wrap64 (((i + 1 : Nat) : Int) + 1) = ((i + 1 + 1 : Nat) : Int) := by rw [wrap64]; omega
      have hw2 : wrap64 (((i + 1 : Nat) : Int) - 1) = (i : Int) := by rw [wrap64]; omega
      have hw3 : IntKind.i64.wrap (((i + 1 : Nat) : Int) - 1) = (i : Int) := by simp [IntKind.wrap, IntKind.bits, IntKind.signed]; omega
      clear hx hy hxy hw
      go_upto_region 4 with (fail)
      go_quiet (fail)
      go_wp2
      go_roundw
      case rel => exact ⟨i + 1, .inl (by omega), by go_num, HF.out.trans (Fr.drewN _ _ _)⟩
      case measure => simp [intOf]; omega
    · have p0 : decide (((i + 1 : Nat) : Int) < n) = false := decide_eq_false (by omega)
      have p0' : decide (i + 1 < n) = false := decide_eq_false hlt
      go_wp2
      go_ret
      exact ⟨rfl, HF.out⟩
theorem Good.take {l : List Ev} {i : Nat} (h : Good l i) (hi : i ≤ l.length) : Good (l.take i) (l.take i).length := fun j e hj he => by
  have hji : j < i := by rw [List.length_take] at hj; omega
  rw [List.getElem?_take_of_lt hji] at he
  rw [List.take_take, show min j i = j by omega]
  exact h j e hji he
set_option maxRecDepth 100000 in
set_option maxHeartbeats 4000000 in
theorem rcheck_any (W : World) (ao : Option Addr) (cp n : Nat) (l : List Ev) (hl : RowV W ao l) (hnl : l.length = n) (hcp : n ≤ cp) (hn : n ≤ 90000) : Calls Tryd.prog 23 #[.slice ao n cp] W fun r W' => Fr (fun _ => False) W W' ∧ ((Good l l.length ∧ r = .returned (.tuple #[.int .i64 0, .string ⟨#[]⟩])) ∨
    ∃ (i : Nat) (e : Ev), l[i]? = some e ∧ Good l i ∧ faultC (feed hi0 (l.take i)) e ≠ 0 ∧ r = .returned (.tuple #[.int .i64 ((i : Int) + 1), whyV (faultC (feed hi0 (l.take i)) e)])) := by
  have HNL := Lib.hid hnl
  have HN := Lib.hid hn
  have HROW := Lib.hid hl
  have HCP := Lib.hid hcp
  clear hnl hn hl hcp
  go_enter Tryd.func23, Tryd.ntmps23
  go_wp2_with fail
  go_loopw [4] (fun iv wr => ∃ i : Nat, i ≤ n ∧ iv = .int .i64 i ∧ Good l i ∧ Fr (fun _ => False) W wr) (fun iv _ => n - (intOf iv).toNat)
  case atStart => exact ⟨0, Nat.zero_le _, rfl, fun j e hj => by omega, Fr.refl _ _⟩
  case round =>
    obtain ⟨i, hi, rfl, hg, hf⟩ := hrel
    have HG := Lib.hid hg
    have HF := Lib.hid hf
    clear hg hf
    have hnn := HN.out
    by_cases hlt : i < n
    · have p0 : decide ((i : Int) < n) = true := decide_eq_true (by omega)
      have p0' : decide (i < n) = true := decide_eq_true hlt
      obtain ⟨e, he⟩ : ∃ e, l[i]? = some e := ⟨_, List.getElem?_eq_getElem (by rw [HNL.out]; exact hlt)⟩
      have HE := Lib.hid he
      have hrow := HROW.out
      obtain ⟨b, o, rfl, hc⟩ := hrow.at_ he
      have HRT : Hid (RowV wr (some ⟨b, o, none⟩) (l.take i)) := Lib.hid ((hrow.fr HF.out (fun k e => e.elim)).take i)
      have hcpi : i ≤ cp := by have := HCP.out; omega
      have hg2 := HG.out.take (by have := HNL.out; omega)
      obtain ⟨c, hcc⟩ : ∃ c, faultC (feed hi0 (l.take i)) e = c := ⟨_, rfl⟩
      have hc7 : c ≤ 7 := by rw [← hcc]; exact fault_le _ _
      obtain ⟨z, hz, hze⟩ := why_cases c hc7
      have HZ := Lib.hid hz
      have HWHY : Hid (∀ w', Fr (fun _ => False) wr w' → Calls Tryd.prog 17 #[.slice (some ⟨b, o, none⟩) i cp, .agg (evc e)] w' fun r W' => r = .returned (.string z) ∧ Fr (fun _ => False) w' W') := Lib.hid (fun w' hfw => by
        have := rwhy_any w' _ cp i (l.take i) (HRT.out.fr hfw (fun k e => e.elim)) (by rw [List.length_take, HNL.out]; omega) (by omega) e
        rw [why_fault hg2 e, hcc, HZ.out] at this
        exact this)
      have HC := Lib.hid hcc
      have FACT : Hid (∀ w', Fr (fun _ => False) wr w' → w'.cell? ⟨b, o + i * 7 + 0, none⟩ = some (.int .i64 e.k) ∧ w'.cell? ⟨b, o + i * 7 + 1, none⟩ = some (.int .i64 e.at_) ∧ w'.cell? ⟨b, o + i * 7 + 2, none⟩ = some (.int .i64 e.ref) ∧ w'.cell? ⟨b, o + i * 7 + 3, none⟩ = some (.int .i64 e.id) ∧ w'.cell? ⟨b, o + i * 7 + 4, none⟩ = some (.int .i64 e.list) ∧ w'.cell? ⟨b, o + i * 7 + 5, none⟩ = some (.int .i64 e.n) ∧ w'.cell? ⟨b, o + i * 7 + 6, none⟩ = some (.slice e.ao e.dl e.cp)) := Lib.hid (fun w' hfw => by
        have h0 := hc w' (HF.out.trans hfw)
        exact ⟨h0 0 _ rfl, h0 1 _ rfl, h0 2 _ rfl, h0 3 _ rfl, h0 4 _ rfl, h0 5 _ rfl, h0 6 _ rfl⟩)
      clear hcc hz he hc hc7 hg2
      go_upto_region 4 with (fail)
      refine wp_region_held_drew (S := fun (w' : World) => w'.cell? ⟨b, o + i * 7 + 0, none⟩ = some (.int .i64 e.k) ∧ w'.cell? ⟨b, o + i * 7 + 1, none⟩ = some (.int .i64 e.at_) ∧ w'.cell? ⟨b, o + i * 7 + 2, none⟩ = some (.int .i64 e.ref) ∧ w'.cell? ⟨b, o + i * 7 + 3, none⟩ = some (.int .i64 e.id) ∧ w'.cell? ⟨b, o + i * 7 + 4, none⟩ = some (.int .i64 e.list) ∧ w'.cell? ⟨b, o + i * 7 + 5, none⟩ = some (.int .i64 e.n) ∧ w'.cell? ⟨b, o + i * 7 + 6, none⟩ = some (.slice e.ao e.dl e.cp)) (by kernel_rfl) (FACT.out _ (Fr.drewN _ wr 1)) (fun hHeld => ?_)
      have HFD : Hid (Fr (fun _ => False) wr wr.drew) := Lib.hid (Fr.drewN _ wr 1)
      obtain ⟨wd, hwd⟩ : ∃ w, wr.drew = w := ⟨_, rfl⟩
      rw [hwd] at hHeld HFD ⊢
      clear hwd
      refine wpAnyH_take (i := 0) (oi := _) (v := ?va0) rfl (by kernel_rfl) (by kernel_rfl) (by kernel_rfl) (fun _ _ _ h => h) (Or.inl ⟨by rfl, ?ya0⟩) (by assumption) ?ra0
      case ya0 => intro w1 hSw; obtain ⟨s1, s2, s3, s4, s5, s6, s7⟩ := hSw; rw [Nat.add_zero] at s1; go_simp; try with_reducible rfl
      try simp only [List.getElem_toArray, List.getElem_cons_zero, List.getElem_cons_succ, Act.put, List.setIfInBounds_toArray, List.set_cons_zero, List.set_cons_succ]
      refine wpAnyH_take (i := 1) (oi := _) (v := ?va1) rfl (by kernel_rfl) (by kernel_rfl) (by kernel_rfl) (fun _ _ _ h => h) (Or.inl ⟨by rfl, ?ya1⟩) (by assumption) ?ra1
      case ya1 => intro w1 hSw; obtain ⟨s1, s2, s3, s4, s5, s6, s7⟩ := hSw; rw [Nat.add_zero] at s1; go_simp; try with_reducible rfl
      try simp only [List.getElem_toArray, List.getElem_cons_zero, List.getElem_cons_succ, Act.put, List.setIfInBounds_toArray, List.set_cons_zero, List.set_cons_succ]
      refine wpAnyH_take (i := 2) (oi := _) (v := ?va2) rfl (by kernel_rfl) (by kernel_rfl) (by kernel_rfl) (fun _ _ _ h => h) (Or.inl ⟨by rfl, ?ya2⟩) (by assumption) ?ra2
      case ya2 => intro w1 hSw; obtain ⟨s1, s2, s3, s4, s5, s6, s7⟩ := hSw; rw [Nat.add_zero] at s1; go_simp; try with_reducible rfl
      try simp only [List.getElem_toArray, List.getElem_cons_zero, List.getElem_cons_succ, Act.put, List.setIfInBounds_toArray, List.set_cons_zero, List.set_cons_succ]
      refine wpAnyH_take (i := 3) (oi := _) (v := ?va3) rfl (by kernel_rfl) (by kernel_rfl) (by kernel_rfl) (fun _ _ _ h => h) (Or.inl ⟨by rfl, ?ya3⟩) (by assumption) ?ra3
      case ya3 => intro w1 hSw; obtain ⟨s1, s2, s3, s4, s5, s6, s7⟩ := hSw; rw [Nat.add_zero] at s1; go_simp; try with_reducible rfl
      try simp only [List.getElem_toArray, List.getElem_cons_zero, List.getElem_cons_succ, Act.put, List.setIfInBounds_toArray, List.set_cons_zero, List.set_cons_succ]
      refine wpAnyH_take (i := 4) (oi := _) (v := ?va4) rfl (by kernel_rfl) (by kernel_rfl) (by kernel_rfl) (fun _ _ _ h => h) (Or.inl ⟨by rfl, ?ya4⟩) (by assumption) ?ra4
      case ya4 => intro w1 hSw; obtain ⟨s1, s2, s3, s4, s5, s6, s7⟩ := hSw; rw [Nat.add_zero] at s1; go_simp; try with_reducible rfl
      try simp only [List.getElem_toArray, List.getElem_cons_zero, List.getElem_cons_succ, Act.put, List.setIfInBounds_toArray, List.set_cons_zero, List.set_cons_succ]
      refine wpAnyH_take (i := 5) (oi := _) (v := ?va5) rfl (by kernel_rfl) (by kernel_rfl) (by kernel_rfl) (fun _ _ _ h => h) (Or.inl ⟨by rfl, ?ya5⟩) (by assumption) ?ra5
      case ya5 => intro w1 hSw; obtain ⟨s1, s2, s3, s4, s5, s6, s7⟩ := hSw; rw [Nat.add_zero] at s1; go_simp; try with_reducible rfl
      try simp only [List.getElem_toArray, List.getElem_cons_zero, List.getElem_cons_succ, Act.put, List.setIfInBounds_toArray, List.set_cons_zero, List.set_cons_succ]
      refine wpAnyH_take (i := 6) (oi := _) (v := ?va6) rfl (by kernel_rfl) (by kernel_rfl) (by kernel_rfl) (fun _ _ _ h => h) (Or.inl ⟨by rfl, ?ya6⟩) (by assumption) ?ra6
      case ya6 => intro w1 hSw; obtain ⟨s1, s2, s3, s4, s5, s6, s7⟩ := hSw; rw [Nat.add_zero] at s1; go_simp; try with_reducible rfl
      try simp only [List.getElem_toArray, List.getElem_cons_zero, List.getElem_cons_succ, Act.put, List.setIfInBounds_toArray, List.set_cons_zero, List.set_cons_succ]
      refine wpAnyH_ready (rs := [7]) (by kernel_rfl) (by simp) ?_
      refine AllReadyH.cons (o := _) rfl (fun K hK => ?_) AllReadyH.nil
      rw [if_pos (by rfl)]
      try simp only [List.getElem_toArray, List.getElem_cons_zero, List.getElem_cons_succ]
      go_simp
      refine (HWHY.out _ HFD.out).mono ?_
      rintro r2 w2 ⟨rfl, hf2⟩
      have HG2 := Lib.hid (HFD.out.trans hf2)
      have HF2 := Lib.hid (HF.out.trans HG2.out)
      clear HWHY HFD hf2
      refine hK.out _ _ (FACT.out _ HG2.out) (fun hHeld2 => ?_)
      clear hK K
      try simp only [List.getElem_toArray, List.getElem_cons_zero, List.getElem_cons_succ, Act.put, List.setIfInBounds_toArray, List.set_cons_zero, List.set_cons_succ]
      refine wpAnyH_take (i := 8) (oi := _) (v := ?vb8) rfl (by kernel_rfl) (by kernel_rfl) (by kernel_rfl) (fun _ _ _ h => h) (Or.inl ⟨by rfl, ?yb8⟩) (by assumption) ?rb8
      case yb8 => intro w1 hSw; obtain ⟨s1, s2, s3, s4, s5, s6, s7⟩ := hSw; rw [Nat.add_zero] at s1; go_simp; try with_reducible rfl
      try simp only [List.getElem_toArray, List.getElem_cons_zero, List.getElem_cons_succ, Act.put, List.setIfInBounds_toArray, List.set_cons_zero, List.set_cons_succ]
      refine wpAnyH_done (by kernel_rfl) ?_ _
      clear FACT
      by_cases hc0 : c = 0
      · have hzt : z.toList.isEmpty = true := by rw [hze, hc0]; rfl
        have HC0 := Lib.hid hc0
        clear hc0 hze
        have HWS := Lib.hid (wrap_succ i (by have := HN.out; omega))
        go_wp2
        go_roundw
        case rel =>
          refine ⟨i + 1, by omega, by go_num, fun j e' hj he' => ?_, HF2.out⟩
          by_cases ej : j = i
          · subst ej
            rw [HE.out] at he'
            cases he'
            rw [HC.out, HC0.out]
          · exact HG.out j e' (by omega) he'
        case measure => clear HWS; simp [intOf]; omega
      · have hzt : z.toList.isEmpty = false := by rw [hze]; simp [hc0]
        have HC0 := Lib.hid hc0
        clear hc0 hze
        have HWS := Lib.hid (wrap_succ' i (by have := HN.out; omega))
        go_wp2
        go_ret2
        refine ⟨HF2.out, .inr ⟨i, e, HE.out, HG.out, ?_, ?_⟩⟩
        · rw [HC.out]; exact HC0.out
        · rw [HC.out, HZ.out]; rfl
    · obtain rfl : i = n := by omega
      have p0 : decide ((i : Int) < i) = false := decide_eq_false (by omega)
      go_wp2
      go_ret2
      exact ⟨HF.out, .inl ⟨by rw [HNL.out]; exact HG.out, rfl⟩⟩
end Go.Proofs.YtbdjnfkhdphhoaaDoor
