/- The walk of MatchKeeps. -/
import Derived.Test.YtklfppjejndclaaC
import Derived.Test.YtklfppjejndclaaQ
import Derived.Deep.Cut
set_option linter.unusedVariables false
set_option linter.unusedSimpArgs false
namespace Go.Proofs.Ytklfppjejndclaa
open Go.RowKit Go.Maps
abbrev jf : Nat → Int := fun j => (j : Int)
def Rz (n : Nat) (d x : Int) : List Int := (Lr jf d n x).map jf
def Kz (n : Nat) (d b x : Int) : List Int := (Rz n d x).filter (fun t => t.tmod b != 0)
def sumK (n : Nat) (d b : Int) : Nat → Nat
  | 0 => 0
  | k + 1 => sumK n d b k + (Kz n d b k).length
theorem Rz_vi (n : Nat) (d x : Int) : (Lr jf d n x).map vi = zv (Rz n d x) := by
  unfold Rz zv
  rw [List.map_map]
  rfl
theorem Rz_mem {n : Nat} {d x t : Int} (h : t ∈ Rz n d x) : 0 ≤ t ∧ t < n ∧ t.tmod d = x := by
  obtain ⟨j, hj, rfl⟩ := List.mem_map.1 h
  have := Lr_mem hj
  exact ⟨by show (0 : Int) ≤ (j : Int); omega, by show (j : Int) < n; omega, this.2⟩
theorem Rz_rise (n : Nat) (d x : Int) : (Rz n d x).Pairwise (· < ·) := by
  unfold Rz
  refine List.pairwise_map.2 ?_
  have hp : (Lr jf d n x).Pairwise (· < ·) := List.Pairwise.filter _ List.pairwise_lt_range
  exact hp.imp (fun h => Int.ofNat_lt.2 h)
theorem Rz_len (n : Nat) (d x : Int) : (Rz n d x).length = (Lr jf d n x).length := by simp [Rz]
theorem Kz_mem {n : Nat} {d b x t : Int} (h : t ∈ Kz n d b x) : 0 ≤ t ∧ t < n ∧ t.tmod d = x ∧ (t.tmod b != 0) = true := by
  have := List.mem_filter.1 h
  obtain ⟨h1, h2, h3⟩ := Rz_mem this.1
  exact ⟨h1, h2, h3, this.2⟩
theorem Kz_rise (n : Nat) (d b x : Int) : (Kz n d b x).Pairwise (· < ·) := (Rz_rise n d x).filter _
theorem Kz_len (n : Nat) (d b x : Int) : (Kz n d b x).length ≤ (Lr jf d n x).length := by
  rw [← Rz_len]; exact List.length_filter_le _ _
theorem range_of {n : Nat} {d x : Int} (hd : 0 < d) (h : Rz n d x ≠ []) : 0 ≤ x ∧ x < d := by
  obtain ⟨t, ht⟩ := List.exists_mem_of_ne_nil _ h
  obtain ⟨h1, h2, rfl⟩ := Rz_mem ht
  exact ⟨Int.tmod_nonneg d h1, Int.tmod_lt_of_pos t hd⟩
theorem Kz_range {n : Nat} {d b x : Int} (hd : 0 < d) (h : Kz n d b x ≠ []) : 0 ≤ x ∧ x < d :=
  range_of hd (fun e => h (by unfold Kz; rw [e]; rfl))
theorem sumK_gap {n : Nat} {d b : Int} (a : Nat) : ∀ c, a ≤ c → (∀ y : Nat, a ≤ y → y < c → Kz n d b y = []) → sumK n d b c = sumK n d b a := by
  intro c
  induction c with
  | zero => intro h _; rw [show a = 0 by omega]
  | succ c ih =>
    intro h hk
    by_cases e : a = c + 1
    · rw [e]
    · show sumK n d b c + _ = _
      rw [ih (by omega) (fun y h1 h2 => hk y h1 (by omega)), hk c (by omega) (by omega)]
      rfl
theorem below_zero (n : Nat) (d : Int) (hd : 0 < d) : below jf d n 0 = 0 := by
  unfold below
  rw [List.length_eq_zero_iff, List.filter_eq_nil_iff]
  intro j _
  have : 0 ≤ (jf j).tmod d := Int.tmod_nonneg d (by show (0 : Int) ≤ (j : Int); omega)
  simp; omega
theorem sumK_le (n : Nat) (d b : Int) (hd : 0 < d) : ∀ k : Nat, sumK n d b k ≤ below jf d n k := by
  intro k
  induction k with
  | zero => exact Nat.zero_le _
  | succ k ih =>
    have := below_succ jf d n k
    have h2 := Kz_len n d b k
    show sumK n d b k + _ ≤ _
    push_cast
    omega
/-- where the next name stands -/
def pos (ks : List Int) (d : Int) (i : Nat) : Nat := ((ks[i]?).getD d).toNat
theorem ks_at {n : Nat} {d b : Int} {ks : List Int} (hd : 0 < d) (hm : ∀ x, x ∈ ks ↔ iKE.ok x ∧ zv (Kz n d b x) ≠ []) {i : Nat} {x : Int} (h : ks[i]? = some x) : 0 ≤ x ∧ x < d ∧ iKE.ok x ∧ Kz n d b x ≠ [] := by
  have h1 := (hm x).1 (List.mem_of_getElem? h)
  have h2 : Kz n d b x ≠ [] := fun e => h1.2 (by rw [e]; rfl)
  have := Kz_range hd h2
  exact ⟨this.1, this.2, h1.1, h2⟩
theorem Kz_out {n : Nat} {d b : Int} {ks : List Int} (hd : 0 < d) (hd2 : d ≤ 10) (hm : ∀ x, x ∈ ks ↔ iKE.ok x ∧ zv (Kz n d b x) ≠ []) {x : Int} (h : x ∉ ks) : Kz n d b x = [] := by
  apply Classical.byContradiction
  intro hne
  have h1 := Kz_range hd hne
  exact h ((hm x).2 ⟨wf_of (by omega) (by omega), fun e => hne (by unfold zv at e; exact List.map_eq_nil_iff.1 e)⟩)
theorem sum_start {n : Nat} {d b : Int} {ks : List Int} (hd : 0 < d) (hd2 : d ≤ 10) (hr : ks.Pairwise (· < ·)) (hm : ∀ x, x ∈ ks ↔ iKE.ok x ∧ zv (Kz n d b x) ≠ []) : sumK n d b (pos ks d 0) = 0 := by
  rw [sumK_gap 0 (pos ks d 0) (Nat.zero_le _) (fun y _ hy => Kz_out hd hd2 hm (fun hin => ?_))]
  · rfl
  · obtain ⟨j, hj⟩ := List.getElem?_of_mem hin
    cases ks with
    | nil => simp at hj
    | cons z zs =>
      unfold pos at hy
      simp at hy
      have h1 := ks_at hd hm (List.getElem?_cons_zero (a := z) (l := zs))
      cases j with
      | zero => simp at hj; omega
      | succ j =>
        simp at hj
        have := (List.pairwise_cons.1 hr).1 _ (List.mem_of_getElem? hj)
        omega
theorem sum_next {n : Nat} {d b : Int} {ks : List Int} (hd : 0 < d) (hd2 : d ≤ 10) (hr : ks.Pairwise (· < ·)) (hm : ∀ x, x ∈ ks ↔ iKE.ok x ∧ zv (Kz n d b x) ≠ []) {i : Nat} {x : Int} (h : ks[i]? = some x) :
    sumK n d b (pos ks d i) + (Kz n d b x).length = sumK n d b (pos ks d (i + 1)) := by
  obtain ⟨h1, h2, h3, h4⟩ := ks_at hd hm h
  have hp : pos ks d i = x.toNat := by unfold pos; rw [h]; rfl
  have hx : ((x.toNat : Nat) : Int) = x := Int.toNat_of_nonneg h1
  have hs : sumK n d b (x.toNat + 1) = sumK n d b x.toNat + (Kz n d b x).length := by show _ + (Kz n d b ((x.toNat : Nat) : Int)).length = _; rw [hx]
  have hpi := List.pairwise_iff_getElem.1 hr
  obtain ⟨hi, hix⟩ := List.getElem?_eq_some_iff.1 h
  have hle : x.toNat + 1 ≤ pos ks d (i + 1) := by
    unfold pos
    by_cases hl : i + 1 < ks.length
    · rw [List.getElem?_eq_getElem hl, Option.getD_some]
      have := hpi i (i + 1) hi hl (by omega)
      omega
    · rw [List.getElem?_eq_none (by omega), Option.getD_none]
      omega
  rw [hp, ← hs, sumK_gap (x.toNat + 1) (pos ks d (i + 1)) hle]
  intro y hy1 hy2
  refine Kz_out hd hd2 hm (fun hin => ?_)
  obtain ⟨j, hj⟩ := List.getElem?_of_mem hin
  obtain ⟨hj1, hj2⟩ := List.getElem?_eq_some_iff.1 hj
  have hji : i < j := by
    apply Nat.lt_of_not_le
    intro hle
    by_cases e : j = i
    · subst e; omega
    · have := hpi j i hj1 hi (by omega); omega
  by_cases hl : i + 1 < ks.length
  · have h5 : ks[i + 1] ≤ ks[j] := by
      by_cases e : j = i + 1
      · subst e; exact Int.le_refl _
      · have := hpi (i + 1) j hl hj1 (by omega); omega
    unfold pos at hy2
    rw [List.getElem?_eq_getElem hl, Option.getD_some] at hy2
    omega
  · omega
theorem sum_end (n : Nat) (d b : Int) {ks : List Int} : sumK n d b (pos ks d ks.length) = sumK n d b d.toNat := by
  unfold pos
  rw [List.getElem?_eq_none (Nat.le_refl _)]
  rfl
end Go.Proofs.Ytklfppjejndclaa
