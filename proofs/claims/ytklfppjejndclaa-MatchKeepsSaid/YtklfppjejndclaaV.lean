/- The walk of MatchKeeps. -/
import Derived.Test.YtklfppjejndclaaU
set_option linter.unusedVariables false
set_option linter.unusedSimpArgs false
namespace Go.Proofs.Ytklfppjejndclaa
open Go.RowKit Go.Maps
def Lk (n : Nat) (d b k : Int) : Int → List Value := fun y => if y < k then zv (Kz n d b y) else zv (Rz n d y)
def Lp (n : Nat) (d b p : Int) : Int → List Value := fun y => if y < p then [] else zv (Kz n d b y)
def Lq (n : Nat) (d b x : Int) (j : Nat) : Int → List Value := fun y => if y < x then [] else if y = x then zv ((Kz n d b x).drop j) else zv (Kz n d b y)
theorem Rz_out {n : Nat} {d x : Int} (hd : 0 < d) (h : ¬ (0 ≤ x ∧ x < d)) : Rz n d x = [] :=
  Classical.byContradiction fun hne => h (range_of hd hne)
theorem Kz_nil {n : Nat} {d b x : Int} (h : Rz n d x = []) : Kz n d b x = [] := by unfold Kz; rw [h]; rfl
theorem zv_nil : zv [] = [] := rfl
theorem Lk_start (n : Nat) (d b : Int) (hd : 0 < d) (y : Int) : (Lr jf d n y).map vi = Lk n d b 0 y := by
  unfold Lk
  rw [Rz_vi]
  by_cases h : y < 0
  · have e := Rz_out (n := n) (d := d) (x := y) hd (by omega)
    rw [if_pos h, Kz_nil e, e]
  · rw [if_neg h]
theorem Lk_at (n : Nat) (d b k : Int) : Lk n d b k k = zv (Rz n d k) := by unfold Lk; rw [if_neg (by omega)]
theorem Lk_next (n : Nat) (d b k y : Int) : (if y = k then zv ((Rz n d k).filter (fun t => t.tmod b != 0)) else Lk n d b k y) = Lk n d b (k + 1) y := by
  unfold Lk
  by_cases h : y = k
  · subst h; rw [if_pos rfl, if_pos (by omega)]; rfl
  · rw [if_neg h]
    by_cases h2 : y < k
    · rw [if_pos h2, if_pos (by omega)]
    · rw [if_neg h2, if_neg (by omega)]
theorem Lk_end (n : Nat) (d b : Int) (hd : 0 < d) (y : Int) : Lk n d b d y = zv (Kz n d b y) := by
  unfold Lk
  by_cases h : y < d
  · rw [if_pos h]
  · have e := Rz_out (n := n) (d := d) (x := y) hd (by omega)
    rw [if_neg h, Kz_nil e, e]
theorem pos_int {n : Nat} {d b : Int} {ks : List Int} (hd : 0 < d) (hm : ∀ x, x ∈ ks ↔ iKE.ok x ∧ zv (Kz n d b x) ≠ []) (i : Nat) : ((pos ks d i : Nat) : Int) = (ks[i]?).getD d := by
  unfold pos
  cases h : ks[i]? with
  | none => simp; omega
  | some x =>
    have := ks_at hd hm h
    simp; omega
theorem gap {n : Nat} {d b : Int} {ks : List Int} (hd : 0 < d) (hd2 : d ≤ 10) (hr : ks.Pairwise (· < ·)) (hm : ∀ x, x ∈ ks ↔ iKE.ok x ∧ zv (Kz n d b x) ≠ []) (i : Nat) (hil : i ≤ ks.length) (y : Int) (hlo : ∀ x, 0 < i → ks[i - 1]? = some x → x < y) (hhi : y < (pos ks d i : Nat)) : Kz n d b y = [] := by
  refine Kz_out hd hd2 hm (fun hin => ?_)
  rw [pos_int hd hm] at hhi
  obtain ⟨j, hj⟩ := List.getElem?_of_mem hin
  obtain ⟨hj1, hj2⟩ := List.getElem?_eq_some_iff.1 hj
  have hpi := List.pairwise_iff_getElem.1 hr
  by_cases hji : j < i
  · by_cases hl : i - 1 < ks.length
    · have h4 := hlo ks[i - 1] (by omega) (List.getElem?_eq_getElem hl)
      by_cases e : j = i - 1
      · subst e; omega
      · have := hpi j (i - 1) hj1 hl (by omega); omega
    · omega
  · by_cases hl : i < ks.length
    · rw [List.getElem?_eq_getElem hl, Option.getD_some] at hhi
      by_cases e : j = i
      · subst e; omega
      · have := hpi i j hl hj1 (by omega); omega
    · omega
theorem Lp_start {n : Nat} {d b : Int} {ks : List Int} (hd : 0 < d) (hd2 : d ≤ 10) (hr : ks.Pairwise (· < ·)) (hm : ∀ x, x ∈ ks ↔ iKE.ok x ∧ zv (Kz n d b x) ≠ []) (y : Int) : Lk n d b d y = Lp n d b (pos ks d 0 : Nat) y := by
  rw [Lk_end n d b hd]
  unfold Lp
  by_cases h : y < (pos ks d 0 : Nat)
  · rw [if_pos h, gap hd hd2 hr hm 0 (Nat.zero_le _) y (fun _ h => by omega) h]; rfl
  · rw [if_neg h]
theorem Lq_start (n : Nat) (d b x : Int) (y : Int) : Lp n d b x y = Lq n d b x 0 y := by
  unfold Lp Lq
  by_cases h : y < x
  · rw [if_pos h, if_pos h]
  · rw [if_neg h, if_neg h]
    by_cases e : y = x
    · subst e; rw [if_pos rfl]; rfl
    · rw [if_neg e]
theorem Lq_at (n : Nat) (d b x : Int) (j : Nat) : Lq n d b x j x = zv ((Kz n d b x).drop j) := by
  unfold Lq; rw [if_neg (by omega), if_pos rfl]
theorem Lq_next (n : Nat) (d b x : Int) (j : Nat) (y : Int) : (if y = x then zv ((Kz n d b x).drop (j + 1)) else Lq n d b x j y) = Lq n d b x (j + 1) y := by
  unfold Lq
  by_cases e : y = x
  · subst e; rw [if_pos rfl, if_neg (by omega), if_pos rfl]
  · rw [if_neg e]
    by_cases h : y < x
    · rw [if_pos h, if_pos h]
    · rw [if_neg h, if_neg h, if_neg e, if_neg e]
theorem Lq_end {n : Nat} {d b : Int} {ks : List Int} (hd : 0 < d) (hd2 : d ≤ 10) (hr : ks.Pairwise (· < ·)) (hm : ∀ x, x ∈ ks ↔ iKE.ok x ∧ zv (Kz n d b x) ≠ []) {i : Nat} {x : Int} (h : ks[i]? = some x) (y : Int) :
    Lq n d b x (Kz n d b x).length y = Lp n d b (pos ks d (i + 1) : Nat) y := by
  obtain ⟨h1, h2, h3, h4⟩ := ks_at hd hm h
  have hx : x < (pos ks d (i + 1) : Nat) := by
    rw [pos_int hd hm]
    obtain ⟨hi, hix⟩ := List.getElem?_eq_some_iff.1 h
    by_cases hl : i + 1 < ks.length
    · rw [List.getElem?_eq_getElem hl, Option.getD_some]
      have := List.pairwise_iff_getElem.1 hr i (i + 1) hi hl (by omega)
      omega
    · rw [List.getElem?_eq_none (by omega), Option.getD_none]
      omega
  unfold Lq Lp
  by_cases hy : y < x
  · rw [if_pos hy, if_pos (by omega)]
  · rw [if_neg hy]
    by_cases e : y = x
    · subst e
      rw [if_pos rfl, if_pos hx, List.drop_length]; rfl
    · rw [if_neg e]
      by_cases hy2 : y < (pos ks d (i + 1) : Nat)
      · rw [if_pos hy2, gap hd hd2 hr hm (i + 1) (List.getElem?_eq_some_iff.1 h).1 y (fun z _ hz => by
          rw [Nat.add_sub_cancel, h] at hz
          obtain rfl := Option.some.inj hz
          omega) hy2]; rfl
      · rw [if_neg hy2]
theorem Lp_end {n : Nat} {d b : Int} {ks : List Int} (hd : 0 < d) (y : Int) : Lp n d b (pos ks d ks.length : Nat) y = [] := by
  have : ((pos ks d ks.length : Nat) : Int) = d := by
    unfold pos
    rw [List.getElem?_eq_none (Nat.le_refl _), Option.getD_none]
    omega
  rw [this]
  unfold Lp
  by_cases h : y < d
  · rw [if_pos h]
  · rw [if_neg h, Kz_nil (Rz_out (n := n) (d := d) (x := y) hd (by omega))]; rfl
def lastK (l : List Int) (j : Nat) : Int := match j with | 0 => -1 | j + 1 => (l[j]?).getD 0
theorem lastK_lt {n : Nat} {d b x t : Int} {j : Nat} (ht : (Kz n d b x)[j]? = some t) : lastK (Kz n d b x) j < t := by
  have hm := Kz_mem (List.mem_of_getElem? ht)
  cases j with
  | zero => show (-1 : Int) < t; omega
  | succ j =>
    obtain ⟨h1, h2⟩ := List.getElem?_eq_some_iff.1 ht
    show ((Kz n d b x)[j]?).getD 0 < t
    rw [List.getElem?_eq_getElem (by omega), Option.getD_some, ← h2]
    exact List.pairwise_iff_getElem.1 (Kz_rise n d b x) j (j + 1) (by omega) h1 (by omega)
end Go.Proofs.Ytklfppjejndclaa
