/- What is open of a history, plain: the Ids, sorted; how many there are. -/
import Derived.Test.YtbdjnfkhdphhoaaDoorN3
import Derived.Test.YtbdjnfkhdphhoaaDoorZ4
set_option linter.unusedVariables false
set_option linter.unusedSimpArgs false
namespace Go.Proofs.YtbdjnfkhdphhoaaDoor
open Go.RowKit Go.Maps
theorem srt_eq {a b : List Int} (ha : a.Pairwise (· ≤ ·)) (hb : b.Pairwise (· ≤ ·)) (h : a.Perm b) : a = b :=
  List.Perm.eq_of_pairwise (fun _ _ _ _ h1 h2 => Int.le_antisymm h1 h2) ha hb h
def srtI (xs : List Int) : List Int := xs.mergeSort fun x y => decide (x ≤ y)
theorem srtI_pw (xs : List Int) : (srtI xs).Pairwise (· ≤ ·) := by
  have := List.pairwise_mergeSort (le := fun (x y : Int) => decide (x ≤ y)) (by intro a b c; simp; omega) (by intro a b; simp; omega) xs
  exact this.imp (by simp)
theorem srtI_perm (xs : List Int) : (srtI xs).Perm xs := List.mergeSort_perm _ _
theorem ins_pw {xs : List Int} {x : Int} {n : Nat} (h : xs.Pairwise (· ≤ ·)) (h1 : ∀ j y, j < n → xs[j]? = some y → y < x) (h2 : ∀ y, xs[n]? = some y → x ≤ y) : (xs.take n ++ [x] ++ xs.drop n).Pairwise (· ≤ ·) := by
  have hsp : (xs.take n ++ xs.drop n).Pairwise (· ≤ ·) := by rw [List.take_append_drop]; exact h
  obtain ⟨p1, p2, p3⟩ := List.pairwise_append.1 hsp
  have hb : ∀ a ∈ xs.take n, a ≤ x := fun a ha => by
    obtain ⟨j, hj⟩ := List.getElem?_of_mem ha
    rw [List.getElem?_take] at hj
    split at hj
    · exact Int.le_of_lt (h1 j a (by assumption) hj)
    · cases hj
  have ha : ∀ b ∈ xs.drop n, x ≤ b := fun b hb => by
    cases hd : xs.drop n with
    | nil => rw [hd] at hb; cases hb
    | cons c r =>
      have hc : xs[n]? = some c := by
        have := List.getElem?_drop (xs := xs) (i := n) (j := 0)
        rw [hd] at this
        simpa using this.symm
      have hxc := h2 c hc
      rw [hd] at hb p2
      rcases List.mem_cons.1 hb with rfl | hb
      · exact hxc
      · exact Int.le_trans hxc ((List.pairwise_cons.1 p2).1 b hb)
  rw [List.append_assoc]
  refine List.pairwise_append.2 ⟨p1, ?_, fun a h4 b h5 => ?_⟩
  · show List.Pairwise _ (x :: xs.drop n)
    exact List.pairwise_cons.2 ⟨ha, p2⟩
  · rcases List.mem_cons.1 h5 with rfl | h5
    · exact hb a h4
    · exact p3 a h4 b h5
theorem ins_perm (xs : List Int) (x : Int) (n : Nat) : (xs.take n ++ [x] ++ xs.drop n).Perm (xs ++ [x]) := by
  have h1 : (xs.take n ++ [x] ++ xs.drop n).Perm (xs.take n ++ (xs.drop n ++ [x])) := by
    rw [List.append_assoc]
    exact List.Perm.append_left _ List.perm_append_comm
  rw [← List.append_assoc, List.take_append_drop] at h1
  exact h1
theorem rise_of {xs : List Int} (h : xs.Pairwise (· ≤ ·)) (hn : xs.Nodup) (i : Nat) (x y : Int) (hx : xs[i]? = some x) (hy : xs[i + 1]? = some y) : x < y := by
  obtain ⟨h1, rfl⟩ := List.getElem?_eq_some_iff.1 hx
  obtain ⟨h2, rfl⟩ := List.getElem?_eq_some_iff.1 hy
  have a := List.pairwise_iff_getElem.1 h i (i + 1) h1 h2 (by omega)
  have b := List.pairwise_iff_getElem.1 hn i (i + 1) h1 h2 (by omega)
  omega
theorem count_one {α : Type} (L : List α) (hL : L.Nodup) (p q : α → Bool) (x0 : α) (hx : x0 ∈ L) (h0 : p x0 = true) (hd : ∀ x, x ∈ L → q x = (p x && @decide (x ≠ x0) (Classical.propDecidable _))) : (L.filter q).length + 1 = (L.filter p).length := by
  induction L with
  | nil => cases hx
  | cons a L ih =>
    obtain ⟨hna, hnd⟩ := List.nodup_cons.1 hL
    by_cases ha : a = x0
    · subst ha
      have hq : q a = false := by rw [hd a (by simp)]; simp
      have : L.filter q = L.filter p := List.filter_congr fun x hxL => by
        rw [hd x (by simp [hxL])]
        have : x ≠ a := fun e => hna (e ▸ hxL)
        simp [this]
      rw [List.filter_cons, List.filter_cons, hq, h0, this]; simp
    · have hx' : x0 ∈ L := by rcases List.mem_cons.1 hx with h | h; exact absurd h.symm ha; exact h
      have ih := ih hnd hx' (fun x h => hd x (by simp [h]))
      have hqa : q a = p a := by rw [hd a (by simp)]; simp [ha]
      rw [List.filter_cons, List.filter_cons, hqa]
      cases p a <;> simp <;> omega
theorem filter3 {α : Type} (L : List α) (p : α → Bool) (c : α → Nat) (h : ∀ x, x ∈ L → p x = true → c x < 3) : (L.filter fun x => p x && (c x == 0)).length + (L.filter fun x => p x && (c x == 1)).length + (L.filter fun x => p x && (c x == 2)).length = (L.filter p).length := by
  induction L with
  | nil => rfl
  | cons a L ih =>
    have ih := ih (fun x hx => h x (by simp [hx]))
    have ha := h a (by simp)
    rw [List.filter_cons, List.filter_cons, List.filter_cons, List.filter_cons]
    cases hp : p a with
    | false => simpa using ih
    | true =>
      have := ha hp
      by_cases h0 : c a = 0
      · simp [h0]; omega
      by_cases h1 : c a = 1
      · simp [h1]; omega
      have h2 : c a = 2 := by omega
      simp [h2]; omega
theorem nodup_filter {α : Type} {L : List α} (h : L.Nodup) (p : α → Bool) : (L.filter p).Nodup := h.sublist List.filter_sublist
theorem nodup_map {α β : Type} {L : List α} (f : α → β) (h : L.Nodup) (hf : ∀ x ∈ L, ∀ y ∈ L, f x = f y → x = y) : (L.map f).Nodup := by
  refine List.pairwise_map.2 (h.imp_of_mem fun {a b} ha hb hab e => hab (hf a ha b hb e))
theorem rOpen_kind {l : List Ev} {x : Int} (h : rOpen l x = true) : rKind l x = 7 ∨ rKind l x = 12 ∨ rKind l x = 17 := by
  unfold rOpen at h
  by_cases h7 : rKind l x = 7
  · exact .inl h7
  rw [if_neg h7] at h
  by_cases h12 : rKind l x = 12
  · exact .inr (.inl h12)
  rw [if_neg h12] at h
  by_cases h17 : rKind l x = 17
  · exact .inr (.inr h17)
  rw [if_neg h17] at h
  cases h
def inC (l : List Ev) (c i : Nat) : Bool := rOpen l ((i : Int) + 1) && (cls (rKind l ((i : Int) + 1)) == c)
def idsO (l : List Ev) (c : Nat) : List Int := ((List.range l.length).filter (inC l c)).map fun (i : Nat) => idAt l ((i : Int) + 1)
def inK (l : List Ev) (k : Int) (i : Nat) : Bool := (rKind l ((i : Int) + 1) == k) && rOpen l ((i : Int) + 1)
def rIds (l : List Ev) (k : Int) (n : Nat) : List Int := ((List.range n).filter (inK l k)).map fun (i : Nat) => idAt l ((i : Int) + 1)
theorem rIds_succ (l : List Ev) (k : Int) (n : Nat) : rIds l k (n + 1) = if inK l k n = true then rIds l k n ++ [idAt l ((n : Int) + 1)] else rIds l k n := by
  unfold rIds
  rw [List.range_succ, List.filter_append, List.map_append]
  by_cases h : inK l k n = true
  · rw [if_pos h]; simp [h]
  · rw [if_neg h]; simp [h]
theorem rIds_all (l : List Ev) (k : Int) (c : Nat) (h : (k = 7 ∧ c = 0) ∨ (k = 12 ∧ c = 1) ∨ (k = 17 ∧ c = 2)) : rIds l k l.length = idsO l c := by
  unfold rIds idsO
  congr 1
  refine List.filter_congr fun i _ => ?_
  unfold inK inC
  cases ho : rOpen l ((i : Int) + 1) with
  | false => simp
  | true =>
    rcases rOpen_kind ho with hk | hk | hk <;> rcases h with ⟨rfl, rfl⟩ | ⟨rfl, rfl⟩ | ⟨rfl, rfl⟩ <;> rw [hk] <;> rfl
theorem got_ids {l : List Ev} (hg : Good l l.length) {left : Lit → Bool} {c : Nat} {xs : List Int} (h : Got (feed hi0 l) left c xs) (hl : ∀ p v, (feed hi0 l).kinds p = some v → left (.int .i64 p) = false) : xs.Perm (idsO l c) := by
  have hI := (good_inv _ l rfl hg).1
  obtain ⟨ps, h1, h2, rfl⟩ := h
  have hm : ∀ p, p ∈ ps ↔ rOpen l p = true ∧ cls (rKind l p) = c := fun p => by
    rw [h2]
    constructor
    · rintro ⟨⟨v, h3, h4⟩, _⟩
      rw [hI.kd] at h3
      by_cases ho : rOpen l p = true
      · rw [if_pos ho] at h3
        cases h3
        exact ⟨ho, h4⟩
      · rw [if_neg ho] at h3; cases h3
    · rintro ⟨ho, h4⟩
      have h3 : (feed hi0 l).kinds p = some (rKind l p) := by rw [hI.kd, if_pos ho]
      exact ⟨⟨_, h3, h4⟩, hl _ _ h3⟩
  have hp : ps.Perm (((List.range l.length).filter (inC l c)).map fun (i : Nat) => (i : Int) + 1) := by
    refine (List.perm_ext_iff_of_nodup h1 (nodup_map _ (nodup_filter List.nodup_range _) (fun x _ y _ e => by omega))).2 fun p => ?_
    rw [hm, List.mem_map]
    constructor
    · rintro ⟨ho, h4⟩
      have := open_in ho
      refine ⟨(p - 1).toNat, List.mem_filter.2 ⟨List.mem_range.2 (by omega), ?_⟩, by omega⟩
      have e : (((p - 1).toNat : Nat) : Int) + 1 = p := by omega
      unfold inC
      rw [e, ho, h4]; simp
    · rintro ⟨i, hi, rfl⟩
      have := (List.mem_filter.1 hi).2
      unfold inC at this
      simpa using this
  have := hp.map fun p => ((feed hi0 l).ids p).getD 0
  refine this.trans ?_
  rw [List.map_map]
  refine List.Perm.of_eq ?_
  refine List.map_congr_left fun i hi => ?_
  have := (List.mem_filter.1 hi).2
  unfold inC at this
  simp only [Bool.and_eq_true] at this
  exact hI.id _ this.1
/-- no two of a kind have one Id -/
theorem good_uniq : ∀ (n : Nat) (l : List Ev), l.length = n → Good l l.length → ∀ x y, rOpen l x = true → rOpen l y = true → rKind l x = rKind l y → idAt l x = idAt l y → x = y
  | 0, l, hn, _ => fun x y hx => by
    have : l = [] := List.eq_nil_of_length_eq_zero hn
    subst this
    have := open_in hx
    simp at this; omega
  | n + 1, l, hn, hg => by
    rcases List.eq_nil_or_concat l with rfl | ⟨l', e, hle⟩
    · cases hn
    rw [List.concat_eq_append] at hle
    subst hle
    have hf := hg l'.length e (by simp) (by simp)
    rw [List.take_left' rfl] at hf
    have hg' : Good l' l'.length := fun j x hj hx => by
      have := hg j x (by simp; omega) (by rw [List.getElem?_append_left hj]; exact hx)
      rw [List.take_append_of_le_length (by omega)] at this
      exact this
    have ih := good_uniq n l' (by simpa using hn) hg'
    have hI := (good_inv _ l' rfl hg').1
    have hin := ref_in (show rRefs l' e = true by rw [← hI.refs]; exact (fault_none hf).2.1) (rLast_le l' 2)
    have old : ∀ x, x ≠ (l'.length : Int) + 1 → rOpen (l' ++ [e]) x = true → rOpen l' x = true ∧ rKind (l' ++ [e]) x = rKind l' x ∧ idAt (l' ++ [e]) x = idAt l' x := fun x hx ho => by
      rw [rOpen_snoc hI.rf hin.2 hx, Bool.and_eq_true] at ho
      exact ⟨ho.1, by rw [rKind_snoc, if_neg hx], by rw [idAt_snoc, if_neg hx]⟩
    have new : ∀ x, x ≠ (l'.length : Int) + 1 → rOpen (l' ++ [e]) x = true → rOpen (l' ++ [e]) ((l'.length : Int) + 1) = true → rKind (l' ++ [e]) x = rKind (l' ++ [e]) ((l'.length : Int) + 1) → idAt (l' ++ [e]) x = idAt (l' ++ [e]) ((l'.length : Int) + 1) → False := fun x hx ho hn hk hid => by
      obtain ⟨o1, o2, o3⟩ := old x hx ho
      rw [o2, rKind_snoc, if_pos rfl] at hk
      rw [o3, idAt_snoc, if_pos rfl] at hid
      have hkk := rOpen_kind o1
      rw [hk] at hkk
      have hu : usesB (feed hi0 l') e.k e.id = true := usesB_true ⟨x, by rw [hI.kd, if_pos o1, hk], by rw [hI.id x o1, hid]⟩
      have hne : faultC (feed hi0 l') e ≠ 0 := by
        unfold faultC
        repeat' split
        all_goals first | (intro h; cases h; done) | skip
        rename_i h7
        exact absurd ⟨hkk, hu⟩ h7
      exact hne hf
    intro x y hx hy hk hid
    by_cases ex : x = (l'.length : Int) + 1
    · by_cases ey : y = (l'.length : Int) + 1
      · rw [ex, ey]
      · subst ex
        exact (new y ey hy hx hk.symm hid.symm).elim
    · by_cases ey : y = (l'.length : Int) + 1
      · subst ey
        exact (new x ex hx hy hk hid).elim
      · obtain ⟨a1, a2, a3⟩ := old x ex hx
        obtain ⟨b1, b2, b3⟩ := old y ey hy
        exact ih x y a1 b1 (by rw [← a2, ← b2]; exact hk) (by rw [← a3, ← b3]; exact hid)
theorem idsO_nodup {l : List Ev} (hg : Good l l.length) (c : Nat) (hc : c < 3) : (idsO l c).Nodup := by
  refine nodup_map _ (nodup_filter List.nodup_range _) fun x hx y hy e => ?_
  have hx := (List.mem_filter.1 hx).2
  have hy := (List.mem_filter.1 hy).2
  unfold inC at hx hy
  simp only [Bool.and_eq_true, beq_iff_eq] at hx hy
  have hk : rKind l ((x : Int) + 1) = rKind l ((y : Int) + 1) := by
    have h1 := hx.2.trans hy.2.symm
    rcases rOpen_kind hx.1 with a | a | a <;> rcases rOpen_kind hy.1 with b | b | b <;> rw [a, b] at h1 ⊢ <;> first | rfl | (exact absurd h1 (by decide))
  have := good_uniq _ l rfl hg _ _ hx.1 hy.1 hk e
  omega
/-- by how many more are open -/
def moreE (e : Ev) : Int := if e.k = 7 ∨ e.k = 12 ∨ e.k = 17 then 1 else if e.k = 9 ∨ e.k = 10 ∨ e.k = 11 ∨ e.k = 13 ∨ e.k = 14 ∨ e.k = 18 then -1 else 0
def netL (l : List Ev) : Int := (l.map moreE).sum
def cntO (l : List Ev) : Nat := ((List.range l.length).filter fun (i : Nat) => rOpen l ((i : Int) + 1)).length
theorem cnt_parts (l : List Ev) : (idsO l 0).length + (idsO l 1).length + (idsO l 2).length = cntO l := by
  unfold idsO cntO
  simp only [List.length_map]
  exact filter3 (List.range l.length) (fun i => rOpen l ((i : Int) + 1)) (fun i => cls (rKind l ((i : Int) + 1))) fun x _ _ => cls_lt _
theorem dead_one {l : List Ev} {s : Hi} (hI : Inv l s) {e : Ev} (hr : rRefs l e = true) (hk : e.k = 9 ∨ e.k = 10 ∨ e.k = 11 ∨ e.k = 13 ∨ e.k = 14 ∨ e.k = 18) : ∃ x0, rOpen l x0 = true ∧ ∀ x, rOpen l x = true → (dead l e x = true ↔ x = x0) := by
  by_cases h9 : e.k = 9 ∨ e.k = 10 ∨ e.k = 11
  · obtain ⟨a, b⟩ := refs_9 h9 hr
    obtain ⟨c, d⟩ := hI.wk _ a
    have hin := kind_in (l := l) (x := e.ref) (by omega)
    refine ⟨_, b, fun x hx => ?_⟩
    have q9 : ([9, 10, 11].any (fun k => e.k == k)) = true := by rcases h9 with h | h | h <;> rw [h] <;> rfl
    have q13 : ([13, 14].any (fun k => e.k == k)) = false := by rcases h9 with h | h | h <;> rw [h] <;> rfl
    have q18 : ([18].any (fun k => e.k == k)) = false := by rcases h9 with h | h | h <;> rw [h] <;> rfl
    unfold dead
    rw [q9, q13, q18]
    simp only [Bool.true_and, Bool.false_and, Bool.and_false, Bool.or_false, Bool.and_eq_true, beq_iff_eq, bne_iff_ne, ne_eq]
    constructor
    · rintro ⟨h7, h1, h2⟩
      obtain ⟨ev, e1, e2, e3, e4, e5⟩ := rWorks_spec l x h2
      have := refAt_ev (l := l) (x := rWorks l x) (by omega)
      rw [e1] at this
      rw [h1, this]; exact e3.symm
    · rintro rfl
      exact ⟨c, d.symm, by rw [d]; omega⟩
  by_cases h13 : e.k = 13 ∨ e.k = 14
  · obtain ⟨a, b⟩ := refs_13 h13 hr
    refine ⟨_, b, fun x hx => ?_⟩
    have q9 : ([9, 10, 11].any (fun k => e.k == k)) = false := by rcases h13 with h | h <;> rw [h] <;> rfl
    have q13 : ([13, 14].any (fun k => e.k == k)) = true := by rcases h13 with h | h <;> rw [h] <;> rfl
    have q18 : ([18].any (fun k => e.k == k)) = false := by rcases h13 with h | h <;> rw [h] <;> rfl
    unfold dead
    rw [q9, q13, q18]
    simp only [Bool.true_and, Bool.false_and, Bool.and_false, Bool.or_false, Bool.false_or, Bool.and_eq_true, beq_iff_eq]
    exact ⟨fun h => h.2.symm, fun h => by subst h; exact ⟨a, rfl⟩⟩
  have h18 : e.k = 18 := by omega
  obtain ⟨a, b⟩ := refs_18 h18 hr
  refine ⟨_, b, fun x hx => ?_⟩
  have q9 : ([9, 10, 11].any (fun k => e.k == k)) = false := by rw [h18]; rfl
  have q13 : ([13, 14].any (fun k => e.k == k)) = false := by rw [h18]; rfl
  have q18 : ([18].any (fun k => e.k == k)) = true := by rw [h18]; rfl
  unfold dead
  rw [q9, q13, q18]
  simp only [Bool.true_and, Bool.false_and, Bool.and_false, Bool.or_false, Bool.false_or, Bool.and_eq_true, beq_iff_eq]
  exact ⟨fun h => h.2.symm, fun h => by subst h; exact ⟨a, rfl⟩⟩
theorem cnt_good : ∀ (n : Nat) (l : List Ev), l.length = n → Good l l.length → (cntO l : Int) = netL l
  | 0, l, hn, _ => by
    have : l = [] := List.eq_nil_of_length_eq_zero hn
    subst this
    rfl
  | n + 1, l, hn, hg => by
    rcases List.eq_nil_or_concat l with rfl | ⟨l', e, hle⟩
    · cases hn
    rw [List.concat_eq_append] at hle
    subst hle
    have hf := hg l'.length e (by simp) (by simp)
    rw [List.take_left' rfl] at hf
    have hg' : Good l' l'.length := fun j x hj hx => by
      have := hg j x (by simp; omega) (by rw [List.getElem?_append_left hj]; exact hx)
      rw [List.take_append_of_le_length (by omega)] at this
      exact this
    have ih := cnt_good n l' (by simpa using hn) hg'
    have hI := (good_inv _ l' rfl hg').1
    have hr : rRefs l' e = true := by rw [← hI.refs]; exact (fault_none hf).2.1
    have hin := ref_in hr (rLast_le l' 2)
    have hnet : netL (l' ++ [e]) = netL l' + moreE e := by simp [netL]
    have hsn : ∀ i ∈ List.range l'.length, rOpen (l' ++ [e]) ((i : Int) + 1) = (rOpen l' ((i : Int) + 1) && !dead l' e ((i : Int) + 1)) := fun i hi => rOpen_snoc hI.rf hin.2 (by have := List.mem_range.1 hi; omega)
    have hc : cntO (l' ++ [e]) = ((List.range l'.length).filter fun (i : Nat) => rOpen l' ((i : Int) + 1) && !dead l' e ((i : Int) + 1)).length + (if e.k = 7 ∨ e.k = 12 ∨ e.k = 17 then 1 else 0) := by
      unfold cntO
      rw [show (l' ++ [e]).length = l'.length + 1 by simp, List.range_succ, List.filter_append, List.length_append, List.filter_congr hsn]
      congr 1
      rw [List.filter_cons, rOpen_new hI.rf hin.2]
      by_cases h : e.k = 7 ∨ e.k = 12 ∨ e.k = 17
      · rw [if_pos h]
        have : (e.k == 7 || (e.k == 12 || e.k == 17)) = true := by simp; exact h
        rw [this]; rfl
      · rw [if_neg h]
        have : (e.k == 7 || (e.k == 12 || e.k == 17)) = false := by simp; omega
        rw [this]; rfl
    rw [hnet, hc, ← ih]
    by_cases hk : e.k = 9 ∨ e.k = 10 ∨ e.k = 11 ∨ e.k = 13 ∨ e.k = 14 ∨ e.k = 18
    · obtain ⟨x0, h1, h2⟩ := dead_one hI hr hk
      have hin0 := open_in h1
      have := count_one (List.range l'.length) List.nodup_range (fun i => rOpen l' ((i : Int) + 1)) (fun i => rOpen l' ((i : Int) + 1) && !dead l' e ((i : Int) + 1)) (x0 - 1).toNat (List.mem_range.2 (by omega)) (by rw [show (((x0 - 1).toNat : Nat) : Int) + 1 = x0 by omega]; exact h1) (fun x hx => by
        cases ho : rOpen l' ((x : Int) + 1) with
        | false => rfl
        | true =>
          have h3 := h2 _ ho
          rw [Bool.true_and, Bool.true_and]
          by_cases hd : dead l' e ((x : Int) + 1) = true
          · rw [hd]
            have := h3.1 hd
            have hx0 : x = (x0 - 1).toNat := by omega
            simp [hx0]
          · have hd' : dead l' e ((x : Int) + 1) = false := by simpa using hd
            have hx0 : x ≠ (x0 - 1).toNat := fun e => hd (h3.2 (by omega))
            rw [hd', @decide_eq_true _ (Classical.propDecidable _) hx0]; rfl)
      have hm : moreE e = -1 := by unfold moreE; rw [if_neg (by omega), if_pos hk]
      rw [if_neg (by omega), hm]
      unfold cntO
      omega
    · have : ((List.range l'.length).filter fun (i : Nat) => rOpen l' ((i : Int) + 1) && !dead l' e ((i : Int) + 1)) = (List.range l'.length).filter fun (i : Nat) => rOpen l' ((i : Int) + 1) := List.filter_congr fun i _ => by rw [dead_no hk]; simp
      rw [this]
      unfold cntO moreE
      rw [if_neg (show ¬ (e.k = 9 ∨ e.k = 10 ∨ e.k = 11 ∨ e.k = 13 ∨ e.k = 14 ∨ e.k = 18) from hk)]
      split <;> simp
/-- what both tell of one class -/
def tells (l : List Ev) (c : Nat) : List Int := srtI (idsO l c)
theorem tells_of {l : List Ev} (hg : Good l l.length) {left : Lit → Bool} {c : Nat} {xs : List Int} (h : Got (feed hi0 l) left c xs) (hl : ∀ p v, (feed hi0 l).kinds p = some v → left (.int .i64 p) = false) : srtI xs = tells l c :=
  srt_eq (srtI_pw _) (srtI_pw _) (((srtI_perm _).trans (got_ids hg h hl)).trans (srtI_perm _).symm)
theorem tells_ref {l : List Ev} {k : Int} {c : Nat} (h : (k = 7 ∧ c = 0) ∨ (k = 12 ∧ c = 1) ∨ (k = 17 ∧ c = 2)) {xs : List Int} (hs : xs.Pairwise (· ≤ ·)) (hp : xs.Perm (rIds l k l.length)) : xs = tells l c :=
  srt_eq hs (srtI_pw _) ((rIds_all l k c h ▸ hp).trans (srtI_perm _).symm)
theorem tells_rise {l : List Ev} (hg : Good l l.length) (c : Nat) (hc : c < 3) (i : Nat) (x y : Int) (hx : (tells l c)[i]? = some x) (hy : (tells l c)[i + 1]? = some y) : x < y :=
  rise_of (srtI_pw _) ((srtI_perm _).nodup_iff.2 (idsO_nodup hg c hc)) i x y hx hy
theorem tells_count {l : List Ev} (hg : Good l l.length) : (((tells l 0).length + (tells l 1).length + (tells l 2).length : Nat) : Int) = netL l := by
  unfold tells
  rw [(srtI_perm _).length_eq, (srtI_perm _).length_eq, (srtI_perm _).length_eq, cnt_parts, cnt_good _ l rfl hg]
end Go.Proofs.YtbdjnfkhdphhoaaDoor
