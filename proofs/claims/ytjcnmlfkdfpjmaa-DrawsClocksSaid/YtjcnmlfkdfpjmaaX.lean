/- Next: the least tick of an alarm. -/
import Derived.Test.YtjcnmlfkdfpjmaaV
set_option linter.unusedVariables false
set_option linter.unusedSimpArgs false
namespace Go.Proofs.Ytjcnmlfkdfpjmaa
open Go.RowKit Go.Maps Go.Sort Go.Shelf
variable {W : World} {cb mb N : Nat} {now : Int} {F : Int → Option Int}
def Least (v : Int) (l : List Int) : Prop := v ∈ l ∧ ∀ t ∈ l, v ≤ t
theorem Least.step {v t : Int} {l : List Int} (h : Least v l) : Least (min v t) (l ++ [t]) := by
  refine ⟨?_, fun u hu => ?_⟩
  · rw [List.mem_append, List.mem_singleton]
    by_cases e : v ≤ t
    · rw [Int.min_eq_left e]; exact .inl h.1
    · rw [Int.min_eq_right (by omega)]; exact .inr rfl
  · rcases List.mem_append.1 hu with hu | hu
    · have := h.2 u hu; omega
    · rw [List.mem_singleton] at hu; omega
set_option maxRecDepth 100000 in
set_option maxHeartbeats 1000000 in
theorem min_any (W : World) (b n cp : Nat) (zs : List Int) (hn : zs.length = n) (h0 : 0 < n) (hb : n ≤ 1000000) (hc : ∀ (j : Nat) (x : Int), zs[j]? = some x → W.cell? ⟨b, j, none⟩ = some (.int .i64 x)) :
    Calls Try.prog 39 #[.slice (some ⟨b, 0, none⟩) n cp] W fun e W' => ∃ v, e = .returned (.int .i64 v) ∧ Least v zs ∧ W = W' := by
  obtain ⟨z0, hz0⟩ : ∃ z, zs[0]? = some z := ⟨_, List.getElem?_eq_getElem (by omega)⟩
  have c0 := hc 0 z0 hz0
  have p0 : decide ((n : Int) < 1) = false := decide_eq_false (by omega)
  have i0 : (0 : Int) < (n : Int) := by omega
  have HC := Lib.hid hc
  have HN := Lib.hid hn
  have HZ := Lib.hid hz0
  clear hc hn hz0
  go_enter Try.func39, Try.ntmps39
  go_wp2
  go_loopw [3, 4] (fun mv kv wr => ∃ (k : Nat) (m : Int), 1 ≤ k ∧ k ≤ n ∧ kv = .int .i64 k ∧ mv = .int .i64 m ∧ Least m (zs.take k) ∧ W = wr) (fun _ kv _ => n - (intOf kv).toNat)
  case atStart =>
    refine ⟨1, z0, by omega, by omega, rfl, rfl, ?_, rfl⟩
    have : zs.take 1 = [z0] := by
      have h := HZ.out
      cases zs with
      | nil => simp at h
      | cons a l => simp at h ⊢; exact h
    rw [this]
    exact ⟨by simp, by simp⟩
  case round =>
    obtain ⟨k, m, hk1, hk, rfl, rfl, hL, rfl⟩ := hrel
    by_cases hlt : k < n
    · have p1 : decide ((k : Int) < n) = true := decide_eq_true (by omega)
      obtain ⟨z, hz⟩ : ∃ z, zs[k]? = some z := ⟨_, List.getElem?_eq_getElem (by rw [HN.out]; exact hlt)⟩
      have ck := HC.out k z hz
      have i1 : (k : Int) < (n : Int) := by omega
      have HL : Hid (Least (min m z) (zs.take (k + 1))) := Lib.hid (by
        rw [List.take_add_one, hz]
        exact hL.step)
      clear hL hz
      go_wp2
      go_roundw
      case rel => exact ⟨k + 1, min m z, by omega, by omega, by go_num, rfl, HL.out, trivial⟩
      case measure => simp [intOf]; omega
    · obtain rfl : k = n := by omega
      have p1 : decide ((k : Int) < k) = false := decide_eq_false (by omega)
      rw [List.take_of_length_le (by rw [HN.out]; exact Nat.le_refl _)] at hL
      go_wp2
      go_ret
      exact ⟨m, rfl, hL, rfl⟩
/-- what Next tells -/
def NextOf (F : Int → Option Int) (v : Int) (q : Bool) : Prop :=
  (q = false ∧ v = 0 ∧ ∀ x, iKE.ok x → F x = none) ∨ (q = true ∧ (∃ x, iKE.ok x ∧ F x = some v) ∧ ∀ x t, iKE.ok x → F x = some t → v ≤ t)
theorem values_any (mb : Nat) (W : World) : Calls Try.prog 41 #[.map (some mb)] W fun e w' => e = .returned (.func (.func 46) #[] #[.pointer (some ⟨W.heap.size, 0, none⟩)]) ∧ w' = W.alloc (.cells #[.map (some mb)] 32) := by
  go_enter Try.func41, Try.ntmps41
  go_wp2
  go_ret
  exact ⟨rfl, rfl⟩
set_option maxRecDepth 100000 in
set_option maxHeartbeats 1000000 in
theorem next_clock (h : CK W cb mb now N F) (hN : N ≤ 500000) :
    Calls Try.prog 29 #[.pointer (some ⟨cb, 0, none⟩)] W fun e W' => ∃ v q, e = .returned (.tuple #[.int .i64 v, .bool q]) ∧ NextOf F v q ∧ Fr (fun _ => False) W W' := by
  have c1 := h.s.cell 1
  simp only [List.getElem?_toArray, List.getElem?_cons_zero, List.getElem?_cons_succ] at c1
  obtain ⟨c, hc, hM⟩ := h.m
  have hbl := hM.lt
  have hlen := hM.len Try.underlying32 3
  obtain ⟨D, hown, hsize, hD⟩ := hM
  obtain ⟨k1, k2, k3⟩ := keys_of under3 hown
  have hmem : ∀ x, x ∈ intKeys D ↔ iKE.ok x ∧ F x ≠ none := fun x => by
    rw [k3 x]
    refine and_congr_right fun hx => ?_
    have h1 := (hD x hx).1
    have h1' : Maps.has D (.int .i64 x) = ((F x).map (Value.int .i64)).isSome := h1
    rw [h1']
    cases F x <;> simp
  by_cases h0 : c = 0
  · subst h0
    have hnone : ∀ x, iKE.ok x → F x = none := fun x hx => by
      have hnil : intKeys D = [] := List.eq_nil_of_length_eq_zero (by omega)
      have := hmem x
      rw [hnil] at this
      cases hF : F x with
      | none => rfl
      | some t => exact absurd (this.2 ⟨hx, by rw [hF]; simp⟩) (by simp)
    have HN := Lib.hid hnone
    clear hnone hmem k1 k2 k3 hD hown hsize h
    go_enter Try.func29, Try.ntmps29
    go_wp2
    go_ret2
    exact ⟨0, false, rfl, .inl ⟨rfl, rfl, HN.out⟩, Fr.refl _ _⟩
  · have p0 : ((c : Int) == 0) = false := by rw [beq_eq_false_iff_ne]; omega
    have hmax : Maps.size D ≤ maxLen := by unfold maxLen; omega
    have hbytes : Maps.size D * 8 ≤ 140737488355328 := by omega
    have hseq : SeqGives Fence.wide 4 Try.prog 46 #[.pointer (some ⟨W.heap.size, 0, none⟩)] encZ (Vals F) (Maps.size D) (W.alloc (.cells #[.map (some mb)] 32)) :=
      vals_gives F 4 (by omega) W.heap.size mb c D hD _ (by simp) (by simp) (by
        obtain ⟨es, clock, hb, Ft, hs, hD⟩ := hown
        exact ⟨es, clock, (Below.heap_alloc _ _ mb hbl).trans hb, Ft, hs, hD⟩)
    have hcol := callsIn_wide.1 (AnyZI.collect_in Try.collect40 Fence.wide 6 trivial trivial rfl (by omega) 46 #[.pointer (some ⟨W.heap.size, 0, none⟩)] trivial (enters_of Try.func46 (by kernel_rfl) rfl) _ _ hmax hbytes _ hseq.bounded)
    change Calls Try.prog 40 _ _ _ at hcol
    have HC := Lib.hid hcol
    have hne : ∃ x, iKE.ok x ∧ F x ≠ none := by
      cases hk : intKeys D with
      | nil => rw [hk] at k2; simp at k2; omega
      | cons x l => exact ⟨x, (hmem x).1 (by rw [hk]; simp)⟩
    have HNE := Lib.hid hne
    have hsz : Maps.size D ≤ 500000 := by omega
    clear hne hcol hmem k1 k2 k3 hD hown hmax hbytes hseq h
    go_enter Try.func29, Try.ntmps29
    go_wp2_with (first | (go_at_call 41; refine (values_any _ _).mono ?_; rintro e w' ⟨rfl, rfl⟩) | fail)
    refine HC.out.mono ?_
    rintro e W2 ⟨v, ss, rfl, ⟨hV, hle⟩, hrow, hnil, hb2⟩
    obtain ⟨x, hx, hFx⟩ := HNE.out
    obtain ⟨t, ht⟩ := Option.ne_none_iff_exists'.1 hFx
    have hin : t ∈ ss := (hV t).2 ⟨x, hx, ht⟩
    have hfr : Fr (fun _ => False) W W2 := (Fr.alloc (fun _ => False) W _).trans ⟨hb2.os, hb2.tape, hb2.output, hb2.size, fun k hk _ => hb2.block k hk⟩
    obtain ⟨ao, cp, rfl, _, _, hr⟩ := row_form (l := ss) hrow
    have hpos : 0 < ss.length := List.length_pos_of_mem hin
    rcases hr with h1 | ⟨g, rfl, hg, hcell⟩
    · omega
    have HMN := Lib.hid (min_any W2 g ss.length cp ss rfl hpos (by omega) hcell)
    have HV := Lib.hid hV
    have HFR := Lib.hid hfr
    clear hV hrow hnil hb2 hFx ht hin hfr hcell HC
    go_wp2_with (go_at_call 39; refine HMN.out.mono ?_; rintro e w' ⟨m, rfl, hL, rfl⟩)
    go_ret2
    refine ⟨m, true, rfl, .inr ⟨rfl, (HV.out m).1 hL.1, fun y u hy hu => hL.2 u ((HV.out u).2 ⟨y, hy, hu⟩)⟩, HFR.out⟩
end Go.Proofs.Ytjcnmlfkdfpjmaa
