/- Names: the keys of the map, rising. -/
import Derived.Test.YtklfppjejndclaaK
import Derived.Test.YtklfppjejndclaaT
set_option linter.unusedVariables false
set_option linter.unusedSimpArgs false
namespace Go.Proofs.Ytklfppjejndclaa
open Go.RowKit Go.Maps Go.Sort Go.Shelf
theorem keys_of {P : Program} {k : TypeId} (hk : P.underlying k = some (.int .i64)) {W : World} {b c : Nat} {D : DataW Value} (hown : W.ownsMap P k rawR b c D) :
    (intKeys D).Nodup ∧ (intKeys D).length = Maps.size D ∧ ∀ x, x ∈ intKeys D ↔ (Lit.int .i64 x).wf = true ∧ Maps.has D (.int .i64 x) = true := by
  obtain ⟨es, hD, hpw, _⟩ := hown.entries (int_keyed hk)
  obtain ⟨es', hD', hko⟩ := hown.keysOf
  obtain rfl : es = es' := by rw [hD] at hD'; simpa using hD'
  have hwf := intKeys_wf hown hk
  subst hD
  have hk' : ∀ p ∈ es, ∃ x, p.1 = .int .i64 x := fun p hp => by obtain ⟨v, hv⟩ := hko p hp; obtain ⟨x, _, hx, _⟩ := Maps.keyOf_i64 hk hv; exact ⟨x, hx⟩
  refine ⟨?_, by simp [intKeys, Maps.size], fun x => ⟨fun hx => ⟨hwf x hx, ?_⟩, fun ⟨_, hx⟩ => ?_⟩⟩
  · show (es.map fun p => Go.intOf p.1).Nodup
    refine List.pairwise_map.2 (hpw.imp_of_mem fun {p q} hp' hq' hne e => hne ?_)
    obtain ⟨a, ha⟩ := hk' p hp'
    obtain ⟨b, hb⟩ := hk' q hq'
    rw [ha, hb] at e ⊢
    exact congrArg _ e
  · obtain ⟨p, hp, rfl⟩ := List.mem_map.1 hx
    obtain ⟨a, ha⟩ := hk' p hp
    rw [has_eq, List.any_eq_true]
    exact ⟨p, hp, by rw [ha]; simp [Lit.sameKey, Go.intOf]⟩
  · rw [has_eq, List.any_eq_true] at hx
    obtain ⟨p, hp, hs⟩ := hx
    obtain ⟨a, ha⟩ := hk' p hp
    rw [ha] at hs
    exact List.mem_map.2 ⟨p, hp, by rw [ha]; simpa [Lit.sameKey, Go.intOf] using hs⟩
theorem leI_sorted (l : List Int) : (l.mergeSort leI).Pairwise (· ≤ ·) := by
  have tr : ∀ a b c : Int, leI a b = true → leI b c = true → leI a c = true := fun a b c h1 h2 => by simp only [leI, decide_eq_true_eq] at *; exact Int.le_trans h1 h2
  have to : ∀ a b : Int, (leI a b || leI b a) = true := fun a b => by simp only [leI, Bool.or_eq_true, decide_eq_true_eq]; exact Int.le_total a b
  exact (List.pairwise_mergeSort tr to l).imp (fun h => by simpa [leI] using h)
theorem sorted_strict {l : List Int} (h : l.Nodup) : (l.mergeSort leI).Pairwise (· < ·) := by
  have h1 := leI_sorted l
  have h2 : (l.mergeSort leI).Nodup := (List.mergeSort_perm l leI).nodup_iff.2 h
  have h2' : (l.mergeSort leI).Pairwise (· ≠ ·) := h2
  exact (h1.and h2').imp (fun ⟨a, b⟩ => Int.lt_iff_le_and_ne.2 ⟨a, b⟩)
theorem sorts (m : Nat) : AnyZI.SortsIn Try.prog Try.sorted33_ren Fence.wide m :=
  ⟨fun blk off cap ss W hH hblk hsz => callsIn_wide.2 (AnyM.slices_Sort_int Try.sort43 blk off cap ss W hH hblk hsz),
   fun p cap W => callsIn_wide.2 (AnyM.slices_Sort_int_none Try.sort43 p cap W)⟩
set_option maxRecDepth 100000 in
set_option maxHeartbeats 1000000 in
theorem names_any (W : World) (sb mb : Nat) (most : Int) (N : Nat) (L : Int → List Value) (h : LS 55 W sb mb most N L) (hN : N ≤ 1000000) :
    Calls Try.prog 13 #[.pointer (some ⟨sb, 0, none⟩)] W fun e W' => ∃ (v : Value) (ks : List Int), e = .returned v ∧ W'.ownsRow W.heap.size 3 1 v ks.length (zv ks) ∧ ks.Pairwise (· < ·) ∧ (∀ x, x ∈ ks ↔ iKE.ok x ∧ L x ≠ []) ∧ ks.length ≤ N ∧ Below W.heap.size W W' := by
  have c1 := h.s.cell 1
  simp only [List.getElem?_toArray, List.getElem?_cons_zero, List.getElem?_cons_succ] at c1
  obtain ⟨c, F, hc, hM, hr⟩ := h.m
  have hbl := hM.lt
  obtain ⟨D, hown, hsize, hD⟩ := hM
  obtain ⟨k1, k2, k3⟩ := keys_of under3 hown
  have hmem : ∀ x, x ∈ intKeys D ↔ iKE.ok x ∧ L x ≠ [] := fun x => by
    rw [k3 x]
    refine and_congr_right fun hx => ?_
    have h1 := (hD x hx).1
    have h1' : Maps.has D (.int .i64 x) = (F x).isSome := h1
    rw [h1']
    rcases hr x hx with ⟨hF, h0⟩ | ⟨b, o, cap, hF, h0, _⟩
    · rw [hF, h0]; simp
    · rw [hF]; simp [h0]
  have hmax : Maps.size D ≤ maxLen := by unfold maxLen; omega
  have hbytes : Maps.size D * 8 ≤ 140737488355328 := by omega
  refine (callsIn_wide (n := 6)).1 ?_
  have hseq : SeqGives Fence.wide 2 Try.prog 44 #[.pointer (some ⟨W.heap.size, 0, none⟩)] encZ (fun ss => ss.Perm (intKeys D)) (Maps.size D) (W.alloc (.cells #[.map (some mb)] 53)) :=
    AnyZI.keys_gives (ρ := Try.keys34_ren) { Try.keys34 with } Fence.wide _ trivial rfl (by omega) W.heap.size mb c D _ (by simp) (by simp) (by
      obtain ⟨es, clock, hb, Ft, hs, hD⟩ := hown
      exact ⟨es, clock, (Below.heap_alloc _ _ mb hbl).trans hb, Ft, hs, hD⟩)
  have cK : ∀ mb W, CallsIn Fence.wide 5 Try.prog 34 #[.map mb] W fun e w' => e = .returned (.func (.func 44) #[] #[.pointer (some ⟨W.heap.size, 0, none⟩)]) ∧ w' = W.alloc (.cells #[.map mb] 53) := fun mb W => AnyZI.keys_in Try.keys34 Fence.wide 5 trivial rfl mb W
  have cS := AnyZI.sorted_in Try.sorted33 Fence.wide 5 trivial trivial trivial trivial rfl (by omega) (sorts _) (enters_of Try.func43 (by kernel_rfl) rfl) 44 #[.pointer (some ⟨W.heap.size, 0, none⟩)] trivial (enters_of Try.func44 (by kernel_rfl) rfl) _ _ hmax hbytes _ hseq
  change CallsIn _ _ Try.prog 33 _ _ _ at cS
  have hfK : Fence.wide.fn 34 := trivial
  have hfS : Fence.wide.fn 33 := trivial
  have CS := Lib.hid cS
  have CK := Lib.hid cK
  have HM := Lib.hid (And.intro k1 hmem)
  have HL := Lib.hid (k2.trans hsize)
  clear cS cK hmem k1 k2 k3 hr hD hown hsize hmax hbytes hseq h
  refine callsIn_of_wp Try.func13 rfl trivial ?_ rfl
  simp only [Try.ntmps13, List.size_toArray, List.length_cons, List.length_nil, Nat.reduceAdd, Nat.reduceSub, Array.replicate_succ, Array.replicate_zero, List.push_toArray, List.append_toArray, List.nil_append, List.cons_append]
  gi_wp2_with (first
    | (gi_at_call 34; refine (CK.out _ _).mono ?_; rintro e w' ⟨rfl, rfl⟩)
    | (gi_at_call 33; refine CS.out.mono ?_; rintro e w' ⟨v, ss, rfl, hS, hrow, hnil, hb⟩))
  go_ret
  have hp := (List.mergeSort_perm ss leI).trans hS
  refine ⟨v, ss.mergeSort leI, rfl, ?_, sorted_strict (hS.nodup_iff.2 HM.out.1), fun x => by rw [hp.mem_iff]; exact HM.out.2 x, ?_, ((Below.refl _ W).alloc (Nat.le_refl _) _).trans (hb.mono (by simp))⟩
  · rw [List.length_mergeSort]
    exact ownsRow_base_a hrow (by simp)
  · rw [hp.length_eq, HL.out]; exact hc
end Go.Proofs.Ytklfppjejndclaa
