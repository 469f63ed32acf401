/- Clients: rising; seqs: a client's requests, rising. -/
import Derived.Test.YtkodkimfoihbhaaG
import Derived.Test.YtkodkimfoihbhaaT
import Derived.LoopTactic
set_option linter.unusedVariables false
set_option linter.unusedSimpArgs false
namespace Go.Proofs.Ytkodkimfoihbhaa
open Go.RowKit Go.Maps Go.Sort Go.Shelf
variable {sb lb tb : Nat} {win : Int} {c N : Nat} {G : Int × Int → Option (List Value)} {T : Int → Int}
theorem keys_of {P : Program} {k : TypeId} (hk : P.underlying k = some (.int .i64)) {W : World} {b c : Nat} {D : DataW Value} (hown : W.ownsMap P k rawR b c D) :
    (intKeys D).Nodup ∧ (intKeys D).length = Maps.size D ∧ ∀ x, x ∈ intKeys D ↔ (Lit.int .i64 x).wf = true ∧ Maps.has D (.int .i64 x) = true := by
  obtain ⟨es, hD, hpw, _⟩ := hown.entries (int_keyed hk)
  obtain ⟨es', hD', hko⟩ := hown.keysOf
  obtain rfl : es = es' := by rw [hD] at hD'; simpa using hD'
  have hwf := intKeys_wf hown hk
  subst hD
  have hk' : ∀ p ∈ es, ∃ x, p.1 = .int .i64 x := fun p hp => by obtain ⟨v, hv⟩ := hko p hp; obtain ⟨x, _, hx, _⟩ := Maps.keyOf_i64 hk hv; exact ⟨x, hx⟩
  refine ⟨?_, by simp [intKeys, Maps.size], fun x => ⟨fun hx => ⟨hwf x hx, ?_⟩, fun ⟨_, hx⟩ => ?_⟩⟩
  · show (es.map fun p => Go.intOf p.1).Nodup
    refine List.pairwise_map.2 (hpw.imp_of_mem fun {p q} hp' hq' hne e => hne ?_)
    obtain ⟨a, ha⟩ := hk' p hp'
    obtain ⟨b, hb⟩ := hk' q hq'
    rw [ha, hb] at e ⊢
    exact congrArg _ e
  · obtain ⟨p, hp, rfl⟩ := List.mem_map.1 hx
    obtain ⟨a, ha⟩ := hk' p hp
    rw [has_eq, List.any_eq_true]
    exact ⟨p, hp, by rw [ha]; simp [Lit.sameKey, Go.intOf]⟩
  · rw [has_eq, List.any_eq_true] at hx
    obtain ⟨p, hp, hs⟩ := hx
    obtain ⟨a, ha⟩ := hk' p hp
    rw [ha] at hs
    exact List.mem_map.2 ⟨p, hp, by rw [ha]; simpa [Lit.sameKey, Go.intOf] using hs⟩
theorem leI_sorted (l : List Int) : (l.mergeSort leI).Pairwise (· ≤ ·) := by
  have tr : ∀ a b c : Int, leI a b = true → leI b c = true → leI a c = true := fun a b c h1 h2 => by simp only [leI, decide_eq_true_eq] at *; exact Int.le_trans h1 h2
  have to : ∀ a b : Int, (leI a b || leI b a) = true := fun a b => by simp only [leI, Bool.or_eq_true, decide_eq_true_eq]; exact Int.le_total a b
  exact (List.pairwise_mergeSort tr to l).imp (fun h => by simpa [leI] using h)
theorem sorted_strict {l : List Int} (h : l.Nodup) : (l.mergeSort leI).Pairwise (· < ·) := by
  have h1 := leI_sorted l
  have h2 : (l.mergeSort leI).Nodup := (List.mergeSort_perm l leI).nodup_iff.2 h
  have h2' : (l.mergeSort leI).Pairwise (· ≠ ·) := h2
  exact (h1.and h2').imp (fun ⟨a, b⟩ => Int.lt_iff_le_and_ne.2 ⟨a, b⟩)
def zv (l : List Int) : List Value := l.map (Value.int .i64)
theorem zv_len (l : List Int) : (zv l).length = l.length := by simp [zv]
/-- a slice that shows integers, its row at or behind B -/
def RowI (W : World) (B : Nat) (ao : Option Addr) (l : List Int) : Prop := l.length = 0 ∨ ∃ g, ao = some ⟨g, 0, none⟩ ∧ B ≤ g ∧ ∀ (j : Nat) (x : Int), l[j]? = some x → W.cell? ⟨g, j, none⟩ = some (.int .i64 x)
theorem RowI.fr {S : Nat → Prop} {W W' : World} {B : Nat} {ao : Option Addr} {l : List Int} (h : RowI W B ao l) (hf : Fr S W W') (hS : ∀ k, S k → k < B) : RowI W' B ao l := by
  rcases h with h | ⟨g, h1, h2, h3⟩
  · exact .inl h
  · exact .inr ⟨g, h1, h2, fun j x hj => (World.cell?_of_block (hf.block g (lt_of_cell (h3 j x hj)) (fun e => by have := hS _ e; omega))).trans (h3 j x hj)⟩
theorem infoE3 : (Try.prog.info? 3).map (fun i => (i.zero, i.size, i.bytes)) = some (some (.int .i64 0), 1, 8) := by kernel_rfl
theorem row_form {W : World} {B : Nat} {v : Value} {l : List Int} (h : W.ownsRow B 3 1 v l.length (zv l)) : ∃ ao cp, v = .slice ao l.length cp ∧ l.length ≤ cp ∧ cp ≤ maxLen ∧ RowI W B ao l := by
  have hcs := h
  rcases h.2 with ⟨rfl, h0⟩ | ⟨g, cp, cur, rfl, hb, hgb, hnc, hcm, _, _⟩
  · exact ⟨none, 0, by rw [h0], by omega, by decide, .inl h0⟩
  · refine ⟨some ⟨g, 0, none⟩, cp, rfl, hnc, hcm, .inr ⟨g, rfl, hb, fun j x hj => ?_⟩⟩
    rw [hcs.cellAt j (by have := (List.getElem?_eq_some_iff.1 hj).1; omega)]
    simp [zv, hj]
theorem take_filter (p : Int → Bool) (zs : List Int) (i : Nat) (z : Int) (h : zs[i]? = some z) : (zs.take (i + 1)).filter p = (zs.take i).filter p ++ (if p z then [z] else []) := by
  rw [List.take_add_one, h, List.filter_append]
  congr 1
  simp [List.filter]
  cases p z <;> rfl
theorem sortsI (m : Nat) : AnyZI.SortsIn Try.prog Try.sorted19_ren Fence.wide m :=
  ⟨fun blk off cap ss W hH hblk hsz => callsIn_wide.2 (AnyM.slices_Sort_int Try.sort26 blk off cap ss W hH hblk hsz),
   fun p cap W => callsIn_wide.2 (AnyM.slices_Sort_int_none Try.sort26 p cap W)⟩
/-- the clients -/
def Cli (T : Int → Int) (ks : List Int) : Prop := ks.Pairwise (· < ·) ∧ ∀ x, x ∈ ks ↔ iKE.ok x ∧ T x ≠ 0
theorem Cli.one {T : Int → Int} {k1 k2 : List Int} (h1 : Cli T k1) (h2 : Cli T k2) : k1.length = k2.length := by
  have n1 : k1.Nodup := h1.1.imp (fun h => Int.ne_of_lt h)
  have n2 : k2.Nodup := h2.1.imp (fun h => Int.ne_of_lt h)
  exact ((List.perm_ext_iff_of_nodup n1 n2).2 (fun x => by rw [h1.2, h2.2])).length_eq
set_option maxRecDepth 100000 in
set_option maxHeartbeats 1000000 in
theorem cli_any (W : World) (h : TB W sb lb tb win c N G T) (hN : N ≤ 1000000) :
    Calls Try.prog 14 #[.pointer (some ⟨sb, 0, none⟩)] W fun e W' => ∃ (ao : Option Addr) (cp : Nat) (ks : List Int), e = .returned (.slice ao ks.length cp) ∧ RowI W' W.heap.size ao ks ∧ Cli T ks ∧ ks.length ≤ N ∧ Fr (fun _ => False) W W' := by
  have c2 := h.s.cell 2
  simp only [List.getElem?_toArray, List.getElem?_cons_zero, List.getElem?_cons_succ] at c2
  obtain ⟨ct, F, hct, hM, hF⟩ := h.t
  have hbl := hM.lt
  obtain ⟨D, hown, hsize, hD⟩ := hM
  obtain ⟨k1, k2, k3⟩ := keys_of under3 hown
  have hmem : ∀ x, x ∈ intKeys D ↔ iKE.ok x ∧ T x ≠ 0 := fun x => by
    rw [k3 x]
    refine and_congr_right fun hx => ?_
    have h1 := (hD x hx).1
    have h1' : Maps.has D (.int .i64 x) = (F x).isSome := h1
    rw [h1', hF x hx]
    by_cases e : T x = 0 <;> simp [e]
  have hmax : Maps.size D ≤ maxLen := by unfold maxLen; omega
  have hbytes : Maps.size D * 8 ≤ 140737488355328 := by omega
  refine (callsIn_wide (n := 6)).1 ?_
  have hseq : SeqGives Fence.wide 2 Try.prog 27 #[.pointer (some ⟨W.heap.size, 0, none⟩)] encZ (fun ss => ss.Perm (intKeys D)) (Maps.size D) (W.alloc (.cells #[.map (some tb)] 37)) :=
    AnyZI.keys_gives (ρ := Try.keys20_ren) { Try.keys20 with } Fence.wide _ trivial rfl (by omega) W.heap.size tb ct D _ (by simp) (by simp) (by
      obtain ⟨es, clock, hb, Ft, hs, hD⟩ := hown
      exact ⟨es, clock, (Below.heap_alloc _ _ tb hbl).trans hb, Ft, hs, hD⟩)
  have cK : ∀ mb W, CallsIn Fence.wide 5 Try.prog 20 #[.map mb] W fun e w' => e = .returned (.func (.func 27) #[] #[.pointer (some ⟨W.heap.size, 0, none⟩)]) ∧ w' = W.alloc (.cells #[.map mb] 37) := fun mb W => AnyZI.keys_in Try.keys20 Fence.wide 5 trivial rfl mb W
  have cS := AnyZI.sorted_in Try.sorted19 Fence.wide 5 trivial trivial trivial trivial rfl (by omega) (sortsI _) (enters_of Try.func26 (by kernel_rfl) rfl) 27 #[.pointer (some ⟨W.heap.size, 0, none⟩)] trivial (enters_of Try.func27 (by kernel_rfl) rfl) _ _ hmax hbytes _ hseq
  change CallsIn _ _ Try.prog 19 _ _ _ at cS
  have hfK : Fence.wide.fn 20 := trivial
  have hfS : Fence.wide.fn 19 := trivial
  have CS := Lib.hid cS
  have CK := Lib.hid cK
  have HM := Lib.hid (And.intro k1 hmem)
  have HL := Lib.hid (k2.trans hsize)
  clear cS cK hmem k1 k2 k3 hD hown hsize hmax hbytes hseq h hF
  refine callsIn_of_wp Try.func14 rfl trivial ?_ rfl
  simp only [Try.ntmps14, List.size_toArray, List.length_cons, List.length_nil, Nat.reduceAdd, Nat.reduceSub, Array.replicate_succ, Array.replicate_zero, List.push_toArray, List.append_toArray, List.nil_append, List.cons_append]
  gi_wp2_with (first
    | (gi_at_call 20; refine (CK.out _ _).mono ?_; rintro e w' ⟨rfl, rfl⟩)
    | (gi_at_call 19; refine CS.out.mono ?_; rintro e w' ⟨v, ss, rfl, hS, hrow, hnil, hb⟩))
  go_ret
  have hp := (List.mergeSort_perm ss leI).trans hS
  have hrow2 : w'.ownsRow W.heap.size 3 1 v (ss.mergeSort leI).length (zv (ss.mergeSort leI)) := by
    rw [List.length_mergeSort]
    exact ownsRow_base_a hrow (by simp)
  obtain ⟨ao, cp, rfl, _, _, hr⟩ := row_form hrow2
  refine ⟨ao, cp, ss.mergeSort leI, rfl, hr, ⟨sorted_strict (hS.nodup_iff.2 HM.out.1), fun x => by rw [hp.mem_iff]; exact HM.out.2 x⟩, by rw [hp.length_eq, HL.out]; exact hct, ?_⟩
  exact (Fr.alloc _ _ _).trans ⟨hb.os, hb.tape, hb.output, hb.size, fun k hk _ => hb.block k hk⟩
/-- a client's requests -/
def sqA (win : Int) (T : Int → Int) (x : Int) : List Int := (List.range (T x + 1 - loOf win T x).toNat).map (fun m : Nat => loOf win T x + (m : Int))
def sqL (win : Int) (G : Int × Int → Option (List Value)) (T : Int → Int) (x : Int) : List Int := (sqA win T x).filter (fun k => (G (x, k)).isSome)
theorem sqA_len (win : Int) (T : Int → Int) (x : Int) : (sqA win T x).length = (T x + 1 - loOf win T x).toNat := by simp [sqA]
theorem sqA_at (win : Int) (T : Int → Int) (x : Int) (m : Nat) (h : m < (T x + 1 - loOf win T x).toNat) : (sqA win T x)[m]? = some (loOf win T x + (m : Int)) := by
  unfold sqA
  rw [List.getElem?_map, List.getElem?_range h]
  rfl
theorem sqL_mem {x k : Int} (h : k ∈ sqL win G T x) : loOf win T x ≤ k ∧ k ≤ T x ∧ (G (x, k)).isSome = true := by
  obtain ⟨h1, h2⟩ := List.mem_filter.1 h
  obtain ⟨m, hm, rfl⟩ := List.mem_map.1 h1
  have := List.mem_range.1 hm
  exact ⟨by omega, by omega, h2⟩
theorem sqL_len (win : Int) (G : Int × Int → Option (List Value)) (T : Int → Int) (x : Int) : (sqL win G T x).length ≤ (T x + 1 - loOf win T x).toNat := by
  rw [← sqA_len]; exact List.length_filter_le _ _
theorem lo_rng (win : Int) (T : Int → Int) (x : Int) (h : 0 ≤ T x ∧ T x ≤ 1099511627776) (hw : 1 ≤ win) : 1 ≤ loOf win T x ∧ loOf win T x ≤ T x + 1 ∧ T x - win < loOf win T x := by
  unfold loOf
  split <;> omega
set_option maxRecDepth 100000 in
set_option maxHeartbeats 2000000 in
theorem seqs_any (W : World) (h : TB W sb lb tb win c N G T) (x : Int) (hx : iKE.ok x) :
    Calls Try.prog 18 #[.pointer (some ⟨sb, 0, none⟩), .int .i64 x] W fun e W' => ∃ (ao : Option Addr) (cp : Nat), e = .returned (.slice ao (sqL win G T x).length cp) ∧ RowI W' W.heap.size ao (sqL win G T x) ∧ Fr (fun _ => False) W W' := by
  have H := Lib.hid h
  have c0 := h.s.cell 0
  have c2 := h.s.cell 2
  simp only [List.getElem?_toArray, List.getElem?_cons_zero, List.getElem?_cons_succ] at c0 c2
  have hT := h.tr x
  have hw := h.w
  have hrunt : (Instr.lookup 37 (.map (some tb)) (.int .i64 x) false).run Try.prog W = .ok (.int .i64 (T x)) W := by
    obtain ⟨ct, F, hc, hM, hF⟩ := h.top
    have := hM.look Try.underlying37 (zero3 _) hx
    rw [hF x hx] at this
    exact this
  obtain ⟨h1, h2, h3⟩ := lo_rng win T x hT hw.1
  obtain ⟨lo, hlo⟩ : ∃ lo, loOf win T x = lo := ⟨_, rfl⟩
  obtain ⟨M, hM⟩ : ∃ M, (T x + 1 - lo).toNat = M := ⟨_, rfl⟩
  have hML : (sqA win T x).length = M := by rw [sqA_len, hlo, hM]
  have hAT : ∀ m, m < M → (sqA win T x)[m]? = some (lo + (m : Int)) := fun m hm => by rw [← hlo]; exact sqA_at win T x m (by rw [hlo, hM]; exact hm)
  have HML := Lib.hid hML
  have HAT := Lib.hid hAT
  rw [hlo] at h1 h2 h3
  obtain ⟨i0, hi, hz0, hz1, hz2⟩ := info_parts infoE3
  have HLO := Lib.hid hlo
  have hMT : T x + 1 = lo + (M : Int) := by omega
  have HMT := Lib.hid hMT
  obtain ⟨t, ht⟩ : ∃ t, T x = t := ⟨_, rfl⟩
  have hMb : M ≤ 4096 := by omega
  rw [ht] at hrunt hT h2 h3 HMT
  have HTT := Lib.hid ht
  clear hML hAT h hM hlo hMT ht
  have hmax : max (t - win + 1) 1 = lo := by
    have h := HLO.out
    unfold loOf at h
    rw [HTT.out] at h
    split at h <;> omega
  have HMX := Lib.hid hmax
  clear hmax
  go_enter Try.func18, Try.ntmps18
  go_wp2
  rw [HMX.out]
  go_loopw [5, 7] (fun ov kv wr => ∃ m : Nat, m ≤ M ∧ kv = .int .i64 (lo + m) ∧ wr.ownsRow W.heap.size 3 1 ov (((sqA win T x).take m).filter (fun k => (G (x, k)).isSome)).length (zv (((sqA win T x).take m).filter (fun k => (G (x, k)).isSome))) ∧ W.grownBy wr none) (fun _ kv _ => (lo + M - intOf kv).toNat)
  case atStart => exact ⟨0, Nat.zero_le _, by simp, World.ownsRow_nil _ _ _ _, World.grownBy.refl _ _⟩
  case round =>
    obtain ⟨m, hm, rfl, hown, hg⟩ := hrel
    have hfr : Fr (fun _ => False) W wr := Fr.grown hg (fun k e => nomatch e)
    have hB := H.out.fr hfr
    have k1 := hB.s.cell 1
    simp only [List.getElem?_toArray, List.getElem?_cons_zero, List.getElem?_cons_succ] at k1
    by_cases hlt : m < M
    · have p0 : decide (lo + (m : Int) ≤ t) = true := decide_eq_true (by have := HMT.out; omega)
      have hkk : okKey (x, lo + (m : Int)) := ⟨hx, wf_of (by dsimp only; omega) (by have := HMT.out; dsimp only; omega)⟩
      have hz := HAT.out m hlt
      obtain ⟨v, hrun⟩ : ∃ v, (Instr.lookup 46 (.map (some lb)) (.agg #[.int .i64 x, .int .i64 (lo + (m : Int))]) true).run Try.prog wr = .ok (.tuple #[v, .bool (G (x, lo + (m : Int))).isSome]) wr := by
        obtain ⟨F, hM, hF⟩ := hB.l
        have := hM.look_ok Try.underlying46 (zero30 _) hkk
        rw [(hF _ hkk).some_iff] at this
        exact ⟨_, this⟩
      have hsucc := take_filter (fun k => (G (x, k)).isSome) (sqA win T x) m _ hz
      obtain ⟨b, hb⟩ : ∃ b, (G (x, lo + (m : Int))).isSome = b := ⟨_, rfl⟩
      rw [hb] at hrun hsucc
      obtain ⟨ys, hys⟩ : ∃ ys, ((sqA win T x).take m).filter (fun k => (G (x, k)).isSome) = ys := ⟨_, rfl⟩
      have hyl : ys.length ≤ m := by
        rw [← hys]
        exact Nat.le_trans (List.length_filter_le _ _) (by rw [List.length_take]; omega)
      rw [hys] at hown hsucc
      have HS := Lib.hid hsucc
      have hob := hown.lt
      have hbd : lo + (m : Int) ≤ 1099511627777 := by have := HMT.out; omega
      clear hz hb hsucc hys hB hfr hkk
      cases b with
      | true =>
        have hown' := hown.alloc (.cells #[.int .i64 (lo + (m : Int))] 3)
        have hnews : ∀ (j : Nat) (u : Value), [Value.int .i64 (lo + (m : Int))][j]? = some u → (wr.alloc (.cells #[.int .i64 (lo + (m : Int))] 3)).cell? ((⟨wr.heap.size, 0, none⟩ : Addr).add j) = some u := fun j u hj => by
          rw [off_add, Nat.zero_add, World.cell?_alloc_mark]
          simpa using hj
        have hone : ∀ u ∈ [Value.int .i64 (lo + (m : Int))], u.oneCell' = true := by simp; rfl
        have b1 : ys.length + 1 ≤ maxLen := by unfold maxLen; omega
        have b2 : (ys.length + 1) * 8 ≤ 140737488355328 := by omega
        have hsz : W.heap.size ≤ (wr.alloc (.cells #[.int .i64 (lo + (m : Int))] 3)).heap.size := by have := hg.size; simp; omega
        have HO := Lib.hid hown'
        have HN := Lib.hid hnews
        clear hown hown' hnews
        go_wp2_with (at_builtin; refine wpList_append_own _ rfl _ _ _ rfl W.heap.size 3 i0 (.int .i64 0) 1 8 Try.underlying40 hi hz0 hz1 hz2 rfl Nat.zero_lt_one u5 ys.length (zv ys) rfl HO.out ⟨wr.heap.size, 0, none⟩ 1 1 [.int .i64 (lo + (m : Int))] rfl rfl HN.out hone b1 b2 hsz ?_; intro v' W1 hown1 hgrow1 hnil1; have HO1 := Lib.hid hown1; have HG1 := Lib.hid hgrow1; clear hown1 hgrow1 hnil1)
        go_roundw
        case rel =>
          refine ⟨m + 1, by omega, by go_num, ?_, (hg.trans (World.grownBy_alloc wr _ none)).andThen HG1.out (fun j e => .inl (hob j e).1)⟩
          rw [HS.out]
          have := HO1.out
          simpa [zv] using this
        case measure => simp [intOf]; omega
      | false =>
        go_wp2
        go_roundw
        case rel =>
          refine ⟨m + 1, by omega, by go_num, ?_, hg⟩
          rw [HS.out]
          simpa using hown
        case measure => simp [intOf]; omega
    · obtain rfl : m = M := by omega
      have p0 : decide (lo + (m : Int) ≤ t) = false := decide_eq_false (by have := HMT.out; omega)
      rw [List.take_of_length_le (by rw [HML.out]; exact Nat.le_refl _)] at hown
      change wr.ownsRow W.heap.size 3 1 u5 (sqL win G T x).length (zv (sqL win G T x)) at hown
      obtain ⟨ao, cp, rfl, _, _, hr⟩ := row_form hown
      have HR := Lib.hid hr
      have HF := Lib.hid hfr
      clear hown hr hB hfr
      go_wp2
      go_ret
      exact ⟨ao, cp, rfl, HR.out, HF.out⟩
end Go.Proofs.Ytkodkimfoihbhaa
