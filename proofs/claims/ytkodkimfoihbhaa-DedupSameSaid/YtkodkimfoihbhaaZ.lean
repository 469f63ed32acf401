/- The writer: NewWriter, numbers, Numbers, Bytes, Done. -/
import Derived.Test.YtkodkimfoihbhaaY
import Derived.Laws.AppendOwnNone
set_option linter.unusedVariables false
set_option linter.unusedSimpArgs false
namespace Go.Proofs.Ytkodkimfoihbhaa
open Go.RowKit Go.Maps
theorem app30_nil {W : World} {ops : Array Oper} {rest : List Oper} {o : Oper} {A : Act} {Q : Exit → Act → World → Prop} (hgd : o.guard = none) (s x : Operand) (ho : o.op = .call { callee := .builtin .append, args := #[s, x], argTypes := #[30, 30] })
    {base n : Nat} {v : Value} {xs : List Value} (hs : A.eval s = v) (hx : A.eval x = .slice none 0 0) (hown : W.ownsRow base 5 1 v n xs) (h : wpList Try.prog ops Q rest (A.put o.dst v) W) : wpList Try.prog ops Q (o :: rest) A W := by
  obtain ⟨i0, hi, hz0, hz1, hz2⟩ := info_parts infoB
  exact wpList_append_own_none hgd s x 30 ho base 5 i0 1 Try.underlying30 hi v n xs hs hown hx h
set_option maxRecDepth 100000 in
theorem neww_any (W : World) : Calls Try.prog 21 #[] W fun e W' => e = .returned (.pointer (some ⟨W.heap.size, 0, none⟩)) ∧ WR W' W.heap.size (W.heap.size + 1) [] ∧ W' = W.alloc (.cells #[.slice none 0 0] 65) := by
  have h : WR (W.alloc (.cells #[.slice none 0 0] 65)) W.heap.size (W.heap.size + 1) [] := ⟨⟨none, 0, Blk.new _ _ _, World.ownsRow_nil _ _ _ _⟩, by omega, by simp⟩
  have H := Lib.hid h
  clear h
  go_enter Try.func21, Try.ntmps21
  go_wp2
  go_ret
  exact ⟨rfl, H.out, rfl⟩
/-- many numbers' bytes -/
def encL (zs : List Int) : List Int := zs.flatMap encZ
theorem encL_len (zs : List Int) : (encL zs).length ≤ 11 * zs.length := by
  induction zs with
  | nil => simp [encL]
  | cons z zs ih =>
    have e : encL (z :: zs) = encZ z ++ encL zs := rfl
    have := encZ_len z
    rw [e, List.length_append, List.length_cons]
    omega
theorem encL_take {zs : List Int} {k : Nat} {z : Int} (h : zs[k]? = some z) : encL (zs.take (k + 1)) = encL (zs.take k) ++ encZ z := by
  unfold encL
  rw [List.take_add_one, h]
  simp
set_option maxRecDepth 100000 in
set_option maxHeartbeats 2000000 in
theorem nums_any (W : World) (wb B0 : Nat) (l : List Int) (h : WR W wb B0 l) (hl : l.length ≤ 100000000000) (zs : List Int) (hz : zs.length ≤ 1000) (hzb : ∀ z ∈ zs, 0 ≤ z ∧ z < 4611686018427387904) (g cp : Nat)
    (hg : g < W.heap.size) (hgn : ¬ SW W wb g) (hc : ∀ (j : Nat) (z : Int), zs[j]? = some z → W.cell? ⟨g, j, none⟩ = some (.int .i64 z)) :
    Calls Try.prog 28 #[.pointer (some ⟨wb, 0, none⟩), .slice (some ⟨g, 0, none⟩) zs.length cp] W fun e W' => e = .returned (.pointer (some ⟨wb, 0, none⟩)) ∧ WR W' wb B0 (l ++ encL zs) ∧ TurnW W W' wb := by
  have H := Lib.hid h
  have HC := Lib.hid hc
  have HZ := Lib.hid hzb
  have HG : Hid (¬ SW W wb g) := Lib.hid hgn
  obtain ⟨n, hn⟩ : ∃ n, zs.length = n := ⟨_, rfl⟩
  rw [hn] at hz ⊢
  have HN := Lib.hid hn
  clear h hc hzb hgn hn
  go_enter Try.func28, Try.ntmps28
  go_wp2
  go_loopw [9] (fun kv wr => ∃ k : Nat, k ≤ n ∧ kv = .int .i64 k ∧ WR wr wb B0 (l ++ encL (zs.take k)) ∧ TurnW W wr wb) (fun kv _ => n - (intOf kv).toNat)
  case atStart => exact ⟨0, by omega, rfl, by simpa [encL] using H.out, TurnW.refl _ _⟩
  case round =>
    obtain ⟨k, hk, rfl, hW, hT⟩ := hrel
    have HT := Lib.hid hT
    by_cases hlt : k < n
    · have p0 : decide ((k : Int) < n) = true := decide_eq_true (by omega)
      have i0 : (k : Int) < (n : Int) := by omega
      obtain ⟨z, hzk⟩ : ∃ z, zs[k]? = some z := ⟨_, List.getElem?_eq_getElem (by rw [HN.out]; exact hlt)⟩
      obtain ⟨z1, z2⟩ := HZ.out z (List.mem_of_getElem? hzk)
      have d0 := (World.cell?_of_block (hT.fr.block g hg HG.out)).trans (HC.out k z hzk)
      have hlen : (l ++ encL (zs.take k)).length ≤ 200000000000 := by
        have := encL_len (zs.take k)
        rw [List.length_append]
        rw [List.length_take] at this
        omega
      have HI := Lib.hid (int_any wr wb B0 _ hW hlen z z1 z2)
      have HE := Lib.hid (encL_take hzk)
      clear hW hT hzk
      go_wp2_with fail
      refine HI.out.mono ?_
      rintro e w2 ⟨rfl, hW2, hT2⟩
      have HW2 := Lib.hid hW2
      have HT2 := Lib.hid hT2
      clear hW2 hT2 HI
      go_wp2
      go_roundw
      case rel => exact ⟨k + 1, by omega, by go_num, by rw [HE.out, ← List.append_assoc]; exact HW2.out, HT.out.trans HT2.out⟩
      case measure => simp [intOf]; omega
    · obtain rfl : k = n := by omega
      have p0 : decide ((k : Int) < k) = false := decide_eq_false (by omega)
      have hWe : WR wr wb B0 (l ++ encL zs) := by rw [List.take_of_length_le (by rw [HN.out]; omega)] at hW; exact hW
      have HW := Lib.hid hWe
      clear hW hT hWe
      go_wp2
      go_ret
      exact ⟨rfl, HW.out, HT.out⟩
set_option maxRecDepth 100000 in
theorem numbers_any (W : World) (wb B0 : Nat) (l : List Int) (h : WR W wb B0 l) (hl : l.length ≤ 100000000000) (zs : List Int) (hz : zs.length ≤ 1000) (hzb : ∀ z ∈ zs, 0 ≤ z ∧ z < 4611686018427387904) (g cp : Nat)
    (hg : g < W.heap.size) (hgn : ¬ SW W wb g) (hc : ∀ (j : Nat) (z : Int), zs[j]? = some z → W.cell? ⟨g, j, none⟩ = some (.int .i64 z)) :
    Calls Try.prog 22 #[.pointer (some ⟨wb, 0, none⟩), .slice (some ⟨g, 0, none⟩) zs.length cp] W fun e W' => e = .returned (.pointer (some ⟨wb, 0, none⟩)) ∧ WR W' wb B0 (l ++ encL zs) ∧ TurnW W W' wb := by
  have H := Lib.hid (nums_any W wb B0 l h hl zs hz hzb g cp hg hgn hc)
  obtain ⟨n, hn⟩ : ∃ n, zs.length = n := ⟨_, rfl⟩
  rw [hn] at H ⊢
  clear h hc hzb hgn hn
  go_enter Try.func22, Try.ntmps22
  go_wp2_with fail
  refine H.out.mono ?_
  rintro e w2 ⟨rfl, hW2, hT2⟩
  have HW2 := Lib.hid hW2
  have HT2 := Lib.hid hT2
  clear hW2 hT2 H
  go_wp2
  go_ret
  exact ⟨rfl, HW2.out, HT2.out⟩
set_option maxRecDepth 100000 in
set_option maxHeartbeats 2000000 in
/-- a row of bytes behind its length -/
theorem bytes_any (W : World) (wb B0 : Nat) (l : List Int) (h : WR W wb B0 l) (hl : l.length ≤ 100000000000) (S : Nat → Prop) (v : Value) (bs : List Int) (hv : RowB S W v (zb bs)) (hS : ∀ k, SW W wb k → S k) (hb : bs.length ≤ 100000) :
    Calls Try.prog 23 #[.pointer (some ⟨wb, 0, none⟩), v] W fun e W' => e = .returned (.pointer (some ⟨wb, 0, none⟩)) ∧ WR W' wb B0 (l ++ (encZ bs.length ++ bs)) ∧ TurnW W W' wb := by
  obtain ⟨ao, cap, rfl, h1, h2, h3, h4⟩ := hv
  rw [zb_len] at h1 ⊢
  have hz := encZ_len (bs.length : Int)
  have HI := Lib.hid (int_any W wb B0 l h (by omega) (bs.length : Int) (by omega) (by omega))
  have HS := Lib.hid hS
  have H4 := Lib.hid h4
  obtain ⟨m, hm⟩ : ∃ m, bs.length = m := ⟨_, rfl⟩
  rw [hm] at h1 hb HI hz ⊢
  have HM := Lib.hid hm
  clear h h4 hS hm
  go_enter Try.func23, Try.ntmps23
  go_wp2_with fail
  refine HI.out.mono ?_
  rintro e w2 ⟨rfl, hW, hT⟩
  have hd := hW.d
  obtain ⟨a1, c1, hbk, hown⟩ := hW.s
  obtain ⟨n, hn⟩ : ∃ n, (l ++ encZ (m : Int)).length = n := ⟨_, rfl⟩
  rw [hn] at hbk hown
  have hn9 : n ≤ 100000000011 := by rw [← hn, List.length_append]; omega
  have c0 := hbk.cell 0
  have f0 := hbk.frozen 0
  simp only [List.getElem?_toArray, List.getElem?_cons_zero] at c0
  have HW := Lib.hid hW
  have HT := Lib.hid hT
  have HN := Lib.hid hn
  have HB := Lib.hid hbk
  have HO := Lib.hid hown
  clear hW hT hn hbk hown HI
  cases ao with
  | none =>
    have h0 : cap = 0 := h3 rfl
    subst h0
    obtain rfl : m = 0 := by omega
    have hbs : Hid (bs = []) := Lib.hid (List.eq_nil_of_length_eq_zero HM.out)
    clear h3
    go_wp2_with (at_builtin; refine app30_nil rfl _ _ rfl rfl rfl HO.out ?_)
    go_ret
    have hfin := WR.fin (l := l ++ encZ 0) (l' := l ++ encZ 0) (n' := n) (W' := w2) HW.out.d (by rw [show (l ++ encZ 0).length = n from HN.out]; exact HB.out) (by rw [show (l ++ encZ 0).length = n from HN.out]; exact HO.out) HN.out HO.out (Fr.refl _ _) (.inl (by rw [show (l ++ encZ 0).length = n from HN.out]))
    refine ⟨rfl, ?_, HT.out.trans hfin.2⟩
    rw [hbs.out, List.append_nil]
    exact hfin.1
  | some a =>
    have hnews : ∀ j u, (zb bs)[j]? = some u → w2.cell? (a.add j) = some u := fun j u hj => by
      have hc := (H4.out a rfl).2 j u hj
      have hne : zb bs ≠ [] := fun e => by rw [e] at hj; simp at hj
      have hs := (H4.out a rfl).1 hne
      exact (World.cell?_of_block (HT.out.fr.block _ (lt_of_cell hc) (fun e => by rw [add_block] at e; exact hs (HS.out _ e)))).trans hc
    have HNW := Lib.hid hnews
    clear hnews h3
    go_wp2_with (at_builtin; refine app30 rfl _ _ rfl rfl rfl HO.out HM.out HNW.out (by omega) HW.out.d.2 ?_; intro ao2 cp2 w3 ho2 hf2 hr2; have hb2 := HB.out.fr hf2.out (fun e => by have := (HO.out.lt wb e).1; omega); have d0 := hb2.cell 0; have g0 := hb2.frozen 0; simp only [List.getElem?_toArray, List.getElem?_cons_zero] at d0; have HB2 := Lib.hid hb2; clear hb2)
    go_ret
    have hfin := WR.fin (l := l ++ encZ (m : Int)) (l' := l ++ encZ (m : Int) ++ bs) (n' := n + m) HW.out.d (by rw [HN.out]; exact HB.out) (by rw [HN.out]; exact HO.out) (by rw [List.length_append, HN.out, HM.out]) ho2.out (by rw [HN.out]; exact hf2.out) (by rw [HN.out]; exact hr2.out)
    refine ⟨rfl, ?_, HT.out.trans hfin.2⟩
    rw [← List.append_assoc]
    exact hfin.1
set_option maxRecDepth 100000 in
/-- a copy, of however many -/
theorem clone_big (S S' : Nat → Prop) (W : World) (v : Value) (l : List Value) (h : RowB S W v l) (hle : l.length ≤ 200000000000) (hone : ∀ u ∈ l, u.oneCell' = true) (hS : ∀ k, S' k → k < W.heap.size) :
    Calls Try.prog 17 #[v] W fun e W' => ∃ v', e = .returned v' ∧ RowB S' W' v' l ∧ Fr (fun _ => False) W W' := by
  obtain ⟨ao, cap, rfl, h1, h2, h3, h4⟩ := h
  have hnil := fun W => Lib.run_eql_slice_nil (P := Try.prog) W 30 5 ao l.length cap 0 0 Try.underlying30
  cases ao with
  | none =>
    obtain rfl := h3 rfl
    have hl : l = [] := List.eq_nil_of_length_eq_zero (by omega)
    subst hl
    simp only [Option.isNone_none, List.length_nil] at hnil
    rw [List.length_nil]
    clear h4 hone
    go_enter Try.func17, Try.ntmps17
    go_wp2
    go_ret
    exact ⟨_, rfl, RowB.nil _ _, Fr.refl _ _⟩
  | some a =>
    obtain ⟨i0, hi, hz0, hz1, hz2⟩ := info_parts infoE
    simp only [Option.isNone_some] at hnil
    have hown : (W.alloc (.cells #[] 5)).ownsRow W.heap.size 5 1 (.slice (some ⟨W.heap.size, 0, none⟩) 0 0) 0 [] := ⟨rfl, .inr ⟨_, 0, #[], rfl, Nat.le_refl _, World.alloc_heap_new _ _, Nat.le_refl _, by decide, rfl, rfl⟩⟩
    have hnews : ∀ (j : Nat) (u : Value), l[j]? = some u → (W.alloc (.cells #[] 5)).cell? (a.add j) = some u := fun j u h => by
      have h2 := (h4 a rfl).2 j u h
      rw [← h2]
      unfold World.cell?
      have := lt_of_cell h2
      rw [Below.heap_alloc W _ _ this]
    have hsz : W.heap.size ≤ (W.alloc (.cells #[] 5)).heap.size := by simp
    have b1 : 0 + l.length ≤ maxLen := by unfold maxLen; omega
    have b2 : (0 + l.length) * 1 ≤ 140737488355328 := by omega
    have HN := Lib.hid hnews
    have HO := Lib.hid hone
    clear h4 hnews hone h3
    go_enter Try.func17, Try.ntmps17
    go_wp2_with (at_builtin; refine wpList_append_own _ rfl _ _ _ rfl W.heap.size 5 i0 (.int .u8 0) 1 1 Try.underlying30 hi hz0 hz1 hz2 rfl Nat.zero_lt_one (.slice (some ⟨W.heap.size, 0, none⟩) 0 0) 0 [] rfl hown a l.length cap l rfl (Nat.mul_one _).symm HN.out HO.out b1 b2 hsz ?_; intro v' W1 hown1 hgrow1 hnil1)
    go_ret
    obtain ⟨_, hown2⟩ := hown1
    have hfr : Fr (fun _ => False) W W1 := ⟨hgrow1.os, hgrow1.tape, hgrow1.output, Nat.le_trans hsz hgrow1.size, fun k hk _ => (hgrow1.block k (by simp; omega) (fun e => by have := Option.some.inj e; simp at this; omega)).trans (Below.heap_alloc W _ k hk)⟩
    rcases hown2 with ⟨h1, _⟩ | ⟨g, cp, cur, h1, hb, hgb, hnc, hcm, hsz', ht⟩
    · have := hnil1.1 h1
      simp at this
    · refine ⟨v', rfl, ⟨some ⟨g, 0, none⟩, cp, by rw [h1]; simp, by simpa using hnc, hcm, fun h => (by cases h), fun x hx => ?_⟩, hfr⟩
      obtain rfl := Option.some.inj hx
      refine ⟨fun _ e => by have := hS _ e; simp at this; omega, fun j u hj => ?_⟩
      rw [off_add]
      simp only [List.nil_append, Nat.zero_add, Nat.mul_one] at ht
      have hj' : j < l.length := (List.getElem?_eq_some_iff.1 hj).1
      rw [← ht, List.getElem?_take_of_lt hj'] at hj
      simp only [World.cell?, hgb]
      simpa using hj
set_option maxRecDepth 100000 in
/-- Done: a copy of all -/
theorem done_any (W : World) (wb B0 : Nat) (l : List Int) (h : WR W wb B0 l) (hl : l.length ≤ 200000000000) :
    Calls Try.prog 24 #[.pointer (some ⟨wb, 0, none⟩)] W fun e W' => ∃ v, e = .returned v ∧ RowB (fun _ => False) W' v (zb l) ∧ Fr (fun _ => False) W W' := by
  obtain ⟨ao, cp, hb, hown⟩ := h.s
  have c0 := hb.cell 0
  simp only [List.getElem?_toArray, List.getElem?_cons_zero] at c0
  have hrow : RowB (fun _ => False) W (.slice ao l.length cp) (zb l) := by
    have hcs := hown
    rcases hown.2 with ⟨e1, h0⟩ | ⟨g, cap, cur, e1, hb1, hgb, hnc, hcm, _, _⟩
    · injection e1 with e2 e3 e4
      subst e2
      subst e4
      exact ⟨none, 0, by rw [zb_len], by rw [zb_len]; omega, by decide, fun _ => rfl, fun a e => (by cases e)⟩
    · cases e1
      refine ⟨_, cp, by rw [zb_len], by rw [zb_len]; exact hnc, hcm, fun e => (by cases e), fun a e => ⟨fun _ => id, fun j u hj => ?_⟩⟩
      cases e
      rw [off_add, Nat.zero_add, hcs.cellAt j (by have := (List.getElem?_eq_some_iff.1 hj).1; rw [zb_len] at this; omega), hj]
  have HR := Lib.hid (clone_big (fun _ => False) (fun _ => False) W _ (zb l) hrow (by rw [zb_len]; omega) (zb_one l) (fun k e => e.elim))
  clear h hb hown hrow
  go_enter Try.func24, Try.ntmps24
  go_wp2_with fail
  refine HR.out.mono ?_
  rintro e w2 ⟨v, rfl, hr, hf⟩
  have HR2 := Lib.hid hr
  have HF := Lib.hid hf
  clear hr hf HR
  go_wp2
  go_ret
  exact ⟨v, rfl, HR2.out, HF.out⟩
end Go.Proofs.Ytkodkimfoihbhaa
