/- The reference's clock: what is due. -/
import Derived.Test.YtjcnmlfkdfpjmaaZ
set_option linter.unusedVariables false
set_option linter.unusedSimpArgs false
namespace Go.Proofs.Ytjcnmlfkdfpjmaa
open Go.RowKit Go.Maps Go.Sort
variable {W : World} {rb B0 : Nat} {T : Int} {L : List (Int × Int)}
theorem ownsG_fr {S : Nat → Prop} {W W' : World} {base e size : Nat} {sv : Value} {n : Nat} {xs : List Value} (h : W.ownsRow base e size sv n xs) (hf : Fr S W W') (hS : ∀ k, S k → sv.ownBlock ≠ some k) : W'.ownsRow base e size sv n xs := by
  refine ⟨h.1, ?_⟩
  rcases h.2 with h2 | ⟨g, cap, cur, h1, h2, h3, h4⟩
  · exact .inl h2
  · exact .inr ⟨g, cap, cur, h1, h2, (hf.block g (Array.getElem?_eq_some_iff.1 h3).1 (fun e => hS g e (by rw [h1]; rfl))).trans h3, h4⟩
theorem ownsG_base {W : World} {b1 b2 e size : Nat} {sv : Value} {n : Nat} {xs : List Value} (h : W.ownsRow b1 e size sv n xs) (hb : b2 ≤ b1) : W.ownsRow b2 e size sv n xs := by
  refine ⟨h.1, ?_⟩
  rcases h.2 with h2 | ⟨g, cap, cur, h1, h2, h3⟩
  · exact .inl h2
  · exact .inr ⟨g, cap, cur, h1, Nat.le_trans hb h2, h3⟩
def idsOf (L : List (Int × Int)) (k : Nat) : List Int := (L.take k).map (·.1)
theorem idsOf_len {k : Nat} (h : k ≤ L.length) : (idsOf L k).length = k := by unfold idsOf; rw [List.length_map, List.length_take]; omega
theorem idsOf_succ {k : Nat} {p : Int × Int} (h : L[k]? = some p) : idsOf L (k + 1) = idsOf L k ++ [p.1] := by unfold idsOf; rw [List.take_add_one, h]; simp
theorem zv_append (l m : List Int) : zv (l ++ m) = zv l ++ zv m := List.map_append ..
/-- between two rounds: k went -/
structure RD (W0 : World) (rb B0 : Nat) (T : Int) (L : List (Int × Int)) (ov : Value) (W : World) (k : Nat) : Prop where
  hk : k ≤ L.length
  due : ∀ j p, j < k → L[j]? = some p → p.2 ≤ T
  own : W.ownsRow W0.heap.size 3 1 ov k (zv (idsOf L k))
  s : ∃ sv, Blk W rb 54 #[.int .i64 T, sv] ∧ W.ownsRow B0 72 2 sv (L.length - k) (flat (L.drop k)) ∧ ∀ g, sv.ownBlock = some g → ov.ownBlock ≠ some g
  fr : Fr (fun k => k = rb) W0 W
theorem RD.fr0 {W0 W W' : World} {ov : Value} {k : Nat} (h : RD W0 rb B0 T L ov W k) (hf : Fr (fun _ => False) W W') : RD W0 rb B0 T L ov W' k := by
  obtain ⟨sv, h1, h2, h3⟩ := h.s
  exact ⟨h.hk, h.due, ownsG_fr h.own hf (fun _ e => e.elim), ⟨sv, h1.fr hf id, ownsG_fr h2 hf (fun _ e => e.elim), h3⟩, h.fr.trans (hf.mono fun _ e => e.elim)⟩
theorem RD.fin {W0 W : World} {ov : Value} {k : Nat} (h : RD W0 rb B0 T L ov W k) (hd : rb < B0 ∧ B0 ≤ W0.heap.size) : ∃ (ao : Option Addr) (cp : Nat), ov = .slice ao (idsOf L k).length cp ∧ RowI W W0.heap.size ao (idsOf L k) ∧ RC W rb B0 T (L.drop k) := by
  have ho : W.ownsRow W0.heap.size 3 1 ov (idsOf L k).length (zv (idsOf L k)) := by rw [idsOf_len h.hk]; exact h.own
  obtain ⟨ao, cp, h1, _, _, h2⟩ := row_form ho
  obtain ⟨sv, h3, h4, _⟩ := h.s
  exact ⟨ao, cp, h1, h2, ⟨⟨sv, h3, by rw [List.length_drop]; exact h4⟩, hd.1, Nat.le_trans hd.2 h.fr.size⟩⟩
set_option maxRecDepth 100000 in
set_option maxHeartbeats 2000000 in
theorem rdue_any (h : RC W rb B0 T L) (hL : L.length ≤ 1000) :
    Calls Try.prog 28 #[.pointer (some ⟨rb, 0, none⟩)] W fun e W' => ∃ (ao : Option Addr) (cp k : Nat), k ≤ L.length ∧ e = .returned (.slice ao (idsOf L k).length cp) ∧ (∀ (j : Nat) (a b : Int), j < k → L[j]? = some (a, b) → b ≤ T) ∧ (∀ a b : Int, L[k]? = some (a, b) → T < b) ∧ RowI W' W.heap.size ao (idsOf L k) ∧ RC W' rb B0 T (L.drop k) ∧ Fr (fun k => k = rb) W W' := by
  have H0 : RD W rb B0 T L (.slice none 0 0) W 0 := by
    obtain ⟨sv, h1, h2⟩ := h.s
    exact ⟨Nat.zero_le _, fun j p h => by omega, World.ownsRow_nil _ _ _ _, ⟨sv, h1, h2, fun g _ => by simp [Value.ownBlock]⟩, Fr.refl _ _⟩
  have hd := h.d
  have HH := Lib.hid H0
  clear h H0
  obtain ⟨i0, hi, hz0, hz1, hz2⟩ := info_parts infoE3
  go_enter Try.func28, Try.ntmps28
  go_wp2
  go_loopw [3] (fun ov wr => ∃ k, RD W rb B0 T L ov wr k) (fun _ wr => match wr.cell? ⟨rb, 1, none⟩ with | some (.slice _ n _) => n | _ => 0)
  case atStart => exact ⟨0, HH.out⟩
  case round =>
    obtain ⟨k, hr⟩ := hrel
    obtain ⟨sv, hs, ho, hap⟩ := hr.s
    have hk := hr.hk
    have hg := Fr.size hr.fr
    have c0 := hs.cell 0
    have c1 := hs.cell 1
    have f1 := hs.frozen 1
    have hrl := hs.lt
    have HR := Lib.hid hr
    have HS := Lib.hid hs
    have HA := Lib.hid hap
    simp only [List.getElem?_toArray, List.getElem?_cons_zero, List.getElem?_cons_succ] at c0 c1
    obtain ⟨n, hn⟩ : ∃ n, L.length - k = n := ⟨_, rfl⟩
    rw [hn] at ho
    have HO := Lib.hid ho
    have HN := Lib.hid hn
    by_cases hlt : k < L.length
    · obtain ⟨q, hq⟩ : ∃ q, L[k]? = some q := ⟨_, List.getElem?_eq_getElem hlt⟩
      have hq0 : (L.drop k)[0]? = some q := by rw [List.getElem?_drop]; exact hq
      rcases ho.2 with ⟨_, h⟩ | ⟨g, cp, cur, rfl, hb, hgb, hnc, hcm, _, _⟩
      · omega
      have d0 : wr.cell? ⟨g, 0, none⟩ = some (.int .i64 q.1) := by rw [ho.cellAt 0 (by omega)]; exact (flat_at hq0).1
      have d1 : wr.cell? ⟨g, 1, none⟩ = some (.int .i64 q.2) := by rw [ho.cellAt 1 (by omega)]; exact (flat_at hq0).2
      have i1 : decide (0 < n) = true := decide_eq_true (by omega)
      have i2 : (0 : Int) < (n : Int) := by omega
      have HQ := Lib.hid hq
      clear hr hs ho hap hn hgb hq hq0
      by_cases hp' : q.2 ≤ T
      · have pt : decide (q.2 ≤ T) = true := decide_eq_true hp'
        have hownq : ∀ z, ((wr.drewN z).alloc (.cells #[.int .i64 q.1] 3)).ownsRow W.heap.size 3 1 u3 k (zv (idsOf L k)) := fun z => (show (wr.drewN z).ownsRow W.heap.size 3 1 u3 k (zv (idsOf L k)) from HR.out.own).alloc _
        obtain ⟨A, hA, hAc⟩ : ∃ A : Addr, (if cp = 1 then some (⟨g, 0, none⟩ : Addr) else some ⟨g, 2, none⟩) = some A ∧ ∀ w1 : World, w1.ownsRow B0 72 2 (.slice (some ⟨g, 0, none⟩) n cp) n (flat (L.drop k)) → ∀ j u, (flat (L.drop (k + 1)))[j]? = some u → w1.cell? (A.add j) = some u := by
          by_cases e : cp = 1
          · rw [if_pos e]
            refine ⟨_, rfl, fun w1 ho j u hj => ?_⟩
            have : L.drop (k + 1) = [] := List.drop_eq_nil_of_le (by have := HN.out; omega)
            rw [this] at hj
            simp [flat] at hj
          · rw [if_neg e]
            refine ⟨_, rfl, fun w1 ho j u hj => ?_⟩
            have hjl := (List.getElem?_eq_some_iff.1 hj).1
            rw [flat_len, List.length_drop] at hjl
            rw [off_add, ho.cellAt (2 + j) (by have := HN.out; omega), ← hj, flat_drop, flat_drop, List.getElem?_drop, List.getElem?_drop]
            congr 1; omega
        have HAC := Lib.hid hAc
        have hld : (flat (L.drop (k + 1))).length = (n - 1) * 2 := by rw [flat_len, List.length_drop]; have := HN.out; omega
        have LD := Lib.hid hld
        have OD := Lib.hid (flat_one (L.drop (k + 1)))
        have s1 : 0 + (n - 1) ≤ 100000 := by have := HN.out; omega
        have hrW : rb < W.heap.size := by omega
        clear hAc hld
        have hnews : ∀ (z j : Nat) (u : Value), [Value.int .i64 q.1][j]? = some u → ((wr.drewN z).alloc (.cells #[.int .i64 q.1] 3)).cell? ((⟨wr.heap.size, 0, none⟩ : Addr).add j) = some u := fun z j u hj => by
          rw [off_add, Nat.zero_add]
          show ((wr.drewN z).alloc _).cell? ⟨(wr.drewN z).heap.size, j, none⟩ = some u
          rw [World.cell?_alloc_mark]
          simpa using hj
        have hone : ∀ u ∈ [Value.int .i64 q.1], u.oneCell' = true := by simp; rfl
        have b1 : k + 1 ≤ maxLen := by unfold maxLen; omega
        have b2 : (k + 1) * 8 ≤ 140737488355328 := by omega
        have hsz : ∀ z, W.heap.size ≤ ((wr.drewN z).alloc (.cells #[.int .i64 q.1] 3)).heap.size := fun z => by simp; omega
        have HOW := Lib.hid hownq
        have HNW := Lib.hid hnews
        have HSZ := Lib.hid hsz
        have HON := Lib.hid hone
        clear hownq hnews hsz hone
        go_wp2
        go_quiet (fail)
        go_wp2_with (first
          | (at_builtin
             refine wpList_append_own _ rfl _ _ _ rfl W.heap.size 3 i0 (.int .i64 0) 1 8 Try.underlying29 hi hz0 hz1 hz2 rfl Nat.zero_lt_one u3 k (zv (idsOf L k)) rfl (HOW.out _) ⟨wr.heap.size, 0, none⟩ 1 1 [.int .i64 q.1] rfl rfl (HNW.out _) HON.out b1 b2 (HSZ.out _) ?_
             intro v' w1 hown1 hgrow1 hnil1
             have hfA : Fr (fun k => u3.ownBlock = some k) wr w1 := ((Fr.drewN _ wr _).trans (Fr.alloc _ _ _)).trans (Fr.grown hgrow1 (fun k e => e))
             have hsA := HS.out.fr hfA (fun e => row_ne_low HR.out.own hrW e.symm)
             have hoA := ownsG_fr HO.out hfA (fun j e1 e2 => HA.out j e2 e1)
             have hfR : Fr (fun k => k = rb) W w1 := ⟨hfA.os.trans HR.out.fr.os, hfA.tape.trans HR.out.fr.tape, hfA.output.trans HR.out.fr.output, Nat.le_trans hg hfA.size, fun j hj hn => (hfA.block j (Nat.lt_of_lt_of_le hj hg) (fun e => row_ne_low HR.out.own hj e.symm)).trans (HR.out.fr.block j hj hn)⟩
             have d2 := hsA.cell 1
             have f2 := hsA.frozen 1
             have hrl1 := hsA.lt
             simp only [List.getElem?_toArray, List.getElem?_cons_zero, List.getElem?_cons_succ] at d2
             have e0 := owns_empty w1
             have hfa : Fr (fun _ => False) w1 (w1.alloc (.cells #[] 72)) := Fr.alloc _ _ _
             have n1 : ∀ j u, (flat (L.drop (k + 1)))[j]? = some u → (w1.alloc (.cells #[] 72)).cell? (A.add j) = some u := fun j u hj => (by
               have := HAC.out w1 hoA j u hj
               exact (World.cell?_of_block (hfa.block _ (lt_of_cell this) id)).trans this)
             have z1 := hfa.size
             have E0 := Lib.hid e0
             have N1 := Lib.hid n1
             have HO1 := Lib.hid hown1
             have HSA := Lib.hid hsA
             have HFA := Lib.hid hfa
             have HFR := Lib.hid hfR
             have hob1 := hown1.lt
             clear hown1 hgrow1 hnil1 hfA hsA hoA n1 e0 hfa)
          | (at_builtin
             refine app72 rfl _ _ rfl (v := .slice (some ⟨w1.heap.size, 0, none⟩) 0 0) (ad := A) (m := n - 1) (c := cp - 1) rfl rfl E0.out LD.out N1.out OD.out s1 z1 ?_
             intro v2 w3 own2 hg2
             have hf3 : Fr (fun _ => False) w1 w3 := HFA.out.by_own hg2 (fun k e => Nat.le_of_eq (by simpa [Value.ownBlock] using e))
             obtain ⟨a3, q3, rfl⟩ := owns_slice own2
             have hs3 := HSA.out.fr hf3 id
             have c3 := hs3.cell 1
             have fz3 := hs3.frozen 1
             simp only [List.getElem?_toArray, List.getElem?_cons_zero, List.getElem?_cons_succ] at c3
             have OW2 := Lib.hid own2
             have HF3 := Lib.hid hf3
             have HS3 := Lib.hid hs3
             clear own2 hg2 hf3 hs3))
        go_roundw
        case rel =>
          have hs4 := HS3.out.set 1 (.slice a3 (n - 1) q3)
          have hf4 := Fr.setCell (S := fun k => k = rb) w3 ⟨rb, 1, none⟩ (.slice a3 (n - 1) q3) rfl
          have hq := HQ.out
          have hn := HN.out
          have how := OW2.out
          rw [Nat.zero_add, List.nil_append] at how
          have hz : B0 ≤ w1.heap.size := Nat.le_trans hd.2 HFR.out.size
          refine ⟨k + 1, by omega, fun j p hj hp => ?_, ?_, ⟨_, by simpa using hs4, ?_, fun g e1 e2 => ?_⟩, HFR.out.trans ((HF3.out.mono fun _ e => e.elim).trans hf4)⟩
          · by_cases e : j = k
            · subst e; rw [hq] at hp; cases hp; exact hp'
            · exact HR.out.due j p (by omega) hp
          · rw [idsOf_succ hq, zv_append]
            exact ownsG_fr (ownsG_fr HO1.out HF3.out (fun _ e => e.elim)) hf4 (fun j e1 e2 => row_ne_low HO1.out hrW (by rw [e2, e1]))
          · rw [show L.length - (k + 1) = n - 1 by omega]
            refine ownsG_fr (ownsG_base how hz) hf4 (fun j e1 e2 => row_ne_low how (b := rb) (by omega) (by rw [e2, e1]))
          · have h1 := (hob1 g e2).2
            have h2 := (how.lt g e1).1
            omega
        case measure =>
          rw [setCell_self _ c3, c1]
          have := HN.out
          show n - 1 < n
          omega
      · have pt : decide (q.2 ≤ T) = false := decide_eq_false hp'
        go_wp2
        go_quiet (fail)
        go_wp2
        obtain ⟨ao2, cp2, rfl, h2, h3⟩ := (HR.out.fr0 (Fr.drewN _ wr nq)).fin hd
        go_ret
        exact ⟨ao2, cp2, k, hk, rfl, fun j a b => HR.out.due j (a, b), fun a b hp => (by rw [HQ.out] at hp; cases hp; exact hp'), h2, h3, HR.out.fr.trans (Fr.drewN _ _ _)⟩
    · have HNN : n = 0 := by omega
      obtain ⟨ao, cp, rfl⟩ := owns_slice ho
      subst HNN
      have i1 : decide ((0 : Int) > 0) = false := rfl
      clear hr hs ho hap hn
      go_wp2
      go_quiet (fail)
      go_wp2
      obtain ⟨ao2, cp2, rfl, h2, h3⟩ := (HR.out.fr0 (Fr.drewN _ wr nq)).fin hd
      go_ret
      exact ⟨ao2, cp2, k, hk, rfl, fun j a b => HR.out.due j (a, b), fun a b hp => (by have := (List.getElem?_eq_some_iff.1 hp).1; omega), h2, h3, HR.out.fr.trans (Fr.drewN _ _ _)⟩
end Go.Proofs.Ytjcnmlfkdfpjmaa
