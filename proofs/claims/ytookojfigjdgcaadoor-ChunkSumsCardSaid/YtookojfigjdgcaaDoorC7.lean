/- The pieces of a document of which a byte was turned, and a builder that takes them. -/
import Derived.Test.YtookojfigjdgcaaDoorC4
import Derived.Test.YtookojfigjdgcaaDoorP2
set_option linter.unusedVariables false
set_option linter.unusedSimpArgs false
namespace Go.Proofs.YtookojfigjdgcaaDoor
open Go.RowKit
theorem Fr.set2 {S : Nat → Prop} {w w2 : World} (h : Fr S w w2) (a : Addr) (v : Value) : Fr S (w.setCell a v) (w2.setCell a v) :=
  ⟨h.os, h.tape, h.output, by simpa [World.setCell] using h.size, fun k hk hn => by
    show (w2.heap.modify a.block _)[k]? = (w.heap.modify a.block _)[k]?
    rw [Array.getElem?_modify, Array.getElem?_modify, h.block k (by simpa [World.setCell] using hk) hn]⟩
/-- pieces of l, whatever sum they name -/
structure CutS (W : World) (B : Nat) (v : Value) (l : List UInt8) (id : Int) (sz : Nat) (ps : List Pc) (sm : Int) : Prop where
  o : OwnP W B 36 v ps
  p : ∀ (k : Nat) (p : Pc), ps[k]? = some p → p.id = id ∧ p.at_ = ((k * sz : Nat) : Int) ∧ p.total = (l.length : Int) ∧ p.sum = sm ∧ OwnY W B (.slice p.ao p.dl p.cp) (pcL l sz k)
theorem CutS.keep {S : Nat → Prop} {W W2 : World} {B : Nat} {v : Value} {l : List UInt8} {id sm : Int} {sz : Nat} {ps : List Pc} (h : CutS W B v l id sz ps sm) (hf : Fr S W W2) (hS : ∀ k, k < W.heap.size → ¬ S k) : CutS W2 B v l id sz ps sm :=
  ⟨h.o.fr hf (fun k hk => hS k (h.o.ob hk).2.1), fun k p hp => by
    obtain ⟨h1, h2, h3, h4, h5⟩ := h.p k p hp
    exact ⟨h1, h2, h3, h4, h5.fr hf (fun k hk => hS k (h5.ob hk).2.1)⟩⟩
theorem CutR.keepB {S : Nat → Prop} {W W2 : World} {B : Nat} {E : TypeId} {v : Value} {l : List UInt8} {id : Int} {sz : Nat} {ps : List Pc} (h : CutR W B E v l id sz ps) (hf : Fr S W W2) (hS : ∀ k, B ≤ k → k < W.heap.size → ¬ S k) : CutR W2 B E v l id sz ps :=
  ⟨h.o.fr hf (fun k hk => hS k (h.o.ob hk).1 (h.o.ob hk).2.1), fun k p hp => by
    obtain ⟨h1, h2, h3, h4, h5⟩ := h.p k p hp
    exact ⟨h1, h2, h3, h4, h5.fr hf (fun k hk => hS k (h5.ob hk).1 (h5.ob hk).2.1)⟩⟩
theorem CutS.piece {W : World} {B : Nat} {v : Value} {l : List UInt8} {id sm : Int} {sz : Nat} {ps : List Pc} (h : CutS W B v l id sz ps sm) {k : Nat} {p : Pc} (hp : ps[k]? = some p) :
    RowY W p.ao (pcL l sz k) ∧ (pcL l sz k).length = p.dl ∧ p.dl ≤ p.cp ∧ p.cp ≤ maxLen := by
  obtain ⟨_, _, _, _, h5⟩ := h.p k p hp
  obtain ⟨a, c, e2, h1, h2, h3, _⟩ := h5.row
  injection e2 with fa fd fc
  exact ⟨by rw [fa]; exact h3, fd.symm, by omega, by omega⟩
theorem CutS.cell {W : World} {B g n cap : Nat} {l : List UInt8} {id sm : Int} {sz : Nat} {ps : List Pc} (h : CutS W B (.slice (some ⟨g, 0, none⟩) n cap) l id sz ps sm) {k : Nat} {p : Pc} (hp : ps[k]? = some p) {j : Nat} {u : Value} (hj : (pcv p)[j]? = some u) : W.cell? ⟨g, k * 5 + j, none⟩ = some u := by
  rcases h.o.form with ⟨e, _⟩ | ⟨g', cap', e, _, _, _, _, _, h6⟩
  · cases e
  · cases e
    exact h6 k p hp j u hj
theorem pcL_at (l : List UInt8) (sz k i : Nat) : (pcL l sz k)[i]? = if i < sz then l[k * sz + i]? else none := by
  unfold pcL
  rw [List.getElem?_take]
  split
  · rw [List.getElem?_drop]
  · rfl
theorem pcL_set_same (l : List UInt8) (sz k : Nat) (c : UInt8) (hs : 1 ≤ sz) : pcL (l.set (k * sz) c) sz k = (pcL l sz k).set 0 c := by
  apply List.ext_getElem?
  intro i
  have hl := pcL_len l sz k
  rw [pcL_at, List.getElem?_set, List.getElem?_set, pcL_at, hl]
  by_cases h : i < sz
  · rw [if_pos h, if_pos h]
    by_cases h0 : 0 = i
    · subst h0
      rw [if_pos (by omega), if_pos rfl]
      by_cases h1 : k * sz < l.length
      · rw [if_pos h1, if_pos (by omega)]
      · rw [if_neg h1, if_neg (by omega)]
    · rw [if_neg (by omega), if_neg h0]
  · rw [if_neg h, if_neg (by omega), if_neg h]
theorem pcL_set_other (l : List UInt8) (sz k j : Nat) (c : UInt8) (hs : 1 ≤ sz) (hj : j ≠ k) : pcL (l.set (k * sz) c) sz j = pcL l sz j := by
  apply List.ext_getElem?
  intro i
  rw [pcL_at, pcL_at]
  by_cases h : i < sz
  · rw [if_pos h, if_pos h, List.getElem?_set, if_neg]
    intro e
    rcases Nat.lt_or_ge j k with h1 | h1
    · have : (j + 1) * sz ≤ k * sz := Nat.mul_le_mul_right sz h1
      rw [Nat.add_mul] at this
      omega
    · have : (k + 1) * sz ≤ j * sz := Nat.mul_le_mul_right sz (by omega)
      rw [Nat.add_mul] at this
      omega
  · rw [if_neg h, if_neg h]
theorem OwnY.set0 {W : World} {B g n cap : Nat} {xs : List UInt8} (h : OwnY W B (.slice (some ⟨g, 0, Option.none⟩) n cap) xs) (c : UInt8) : OwnY (W.setCell ⟨g, 0, Option.none⟩ (.int .u8 (c.toNat : Int))) B (.slice (some ⟨g, 0, Option.none⟩) n cap) (xs.set 0 c) := by
  obtain ⟨hl, ⟨h1, _⟩ | ⟨g', cap', cur, h1, hb, hgb, hn, hcap, hcs, hct⟩⟩ := h
  · cases h1
  · have e : g' = g := by injection h1 with h2; injection h2 with h3; injection h3 with h4; exact h4.symm
    subst e
    have hblk : Blk W g' 5 cur := hgb
    refine ⟨by simp [yv], .inr ⟨g', cap', cur.setIfInBounds 0 (.int .u8 (c.toNat : Int)), by rw [List.length_set]; exact h1, hb, hblk.set 0 _, by rw [List.length_set]; exact hn, hcap, by rw [Array.size_setIfInBounds]; exact hcs, ?_⟩⟩
    rw [Array.toList_setIfInBounds, List.length_set, List.take_set, hct]
    simp [yv, List.map_set]
/-- the pieces, a byte of one of them turned -/
theorem CutS.turned {W : World} {B : Nat} {v : Value} {l : List UInt8} {id : Int} {sz : Nat} {ps : List Pc} (h : CutR W B 36 v l id sz ps) (hd : Dist ps) (hs : 1 ≤ sz) (k : Nat) (p : Pc) (hp : ps[k]? = some p) (g : Nat) (hg : p.ao = some ⟨g, 0, none⟩) (c : UInt8) :
    CutS (W.setCell ⟨g, 0, none⟩ (.int .u8 (c.toNat : Int))) B v (l.set (k * sz) c) id sz ps ((crc l).toNat : Int) := by
  have hf : Fr (fun b => b = g) W (W.setCell ⟨g, 0, none⟩ (.int .u8 (c.toNat : Int))) := Fr.setCell _ _ _ rfl
  obtain ⟨_, _, _, _, h5⟩ := h.p k p hp
  have hgb := (h5.ob (k := g) (by rw [hg]; rfl)).2.2
  refine ⟨h.o.fr hf (fun b hb e => ?_), fun j q hq => ?_⟩
  · obtain ⟨_, _, cs, h1⟩ := h.o.ob hb
    obtain ⟨cs2, h2⟩ := hgb
    rw [e, h2] at h1
    cases h1
  · obtain ⟨q1, q2, q3, q4, q5⟩ := h.p j q hq
    refine ⟨q1, q2, by rw [List.length_set]; exact q3, q4, ?_⟩
    by_cases e : j = k
    · subst e
      rw [hp] at hq
      cases hq
      rw [pcL_set_same l sz j c hs, hg]
      rw [hg] at q5
      exact q5.set0 c
    · rw [pcL_set_other l sz k j c hs e]
      refine q5.fr hf (fun b hb e2 => ?_)
      subst e2
      cases ha : q.ao with
      | none => rw [ha] at hb; cases hb
      | some y =>
        rw [ha] at hb
        have e3 : y.block = b := by simpa [Value.ownBlock] using hb
        rcases Nat.lt_or_gt_of_ne e with h6 | h6
        · have := hd j k q p y ⟨b, 0, none⟩ h6 hq hp ha hg
          dsimp only at this
          omega
        · have := hd k j p q ⟨b, 0, none⟩ y h6 hp hq hg ha
          dsimp only at this
          omega
theorem add_headS (W : World) (bb B : Nat) (v : Value) (l : List UInt8) (id sm : Int) (s : Nat) (ps : List Pc) (hc : CutS W B v l id s ps sm) (hb : bb ≤ W.heap.size) (hid : 0 ≤ id) (hs : 1 ≤ s) (hn : l.length ≤ 1000000) (k : Nat) (p : Pc) (hp : ps[k]? = some p) (hkn : k = 0 ∨ k * s < l.length) (hh : Head W bb l id sm s k) :
    Calls Tryd.prog 13 #[.pointer (some ⟨bb, 0, none⟩), .agg (pcv p)] W fun r W' => Fr (fun k => k = bb) W W' ∧ Head W' bb l id sm s (k + 1) ∧ ∃ b, r = .returned (.tuple #[.bool b, .nilIface]) := by
  obtain ⟨e1, e2, e3, e4, _⟩ := hc.p k p hp
  obtain ⟨r1, r2, r3, r4⟩ := hc.piece hp
  obtain ⟨i, x, t, m, a, d, c⟩ := p
  dsimp only at e1 e2 e3 e4 r1 r2 r3 r4
  subst e1 e2 e3 e4
  have hd : d ≤ 1000000 := by
    have := pcL_len l s k
    omega
  have hc2 : c ≤ 9223372036854775807 := by unfold maxLen at r4; omega
  rcases hh with ⟨rfl, id0, t0, s0, bs0, hlt, hl0, hbs⟩ | ⟨hk, hbs⟩
  · have he := addE_first l id0 i t0 s0 m bs0.length s hs hid hlt (by omega) 0 hkn
    rw [if_neg (by omega), r2] at he
    refine (Add_any W bb bb id0 t0 s0 bs0 (pcL l s 0) hbs hb i ((0 * s : Nat) : Int) (l.length : Int) m a d c r1 r2 hd r3 hc2 hl0 0 he).mono ?_
    rintro r W' ⟨hf, _, hg⟩
    obtain ⟨hb2, hr⟩ := hg rfl
    have e0 : ((0 * s : Nat) : Int) = 0 := by simp
    have hfr : ∀ a b : Int, fresh id0 i a b = a := fun a b => by unfold fresh; rw [if_pos hlt]
    rw [e0, addB_first l id0 i bs0 s hlt, hfr, hfr, hfr] at hb2
    rw [Nat.zero_add]
    exact ⟨hf, .inr ⟨Nat.le_refl _, by rw [Nat.one_mul]; exact hb2⟩, _, hr⟩
  · have hks : k * s < l.length := by rcases hkn with h | h <;> omega
    have hlen : (l.take (k * s)).length = k * s := by rw [List.length_take]; omega
    have he := addE_same l i m (k * s) s k hs hid (by omega) hkn
    rw [if_neg (by omega), r2, ← hlen] at he
    rw [hlen] at he
    refine (Add_any W bb bb i l.length m (l.take (k * s)) (pcL l s k) hbs hb i ((k * s : Nat) : Int) (l.length : Int) m a d c r1 r2 hd r3 hc2 (by omega) 0 (by rw [hlen]; exact he)).mono ?_
    rintro r W' ⟨hf, _, hg⟩
    obtain ⟨hb2, hr⟩ := hg rfl
    have hfr : ∀ a b : Int, fresh i i a b = b := fun a b => by unfold fresh; rw [if_neg (by omega)]
    rw [addB_take l i (k * s) s k (by omega) (Nat.le_refl _), take_next, hfr, hfr, hfr] at hb2
    exact ⟨hf, .inr ⟨by omega, hb2⟩, _, hr⟩
theorem head_all {W : World} {bb : Nat} {l : List UInt8} {id sm : Int} {s k : Nat} (h : Head W bb l id sm s k) (hk : 1 ≤ k) (hn : l.length ≤ k * s) : BS W bb bb id l.length sm l := by
  rcases h with ⟨h, _⟩ | ⟨_, h⟩
  · omega
  · rw [List.take_of_length_le hn] at h
    exact h
end Go.Proofs.YtookojfigjdgcaaDoor
