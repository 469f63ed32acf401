/- A builder and the pieces of one document, one behind the other. -/
import Derived.Test.YtookojfigjdgcaaDoorCutsW
import Derived.Test.YtookojfigjdgcaaDoorC3
set_option linter.unusedVariables false
namespace Go.Proofs.YtookojfigjdgcaaDoor
open Go.RowKit
/-- the first k pieces are in -/
def Head (W : World) (bb : Nat) (l : List UInt8) (id sm : Int) (s k : Nat) : Prop :=
  (k = 0 ∧ ∃ id0 t0 s0 bs0, id0 < id ∧ bs0.length ≤ 1048576 ∧ BS W bb bb id0 t0 s0 bs0) ∨ (1 ≤ k ∧ BS W bb bb id l.length sm (l.take (k * s)))
theorem take_next (l : List UInt8) (s k : Nat) : l.take (max (k * s) (k * s + (pcL l s k).length)) = l.take ((k + 1) * s) := by
  rw [Nat.max_eq_right (by omega), pcL_len, Nat.add_mul, Nat.one_mul]
  rcases Nat.le_total s (l.length - k * s) with h | h
  · rw [Nat.min_eq_left h]
  · rw [Nat.min_eq_right h, List.take_of_length_le (by omega), List.take_of_length_le (by omega)]
theorem add_head (W : World) (bb B : Nat) (v : Value) (l : List UInt8) (id : Int) (s : Nat) (ps : List Pc) (hc : CutR W B 36 v l id s ps) (hb : bb ≤ W.heap.size) (hid : 0 ≤ id) (hs : 1 ≤ s) (hn : l.length ≤ 1000000) (k : Nat) (p : Pc) (hp : ps[k]? = some p) (hkn : k = 0 ∨ k * s < l.length) (hh : Head W bb l id ((crc l).toNat : Int) s k) :
    Calls Tryd.prog 13 #[.pointer (some ⟨bb, 0, none⟩), .agg (pcv p)] W fun r W' => Fr (fun k => k = bb) W W' ∧ Head W' bb l id ((crc l).toNat : Int) s (k + 1) ∧
      r = .returned (.tuple #[.bool ((((l.take ((k + 1) * s)).length : Int)) == (l.length : Int)), .nilIface]) := by
  obtain ⟨e1, e2, e3, e4, _⟩ := hc.p k p hp
  obtain ⟨r1, r2, r3, r4, r5⟩ := hc.piece hp
  obtain ⟨i, x, t, m, a, d, c⟩ := p
  dsimp only at e1 e2 e3 e4 r1 r2 r3 r4 r5
  subst e1 e2 e3 e4
  have hd : d ≤ 1000000 := by
    have := pcL_len l s k
    omega
  have hc2 : c ≤ 9223372036854775807 := by unfold maxLen at r4; omega
  rcases hh with ⟨rfl, id0, t0, s0, bs0, hlt, hl0, hbs⟩ | ⟨hk, hbs⟩
  · have he := addE_first l id0 i t0 s0 ((crc l).toNat : Int) bs0.length s hs hid hlt (by omega) 0 hkn
    rw [if_neg (by omega), r2] at he
    refine (Add_any W bb bb id0 t0 s0 bs0 (pcL l s 0) hbs hb i ((0 * s : Nat) : Int) (l.length : Int) ((crc l).toNat : Int) a d c r1 r2 hd r3 hc2 hl0 0 he).mono ?_
    rintro r W' ⟨hf, _, hg⟩
    obtain ⟨hb2, hr⟩ := hg rfl
    have e0 : ((0 * s : Nat) : Int) = 0 := by simp
    have hfr : ∀ a b : Int, fresh id0 i a b = a := fun a b => by unfold fresh; rw [if_pos hlt]
    rw [e0, addB_first l id0 i bs0 s hlt, hfr] at hr
    rw [e0, addB_first l id0 i bs0 s hlt, hfr, hfr, hfr] at hb2
    rw [Nat.zero_add, Nat.one_mul]
    exact ⟨hf, .inr ⟨Nat.le_refl _, by rw [Nat.one_mul]; exact hb2⟩, hr⟩
  · have hks : k * s < l.length := by rcases hkn with h | h <;> omega
    have hlen : (l.take (k * s)).length = k * s := by rw [List.length_take]; omega
    have he := addE_same l i ((crc l).toNat : Int) (k * s) s k hs hid (by omega) hkn
    rw [if_neg (by omega), r2, ← hlen] at he
    rw [hlen] at he
    refine (Add_any W bb bb i l.length ((crc l).toNat : Int) (l.take (k * s)) (pcL l s k) hbs hb i ((k * s : Nat) : Int) (l.length : Int) ((crc l).toNat : Int) a d c r1 r2 hd r3 hc2 (by omega) 0 (by rw [hlen]; exact he)).mono ?_
    rintro r W' ⟨hf, _, hg⟩
    obtain ⟨hb2, hr⟩ := hg rfl
    have hfr : ∀ a b : Int, fresh i i a b = b := fun a b => by unfold fresh; rw [if_neg (by omega)]
    rw [addB_take l i (k * s) s k (by omega) (Nat.le_refl _), take_next, hfr] at hr
    rw [addB_take l i (k * s) s k (by omega) (Nat.le_refl _), take_next, hfr, hfr, hfr] at hb2
    exact ⟨hf, .inr ⟨by omega, hb2⟩, hr⟩
end Go.Proofs.YtookojfigjdgcaaDoor
