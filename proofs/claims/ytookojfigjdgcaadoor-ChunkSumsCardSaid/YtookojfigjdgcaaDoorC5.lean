/- A builder and pieces of one document in any order, and then one behind the other. -/
import Derived.Test.YtookojfigjdgcaaDoorC4
set_option linter.unusedVariables false
namespace Go.Proofs.YtookojfigjdgcaaDoor
open Go.RowKit
/-- an older document's state, or a head of this one -/
def Some9 (W : World) (bb : Nat) (l : List UInt8) (id sm : Int) : Prop :=
  (∃ id0 t0 s0 bs0, id0 < id ∧ bs0.length ≤ 1048576 ∧ BS W bb bb id0 t0 s0 bs0) ∨ ∃ m, m ≤ l.length ∧ BS W bb bb id l.length sm (l.take m)
/-- pieces 0 to k are in, and maybe more -/
def Grown (W : World) (bb : Nat) (l : List UInt8) (id sm : Int) (s k : Nat) : Prop :=
  (k = 0 ∧ Some9 W bb l id sm) ∨ (1 ≤ k ∧ ∃ m, m ≤ l.length ∧ (k * s ≤ m ∨ m = l.length) ∧ BS W bb bb id l.length sm (l.take m))
theorem add_grown (W : World) (bb B : Nat) (v : Value) (l : List UInt8) (id : Int) (s : Nat) (ps : List Pc) (hc : CutR W B 36 v l id s ps) (hb : bb ≤ W.heap.size) (hid : 0 ≤ id) (hs : 1 ≤ s) (hn : l.length ≤ 1000000) (k : Nat) (p : Pc) (hp : ps[k]? = some p) (hkn : k = 0 ∨ k * s < l.length) (hh : Grown W bb l id ((crc l).toNat : Int) s k) :
    Calls Tryd.prog 13 #[.pointer (some ⟨bb, 0, none⟩), .agg (pcv p)] W fun r W' => Fr (fun k => k = bb) W W' ∧ ∃ m, m ≤ l.length ∧ ((k + 1) * s ≤ m ∨ m = l.length) ∧ BS W' bb bb id l.length ((crc l).toNat : Int) (l.take m) ∧
      r = .returned (.tuple #[.bool (((m : Int)) == (l.length : Int)), .nilIface]) := by
  obtain ⟨e1, e2, e3, e4, _⟩ := hc.p k p hp
  obtain ⟨r1, r2, r3, r4, r5⟩ := hc.piece hp
  by_cases hold : k = 0 ∧ ∃ id0 t0 s0 bs0, id0 < id ∧ bs0.length ≤ 1048576 ∧ BS W bb bb id0 t0 s0 bs0
  · refine (add_head W bb B v l id s ps hc hb hid hs hn k p hp hkn (.inl hold)).mono ?_
    rintro r W' ⟨hf, h, hr⟩
    rcases h with ⟨h, _⟩ | ⟨_, h⟩
    · omega
    · refine ⟨hf, (l.take ((k + 1) * s)).length, by rw [List.length_take]; omega, by rw [List.length_take]; omega, ?_, hr⟩
      have e : l.take (l.take ((k + 1) * s)).length = l.take ((k + 1) * s) := by
        rw [List.length_take]
        rcases Nat.le_total ((k + 1) * s) l.length with h2 | h2
        · rw [Nat.min_eq_left h2]
        · rw [Nat.min_eq_right h2, List.take_of_length_le (Nat.le_refl _), List.take_of_length_le h2]
      rw [e]
      exact h
  obtain ⟨m, hm, hkm, hbs⟩ : ∃ m, m ≤ l.length ∧ k * s ≤ m ∧ BS W bb bb id l.length ((crc l).toNat : Int) (l.take m) := by
    rcases hh with ⟨h0, h | ⟨m, hm, h⟩⟩ | ⟨h0, m, hm, h1, h⟩
    · exact absurd ⟨h0, h⟩ hold
    · exact ⟨m, hm, by rw [h0]; omega, h⟩
    · exact ⟨m, hm, by rcases hkn with h2 | h2 <;> omega, h⟩
  obtain ⟨i, x, t, sm, a, d, c⟩ := p
  dsimp only at e1 e2 e3 e4 r1 r2 r3 r4 r5
  subst e1 e2 e3 e4
  have hpl := pcL_len l s k
  have hd : d ≤ 1000000 := by omega
  have hc2 : c ≤ 9223372036854775807 := by unfold maxLen at r4; omega
  have hlen : (l.take m).length = m := by rw [List.length_take]; omega
  have he := addE_same l i ((crc l).toNat : Int) m s k hs hid (by omega) hkn
  rw [if_neg (by omega), r2] at he
  refine (Add_any W bb bb i l.length ((crc l).toNat : Int) (l.take m) (pcL l s k) hbs hb i ((k * s : Nat) : Int) (l.length : Int) ((crc l).toNat : Int) a d c r1 r2 hd r3 hc2 (by omega) 0 (by rw [hlen]; exact he)).mono ?_
  rintro r W' ⟨hf, _, hg⟩
  obtain ⟨hb2, hr⟩ := hg rfl
  have hfr : ∀ a b : Int, fresh i i a b = b := fun a b => by unfold fresh; rw [if_neg (by omega)]
  rw [addB_take l i m s k hm hkm, hfr] at hr
  rw [addB_take l i m s k hm hkm, hfr, hfr, hfr] at hb2
  have e1 : (k + 1) * s = k * s + s := by rw [Nat.add_mul, Nat.one_mul]
  have hl2 : (l.take (max m (k * s + (pcL l s k).length))).length = max m (k * s + (pcL l s k).length) := by
    rw [List.length_take]
    rcases hkn with h | h
    · subst h; omega
    · omega
  refine ⟨hf, max m (k * s + (pcL l s k).length), by rw [List.length_take] at hl2; omega, ?_, hb2, by rw [hl2] at hr; exact hr⟩
  rw [List.length_take] at hl2
  rw [e1]
  clear he hr hb2 hf hg e1 hc hp hkn hh hold hbs r1
  generalize k * s = a0 at *
  omega
end Go.Proofs.YtookojfigjdgcaaDoor
