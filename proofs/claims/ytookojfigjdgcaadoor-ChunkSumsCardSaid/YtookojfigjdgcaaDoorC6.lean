/- A builder and any piece of one document. -/
import Derived.Test.YtookojfigjdgcaaDoorC5
set_option linter.unusedVariables false
namespace Go.Proofs.YtookojfigjdgcaaDoor
open Go.RowKit
theorem add_some (W : World) (bb B : Nat) (v : Value) (l : List UInt8) (id : Int) (s : Nat) (ps : List Pc) (hc : CutR W B 36 v l id s ps) (hb : bb ≤ W.heap.size) (hid : 0 ≤ id) (hs : 1 ≤ s) (hn : l.length ≤ 1000000) (k : Nat) (p : Pc) (hp : ps[k]? = some p) (hkn : k = 0 ∨ k * s < l.length) (hh : Some9 W bb l id ((crc l).toNat : Int)) :
    Calls Tryd.prog 13 #[.pointer (some ⟨bb, 0, none⟩), .agg (pcv p)] W fun r W' => Fr (fun k => k = bb) W W' ∧ Some9 W' bb l id ((crc l).toNat : Int) ∧ ∃ x y, r = .returned (.tuple #[.bool x, y]) := by
  have grown : Grown W bb l id ((crc l).toNat : Int) s k → Calls Tryd.prog 13 #[.pointer (some ⟨bb, 0, none⟩), .agg (pcv p)] W fun r W' => Fr (fun k => k = bb) W W' ∧ Some9 W' bb l id ((crc l).toNat : Int) ∧ ∃ x y, r = .returned (.tuple #[.bool x, y]) := fun hg =>
    (add_grown W bb B v l id s ps hc hb hid hs hn k p hp hkn hg).mono fun r W' h => by
      obtain ⟨hf, m, hm, _, hbs, hr⟩ := h
      exact ⟨hf, .inr ⟨m, hm, hbs⟩, _, _, hr⟩
  by_cases h0 : k = 0
  · exact grown (.inl ⟨h0, hh⟩)
  obtain ⟨e1, e2, e3, e4, _⟩ := hc.p k p hp
  obtain ⟨r1, r2, r3, r4, r5⟩ := hc.piece hp
  have hpos : 0 < k * s := Nat.mul_pos (by omega) (by omega)
  have hks : k * s < l.length := by rcases hkn with h | h <;> omega
  have hpl := pcL_len l s k
  have hc2 : p.cp ≤ 9223372036854775807 := by unfold maxLen at r4; omega
  rcases hh with ⟨id0, t0, s0, bs0, hlt, hl0, hbs⟩ | ⟨m, hm, hbs⟩
  · have he := addE_first l id0 id t0 s0 ((crc l).toNat : Int) bs0.length s hs hid hlt (by omega) k hkn
    rw [if_pos hpos, r2] at he
    obtain ⟨i, x, t, sm, a, d, c⟩ := p
    dsimp only at e1 e2 e3 e4 r1 r2 r3 r4 r5 he hc2
    subst e1 e2 e3 e4
    refine (Add_any W bb bb id0 t0 s0 bs0 (pcL l s k) hbs hb i ((k * s : Nat) : Int) (l.length : Int) ((crc l).toNat : Int) a d c r1 r2 (by omega) r3 hc2 hl0 6 he).mono ?_
    rintro r W' ⟨hf, hg, _⟩
    obtain ⟨hb2, pb, _, _, hr⟩ := hg (by decide)
    exact ⟨hf, .inl ⟨id0, t0, s0, bs0, hlt, hl0, hb2⟩, _, _, hr⟩
  · by_cases hlt : m < k * s
    · have he := addE_same l id ((crc l).toNat : Int) m s k hs hid (by omega) hkn
      have hlen : (l.take m).length = m := by rw [List.length_take]; omega
      rw [if_pos hlt, r2] at he
      obtain ⟨i, x, t, sm, a, d, c⟩ := p
      dsimp only at e1 e2 e3 e4 r1 r2 r3 r4 r5 he hc2
      subst e1 e2 e3 e4
      refine (Add_any W bb bb i l.length ((crc l).toNat : Int) (l.take m) (pcL l s k) hbs hb i ((k * s : Nat) : Int) (l.length : Int) ((crc l).toNat : Int) a d c r1 r2 (by omega) r3 hc2 (by omega) 6 (by rw [hlen]; exact he)).mono ?_
      rintro r W' ⟨hf, hg, _⟩
      obtain ⟨hb2, pb, _, _, hr⟩ := hg (by decide)
      exact ⟨hf, .inr ⟨m, hm, hb2⟩, _, _, hr⟩
    · exact grown (.inr ⟨by omega, m, hm, .inl (by omega), hbs⟩)
end Go.Proofs.YtookojfigjdgcaaDoor
