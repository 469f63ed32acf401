/- Plain law: a sum turns when one byte does. -/
import Derived.Test.YtookojfigjdgcaaDoorC
namespace Go.Proofs.YtookojfigjdgcaaDoor
theorem P32_top : P32.getLsbD 31 = true := by decide
theorem bit1_ker {x : BitVec 32} (h : bit1 x = 0#32) : x = 0#32 := by
  have hb : ∀ i, (bit1 x).getLsbD i = false := fun i => by rw [h]; simp
  unfold bit1 at hb
  by_cases h0 : x.getLsbD 0 = true
  · have h31 := hb 31
    rw [if_pos h0] at h31
    rw [BitVec.getLsbD_xor, BitVec.getLsbD_ushiftRight, P32_top] at h31
    have : x.getLsbD (1 + 31) = false := BitVec.getLsbD_of_ge x 32 (Nat.le_refl _)
    rw [this] at h31
    cases h31
  · apply BitVec.eq_of_getLsbD_eq
    intro i hi
    rcases i with _ | i
    · simpa using h0
    · have h1 := hb i
      rw [if_neg h0, BitVec.getLsbD_ushiftRight, Nat.add_comm 1 i] at h1
      rw [h1]
      simp
theorem xor_zero_eq {x y : BitVec 32} (h : x ^^^ y = 0#32) : x = y := by
  have : (x ^^^ y) ^^^ y = 0#32 ^^^ y := by rw [h]
  rw [BitVec.xor_assoc, BitVec.xor_self, BitVec.xor_zero, BitVec.zero_xor] at this
  exact this
theorem bit1_inj {x y : BitVec 32} (h : bit1 x = bit1 y) : x = y :=
  xor_zero_eq (bit1_ker (by rw [bit1_xor, h, BitVec.xor_self]))
theorem nib1_inj {x y : BitVec 32} (h : nib1 x = nib1 y) : x = y := by
  rw [nib_bits, nib_bits] at h
  exact bit1_inj (bit1_inj (bit1_inj (bit1_inj h)))
theorem xor_left_inj {v x y : BitVec 32} (h : v ^^^ x = v ^^^ y) : x = y := by
  have : v ^^^ (v ^^^ x) = v ^^^ (v ^^^ y) := by rw [h]
  rwa [← BitVec.xor_assoc, ← BitVec.xor_assoc, BitVec.xor_self, BitVec.zero_xor, BitVec.zero_xor] at this
theorem crcB_state {v w : BitVec 32} {c : UInt8} (h : crcB v c = crcB w c) : v = w := by
  have h1 := nib1_inj (nib1_inj h)
  rw [BitVec.xor_comm v, BitVec.xor_comm w] at h1
  exact xor_left_inj h1
theorem crcB_byte {v : BitVec 32} {c d : UInt8} (h : crcB v c = crcB v d) : c = d := by
  have h1 := xor_left_inj (nib1_inj (nib1_inj h))
  have h2 := congrArg BitVec.toNat h1
  rw [BitVec.toNat_ofNat, BitVec.toNat_ofNat] at h2
  have hc := c.toNat_lt
  have hd := d.toNat_lt
  rw [Nat.mod_eq_of_lt (by omega), Nat.mod_eq_of_lt (by omega)] at h2
  exact UInt8.toNat_inj.1 h2
theorem crcU_state : ∀ (l : List UInt8) {v w : BitVec 32}, crcU v l = crcU w l → v = w
  | [], _, _, h => h
  | _ :: l, _, _, h => crcB_state (crcU_state l h)
/-- two rows that differ in one byte have two sums -/
theorem crc_one (a b : List UInt8) {c d : UInt8} (hne : c ≠ d) : crc (a ++ c :: b) ≠ crc (a ++ d :: b) := fun h => by
  unfold crc at h
  have h1 : crcU (BitVec.allOnes 32) (a ++ c :: b) = crcU (BitVec.allOnes 32) (a ++ d :: b) := by
    have := congrArg (fun x => ~~~ x) h
    simpa using this
  unfold crcU at h1
  rw [List.foldl_append, List.foldl_append, List.foldl_cons, List.foldl_cons] at h1
  exact hne (crcB_byte (crcU_state b h1))
end Go.Proofs.YtookojfigjdgcaaDoor
