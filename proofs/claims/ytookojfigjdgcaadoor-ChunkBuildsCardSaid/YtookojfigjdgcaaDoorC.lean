/- The sum of bytes, four bits at once and bit by bit. -/
import Derived.Test.YtookojfigjdgcaaDoorK
set_option linter.unusedVariables false
set_option linter.unusedSimpArgs false
namespace Go.Proofs.YtookojfigjdgcaaDoor
abbrev P32 : BitVec 32 := 0x82F63B78#32
/-- one bit, as the document has it -/
def bit1 (x : BitVec 32) : BitVec 32 := if x.getLsbD 0 = true then (x >>> 1) ^^^ P32 else x >>> 1
def halfT : List (BitVec 32) := [0x00000000#32, 0x105ec76f#32, 0x20bd8ede#32, 0x30e349b1#32, 0x417b1dbc#32, 0x5125dad3#32, 0x61c69362#32, 0x7198540d#32, 0x82f63b78#32, 0x92a8fc17#32, 0xa24bb5a6#32, 0xb21572c9#32, 0xc38d26c4#32, 0xd3d3e1ab#32, 0xe330a81a#32, 0xf36e6f75#32]
def nib1 (x : BitVec 32) : BitVec 32 := (x >>> 4) ^^^ halfT.getD (x &&& 15#32).toNat 0#32
theorem bit1_form (x : BitVec 32) : bit1 x = (x >>> 1) ^^^ (if x.getLsbD 0 = true then P32 else 0#32) := by
  unfold bit1
  split
  · rfl
  · rw [BitVec.xor_zero]
theorem bit1_xor (x y : BitVec 32) : bit1 (x ^^^ y) = bit1 x ^^^ bit1 y := by
  rw [bit1_form, bit1_form, bit1_form, BitVec.ushiftRight_xor_distrib, BitVec.getLsbD_xor]
  have h : (if (x.getLsbD 0 ^^ y.getLsbD 0) = true then P32 else 0#32) = (if x.getLsbD 0 = true then P32 else 0#32) ^^^ (if y.getLsbD 0 = true then P32 else 0#32) := by
    cases x.getLsbD 0 <;> cases y.getLsbD 0 <;> decide
  rw [h]
  ac_rfl
theorem bit1_even {x : BitVec 32} (h : x.getLsbD 0 = false) : bit1 x = x >>> 1 := by
  unfold bit1
  rw [h]
  rfl
theorem split4 (x : BitVec 32) : x = (x &&& 0xFFFFFFF0#32) ^^^ (x &&& 15#32) := by
  apply BitVec.eq_of_getLsbD_eq
  intro i hi
  rw [BitVec.getLsbD_xor, BitVec.getLsbD_and, BitVec.getLsbD_and]
  have : ∀ j : Fin 32, (0xFFFFFFF0#32).getLsbD j.1 = !(15#32).getLsbD j.1 := by decide
  rw [this ⟨i, hi⟩]
  cases x.getLsbD i <;> cases (15#32).getLsbD i <;> rfl
theorem high4 (x : BitVec 32) : bit1 (bit1 (bit1 (bit1 (x &&& 0xFFFFFFF0#32)))) = x >>> 4 := by
  have hb : ∀ i, i < 4 → (x &&& 0xFFFFFFF0#32).getLsbD i = false := fun i hi => by
    rw [BitVec.getLsbD_and]
    have : (0xFFFFFFF0#32).getLsbD i = false := by
      match i, hi with
      | 0, _ => decide
      | 1, _ => decide
      | 2, _ => decide
      | 3, _ => decide
    rw [this, Bool.and_false]
  have e1 := bit1_even (hb 0 (by decide))
  have e2 : bit1 (bit1 (x &&& 0xFFFFFFF0#32)) = (x &&& 0xFFFFFFF0#32) >>> 2 := by
    rw [e1, bit1_even (by rw [BitVec.getLsbD_ushiftRight]; exact hb 1 (by decide)), ← BitVec.shiftRight_add]
  have e3 : bit1 (bit1 (bit1 (x &&& 0xFFFFFFF0#32))) = (x &&& 0xFFFFFFF0#32) >>> 3 := by
    rw [e2, bit1_even (by rw [BitVec.getLsbD_ushiftRight]; exact hb 2 (by decide)), ← BitVec.shiftRight_add]
  rw [e3, bit1_even (by rw [BitVec.getLsbD_ushiftRight]; exact hb 3 (by decide)), ← BitVec.shiftRight_add]
  rw [BitVec.ushiftRight_and_distrib]
  apply BitVec.eq_of_getLsbD_eq
  intro i hi
  rw [BitVec.getLsbD_and, BitVec.getLsbD_ushiftRight, BitVec.getLsbD_ushiftRight]
  by_cases h : 4 + i < 32
  · have : (0xFFFFFFF0#32).getLsbD (3 + 1 + i) = true := by
      have : ∀ j : Fin 28, (0xFFFFFFF0#32).getLsbD (3 + 1 + j.1) = true := by decide
      exact this ⟨i, by omega⟩
    rw [this, Bool.and_true]
  · rw [BitVec.getLsbD_of_ge _ _ (by omega)]
    rfl
theorem low4 (k : Nat) (h : k < 16) : bit1 (bit1 (bit1 (bit1 (BitVec.ofNat 32 k)))) = halfT.getD k 0#32 := by
  have : ∀ j : Fin 16, bit1 (bit1 (bit1 (bit1 (BitVec.ofNat 32 j.1)))) = halfT.getD j.1 0#32 := by decide
  exact this ⟨k, h⟩
theorem and15_lt (x : BitVec 32) : (x &&& 15#32).toNat < 16 := by
  rw [BitVec.toNat_and]
  exact Nat.lt_of_le_of_lt Nat.and_le_right (by decide)
/-- four bits at once -/
theorem nib_bits (x : BitVec 32) : nib1 x = bit1 (bit1 (bit1 (bit1 x))) := by
  have h := and15_lt x
  have e : x &&& 15#32 = BitVec.ofNat 32 (x &&& 15#32).toNat := by rw [BitVec.ofNat_toNat]; simp
  conv => rhs; rw [split4 x]
  rw [bit1_xor, bit1_xor, bit1_xor, bit1_xor, high4]
  unfold nib1
  congr 1
  rw [e, low4 _ (by simpa using h)]
  congr 1
  simp
/-- the sum: a byte more -/
def crcB (v : BitVec 32) (c : UInt8) : BitVec 32 := nib1 (nib1 (v ^^^ BitVec.ofNat 32 c.toNat))
def crcU (v : BitVec 32) (l : List UInt8) : BitVec 32 := l.foldl crcB v
def crc (l : List UInt8) : BitVec 32 := ~~~ (crcU (BitVec.allOnes 32) l)
end Go.Proofs.YtookojfigjdgcaaDoor
