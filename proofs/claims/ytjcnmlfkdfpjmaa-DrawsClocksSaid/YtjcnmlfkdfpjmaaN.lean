/- The mix of ids.Hash, on numbers. -/
import Derived.RowKit
import Derived.Laws.Bits64
import Derived.Laws.BitsAllLaws
import Derived.Laws.BitsLemmas
namespace Go.Proofs.Ytjcnmlfkdfpjmaa
/-- the mix of ids.Hash, on numbers below 2^64 -/
def mixA (x : Nat) : Nat := (x ^^^ x / 1073741824) * 13787848793156543929 % 18446744073709551616
def mixB (x : Nat) : Nat := (x ^^^ x / 134217728) * 10723151780598845931 % 18446744073709551616
def mixC (x : Nat) : Nat := x ^^^ x / 2147483648
def hashN (n : Int) : Nat := mixC (mixB (mixA (n % 18446744073709551616).toNat))
def hashI (n : Int) : Int := (hashN n : Int)

theorem xs_lt (x s : Nat) (h : x < 18446744073709551616) : x ^^^ x / s < 18446744073709551616 :=
  Nat.xor_lt_two_pow (n := 64) h (Nat.lt_of_le_of_lt (Nat.div_le_self _ _) h)

theorem xor_zero {x y : Nat} (h : x ^^^ y = 0) : x = y := by
  have : (x ^^^ y) ^^^ y = y := by rw [h, Nat.zero_xor]
  rwa [Nat.xor_assoc, Nat.xor_self, Nat.xor_zero] at this

/-- x xor (x >> k) has one x, for each number of at most 3k bits -/
theorem xs_inj (k : Nat) (hk : 64 ≤ k + k + k) {x y : Nat} (hx : x < 2 ^ 64) (hy : y < 2 ^ 64) (h : x ^^^ x / 2 ^ k = y ^^^ y / 2 ^ k) : x = y := by
  have hz : x ^^^ y = (x ^^^ y) >>> k := by
    rw [Nat.shiftRight_xor_distrib, Nat.shiftRight_eq_div_pow, Nat.shiftRight_eq_div_pow]
    have h2 : (x ^^^ x / 2 ^ k) ^^^ (y ^^^ y / 2 ^ k) = 0 := by rw [h, Nat.xor_self]
    have h3 : (x ^^^ y) ^^^ (x / 2 ^ k ^^^ y / 2 ^ k) = 0 := by
      rw [← h2]; ac_rfl
    exact xor_zero h3
  have hlt : x ^^^ y < 2 ^ 64 := Nat.xor_lt_two_pow hx hy
  have h0 : x ^^^ y = 0 := by
    have e1 : x ^^^ y = (x ^^^ y) >>> (k + k + k) := by
      rw [Nat.shiftRight_add, Nat.shiftRight_add, ← hz, ← hz, ← hz]
    rw [Nat.shiftRight_eq_div_pow, Nat.div_eq_of_lt] at e1
    · exact e1
    · exact Nat.lt_of_lt_of_le hlt (Nat.pow_le_pow_right (by decide) hk)
  exact xor_zero h0

/-- an odd factor can be undone -/
theorem mul_inj (c d : Nat) (hcd : c * d % 18446744073709551616 = 1) {x y : Nat} (hx : x < 18446744073709551616) (hy : y < 18446744073709551616)
    (h : x * c % 18446744073709551616 = y * c % 18446744073709551616) : x = y := by
  have key : ∀ z, z < 18446744073709551616 → (z * c % 18446744073709551616) * d % 18446744073709551616 = z := by
    intro z hz
    rw [Nat.mod_mul_mod, Nat.mul_assoc, ← Nat.mul_mod_mod, hcd, Nat.mul_one, Nat.mod_eq_of_lt hz]
  rw [← key x hx, h, key y hy]

theorem mixA_lt (x : Nat) : mixA x < 18446744073709551616 := Nat.mod_lt _ (by decide)
theorem mixB_lt (x : Nat) : mixB x < 18446744073709551616 := Nat.mod_lt _ (by decide)
theorem mixC_lt (x : Nat) (h : x < 18446744073709551616) : mixC x < 18446744073709551616 := xs_lt _ _ h
theorem hashN_lt (n : Int) : hashN n < 18446744073709551616 := mixC_lt _ (mixB_lt _)

theorem mixA_inj {x y : Nat} (hx : x < 18446744073709551616) (hy : y < 18446744073709551616) (h : mixA x = mixA y) : x = y :=
  xs_inj 30 (by decide) hx hy (mul_inj _ 10871156337175269513 (by decide) (xs_lt _ _ hx) (xs_lt _ _ hy) h)
theorem mixB_inj {x y : Nat} (hx : x < 18446744073709551616) (hy : y < 18446744073709551616) (h : mixB x = mixB y) : x = y :=
  xs_inj 27 (by decide) hx hy (mul_inj _ 3573116690164977347 (by decide) (xs_lt _ _ hx) (xs_lt _ _ hy) h)
theorem mixC_inj {x y : Nat} (hx : x < 18446744073709551616) (hy : y < 18446744073709551616) (h : mixC x = mixC y) : x = y :=
  xs_inj 31 (by decide) hx hy h

theorem hashI_inj {a b : Int} (a1 : -9223372036854775808 ≤ a) (a2 : a ≤ 9223372036854775807) (b1 : -9223372036854775808 ≤ b) (b2 : b ≤ 9223372036854775807)
    (h : hashI a = hashI b) : a = b := by
  have h' : hashN a = hashN b := by unfold hashI at h; omega
  have := mixA_inj (by omega) (by omega) (mixB_inj (mixA_lt _) (mixA_lt _) (mixC_inj (mixB_lt _) (mixB_lt _) h'))
  omega

/-- what the walk of ids.Hash ends in -/
theorem hash_form (n : Int) (X : Int) (hX : X = IntKind.u64.wrap n) (Y : Int) (hY : Y = IntKind.u64.wrap (bits .xor .u64 X (X / 1073741824) * 13787848793156543929))
    (Z : Int) (hZ : Z = IntKind.u64.wrap (bits .xor .u64 Y (Y / 134217728) * 10723151780598845931)) : bits .xor .u64 Z (Z / 2147483648) = hashI n := by
  have e0 : X = ((n % 18446744073709551616).toNat : Int) := by rw [hX, IntKind.wrap_u64]; omega
  have e1 : Y = (mixA (n % 18446744073709551616).toNat : Int) := by
    rw [hY, e0]; exact mixStep_u64 _ 1073741824 13787848793156543929 (by omega)
  have e2 : Z = (mixB (mixA (n % 18446744073709551616).toNat) : Int) := by
    rw [hZ, e1]; exact mixStep_u64 _ 134217728 10723151780598845931 (mixA_lt _)
  rw [e2]; exact xorShift_u64 _ 2147483648 (mixB_lt _)

theorem hash0 : hashI 0 = 0 := by decide
end Go.Proofs.Ytjcnmlfkdfpjmaa
