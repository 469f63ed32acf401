/- The document's sum of bytes. -/
import Derived.Test.YtookojfigjdgcaaDoorA
set_option linter.unusedVariables false
set_option linter.unusedSimpArgs false
namespace Go.Proofs.YtookojfigjdgcaaDoor
open Go.RowKit
def bitN : Nat → BitVec 32 → BitVec 32
  | 0, v => v
  | k + 1, v => bit1 (bitN k v)
theorem bitN8 (v : BitVec 32) : bitN 8 v = nib1 (nib1 v) := by
  rw [nib_bits, nib_bits]
  rfl
theorem and1 (v : BitVec 32) : v &&& 1#32 = if v.getLsbD 0 = true then 1#32 else 0#32 := by
  apply BitVec.eq_of_getLsbD_eq
  intro i hi
  rw [BitVec.getLsbD_and]
  by_cases h0 : i = 0
  · subst h0
    cases v.getLsbD 0 <;> rfl
  · have : (1#32).getLsbD i = false := by
      have h : ∀ j : Fin 32, j.1 ≠ 0 → (1#32).getLsbD j.1 = false := by decide
      exact h ⟨i, hi⟩ h0
    rw [this, Bool.and_false]
    split
    · exact this.symm
    · simp
theorem shr1 (v : BitVec 32) : (v.toNat : Int) / (2 : Int) = ((v >>> 1).toNat : Int) := by
  rw [BitVec.toNat_ushiftRight, Nat.shiftRight_eq_div_pow]
  omega
set_option maxRecDepth 100000 in
set_option maxHeartbeats 2000000 in
theorem rsum_any (W : World) (ao : Option Addr) (cp n : Nat) (l : List UInt8) (hl : RowY W ao l) (hn : l.length = n) (hm : n ≤ 2000000) : Calls Tryd.prog 23 #[.slice ao n cp] W fun r W' => r = .returned (.int .u32 ((crc l).toNat : Int)) ∧ W = W' := by
  have HL := Lib.hid hl
  have HN := Lib.hid hn
  have HM := Lib.hid hm
  clear hl hn hm
  go_enter Tryd.func23, Tryd.ntmps23
  go_wp2_with fail
  go_loopw [3, 4] (fun vv iv wr => ∃ i : Nat, i ≤ n ∧ iv = .int .i64 i ∧ vv = .int .u32 ((crcU (BitVec.allOnes 32) (l.take i)).toNat : Int) ∧ wr = W) (fun _ iv _ => n - (intOf iv).toNat)
  case atStart => exact ⟨0, Nat.zero_le _, rfl, by rfl, rfl⟩
  case round =>
    obtain ⟨i, hi, rfl, rfl, rfl⟩ := hrel
    have hnn := HM.out
    by_cases hlt : i < n
    · have p0 : decide ((i : Int) < n) = true := decide_eq_true (by omega)
      have p0' : decide (i < n) = true := decide_eq_true hlt
      obtain ⟨x, hx⟩ : ∃ x, l[i]? = some x := ⟨_, List.getElem?_eq_getElem (by rw [HN.out]; exact hlt)⟩
      obtain ⟨b, o, rfl, d0⟩ := HL.out.at_ hx
      obtain ⟨v, hv⟩ : ∃ v, crcU (BitVec.allOnes 32) (l.take i) = v := ⟨_, rfl⟩
      rw [hv]
      have HV := Lib.hid hv
      have HX := Lib.hid hx
      clear hv hx
      obtain ⟨A1, E1, hA1⟩ : ∃ z, bits .xor .u32 (v.toNat : Int) ((x.toNat : Int) % 4294967296) = z ∧ z = ((v ^^^ BitVec.ofNat 32 x.toNat).toNat : Int) := ⟨_, rfl, by rw [byte32]; exact bits_xor _ _⟩
      have HA1 := Lib.hid hA1
      obtain ⟨a, ha⟩ : ∃ a : Int, (v.toNat : Int) = a := ⟨_, rfl⟩
      rw [ha] at E1 ⊢
      have HAA := Lib.hid ha
      clear hA1 ha
      have hw : wrap64 ((i : Int) + 1) = ((i + 1 : Nat) : Int) := by rw [wrap64]; omega
      have HW := Lib.hid hw
      have HI := Lib.hid (And.intro hi hlt)
      clear hw
      go_wp2_with fail
      clear E1
      go_loopw [3, 5] (fun vv kv wz => ∃ k : Nat, k ≤ 8 ∧ kv = .int .i64 k ∧ (∃ z : Int, vv = .int .u32 z ∧ z = ((bitN k (v ^^^ BitVec.ofNat 32 x.toNat)).toNat : Int)) ∧ wz = wr) (fun _ kv _ => 8 - (intOf kv).toNat)
      case atStart => exact ⟨0, by decide, rfl, ⟨_, rfl, HA1.out⟩, rfl⟩
      case round =>
        obtain ⟨k, hk, rfl, ⟨z, rfl, hz⟩, rfl⟩ := hrel
        have HZ := Lib.hid hz
        clear hz
        by_cases hk8 : k < 8
        · have p1 : decide ((k : Int) < 8) = true := decide_eq_true (by omega)
          have p1' : decide (k < 8) = true := decide_eq_true hk8
          obtain ⟨u, hu⟩ : ∃ u, bitN k (v ^^^ BitVec.ofNat 32 x.toNat) = u := ⟨_, rfl⟩
          rw [hu] at HZ
          have HU := Lib.hid hu
          clear hu
          have hand : bits .and .u32 z 1 = (((if u.getLsbD 0 = true then 1#32 else 0#32) : BitVec 32).toNat : Int) := by
            rw [HZ.out, ← and1]; exact bits_and u 1#32
          have hsh : z / (2 : Int) = ((u >>> 1).toNat : Int) := by rw [HZ.out]; exact shr1 u
          have hwk : wrap64 ((k : Int) + 1) = ((k + 1 : Nat) : Int) := by rw [wrap64]; omega
          have HWK := Lib.hid hwk
          have HK := Lib.hid (And.intro hk hk8)
          obtain ⟨s, hs⟩ : ∃ s, z / (2 : Int) = s := ⟨_, rfl⟩
          cases hb : u.getLsbD 0 with
          | true =>
            rw [hb, if_pos rfl] at hand
            have hand : bits .and .u32 z 1 = 1 := hand
            have hx : ∃ t, bits .xor .u32 s 2197175160 = t ∧ t = ((bit1 u).toNat : Int) := ⟨_, rfl, by
              rw [← hs, hsh]
              unfold bit1
              rw [hb, if_pos rfl]
              exact bits_xor (u >>> 1) P32⟩
            obtain ⟨t, E2, ht⟩ := hx
            have HT := Lib.hid ht
            have HS := Lib.hid hsh
            clear ht hsh hwk hb
            go_wp2
            go_roundw
            case rel => exact ⟨k + 1, by have := HK.out; omega, by (try rw [HWK.out]) <;> go_num, ⟨_, rfl, by show t = ((bit1 (bitN k _)).toNat : Int); rw [HU.out]; exact HT.out⟩, by first | rfl | trivial⟩
            case measure => (try rw [HWK.out]); clear HWK; have := HK.out; simp [intOf]; omega
          | false =>
            rw [hb, if_neg (by decide)] at hand
            have hand : bits .and .u32 z 1 = 0 := hand
            have ht : s = ((bit1 u).toNat : Int) := by
              rw [← hs, hsh]
              unfold bit1
              rw [hb, if_neg (by decide)]
            have HT := Lib.hid ht
            have HS := Lib.hid hsh
            clear ht hsh hwk hb
            go_wp2
            go_roundw
            case rel => exact ⟨k + 1, by have := HK.out; omega, by (try rw [HWK.out]) <;> go_num, ⟨_, rfl, by show s = ((bit1 (bitN k _)).toNat : Int); rw [HU.out]; exact HT.out⟩, by first | rfl | trivial⟩
            case measure => (try rw [HWK.out]); clear HWK; have := HK.out; simp [intOf]; omega
        · obtain rfl : k = 8 := by omega
          have p1 : decide ((8 : Int) < 8) = false := by decide
          go_wp2
          go_roundw
          case rel =>
            refine ⟨i + 1, by have := HI.out; omega, by (try rw [HW.out]) <;> go_num, ?_, by first | rfl | trivial⟩
            rw [HZ.out, ← List.take_append_getElem (by rw [HN.out]; exact HI.out.2)]
            have hx := HX.out
            rw [List.getElem?_eq_getElem (by rw [HN.out]; exact HI.out.2)] at hx
            rw [Option.some.inj hx]
            unfold crcU
            rw [List.foldl_append]
            show _ = Value.int .u32 ((crcB (crcU (BitVec.allOnes 32) (l.take i)) x).toNat : Int)
            rw [HV.out, bitN8]
            rfl
          case measure => (try rw [HW.out]); clear HW; have := HI.out; simp [intOf]; omega
    · obtain rfl : i = n := by omega
      have p0 : decide ((i : Int) < i) = false := decide_eq_false (by omega)
      have p0' : decide (i < i) = false := decide_eq_false (by omega)
      have htk : l.take i = l := by rw [← HN.out]; exact List.take_length
      rw [htk]
      go_wp2
      go_ret
      refine ⟨?_, rfl⟩
      show Ending.returned (Value.int .u32 (bits .xor .u32 IntKind.u32.max ((crcU (BitVec.allOnes 32) l).toNat : Int))) = _
      rw [show (IntKind.u32.max : Int) = ((BitVec.allOnes 32).toNat : Int) from rfl, bits_xor, ← BitVec.not_def]
      rfl
end Go.Proofs.YtookojfigjdgcaaDoor
