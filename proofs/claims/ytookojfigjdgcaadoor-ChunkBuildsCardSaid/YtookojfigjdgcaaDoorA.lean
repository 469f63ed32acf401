/- Rows of bytes; the sum of bytes, told by the program and by the document. -/
import Derived.Test.YtookojfigjdgcaaDoorC
set_option linter.unusedVariables false
set_option linter.unusedSimpArgs false
namespace Go.Proofs.YtookojfigjdgcaaDoor
open Go.RowKit
/-- bytes that a slice shows -/
def RowY (W : World) (ao : Option Addr) (l : List UInt8) : Prop :=
  l = [] ∨ ∃ b o, ao = some ⟨b, o, none⟩ ∧ b < W.heap.size ∧ ∀ i x, l[i]? = some x → W.cell? ⟨b, o + i, none⟩ = some (.int .u8 (x.toNat : Int))
theorem RowY.fr {S : Nat → Prop} {W W2 : World} {ao : Option Addr} {l : List UInt8} (h : RowY W ao l) (hf : Fr S W W2) (hS : ∀ a, ao = some a → ¬ S a.block) : RowY W2 ao l := by
  rcases h with h | ⟨b, o, rfl, h2, h3⟩
  · exact .inl h
  · exact .inr ⟨b, o, rfl, Nat.lt_of_lt_of_le h2 hf.size, fun i x hx => (World.cell?_of_block (hf.block b h2 (hS _ rfl))).trans (h3 i x hx)⟩
theorem RowY.fr0 {W W2 : World} {ao : Option Addr} {l : List UInt8} (h : RowY W ao l) (hf : Fr (fun _ => False) W W2) : RowY W2 ao l := h.fr hf (fun _ _ h => h)
theorem RowY.at_ {W : World} {ao : Option Addr} {l : List UInt8} {i : Nat} {x : UInt8} (h : RowY W ao l) (he : l[i]? = some x) : ∃ b o, ao = some ⟨b, o, none⟩ ∧ W.cell? ⟨b, o + i, none⟩ = some (.int .u8 (x.toNat : Int)) := by
  rcases h with h | ⟨b, o, h1, h2, h3⟩
  · rw [h] at he; simp at he
  · exact ⟨b, o, h1, h3 i x he⟩
def halfV : Array Value := #[.int .u32 0, .int .u32 274646895, .int .u32 549293790, .int .u32 820201905, .int .u32 1098587580, .int .u32 1361435347, .int .u32 1640403810, .int .u32 1905808397, .int .u32 2197175160, .int .u32 2460548119, .int .u32 2722870694, .int .u32 2987750089, .int .u32 3280807620, .int .u32 3553878443, .int .u32 3811616794, .int .u32 4084100981]
theorem half_at (k : Nat) (h : k < 16) : halfV[k]? = some (.int .u32 ((halfT.getD k 0#32).toNat : Int)) := by
  have : ∀ j : Fin 16, halfV[j.1]? = some (.int .u32 ((halfT.getD j.1 0#32).toNat : Int)) := by
    intro ⟨j, hj⟩
    rcases j with _ | _ | _ | _ | _ | _ | _ | _ | _ | _ | _ | _ | _ | _ | _ | _ | j
    all_goals first | rfl | omega
  exact this ⟨k, h⟩
theorem bits_xor (a b : BitVec 32) : bits .xor .u32 (a.toNat : Int) (b.toNat : Int) = ((a ^^^ b).toNat : Int) := by
  have h : bits .xor .u32 (a.toNat : Int) (b.toNat : Int) = IntKind.u32.wrap ((BitVec.ofInt 32 (a.toNat : Int) ^^^ BitVec.ofInt 32 (b.toNat : Int)).toNat : Int) := rfl
  rw [h, BitVec.ofInt_natCast, BitVec.ofInt_natCast, BitVec.ofNat_toNat, BitVec.ofNat_toNat, BitVec.setWidth_eq, BitVec.setWidth_eq]
  have h2 := (a ^^^ b).isLt
  obtain ⟨z, hz⟩ : ∃ z, (a ^^^ b).toNat = z := ⟨_, rfl⟩
  rw [hz] at h2 ⊢
  simp [IntKind.wrap, IntKind.bits, IntKind.signed]
  omega
theorem bits_and (a b : BitVec 32) : bits .and .u32 (a.toNat : Int) (b.toNat : Int) = ((a &&& b).toNat : Int) := by
  have h : bits .and .u32 (a.toNat : Int) (b.toNat : Int) = IntKind.u32.wrap ((BitVec.ofInt 32 (a.toNat : Int) &&& BitVec.ofInt 32 (b.toNat : Int)).toNat : Int) := rfl
  rw [h, BitVec.ofInt_natCast, BitVec.ofInt_natCast, BitVec.ofNat_toNat, BitVec.ofNat_toNat, BitVec.setWidth_eq, BitVec.setWidth_eq]
  have h2 := (a &&& b).isLt
  obtain ⟨z, hz⟩ : ∃ z, (a &&& b).toNat = z := ⟨_, rfl⟩
  rw [hz] at h2 ⊢
  simp [IntKind.wrap, IntKind.bits, IntKind.signed]
  omega
theorem byte32 (x : UInt8) : ((x.toNat : Int) % 4294967296) = ((BitVec.ofNat 32 x.toNat).toNat : Int) := by
  rw [BitVec.toNat_ofNat]
  have := x.toNat_lt
  omega
theorem shr4 (v : BitVec 32) : (v.toNat : Int) / (16 : Int) = ((v >>> 4).toNat : Int) := by
  rw [BitVec.toNat_ushiftRight, Nat.shiftRight_eq_div_pow]
  omega
theorem nib_facts (v : BitVec 32) (A : Int) (hA : A = (v.toNat : Int)) (W : World) (g : Nat) (hb : Blk W g 78 halfV) :
    ∃ (B : Int) (k : Nat) (T : Int), A / 16 = B ∧ bits .and .u32 A 15 = (k : Int) ∧ k < 16 ∧ W.cell? ⟨g, k, none⟩ = some (.int .u32 T) ∧ ∃ z, bits .xor .u32 B T = z ∧ z = ((nib1 v).toNat : Int) := by
  subst hA
  refine ⟨_, (v &&& 15#32).toNat, _, rfl, bits_and v 15#32, and15_lt v, (hb.cell _).trans (half_at _ (and15_lt v)), _, rfl, ?_⟩
  have h4 := shr4 v
  show bits .xor .u32 ((v.toNat : Int) / (16 : Int)) _ = _
  rw [h4]
  exact bits_xor _ _
set_option maxRecDepth 100000 in
set_option maxHeartbeats 2000000 in
theorem sum_any (W : World) (ao : Option Addr) (cp n : Nat) (l : List UInt8) (hl : RowY W ao l) (hn : l.length = n) (hm : n ≤ 2000000) : Calls Tryd.prog 21 #[.slice ao n cp] W fun r W' => r = .returned (.int .u32 ((crc l).toNat : Int)) ∧ Fr (fun _ => False) W W' := by
  have HL := Lib.hid hl
  have HN := Lib.hid hn
  have HM := Lib.hid hm
  have hb := Blk.new W 78 halfV
  have hf : Fr (fun _ => False) W (W.alloc (.cells halfV 78)) := Fr.alloc _ _ _
  obtain ⟨w1, hw1⟩ : ∃ w1, W.alloc (.cells halfV 78) = w1 := ⟨_, rfl⟩
  obtain ⟨g, hg⟩ : ∃ g, W.heap.size = g := ⟨_, rfl⟩
  rw [hw1] at hb hf
  rw [hg] at hb
  have HBK := Lib.hid hb
  have HF := Lib.hid hf
  unfold halfV at hw1
  clear hl hn hm hb hf
  go_enter Tryd.func21, Tryd.ntmps21
  go_upto_region 2 with (fail)
  try rw [hw1]
  try rw [hg]
  clear hw1 hg
  go_wp2_with fail
  go_loopw [4, 10] (fun vv iv wr => ∃ i : Nat, i ≤ n ∧ iv = .int .i64 i ∧ vv = .int .u32 ((crcU (BitVec.allOnes 32) (l.take i)).toNat : Int) ∧ wr = w1) (fun _ iv _ => n - (intOf iv).toNat)
  case atStart => exact ⟨0, Nat.zero_le _, rfl, by rfl, rfl⟩
  case round =>
    obtain ⟨i, hi, rfl, rfl, rfl⟩ := hrel
    have hnn := HM.out
    by_cases hlt : i < n
    · have p0 : decide ((i : Int) < n) = true := decide_eq_true (by omega)
      have p0' : decide (i < n) = true := decide_eq_true hlt
      obtain ⟨x, hx⟩ : ∃ x, l[i]? = some x := ⟨_, List.getElem?_eq_getElem (by rw [HN.out]; exact hlt)⟩
      obtain ⟨b, o, rfl, d0⟩ := (HL.out.fr0 HF.out).at_ hx
      obtain ⟨v, hv⟩ : ∃ v, crcU (BitVec.allOnes 32) (l.take i) = v := ⟨_, rfl⟩
      rw [hv]
      have HV := Lib.hid hv
      have HX := Lib.hid hx
      clear hv hx
      obtain ⟨A1, E1, hA1⟩ : ∃ z, bits .xor .u32 (v.toNat : Int) ((x.toNat : Int) % 4294967296) = z ∧ z = ((v ^^^ BitVec.ofNat 32 x.toNat).toNat : Int) := ⟨_, rfl, by rw [byte32]; exact bits_xor _ _⟩
      obtain ⟨B1, k1, T1, E2, E3, hk1, d1, A2, E4, hA2⟩ := nib_facts _ A1 hA1 wr g HBK.out
      obtain ⟨B2, k2, T2, E5, E6, hk2, d2, A3, E7, hA3⟩ := nib_facts _ A2 hA2 wr g HBK.out
      have HA3 := Lib.hid hA3
      obtain ⟨a, ha⟩ : ∃ a : Int, (v.toNat : Int) = a := ⟨_, rfl⟩
      rw [ha] at E1 ⊢
      have HAA := Lib.hid ha
      clear hA1 hA2 hA3 ha
      have hw : wrap64 ((i : Int) + 1) = ((i + 1 : Nat) : Int) := by rw [wrap64]; omega
      have HW := Lib.hid hw
      have HI := Lib.hid (And.intro hi hlt)
      clear hw
      go_wp2
      go_roundw
      case rel =>
        refine ⟨i + 1, by have := HI.out; omega, by (try rw [HW.out]) <;> go_num, ?_, by first | rfl | trivial⟩
        rw [HA3.out, ← List.take_append_getElem (by rw [HN.out]; exact HI.out.2)]
        have hx := HX.out
        rw [List.getElem?_eq_getElem (by rw [HN.out]; exact HI.out.2)] at hx
        rw [Option.some.inj hx]
        unfold crcU
        rw [List.foldl_append]
        show _ = Value.int .u32 ((crcB (crcU (BitVec.allOnes 32) (l.take i)) x).toNat : Int)
        rw [HV.out]
        rfl
      case measure => (try rw [HW.out]); clear HW; have := HI.out; simp [intOf]; omega
    · obtain rfl : i = n := by omega
      have p0 : decide ((i : Int) < i) = false := decide_eq_false (by omega)
      have p0' : decide (i < i) = false := decide_eq_false (by omega)
      have htk : l.take i = l := by rw [← HN.out]; exact List.take_length
      rw [htk]
      go_wp2
      go_ret
      refine ⟨?_, HF.out⟩
      show Ending.returned (Value.int .u32 (bits .xor .u32 IntKind.u32.max ((crcU (BitVec.allOnes 32) l).toNat : Int))) = _
      rw [show (IntKind.u32.max : Int) = ((BitVec.allOnes 32).toNat : Int) from rfl, bits_xor, ← BitVec.not_def]
      rfl
end Go.Proofs.YtookojfigjdgcaaDoor
