/- The laws' own decimals. -/
import Derived.Test.YtookojfigjdgcaaDoorB
import Derived.Lib.ItoaNum
set_option linter.unusedVariables false
set_option linter.unusedSimpArgs false
namespace Go.Proofs.YtookojfigjdgcaaDoor
open Go.RowKit
theorem ba_app (a b : Array UInt8) : ((⟨a⟩ : ByteArray) ++ ⟨b⟩) = ⟨a ++ b⟩ := by
  apply ByteArray.ext
  rw [ByteArray.data_append]
def dgt (u : Nat) : UInt8 := UInt8.ofNat (48 + u % 10)
theorem dec_small {u : Nat} (h : u < 10) : Lib.decDigits u = [dgt u] := by
  rw [Lib.decDigits, dif_pos h, dgt, Nat.mod_eq_of_lt h]
theorem dec_big {u : Nat} (h : ¬ u < 10) : Lib.decDigits u = Lib.decDigits (u / 10) ++ [dgt u] := by
  rw [Lib.decDigits, dif_neg h]
  rfl
theorem dec_len : ∀ (k u : Nat), u < 10 ^ (k + 1) → (Lib.decDigits u).length ≤ k + 1
  | 0, u, h => by rw [dec_small (by simpa using h)]; simp
  | k + 1, u, h => by
    by_cases h1 : u < 10
    · rw [dec_small h1]; simp
    · rw [dec_big h1, List.length_append]
      have := dec_len k (u / 10) (by rw [Nat.pow_succ] at h; omega)
      simp; omega
/-- bytes of a slice as a string -/
theorem str_of (W : World) (ao : Option Addr) (n cp : Nat) (l : List UInt8) (h : RowY W ao l) (hn : l.length = n) (h0 : n ≤ cp) (hz : ao = none → cp = 0) : (convert 22 9 (.slice ao n cp)).run Tryd.prog W = .ok (.string ⟨l.toArray⟩) W := by
  subst hn
  cases ao with
  | none =>
    obtain rfl := hz rfl
    have h0 : l = [] := List.eq_nil_of_length_eq_zero (by omega)
    subst h0
    exact run_convert_bytes_nil W 22 5 Tryd.underlying22 Tryd.underlying5 _ _ 9 Tryd.underlying9
  | some a =>
    refine run_convert_bytes_back W 22 9 5 a cp l Tryd.underlying22 Tryd.underlying5 Tryd.underlying9 (fun j hj => ?_)
    rcases h with h | ⟨b, o, e, h2, h3⟩
    · rw [h] at hj; simp at hj
    · cases e
      rw [off_add]
      exact h3 j _ (List.getElem?_eq_getElem hj)
theorem byte_str (W : World) (u : Nat) : (convert 22 9 (.slice (some ⟨W.heap.size, 0, none⟩) 1 1)).run Tryd.prog (W.alloc (.cells #[.int .u8 (48 + (u : Int) % 10)] 5)) = .ok (.string ⟨#[dgt u]⟩) (W.alloc (.cells #[.int .u8 (48 + (u : Int) % 10)] 5)) := by
  have e : ((dgt u).toNat : Int) = 48 + (u : Int) % 10 := by
    rw [dgt, UInt8.toNat_ofNat']
    omega
  have := str_of (W.alloc (.cells #[.int .u8 (48 + (u : Int) % 10)] 5)) (some ⟨W.heap.size, 0, none⟩) 1 1 [dgt u] (.inr ⟨_, 0, rfl, (Blk.new W 5 _).lt, fun i x hx => by
    rcases i with _ | i
    · cases hx
      rw [e]
      exact (Blk.new W 5 #[.int .u8 (48 + (u : Int) % 10)]).cell 0
    · simp at hx⟩) rfl (Nat.le_refl _) (fun h => by cases h)
  exact this
/-- what has been written of a number whose digits are d0, u being what is left -/
def Left (d0 : List UInt8) (u : Nat) (s : List UInt8) : Prop := d0 = (if u < 10 then [] else Lib.decDigits (u / 10)) ++ s
theorem left_start (u : Nat) : Left (Lib.decDigits u) u [dgt u] := by
  unfold Left
  by_cases h : u < 10
  · rw [if_pos h, dec_small h]; rfl
  · rw [if_neg h, dec_big h]
theorem left_step {d0 s : List UInt8} {u : Nat} (h : Left d0 u s) (hu : ¬ u < 10) : Left d0 (u / 10) ([dgt (u / 10)] ++ s) := by
  unfold Left at h ⊢
  rw [if_neg hu] at h
  have := left_start (u / 10)
  unfold Left at this
  rw [h, this, List.append_assoc]
theorem left_end {d0 s : List UInt8} {u : Nat} (h : Left d0 u s) (hu : u < 10) : s = d0 := by
  unfold Left at h
  rw [if_pos hu] at h
  exact h.symm
set_option maxRecDepth 100000 in
set_option maxHeartbeats 2000000 in
theorem decimal_any (n : Int) (h0 : -9223372036854775808 ≤ n) (h1 : n ≤ 9223372036854775807) (W : World) : Calls Tryd.prog 29 #[.int .i64 n] W fun r W' => r = .returned (.string ⟨(Lib.itoa n).toArray⟩) ∧ Fr (fun _ => False) W W' := by
  obtain ⟨u0, hu0⟩ : ∃ u0 : Nat, u0 = n.natAbs := ⟨_, rfl⟩
  have hlt : u0 < 10 ^ 20 := by omega
  have HL0 := dec_len 19 u0 hlt
  have HLEN := Lib.hid HL0
  have hb0 := fun W => byte_str W u0
  have HB : Hid (u0 ≤ 18446744073709551615) := Lib.hid (by omega)
  have HU := Lib.hid hu0
  clear HL0 hlt hu0
  by_cases hn : n < 0
  · have p1 : decide (n < 0) = true := decide_eq_true hn
    have hw : IntKind.u64.wrap (-IntKind.u64.wrap n) = (u0 : Int) := by have := HU.out; simp [IntKind.wrap, IntKind.bits, IntKind.signed]; omega
    have HIT : Hid ((Lib.itoa n).toArray = #[45] ++ (Lib.decDigits u0).toArray) := Lib.hid (by unfold Lib.itoa; rw [if_pos hn, ← HU.out]; simp)
    go_enter Tryd.func29, Tryd.ntmps29
    go_wp2_with fail
    go_loopw [3, 4] (fun uv sv wr => ∃ (u : Nat) (s : List UInt8), uv = .int .u64 (u : Int) ∧ sv = .string ⟨s.toArray⟩ ∧ u ≤ u0 ∧ Left (Lib.decDigits u0) u s ∧ Fr (fun _ => False) W wr) (fun uv _ _ => (intOf uv).toNat)
    case atStart => exact ⟨u0, _, rfl, rfl, Nat.le_refl _, left_start u0, Fr.alloc _ _ _⟩
    case round =>
      obtain ⟨u, s, rfl, rfl, hle, hleft, hf⟩ := hrel
      have HLEFT := Lib.hid hleft
      have HF := Lib.hid hf
      have HLE := Lib.hid hle
      have hsl : s.length ≤ 20 := by
        have h1 := HLEN.out
        have h2 := hleft
        unfold Left at h2
        rw [h2, List.length_append] at h1
        omega
      have HSL := Lib.hid hsl
      clear hleft hf hle hsl hb0
      by_cases h10 : u < 10
      · have p2 : decide (10 ≤ (u : Int)) = false := decide_eq_false (by omega)
        have p2' : decide (10 ≤ u) = false := decide_eq_false (by omega)
        have hend := left_end HLEFT.out h10
        have HEND := Lib.hid hend
        clear hend
        have q1 : ¬ 9223372036854775807 < 1 + s.length := by have := HSL.out; omega
        go_wp2
        go_ret
        refine ⟨?_, HF.out⟩
        show Ending.returned (Value.string (⟨#[45]⟩ ++ ⟨s.toArray⟩)) = _
        rw [HIT.out, HEND.out]
        rw [ba_app]
      · have p2 : decide (10 ≤ (u : Int)) = true := decide_eq_true (by omega)
        have p2' : decide (10 ≤ u) = true := decide_eq_true (by omega)
        obtain ⟨v, hv⟩ : ∃ v, u / 10 = v := ⟨_, rfl⟩
        have hvb : v ≤ 18446744073709551615 := by have := HLE.out; have := HB.out; omega
        have hub : u ≤ 18446744073709551615 := by have := HLE.out; have := HB.out; omega
        have hq : (u : Int) / (10 : Int) = (v : Int) := by omega
        have hst := left_step HLEFT.out h10
        rw [hv] at hst
        have HST := Lib.hid hst
        have HV := Lib.hid hv
        have hb1 := fun W => byte_str W v
        have q1 : ¬ 9223372036854775807 < 1 + s.length := by have := HSL.out; omega
        clear hst hv
        go_wp2
        go_roundw
        case rel => exact ⟨v, _, rfl, by rw [ba_app]; congr 2; simp, by have := HV.out; have := HLE.out; omega, HST.out, HF.out.trans (Fr.alloc _ _ _)⟩
        case measure => have := HV.out; simp [intOf]; omega
  · have p1 : decide (n < 0) = false := decide_eq_false hn
    have hnu : n = (u0 : Int) := by have := HU.out; omega
    have HIT : Hid ((Lib.itoa n).toArray = (Lib.decDigits u0).toArray) := Lib.hid (by unfold Lib.itoa; rw [if_neg hn, show n.toNat = u0 by omega])
    subst hnu
    go_enter Tryd.func29, Tryd.ntmps29
    go_wp2_with fail
    go_loopw [3, 4] (fun uv sv wr => ∃ (u : Nat) (s : List UInt8), uv = .int .u64 (u : Int) ∧ sv = .string ⟨s.toArray⟩ ∧ u ≤ u0 ∧ Left (Lib.decDigits u0) u s ∧ Fr (fun _ => False) W wr) (fun uv _ _ => (intOf uv).toNat)
    case atStart => exact ⟨u0, _, rfl, rfl, Nat.le_refl _, left_start u0, Fr.alloc _ _ _⟩
    case round =>
      obtain ⟨u, s, rfl, rfl, hle, hleft, hf⟩ := hrel
      have HLEFT := Lib.hid hleft
      have HF := Lib.hid hf
      have HLE := Lib.hid hle
      have hsl : s.length ≤ 20 := by
        have h1 := HLEN.out
        have h2 := hleft
        unfold Left at h2
        rw [h2, List.length_append] at h1
        omega
      have HSL := Lib.hid hsl
      clear hleft hf hle hsl hb0
      by_cases h10 : u < 10
      · have p2 : decide (10 ≤ (u : Int)) = false := decide_eq_false (by omega)
        have p2' : decide (10 ≤ u) = false := decide_eq_false (by omega)
        have hend := left_end HLEFT.out h10
        have HEND := Lib.hid hend
        clear hend
        have q1 : ¬ 9223372036854775807 < 1 + s.length := by have := HSL.out; omega
        go_wp2
        go_ret
        refine ⟨?_, HF.out⟩
        show Ending.returned (Value.string ⟨s.toArray⟩) = _
        rw [HIT.out, HEND.out]
      · have p2 : decide (10 ≤ (u : Int)) = true := decide_eq_true (by omega)
        have p2' : decide (10 ≤ u) = true := decide_eq_true (by omega)
        obtain ⟨v, hv⟩ : ∃ v, u / 10 = v := ⟨_, rfl⟩
        have hvb : v ≤ 18446744073709551615 := by have := HLE.out; have := HB.out; omega
        have hub : u ≤ 18446744073709551615 := by have := HLE.out; have := HB.out; omega
        have hq : (u : Int) / (10 : Int) = (v : Int) := by omega
        have hst := left_step HLEFT.out h10
        rw [hv] at hst
        have HST := Lib.hid hst
        have HV := Lib.hid hv
        have hb1 := fun W => byte_str W v
        have q1 : ¬ 9223372036854775807 < 1 + s.length := by have := HSL.out; omega
        clear hst hv
        go_wp2
        go_roundw
        case rel => exact ⟨v, _, rfl, by rw [ba_app]; congr 2; simp, by have := HV.out; have := HLE.out; omega, HST.out, HF.out.trans (Fr.alloc _ _ _)⟩
        case measure => have := HV.out; simp [intOf]; omega
end Go.Proofs.YtookojfigjdgcaaDoor
