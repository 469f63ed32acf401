/- Set and Lease, of both maps, each by one word on what they answer and leave. -/
import Derived.Test.YtfdipgnlafhlbaaK
import Derived.Test.YtfdipgnlafhlbaaL
set_option linter.unusedVariables false
namespace Go.Proofs.Ytfdipgnlafhlbaa
open Go.RowKit
def setC (g : Nat) (fr : Nat → Int) (s R : Int) : Int := if isB g s = true then (if R < fr s.toNat then 25 else 0) else 2
def setF (g : Nat) (fr f : Nat → Int) (s R v : Int) : Nat → Int := if isB g s = true ∧ ¬ R < fr s.toNat then upd f s.toNat v else f
def setN (g : Nat) (fr un : Nat → Int) (s R : Int) : Nat → Int := if isB g s = true ∧ ¬ R < fr s.toNat ∧ ¬ R = fr s.toNat then upd un s.toNat 0 else un
def okArg (now ticks : Int) : Prop := 0 ≤ now ∧ 1 ≤ ticks ∧ ticks ≤ 1048576 ∧ now ≤ 1099511627776
instance (now ticks : Int) : Decidable (okArg now ticks) := by unfold okArg; infer_instance
def lsC (g : Nat) (fr fo : Nat → Int) (s ow now ticks : Int) : Int := if isB g s = true then (if okArg now ticks then (if fo s.toNat = ow ∧ ¬ fr s.toNat = 0 then 0 else 25) else 1) else 2
def lsM (un : Nat → Int) (s now ticks : Int) : Int := if un s.toNat < now + ticks then now + ticks else un s.toNat
def lsV (g : Nat) (fr fo un : Nat → Int) (s ow now ticks : Int) : Int := if lsC g fr fo s ow now ticks = 0 then lsM un s now ticks else 0
def lsN (g : Nat) (fr fo un : Nat → Int) (s ow now ticks : Int) : Nat → Int := if lsC g fr fo s ow now ticks = 0 then upd un s.toNat (lsM un s now ticks) else un
theorem set_all (P L U g : Nat) (fr fo un : Nat → Int) (s R O : Int) (w : World) (h : IsMap w P L U g fr fo un) :
    Calls Try.prog 20 #[.pointer (some ⟨P, 0, none⟩), .int .i64 s, .agg #[.int .i64 R, .int .i64 O]] w fun e w' => e = .returned (.int .i64 (setC g fr s R)) ∧ Left P L U g (setF g fr fr s R R) (setF g fr fo s R O) (setN g fr un s R) w w' := by
  unfold setC setF setN
  cases hb : isB g s with
  | false => simpa using set_no P L U g fr fo un s R O w h hb
  | true =>
    obtain ⟨k, rfl, hk⟩ := isB_yes hb
    simp only [Int.toNat_natCast]
    by_cases h1 : R < fr k
    · simpa [h1] using set_low P L U g fr fo un k R O w h hk _ _ rfl rfl h1
    · by_cases h2 : R = fr k
      · have := set_old P L U g fr fo un k R O w h hk _ _ rfl rfl h2
        simpa [h2] using (h2 ▸ this)
      · simpa [h1, h2] using set_new P L U g fr fo un k R O w h hk _ _ rfl rfl h1 h2
theorem lease_all (P L U g : Nat) (fr fo un : Nat → Int) (s ow now ticks : Int) (w : World) (h : IsMap w P L U g fr fo un) :
    Calls Try.prog 21 #[.pointer (some ⟨P, 0, none⟩), .int .i64 s, .int .i64 ow, .int .i64 now, .int .i64 ticks] w fun e w' => e = .returned (.tuple #[.int .i64 (lsV g fr fo un s ow now ticks), .int .i64 (lsC g fr fo s ow now ticks)]) ∧ Left P L U g fr fo (lsN g fr fo un s ow now ticks) w w' := by
  unfold lsV lsN
  cases hb : isB g s with
  | false =>
    have hc : lsC g fr fo s ow now ticks = 2 := by unfold lsC; rw [if_neg (by rw [hb]; decide)]
    simpa [hc] using lease_no P L U g fr fo un s ow now ticks w h hb
  | true =>
    obtain ⟨k, rfl, hk⟩ := isB_yes hb
    by_cases ha : okArg now ticks
    · have ha' := ha
      obtain ⟨a1, a2, a3, a4⟩ := ha'
      by_cases hf : fo k = ow ∧ ¬ fr k = 0
      · have hc : lsC g fr fo (k : Int) ow now ticks = 0 := by unfold lsC; rw [if_pos hb, if_pos ha, if_pos (by simpa using hf)]
        have := lease_yes P L U g fr fo un k ow now ticks w h hk _ _ _ rfl rfl rfl a1 a2 a3 a4 hf.1 hf.2 (lsM un k now ticks) (by unfold lsM; simp only [Int.toNat_natCast]; split <;> omega)
        simpa [hc] using this
      · have hc : lsC g fr fo (k : Int) ow now ticks = 25 := by unfold lsC; rw [if_pos hb, if_pos ha, if_neg (by simpa using hf)]
        have := lease_fen P L U g fr fo un k ow now ticks w h hk _ _ _ rfl rfl rfl a1 a2 a3 a4 (by omega)
        simpa [hc] using this
    · have hc : lsC g fr fo (k : Int) ow now ticks = 1 := by unfold lsC; rw [if_pos hb, if_neg ha]
      have := lease_arg P L U g fr fo un k ow now ticks w h hk _ _ _ rfl rfl rfl (by unfold okArg at ha; omega)
      simpa [hc] using this
theorem rset_all (P L U g : Nat) (fr fo un : Nat → Int) (s R O : Int) (w : World) (h : IsMap w P L U g fr fo un) :
    Calls Try.prog 23 #[.pointer (some ⟨P, 0, none⟩), .int .i64 s, .agg #[.int .i64 R, .int .i64 O]] w fun e w' => e = .returned (.int .i64 (setC g fr s R)) ∧ Left P L U g (setF g fr fr s R R) (setF g fr fo s R O) (setN g fr un s R) w w' := by
  unfold setC setF setN
  cases hb : isB g s with
  | false => simpa using rset_no P L U g fr fo un s R O w h hb
  | true =>
    obtain ⟨k, rfl, hk⟩ := isB_yes hb
    simp only [Int.toNat_natCast]
    by_cases h1 : R < fr k
    · simpa [h1] using rset_low P L U g fr fo un k R O w h hk _ _ rfl rfl h1
    · by_cases h2 : R = fr k
      · have := rset_old P L U g fr fo un k R O w h hk _ _ rfl rfl h2
        simpa [h2] using (h2 ▸ this)
      · simpa [h1, h2] using rset_new P L U g fr fo un k R O w h hk _ _ rfl rfl h1 h2
theorem rlease_all (P L U g : Nat) (fr fo un : Nat → Int) (s ow now ticks : Int) (w : World) (h : IsMap w P L U g fr fo un) :
    Calls Try.prog 24 #[.pointer (some ⟨P, 0, none⟩), .int .i64 s, .int .i64 ow, .int .i64 now, .int .i64 ticks] w fun e w' => e = .returned (.tuple #[.int .i64 (lsV g fr fo un s ow now ticks), .int .i64 (lsC g fr fo s ow now ticks)]) ∧ Left P L U g fr fo (lsN g fr fo un s ow now ticks) w w' := by
  unfold lsV lsN
  cases hb : isB g s with
  | false =>
    have hc : lsC g fr fo s ow now ticks = 2 := by unfold lsC; rw [if_neg (by rw [hb]; decide)]
    simpa [hc] using rlease_no P L U g fr fo un s ow now ticks w h hb
  | true =>
    obtain ⟨k, rfl, hk⟩ := isB_yes hb
    by_cases ha : okArg now ticks
    · have ha' := ha
      obtain ⟨a1, a2, a3, a4⟩ := ha'
      by_cases hf : fo k = ow ∧ ¬ fr k = 0
      · have hc : lsC g fr fo (k : Int) ow now ticks = 0 := by unfold lsC; rw [if_pos hb, if_pos ha, if_pos (by simpa using hf)]
        have := rlease_yes P L U g fr fo un k ow now ticks w h hk _ _ _ rfl rfl rfl a1 a2 a3 a4 hf.1 hf.2 (lsM un k now ticks) (by unfold lsM; simp only [Int.toNat_natCast]; split <;> omega)
        simpa [hc] using this
      · have hc : lsC g fr fo (k : Int) ow now ticks = 25 := by unfold lsC; rw [if_pos hb, if_pos ha, if_neg (by simpa using hf)]
        have := rlease_fen P L U g fr fo un k ow now ticks w h hk _ _ _ rfl rfl rfl a1 a2 a3 a4 (by omega)
        simpa [hc] using this
    · have hc : lsC g fr fo (k : Int) ow now ticks = 1 := by unfold lsC; rw [if_pos hb, if_neg ha]
      have := rlease_arg P L U g fr fo un k ow now ticks w h hk _ _ _ rfl rfl rfl (by unfold okArg at ha; omega)
      simpa [hc] using this
end Go.Proofs.Ytfdipgnlafhlbaa
