/- Contracts of the reference's Of, and of both Less. -/
import Derived.Test.YtdodioacjppohaaIdsG
namespace Go.Proofs.Ytdodioacjppohaa
open Go.RowKit
theorem of_parts (v : Int) (h0 : 0 ≤ v) (h1 : v < 18446744073709551616) : (0 ≤ ofTurn v ∧ ofTurn v < 4096) ∧ (0 ≤ ofEvent v ∧ ofEvent v < 65536) ∧ (0 ≤ ofRun v ∧ ofRun v < 65536) ∧ (0 ≤ ofFlow v ∧ ofFlow v < 1048576) ∧
    ((ofFlow v * 65536 + ofRun v) * 65536 + ofEvent v) * 4096 + ofTurn v = v := by
  unfold ofTurn ofEvent ofRun ofFlow; omega
theorem ofVal_cases (v : Int) : (ofB v = true ∧ (¬ ofFlow v = 0 ∨ ofFlow v = 0 ∧ ¬ ofRun v = 0)) ∨ (ofB v = false ∧ ofFlow v = 0 ∧ ofRun v = 0) := by
  unfold ofB
  by_cases h1 : ofFlow v = 0 <;> by_cases h2 : ofRun v = 0 <;> simp [h1, h2]
theorem of_any (v : Int) (w : World) (h0 : 0 ≤ v) (h1 : v < 18446744073709551616) :
    Calls Try.prog 42 #[.int .u64 v] w fun e w' => e = .returned (.tuple #[ofVal v, .int .i64 (ofErr v)]) ∧ Below w.heap.size w w' := by
  have q1 : v / topOf 12 = v / 4096 := by rw [top12]
  have r1 : v % topOf 12 = ofTurn v := by rw [top12]; rfl
  have q2 : v / 4096 / topOf 16 = v / 4096 / 65536 := by rw [top16]
  have r2 : v / 4096 % topOf 16 = ofEvent v := by rw [top16]; rfl
  have q3 : v / 4096 / 65536 / topOf 16 = v / 4096 / 65536 / 65536 := by rw [top16]
  have r3 : v / 4096 / 65536 % topOf 16 = ofRun v := by rw [top16]; rfl
  have q4 : v / 4096 / 65536 / 65536 / topOf 20 = v / 4096 / 65536 / 65536 / 1048576 := by rw [top20]
  have r4 : v / 4096 / 65536 / 65536 % topOf 20 = ofFlow v := by rw [top20]; rfl
  refine of_core v _ _ _ _ _ _ _ _ w ⟨h0, h1⟩ (by omega) (by omega) (by omega) (Lib.hid q1) (Lib.hid r1) (Lib.hid q2) (Lib.hid r2) (Lib.hid q3) (Lib.hid r3) (Lib.hid q4) (Lib.hid r4) _ _ ?_
  rcases ofVal_cases v with ⟨hB, hz | ⟨hz, hr⟩⟩ | ⟨hB, hz, hr⟩
  · right; exact ⟨.inl (beq_eq_false_iff_ne.2 hz), by unfold ofVal; rw [if_pos hB], by unfold ofErr; rw [if_pos hB]⟩
  · right; exact ⟨.inr ⟨beq_iff_eq.2 hz, beq_eq_false_iff_ne.2 hr⟩, by unfold ofVal; rw [if_pos hB], by unfold ofErr; rw [if_pos hB]⟩
  · left; exact ⟨beq_iff_eq.2 hz, beq_iff_eq.2 hr, by unfold ofVal; rw [if_neg (by rw [hB]; decide)], by unfold ofErr; rw [if_neg (by rw [hB]; decide)]⟩
theorem bcell {W w1 : World} {B : Nat} (hb : Below B W w1) : (∀ b o, b < B → w1.cell? ⟨b, o, none⟩ = W.cell? ⟨b, o, none⟩) ∧ (∀ b o, b < B → w1.frozen? ⟨b, o, none⟩ = W.frozen? ⟨b, o, none⟩) :=
  ⟨fun b o h => hb.cell (p := ⟨b, o, none⟩) h, fun b o h => hb.frozen (p := ⟨b, o, none⟩) h⟩
theorem refof_core (v f r e t : Int) (w : World) (_h0 : 0 ≤ v ∧ v < 18446744073709551616) (e1 : v / 17592186044416 = f) (e2 : bits .and .u64 (v / 268435456) 65535 = r) (e3 : bits .and .u64 (v / 4096) 65535 = e)
    (e4 : bits .and .u64 v 4095 = t) (b1 : 0 ≤ f ∧ f < 1048576) (b2 : 0 ≤ r ∧ r < 65536) (b3 : 0 ≤ e ∧ e < 65536) (b4 : 0 ≤ t ∧ t < 4096) (res : Value) (c : Int)
    (hz : ((v == 0) = true ∧ res = .agg #[.int .i64 0, .int .i64 0, .int .i64 0, .int .i64 0] ∧ c = 8) ∨ ((v == 0) = false ∧ (tokF f r e t != v) = true ∧ res = .agg #[.int .i64 0, .int .i64 0, .int .i64 0, .int .i64 0] ∧ c = 8) ∨
      ((v == 0) = false ∧ (tokF f r e t != v) = false ∧ res = .agg #[.int .i64 f, .int .i64 r, .int .i64 e, .int .i64 t] ∧ c = 0)) :
    Calls Try.prog 43 #[.int .u64 v] w fun e w' => e = .returned (.tuple #[res, .int .i64 c]) ∧ Below w.heap.size w w' := by
  rcases hz with ⟨z1, rfl, rfl⟩ | ⟨z1, z2, rfl, rfl⟩ | ⟨z1, z2, rfl, rfl⟩
  · go_enter Try.func43, Try.ntmps43
    go_wp2
    go_returns
    exact ⟨rfl, by go_grown⟩
  · go_enter Try.func43, Try.ntmps43
    go_wp2_with fail
    refine (rtoken_any _ _ _ _ _).mono ?_
    rintro e' w1 ⟨rfl, hb⟩
    obtain ⟨hc', hf'⟩ := bcell hb
    have hc := fun o => hc' w.heap.size o (by simp; omega)
    have hf := fun o => hf' w.heap.size o (by simp; omega)
    have hc1 := fun o => hc' (w.heap.size + 1) o (by simp)
    clear hc' hf'
    have hz : w.heap.size + 2 ≤ w1.heap.size := by have := hb.size; simp at this; omega
    go_wp2
    refine bodyPost_ret (by simp [results, Try.results43, go_sem, hc]; try rfl) rfl ?_
    exact ⟨rfl, (((((((Below.refl _ _).alloc (Nat.le_refl _) _).alloc (by simp) _).trans (hb.mono (by simp; omega))).setCell (by simp) _).setCell (by simp) _).setCell (by simp) _).setCell (by simp) _⟩
  · go_enter Try.func43, Try.ntmps43
    go_wp2_with fail
    refine (rtoken_any _ _ _ _ _).mono ?_
    rintro e' w1 ⟨rfl, hb⟩
    obtain ⟨hc', hf'⟩ := bcell hb
    have hc := fun o => hc' w.heap.size o (by simp; omega)
    have hf := fun o => hf' w.heap.size o (by simp; omega)
    have hc1 := fun o => hc' (w.heap.size + 1) o (by simp)
    clear hc' hf'
    have hz : w.heap.size + 2 ≤ w1.heap.size := by have := hb.size; simp at this; omega
    go_wp2
    refine bodyPost_ret (by simp [results, Try.results43, go_sem, hc]; try rfl) rfl ?_
    exact ⟨rfl, (((((((Below.refl _ _).alloc (Nat.le_refl _) _).alloc (by simp) _).trans (hb.mono (by simp; omega))).setCell (by simp) _).setCell (by simp) _).setCell (by simp) _).setCell (by simp) _⟩
theorem refof_any (v : Int) (w : World) (h0 : 0 ≤ v) (h1 : v < 18446744073709551616) :
    Calls Try.prog 43 #[.int .u64 v] w fun e w' => e = .returned (.tuple #[ofVal v, .int .i64 (ofErr v)]) ∧ Below w.heap.size w w' := by
  obtain ⟨pt, pe, pr, pf, ps⟩ := of_parts v h0 h1
  have m1 := and_mask (v / 268435456) 16 65536 (by decide) (by decide) (by omega) (by omega)
  have m2 := and_mask (v / 4096) 16 65536 (by decide) (by decide) (by omega) (by omega)
  have m3 := and_mask v 12 4096 (by decide) (by decide) h0 h1
  have ht : tokF (ofFlow v) (ofRun v) (ofEvent v) (ofTurn v) = if ofB v = true then v else 0 := by
    unfold tokF tokB fitsB
    rw [ps]
    unfold ofB
    simp [pt, pe, pr, pf]
  refine refof_core v (ofFlow v) (ofRun v) (ofEvent v) (ofTurn v) w ⟨h0, h1⟩ (by unfold ofFlow; omega) (by rw [show (65535 : Int) = 65536 - 1 from rfl, m1]; unfold ofRun; omega) (by rw [show (65535 : Int) = 65536 - 1 from rfl, m2]; rfl)
    (by rw [show (4095 : Int) = 4096 - 1 from rfl, m3]; rfl) pf pr pe pt _ _ ?_
  rw [ht]
  rcases ofVal_cases v with ⟨hB, hz⟩ | ⟨hB, hz, hr⟩
  · have hv : v ≠ 0 := by intro h; subst h; revert hz; decide
    right; right
    exact ⟨beq_eq_false_iff_ne.2 hv, by rw [if_pos hB]; simp, by unfold ofVal; rw [if_pos hB], by unfold ofErr; rw [if_pos hB]⟩
  · have g1 : ofVal v = .agg #[.int .i64 0, .int .i64 0, .int .i64 0, .int .i64 0] := by unfold ofVal; rw [if_neg (by rw [hB]; decide)]
    have g2 : ofErr v = 8 := by unfold ofErr; rw [if_neg (by rw [hB]; decide)]
    by_cases hv : v = 0
    · left; exact ⟨beq_iff_eq.2 hv, g1, g2⟩
    · right; left; exact ⟨beq_eq_false_iff_ne.2 hv, by rw [if_neg (by rw [hB]; decide), bne_iff_ne]; omega, g1, g2⟩
def lessB (a b c d x y z t : Int) : Bool := if a = x then (if b = y then (if c = z then decide (d < t) else decide (c < z)) else decide (b < y)) else decide (a < x)
theorem less_any (a b c d x y z t : Int) (w : World) :
    Calls Try.prog 46 #[.agg #[.int .i64 a, .int .i64 b, .int .i64 c, .int .i64 d], .agg #[.int .i64 x, .int .i64 y, .int .i64 z, .int .i64 t]] w fun e' w' => e' = .returned (.bool (lessB a b c d x y z t)) ∧ Below w.heap.size w w' := by
  unfold lessB
  by_cases h1 : a = x
  · subst h1
    by_cases h2 : b = y
    · subst h2
      by_cases h3 : c = z
      · subst h3
        go_enter Try.func46, Try.ntmps46
        go_wp2
        go_ret
        exact ⟨ret_bool (by simp), by go_grown⟩
      · have e : (c != z) = true := by rw [bne_iff_ne]; exact h3
        go_enter Try.func46, Try.ntmps46
        go_wp2
        go_ret
        exact ⟨ret_bool (by simp), by go_grown⟩
    · have e : (b != y) = true := by rw [bne_iff_ne]; exact h2
      go_enter Try.func46, Try.ntmps46
      go_wp2
      go_ret
      exact ⟨ret_bool (by simp), by go_grown⟩
  · have e : (a != x) = true := by rw [bne_iff_ne]; exact h1
    go_enter Try.func46, Try.ntmps46
    go_wp2
    go_ret
    exact ⟨ret_bool (by simp), by go_grown⟩
theorem rless_any (a b c d x y z t : Int) (w : World) :
    Calls Try.prog 47 #[.agg #[.int .i64 a, .int .i64 b, .int .i64 c, .int .i64 d], .agg #[.int .i64 x, .int .i64 y, .int .i64 z, .int .i64 t]] w fun e' w' => e' = .returned (.bool (lessB a b c d x y z t)) ∧ Below w.heap.size w w' := by
  unfold lessB
  by_cases h1 : a = x
  · subst h1
    by_cases h2 : b = y
    · subst h2
      by_cases h3 : c = z
      · subst h3
        go_enter Try.func47, Try.ntmps47
        go_wp2
        go_ret
        exact ⟨ret_bool (by simp), by go_grown⟩
      · have e : (c != z) = true := by rw [bne_iff_ne]; exact h3
        go_enter Try.func47, Try.ntmps47
        go_wp2
        go_ret
        exact ⟨ret_bool (by simp), by go_grown⟩
    · have e : (b != y) = true := by rw [bne_iff_ne]; exact h2
      go_enter Try.func47, Try.ntmps47
      go_wp2
      go_ret
      exact ⟨ret_bool (by simp), by go_grown⟩
  · have e : (a != x) = true := by rw [bne_iff_ne]; exact h1
    go_enter Try.func47, Try.ntmps47
    go_wp2
    go_ret
    exact ⟨ret_bool (by simp), by go_grown⟩
end Go.Proofs.Ytdodioacjppohaa
