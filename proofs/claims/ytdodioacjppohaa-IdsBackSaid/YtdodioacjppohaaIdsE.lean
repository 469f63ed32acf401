/- Contracts of ids.Token and of its reference: the number that a token has. -/
import Derived.Test.YtdodioacjppohaaIdsD
namespace Go.Proofs.Ytdodioacjppohaa
open Go.RowKit
/-- does a number lie from 0 on below m -/
def fitsB (v m : Int) : Bool := decide (0 ≤ v ∧ v < m)
theorem fitsB_iff {v m : Int} : fitsB v m = true ↔ 0 ≤ v ∧ v < m := by unfold fitsB; simp
theorem fitsB_no {v m : Int} : fitsB v m = false ↔ ¬ (0 ≤ v ∧ v < m) := by unfold fitsB; simp only [decide_eq_false_iff_not]
theorem ret_bool {a b : Bool} (h : a = b) : Ending.returned (.bool a) = .returned (.bool b) := by rw [h]
def topOf (b : Int) : Int := if b = 20 then 1048576 else if b = 16 then 65536 else 4096
theorem top20 : topOf 20 = 1048576 := by decide
theorem top16 : topOf 16 = 65536 := by decide
theorem top12 : topOf 12 = 4096 := by decide
theorem fits_any (v b : Int) (h : b = 20 ∨ b = 16 ∨ b = 12) (w : World) :
    Calls Try.prog 66 #[.int .i64 v, .int .i64 b] w fun e w' => e = .returned (.bool (fitsB v (topOf b))) ∧ w = w' := by
  rcases h with rfl | rfl | rfl
  all_goals
    go_enter Try.func66, Try.ntmps66
    go_wp2
    all_goals
      go_ret
      refine ⟨ret_bool ?_, rfl⟩
      unfold fitsB topOf
      simp [*]
      try omega
theorem rfits_any (v b : Int) (h : b = 20 ∨ b = 16 ∨ b = 12) (w : World) :
    Calls Try.prog 67 #[.int .i64 v, .int .u64 b] w fun e w' => e = .returned (.bool (fitsB v (topOf b))) ∧ w = w' := by
  rcases h with rfl | rfl | rfl
  all_goals
    go_enter Try.func67, Try.ntmps67
    go_wp2
    all_goals
      go_ret
      refine ⟨ret_bool ?_, rfl⟩
      unfold fitsB topOf
      simp [*]
      try omega
def tokB (f r e t : Int) : Bool := fitsB f 1048576 && fitsB r 65536 && fitsB e 65536 && fitsB t 4096 && !(f == 0 && r == 0)
def tokF (f r e t : Int) : Int := if tokB f r e t = true then ((f * 65536 + r) * 65536 + e) * 4096 + t else 0
theorem fits20 {v : Int} (h : fitsB v 1048576 = true) : 0 ≤ v ∧ v < 1048576 := fitsB_iff.1 h
theorem fits16 {v : Int} (h : fitsB v 65536 = true) : 0 ≤ v ∧ v < 65536 := fitsB_iff.1 h
theorem fits12 {v : Int} (h : fitsB v 4096 = true) : 0 ≤ v ∧ v < 4096 := fitsB_iff.1 h
theorem or_sum (x b : Int) (i : Nat) (m : Int) (hm : m = ((2 ^ i : Nat) : Int)) (h0 : 0 ≤ x) (h1 : x < 18446744073709551616) (hx : x % m = 0) (h2 : 0 ≤ b) (h3 : b < m) (hb : b < 18446744073709551616) :
    bits .or .u64 x b = x + b := by
  rw [u64_or _ _ h0 h1 h2 hb, nat_join i]
  · omega
  · subst hm
    obtain ⟨n, rfl⟩ := Int.eq_ofNat_of_zero_le h0
    rw [Int.toNat_natCast]
    exact_mod_cast hx
  · omega
theorem tok_split (f r e t : Int) : (tokB f r e t = true ∧ fitsB f 1048576 = true ∧ fitsB r 65536 = true ∧ fitsB e 65536 = true ∧ fitsB t 4096 = true ∧ (¬ f = 0 ∨ f = 0 ∧ ¬ r = 0)) ∨
    (tokB f r e t = false ∧ (fitsB f 1048576 = false ∨ (fitsB f 1048576 = true ∧ fitsB r 65536 = false) ∨ (fitsB f 1048576 = true ∧ fitsB r 65536 = true ∧ fitsB e 65536 = false) ∨
      (fitsB f 1048576 = true ∧ fitsB r 65536 = true ∧ fitsB e 65536 = true ∧ fitsB t 4096 = false) ∨ (fitsB f 1048576 = true ∧ fitsB r 65536 = true ∧ fitsB e 65536 = true ∧ fitsB t 4096 = true ∧ f = 0 ∧ r = 0))) := by
  unfold tokB
  cases fitsB f 1048576 <;> cases fitsB r 65536 <;> cases fitsB e 65536 <;> cases fitsB t 4096 <;> simp
  omega
theorem token_yes (f r e t : Int) (w : World) (h1 : fitsB f 1048576 = true) (h2 : fitsB r 65536 = true) (h3 : fitsB e 65536 = true) (h4 : fitsB t 4096 = true) (hz : ¬ f = 0 ∨ f = 0 ∧ ¬ r = 0) :
    Calls Try.prog 44 #[.agg #[.int .i64 f, .int .i64 r, .int .i64 e, .int .i64 t]] w fun e' w' => e' = .returned (.int .u64 (((f * 65536 + r) * 65536 + e) * 4096 + t)) ∧ Below w.heap.size w w' := by
    have t20 := top20
    have t16 := top16
    have t12 := top12
    obtain ⟨a1, a2⟩ := fits20 h1
    obtain ⟨b1, b2⟩ := fits16 h2
    obtain ⟨c1, c2⟩ := fits16 h3
    obtain ⟨d1, d2⟩ := fits12 h4
    have E1 := or_sum (f * 65536) r 16 65536 rfl (by omega) (by omega) (by omega) b1 b2 (by omega)
    have E2 := or_sum ((f * 65536 + r) * 65536) e 16 65536 rfl (by omega) (by omega) (by omega) c1 c2 (by omega)
    have E3 := or_sum (((f * 65536 + r) * 65536 + e) * 4096) t 12 4096 rfl (by omega) (by omega) (by omega) d1 d2 (by omega)
    rcases hz with hz | ⟨rfl, hz⟩
    all_goals
      have hz' := beq_eq_false_iff_ne.2 hz
      (try simp only [Int.zero_mul, Int.zero_add] at E1 E2 E3 ⊢)
      go_enter Try.func44, Try.ntmps44
      go_wp2_with (go_at_call 66; refine (fits_any _ _ (by decide) _).mono ?_; rintro e w' ⟨rfl, rfl⟩)
      all_goals go_ret
      all_goals exact ⟨ret_u64 (by first | rfl | omega), by go_grown⟩
set_option maxHeartbeats 2000000 in
theorem token_no (f r e t : Int) (w : World) (hz : fitsB f 1048576 = false ∨ (fitsB f 1048576 = true ∧ fitsB r 65536 = false) ∨ (fitsB f 1048576 = true ∧ fitsB r 65536 = true ∧ fitsB e 65536 = false) ∨
      (fitsB f 1048576 = true ∧ fitsB r 65536 = true ∧ fitsB e 65536 = true ∧ fitsB t 4096 = false) ∨ (fitsB f 1048576 = true ∧ fitsB r 65536 = true ∧ fitsB e 65536 = true ∧ fitsB t 4096 = true ∧ f = 0 ∧ r = 0)) :
    Calls Try.prog 44 #[.agg #[.int .i64 f, .int .i64 r, .int .i64 e, .int .i64 t]] w fun e' w' => e' = .returned (.int .u64 0) ∧ Below w.heap.size w w' := by
    have t20 := top20
    have t16 := top16
    have t12 := top12
    by_cases hf : f = 0
    all_goals by_cases hr : r = 0
    all_goals (first | subst hf | have hf' : (f == 0) = false := beq_eq_false_iff_ne.2 hf)
    all_goals (first | subst hr | have hr' : (r == 0) = false := beq_eq_false_iff_ne.2 hr)
    all_goals rcases hz with h1 | ⟨h1, h2⟩ | ⟨h1, h2, h3⟩ | ⟨h1, h2, h3, h4⟩ | ⟨h1, h2, h3, h4, h5, h6⟩
    all_goals first
      | (exfalso; omega)
      | (go_enter Try.func44, Try.ntmps44
         go_wp2_with (go_at_call 66; refine (fits_any _ _ (by decide) _).mono ?_; rintro e w' ⟨rfl, rfl⟩)
         all_goals go_ret
         all_goals exact ⟨rfl, by go_grown⟩)
theorem token_any (f r e t : Int) (w : World) :
    Calls Try.prog 44 #[.agg #[.int .i64 f, .int .i64 r, .int .i64 e, .int .i64 t]] w fun e' w' => e' = .returned (.int .u64 (tokF f r e t)) ∧ Below w.heap.size w w' := by
  unfold tokF
  rcases tok_split f r e t with ⟨hB, h1, h2, h3, h4, hz⟩ | ⟨hB, hz⟩
  · rw [if_pos hB]; exact token_yes f r e t w h1 h2 h3 h4 hz
  · rw [if_neg (by rw [hB]; decide)]; exact token_no f r e t w hz
theorem rtoken_yes (f r e t : Int) (w : World) (h1 : fitsB f 1048576 = true) (h2 : fitsB r 65536 = true) (h3 : fitsB e 65536 = true) (h4 : fitsB t 4096 = true) (hz : ¬ f = 0 ∨ f = 0 ∧ ¬ r = 0) :
    Calls Try.prog 45 #[.agg #[.int .i64 f, .int .i64 r, .int .i64 e, .int .i64 t]] w fun e' w' => e' = .returned (.int .u64 (((f * 65536 + r) * 65536 + e) * 4096 + t)) ∧ Below w.heap.size w w' := by
    have t20 := top20
    have t16 := top16
    have t12 := top12
    obtain ⟨a1, a2⟩ := fits20 h1
    obtain ⟨b1, b2⟩ := fits16 h2
    obtain ⟨c1, c2⟩ := fits16 h3
    obtain ⟨d1, d2⟩ := fits12 h4
    have E1 := or_sum (f * 17592186044416) (r * 268435456) 44 17592186044416 rfl (by omega) (by omega) (by omega) (by omega) (by omega) (by omega)
    have E2 := or_sum (f * 17592186044416 + r * 268435456) (e * 4096) 28 268435456 rfl (by omega) (by omega) (by omega) (by omega) (by omega) (by omega)
    have E3 := or_sum (f * 17592186044416 + r * 268435456 + e * 4096) t 12 4096 rfl (by omega) (by omega) (by omega) d1 d2 (by omega)
    rcases hz with hz | ⟨rfl, hz⟩
    all_goals
      have hz' := beq_eq_false_iff_ne.2 hz
      (try simp only [Int.zero_mul, Int.zero_add] at E1 E2 E3 ⊢)
      go_enter Try.func45, Try.ntmps45
      go_wp2_with (go_at_call 67; refine (rfits_any _ _ (by decide) _).mono ?_; rintro e w' ⟨rfl, rfl⟩)
      all_goals go_ret
      all_goals exact ⟨ret_u64 (by first | rfl | omega), by go_grown⟩
set_option maxHeartbeats 2000000 in
theorem rtoken_no (f r e t : Int) (w : World) (hz : fitsB f 1048576 = false ∨ (fitsB f 1048576 = true ∧ fitsB r 65536 = false) ∨ (fitsB f 1048576 = true ∧ fitsB r 65536 = true ∧ fitsB e 65536 = false) ∨
      (fitsB f 1048576 = true ∧ fitsB r 65536 = true ∧ fitsB e 65536 = true ∧ fitsB t 4096 = false) ∨ (fitsB f 1048576 = true ∧ fitsB r 65536 = true ∧ fitsB e 65536 = true ∧ fitsB t 4096 = true ∧ f = 0 ∧ r = 0)) :
    Calls Try.prog 45 #[.agg #[.int .i64 f, .int .i64 r, .int .i64 e, .int .i64 t]] w fun e' w' => e' = .returned (.int .u64 0) ∧ Below w.heap.size w w' := by
    have t20 := top20
    have t16 := top16
    have t12 := top12
    by_cases hf : f = 0
    all_goals by_cases hr : r = 0
    all_goals (first | subst hf | have hf' : (f == 0) = false := beq_eq_false_iff_ne.2 hf)
    all_goals (first | subst hr | have hr' : (r == 0) = false := beq_eq_false_iff_ne.2 hr)
    all_goals rcases hz with h1 | ⟨h1, h2⟩ | ⟨h1, h2, h3⟩ | ⟨h1, h2, h3, h4⟩ | ⟨h1, h2, h3, h4, h5, h6⟩
    all_goals first
      | (exfalso; omega)
      | (go_enter Try.func45, Try.ntmps45
         go_wp2_with (go_at_call 67; refine (rfits_any _ _ (by decide) _).mono ?_; rintro e w' ⟨rfl, rfl⟩)
         all_goals go_ret
         all_goals exact ⟨rfl, by go_grown⟩)
theorem rtoken_any (f r e t : Int) (w : World) :
    Calls Try.prog 45 #[.agg #[.int .i64 f, .int .i64 r, .int .i64 e, .int .i64 t]] w fun e' w' => e' = .returned (.int .u64 (tokF f r e t)) ∧ Below w.heap.size w w' := by
  unfold tokF
  rcases tok_split f r e t with ⟨hB, h1, h2, h3, h4, hz⟩ | ⟨hB, hz⟩
  · rw [if_pos hB]; exact rtoken_yes f r e t w h1 h2 h3 h4 hz
  · rw [if_neg (by rw [hB]; decide)]; exact rtoken_no f r e t w hz
end Go.Proofs.Ytdodioacjppohaa
