/- The walk of DrawsBounds. -/
import Derived.Test.YtjcnmlfkdfpjmaaG
set_option linter.unusedVariables false
set_option linter.unusedSimpArgs false
namespace Go.Proofs.Ytjcnmlfkdfpjmaa
open Go.RowKit Go.Maps
set_option maxRecDepth 100000 in
set_option maxHeartbeats 2000000 in
theorem bounds_law (s lo hi n : Int) (hn : n ≤ 9223372036854775807) (W : World) : Calls Try.prog 3 #[.int .u64 s, .int .i64 lo, .int .i64 hi, .int .i64 n] W fun e W' => e = .returned (.bool true) ∧ Below W.heap.size W W' := by
  go_enter Try.func3, Try.ntmps3
  go_wp2_with fail
  refine (known_any _).mono ?_
  rintro e w1 ⟨rfl, b1⟩
  go_wp2_with fail
  refine (new_any _ _).mono ?_
  rintro e w2 ⟨rfl, s2, f2⟩
  have b2 := b1.trans (f2.below b1.size (fun k e => e.elim))
  have hs1 := b1.size
  clear f2 b1
  go_wp2
  go_loopw [10] (fun kv wr => ∃ k : Nat, k ≤ 20 ∧ kv = .int .i64 k ∧ (∃ x c, 0 ≤ c ∧ c ≤ 2 * (k : Int) ∧ Src wr w1.heap.size x c) ∧ Below W.heap.size W wr) (fun kv _ => 20 - (intOf kv).toNat)
  case atStart => exact ⟨0, by omega, rfl, ⟨s, 0, by omega, by omega, s2⟩, b2⟩
  case round =>
    obtain ⟨k, hk, rfl, ⟨x, c, hc0, hc1, hS⟩, hb⟩ := hrel
    clear s2 b2
    by_cases hlt : k < 20
    · have p0 : decide ((k : Int) < 20) = true := decide_eq_true (by omega)
      have HB := Lib.hid (between_any wr _ x c hS hc0 (by omega) lo hi)
      obtain ⟨g1, g2⟩ := btw_rng lo hi x
      obtain ⟨v, hv⟩ : ∃ v, btw lo hi x = v := ⟨_, rfl⟩
      rw [hv] at HB g1 g2
      have hct : 0 ≤ ctT lo hi c ∧ ctT lo hi c ≤ c + 1 := by unfold ctT; split <;> omega
      obtain ⟨c2, hc2⟩ : ∃ c2, ctT lo hi c = c2 := ⟨_, rfl⟩
      obtain ⟨y, hy⟩ : ∃ y, upT lo hi x = y := ⟨_, rfl⟩
      rw [hc2, hy] at HB
      rw [hc2] at hct
      clear hv hc2 hy hS
      go_wp2_with fail
      refine HB.out.mono ?_
      rintro e w3 ⟨rfl, hS3, hf3⟩
      have hb3 := hb.trans (hf3.below hb.size (fun k e => by omega))
      have HW := Lib.hid (below_any w3 _ y c2 hS3 hct.1 (by omega) n hn)
      obtain ⟨g3, g4⟩ := blw_rng n y
      obtain ⟨u, hu⟩ : ∃ u, blw n y = u := ⟨_, rfl⟩
      rw [hu] at HW g3 g4
      have hct3 : 0 ≤ ctB n c2 ∧ ctB n c2 ≤ c2 + 1 := by unfold ctB; split <;> omega
      obtain ⟨c3, hc3⟩ : ∃ c3, ctB n c2 = c3 := ⟨_, rfl⟩
      obtain ⟨z, hz⟩ : ∃ z, upB n y = z := ⟨_, rfl⟩
      rw [hc3, hz] at HW
      rw [hc3] at hct3
      clear hu hc3 hz hS3 HB hf3 hb
      go_wp2_with fail
      refine HW.out.mono ?_
      rintro e w4 ⟨rfl, hS4, hf4⟩
      have hb4 := hb3.trans (hf4.below hb3.size (fun k e => by omega))
      have p1 : decide (v < lo) = false := decide_eq_false (by omega)
      have HS4 := Lib.hid hS4
      clear HW hf4 hb3 hS4
      by_cases q1 : lo ≤ hi
      all_goals
        first | (have p2 : decide (lo ≤ hi) = true := decide_eq_true q1) | (have p2 : decide (lo ≤ hi) = false := decide_eq_false q1)
        first | (have p3 : decide (hi < v) = false := decide_eq_false (by omega)) | skip
        by_cases q2 : 0 < n
        all_goals
          first | (have p4 : decide (0 < n) = true := decide_eq_true q2) | (have p4 : decide (0 < n) = false := decide_eq_false q2)
          have p5 : decide (u < 0) = false := decide_eq_false (by omega)
          first | (have p6 : decide (n ≤ u) = false := decide_eq_false (by omega)) | skip
          first | (have p7 : decide (n < 1) = false := decide_eq_false (by omega)) | (have p7 : decide (n < 1) = true := decide_eq_true (by omega))
          first | (have p8 : (u != 0) = false := by simp; omega) | skip
          clear q1 q2 g1 g2 g3 g4
          go_wp2
          go_roundw
          case rel => exact ⟨k + 1, by omega, by go_num, ⟨z, c3, by omega, by omega, HS4.out⟩, hb4⟩
          case measure => simp [intOf]; omega
    · obtain rfl : k = 20 := by omega
      have p0 : decide (((20 : Nat) : Int) < 20) = false := by decide
      go_wp2
      go_ret
      exact ⟨rfl, hb⟩
end Go.Proofs.Ytjcnmlfkdfpjmaa
