/- The walk of IdsUnlike. -/
import Derived.Test.YtdodioacjppohaaIdsC
import Derived.OpenShut
namespace Go.Proofs.Ytdodioacjppohaa
open Go.RowKit
theorem unlike (a : Int) (wa : (Lit.int .i64 a).wf = true) (b : Int) (wb : (Lit.int .i64 b).wf = true) (t : Int) (wt : (Lit.int .u64 t).wf = true) (w : World) :
    Calls Try.prog 3 #[.int .i64 a, .int .i64 b, .int .u64 t] w fun e w' => e = .returned (.bool true) ∧ Below w.heap.size w w' := by
  obtain ⟨a1, a2⟩ := bounds_i64 wa
  obtain ⟨b1, b2⟩ := bounds_i64 wb
  obtain ⟨h1, h2⟩ := bounds_u64 wt
  clear wa wb wt
  obtain ⟨k, hk, hkt⟩ : ∃ k : Nat, k < 64 ∧ bits .and .u64 t 63 = (k : Int) := by
    rw [u64_and t 63 h1 (by omega) (by decide) (by decide)]
    refine ⟨_, ?_, rfl⟩
    exact Nat.lt_of_le_of_lt Nat.and_le_right (by decide)
  have hT := turned a _ k hk rfl
  have hne : (hashI a != hashI (bits .xor .i64 a (wrap64 (2 ^ k)))) = true := by
    rw [bne_iff_ne]; intro h; exact hT.1 (hashI_inj a1 a2 hT.2.1 hT.2.2 h)
  clear hT
  by_cases hab : a = b
  · subst hab
    have h5 : (hashI a == hashI a) = true := by simp
    go_enter Try.func3, Try.ntmps3
    go_wp2_with (first | (go_at_call 15; refine (known_any _).mono ?_; rintro e w' ⟨rfl, hg⟩) | (go_at_call 16; refine (hash_any _ _).mono ?_; rintro e w' ⟨rfl, rfl⟩))
    go_ret
    exact ⟨rfl, hg⟩
  · have h5 : (hashI a == hashI b) = false := by
      rw [beq_eq_false_iff_ne]; intro h; exact hab (hashI_inj a1 a2 b1 b2 h)
    have h6 : (a == b) = false := by rw [beq_eq_false_iff_ne]; exact hab
    go_enter Try.func3, Try.ntmps3
    go_wp2_with (first | (go_at_call 15; refine (known_any _).mono ?_; rintro e w' ⟨rfl, hg⟩) | (go_at_call 16; refine (hash_any _ _).mono ?_; rintro e w' ⟨rfl, rfl⟩))
    go_ret
    exact ⟨rfl, hg⟩
end Go.Proofs.Ytdodioacjppohaa
