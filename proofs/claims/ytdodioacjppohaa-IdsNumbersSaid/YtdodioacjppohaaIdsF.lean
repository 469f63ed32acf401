/- The walks of IdsShards and IdsNumbers. -/
import Derived.Test.YtdodioacjppohaaIdsD
set_option linter.unusedVariables false
namespace Go.Proofs.Ytdodioacjppohaa
open Go.RowKit
theorem shardF_rng (f g : Int) (hg : 1 ≤ g) : 0 ≤ shardF f g ∧ shardF f g < g := by
  unfold shardF; rw [if_neg (by omega)]; exact ⟨Int.emod_nonneg _ (by omega), Int.emod_lt_of_pos _ (by omega)⟩
theorem listF_rng (f t g : Int) (hg : 1 ≤ g) : 0 ≤ listF f t g ∧ listF f t g < g := by
  unfold listF; rw [if_neg (by omega)]; exact ⟨Int.emod_nonneg _ (by omega), Int.emod_lt_of_pos _ (by omega)⟩
theorem shards (f : Int) (wf : (Lit.int .i64 f).wf = true) (l : Int) (wl : (Lit.int .i64 l).wf = true) (t : Int) (wt : (Lit.int .i64 t).wf = true) (g : Int) (wg : (Lit.int .i64 g).wf = true) (w : World) :
    Calls Try.prog 6 #[.int .i64 f, .int .i64 l, .int .i64 t, .int .i64 g] w fun e w' => e = .returned (.bool true) ∧ Below w.heap.size w w' := by
  obtain ⟨g1, g2⟩ := bounds_i64 wg
  clear wf wl wt wg
  by_cases hg : g < 1
  · have e1 : shardF f g = 0 := by unfold shardF; rw [if_pos hg]
    have e2 : listF l t g = 0 := by unfold listF; rw [if_pos hg]
    go_enter Try.func6, Try.ntmps6
    go_wp2_with (first | (go_at_call 15; refine (known_any _).mono ?_; rintro e w' ⟨rfl, hb⟩) | (go_at_call 27; refine (shard_any _ _ _ (by assumption)).mono ?_; rintro e w' ⟨rfl, rfl⟩) | (go_at_call 28; refine (list_any _ _ _ _ (by assumption)).mono ?_; rintro e w' ⟨rfl, rfl⟩))
    go_ret
    exact ⟨rfl, hb⟩
  · obtain ⟨a1, a2⟩ := shardF_rng f g (by omega)
    obtain ⟨b1, b2⟩ := listF_rng l t g (by omega)
    by_cases h1 : g = 1
    · subst h1
      have e1 : (shardF f 1 == 0) = true := by rw [beq_iff_eq]; omega
      have e2 : (listF l t 1 == 0) = true := by rw [beq_iff_eq]; omega
      go_enter Try.func6, Try.ntmps6
      go_wp2_with (first | (go_at_call 15; refine (known_any _).mono ?_; rintro e w' ⟨rfl, hb⟩) | (go_at_call 27; refine (shard_any _ _ _ (by assumption)).mono ?_; rintro e w' ⟨rfl, rfl⟩) | (go_at_call 28; refine (list_any _ _ _ _ (by assumption)).mono ?_; rintro e w' ⟨rfl, rfl⟩))
      go_ret
      exact ⟨rfl, hb⟩
    · have e1 : (g != 1) = true := by rw [bne_iff_ne]; omega
      go_enter Try.func6, Try.ntmps6
      go_wp2_with (first | (go_at_call 15; refine (known_any _).mono ?_; rintro e w' ⟨rfl, hb⟩) | (go_at_call 27; refine (shard_any _ _ _ (by assumption)).mono ?_; rintro e w' ⟨rfl, rfl⟩) | (go_at_call 28; refine (list_any _ _ _ _ (by assumption)).mono ?_; rintro e w' ⟨rfl, rfl⟩))
      go_ret
      exact ⟨rfl, hb⟩
theorem numbers (f : Int) (wf : (Lit.int .i64 f).wf = true) (t : Int) (wt : (Lit.int .i64 t).wf = true) (g : Int) (wg : (Lit.int .i64 g).wf = true) (r : Int) (wr : (Lit.int .i64 r).wf = true) (s : Int) (ws : (Lit.int .i64 s).wf = true) (w : World) :
    Calls Try.prog 7 #[.int .i64 f, .int .i64 t, .int .i64 g, .int .i64 r, .int .i64 s] w fun e w' => e = .returned (.bool true) ∧ Below w.heap.size w w' := by
  obtain ⟨g1, g2⟩ := bounds_i64 wg
  obtain ⟨f1, f2⟩ := bounds_i64 wf
  clear wf wt wg wr ws
  go_enter Try.func7, Try.ntmps7
  go_wp2_with (first | (go_at_call 15; refine (known_any _).mono ?_; rintro e w' ⟨rfl, hb⟩) | (go_at_call 27; refine (shard_any _ _ _ (by assumption)).mono ?_; rintro e w' ⟨rfl, rfl⟩) | (go_at_call 28; refine (list_any _ _ _ _ (by assumption)).mono ?_; rintro e w' ⟨rfl, rfl⟩) | (go_at_call 34; refine (rshard_any _ _ _ (by assumption)).mono ?_; rintro e w' ⟨rfl, rfl⟩) | (go_at_call 35; refine (rlist_any _ _ _ _ (by assumption)).mono ?_; rintro e w' ⟨rfl, rfl⟩) | (go_at_call 16; refine (hash_any _ _).mono ?_; rintro e w' ⟨rfl, rfl⟩) | (go_at_call 33; refine (refmix_any _ _).mono ?_; rintro e w' ⟨rfl, rfl⟩) | (go_at_call 29; refine (block_any _ _ _).mono ?_; rintro e w' ⟨rfl, rfl⟩) | (go_at_call 30; refine (rblock_any _ _ _).mono ?_; rintro e w' ⟨rfl, rfl⟩) | (go_at_call 31; refine (owner_any _ _ _ (by assumption)).mono ?_; rintro e w' ⟨rfl, rfl⟩) | (go_at_call 32; refine (rowner_any _ _ _ (by assumption)).mono ?_; rintro e w' ⟨rfl, rfl⟩))
  go_ret
  exact ⟨rfl, hb⟩
end Go.Proofs.Ytdodioacjppohaa
