/- Contracts of ids.Shard, ListShard, Block, Owner and of their references. -/
import Derived.Test.YtdodioacjppohaaIdsC
import Derived.WalkKit
import Derived.Handy
import Derived.OpenShut
import Derived.Lib.Hide
namespace Go.Proofs.Ytdodioacjppohaa
open Go.RowKit
theorem hashI_rng (n : Int) : 0 ≤ hashI n ∧ hashI n < 18446744073709551616 := by have := hashN_lt n; unfold hashI; omega
def shardF (f g : Int) : Int := if g < 1 then 0 else hashI f % g
def listF (f t g : Int) : Int := if g < 1 then 0 else ((f + t) % 18446744073709551616) % g
theorem list_form (f t g : Int) (h1 : 1 ≤ g) (h2 : g ≤ 9223372036854775807) :
    wrap64 ((IntKind.u64.wrap (IntKind.u64.wrap f + IntKind.u64.wrap t)).tmod g) = (f + t) % 18446744073709551616 % g := by
  have e : IntKind.u64.wrap (IntKind.u64.wrap f + IntKind.u64.wrap t) = (f + t) % 18446744073709551616 := by
    simp only [IntKind.wrap_u64]; omega
  rw [e, Int.tmod_eq_emod_of_nonneg (by omega)]
  have m0 : 0 ≤ (f + t) % 18446744073709551616 % g := Int.emod_nonneg _ (by omega)
  have m1 : (f + t) % 18446744073709551616 % g < g := Int.emod_lt_of_pos _ (by omega)
  unfold wrap64
  omega
/-- may a size be -/
def rightB (s : Int) : Bool := decide (1 ≤ s ∧ s ≤ 1048576)

theorem shard_any (f g : Int) (w : World) (h2 : g ≤ 9223372036854775807) :
    Calls Try.prog 27 #[.int .i64 f, .int .i64 g] w fun e w' => e = .returned (.int .i64 (shardF f g)) ∧ w = w' := by
  have hr := hashI_rng f
  unfold shardF
  by_cases hg : g < 1
  · rw [if_pos hg]
    go_enter Try.func27, Try.ntmps27
    go_wp2
    go_ret
    exact ⟨rfl, rfl⟩
  · rw [if_neg hg]
    have m0 : 0 ≤ hashI f % g := Int.emod_nonneg _ (by omega)
    have m1 : hashI f % g < g := Int.emod_lt_of_pos _ (by omega)
    go_enter Try.func27, Try.ntmps27
    go_wp2_with (go_at_call 16; refine (hash_any _ _).mono ?_; rintro e w' ⟨rfl, rfl⟩)
    go_ret
    exact ⟨rfl, rfl⟩
theorem rshard_any (f g : Int) (w : World) (h2 : g ≤ 9223372036854775807) :
    Calls Try.prog 34 #[.int .i64 f, .int .i64 g] w fun e w' => e = .returned (.int .i64 (shardF f g)) ∧ w = w' := by
  have hr := hashI_rng f
  unfold shardF
  by_cases hg : g < 1
  · rw [if_pos hg]
    go_enter Try.func34, Try.ntmps34
    go_wp2
    go_ret
    exact ⟨rfl, rfl⟩
  · rw [if_neg hg]
    have m0 : 0 ≤ hashI f % g := Int.emod_nonneg _ (by omega)
    have m1 : hashI f % g < g := Int.emod_lt_of_pos _ (by omega)
    go_enter Try.func34, Try.ntmps34
    go_wp2_with (go_at_call 33; refine (refmix_any _ _).mono ?_; rintro e w' ⟨rfl, rfl⟩)
    go_ret
    exact ⟨rfl, rfl⟩
theorem list_any (f t g : Int) (w : World) (h2 : g ≤ 9223372036854775807) :
    Calls Try.prog 28 #[.int .i64 f, .int .i64 t, .int .i64 g] w fun e w' => e = .returned (.int .i64 (listF f t g)) ∧ w = w' := by
  unfold listF
  by_cases hg : g < 1
  · rw [if_pos hg]
    go_enter Try.func28, Try.ntmps28
    go_wp2
    go_ret
    exact ⟨rfl, rfl⟩
  · rw [if_neg hg]
    go_enter Try.func28, Try.ntmps28
    go_wp2
    go_ret
    exact ⟨ret_u64 (list_form f t g (by omega) h2), rfl⟩
theorem rlist_any (f t g : Int) (w : World) (h2 : g ≤ 9223372036854775807) :
    Calls Try.prog 35 #[.int .i64 f, .int .i64 t, .int .i64 g] w fun e w' => e = .returned (.int .i64 (listF f t g)) ∧ w = w' := by
  unfold listF
  by_cases hg : g < 1
  · rw [if_pos hg]
    go_enter Try.func35, Try.ntmps35
    go_wp2
    go_ret
    exact ⟨rfl, rfl⟩
  · rw [if_neg hg]
    go_enter Try.func35, Try.ntmps35
    go_wp2
    go_ret
    exact ⟨ret_u64 (list_form f t g (by omega) h2), rfl⟩
theorem right_any (s : Int) (w : World) :
    Calls Try.prog 60 #[.int .i64 s] w fun e w' => e = .returned (.bool (rightB s)) ∧ w = w' := by
  by_cases h1 : 1 ≤ s
  · by_cases h2 : s ≤ 1048576
    · have hb : rightB s = true := by unfold rightB; simp [h1, h2]
      have HB := Lib.hid hb; clear hb
      go_enter Try.func60, Try.ntmps60
      go_wp2
      go_ret
      exact ⟨by rw [HB.out]; simp, rfl⟩
    · have hb : rightB s = false := by unfold rightB; simp; omega
      have HB := Lib.hid hb; clear hb
      go_enter Try.func60, Try.ntmps60
      go_wp2
      go_ret
      exact ⟨by rw [HB.out]; simp, rfl⟩
  · have hb : rightB s = false := by unfold rightB; simp; omega
    have HB := Lib.hid hb; clear hb
    go_enter Try.func60, Try.ntmps60
    go_wp2
    go_ret
    exact ⟨by rw [HB.out]; rfl, rfl⟩
theorem rright_any (s : Int) (w : World) :
    Calls Try.prog 61 #[.int .i64 s] w fun e w' => e = .returned (.bool (rightB s)) ∧ w = w' := by
  by_cases h1 : 1 ≤ s
  · by_cases h2 : s ≤ 1048576
    · have hb : rightB s = true := by unfold rightB; simp [h1, h2]
      have HB := Lib.hid hb; clear hb
      go_enter Try.func61, Try.ntmps61
      go_wp2
      go_ret
      exact ⟨by rw [HB.out]; simp, rfl⟩
    · have hb : rightB s = false := by unfold rightB; simp; omega
      have HB := Lib.hid hb; clear hb
      go_enter Try.func61, Try.ntmps61
      go_wp2
      go_ret
      exact ⟨by rw [HB.out]; simp, rfl⟩
  · have hb : rightB s = false := by unfold rightB; simp; omega
    have HB := Lib.hid hb; clear hb
    go_enter Try.func61, Try.ntmps61
    go_wp2
    go_ret
    exact ⟨by rw [HB.out]; rfl, rfl⟩
/-- what a block is: its first number, the one past it, the error -/
def blockF (r s : Int) : Int × Int × Int := if r < 0 ∨ rightB s = false ∨ r > 1099511627776 then (0, 0, 1) else (r * s, (r + 1) * s, 0)
def ownerF (i s : Int) : Int × Int := if i < 0 ∨ rightB s = false ∨ i / s > 1099511627776 then (0, 1) else (i / s, 0)
theorem rightB_iff {s : Int} (h : rightB s = true) : 1 ≤ s ∧ s ≤ 1048576 := by unfold rightB at h; simpa using h
theorem mul_rng (r s : Int) (h1 : 0 ≤ r) (h2 : r ≤ 1099511627776) (h3 : 1 ≤ s) (h4 : s ≤ 1048576) : 0 ≤ r * s ∧ r * s ≤ 1152921504606846976 :=
  ⟨Int.mul_nonneg h1 (by omega), by have := Int.mul_le_mul h2 h4 (by omega) (by omega); simpa using this⟩
theorem div_rng (i s : Int) (h1 : 0 ≤ i) (h3 : 1 ≤ s) : 0 ≤ i / s ∧ i / s ≤ i :=
  ⟨Int.ediv_nonneg h1 (by omega), Int.ediv_le_self s h1⟩
theorem ret3_of {a b c a' b' c' : Int} (h : (a, b, c) = (a', b', c')) : Ending.returned (.tuple #[.int .i64 a, .int .i64 b, .int .i64 c]) = .returned (.tuple #[.int .i64 a', .int .i64 b', .int .i64 c']) := by
  simp only [Prod.mk.injEq] at h; obtain ⟨rfl, rfl, rfl⟩ := h; rfl
theorem ret2_of {a b a' b' : Int} (h : (a, b) = (a', b')) : Ending.returned (.tuple #[.int .i64 a, .int .i64 b]) = .returned (.tuple #[.int .i64 a', .int .i64 b']) := by
  simp only [Prod.mk.injEq] at h; obtain ⟨rfl, rfl⟩ := h; rfl
theorem block_any (r s : Int) (w : World) :
    Calls Try.prog 29 #[.int .i64 r, .int .i64 s] w fun e w' => e = .returned (.tuple #[.int .i64 (blockF r s).1, .int .i64 (blockF r s).2.1, .int .i64 (blockF r s).2.2]) ∧ w = w' := by
  by_cases h0 : r < 0
  · have hb : (0, 0, 1) = blockF r s := by unfold blockF; rw [if_pos (.inl h0)]
    have HB := Lib.hid hb; clear hb
    go_enter Try.func29, Try.ntmps29
    go_wp2
    go_ret3
    exact ⟨ret3_of HB.out, rfl⟩
  · by_cases hs : rightB s = true
    · obtain ⟨s1, s2⟩ := rightB_iff hs
      by_cases h2 : r > 1099511627776
      · have hb : (0, 0, 1) = blockF r s := by unfold blockF; rw [if_pos (.inr (.inr h2))]
        have HB := Lib.hid hb; clear hb
        go_enter Try.func29, Try.ntmps29
        go_wp2_with (go_at_call 60; refine (right_any _ _).mono ?_; rintro e w' ⟨rfl, rfl⟩)
        go_ret3
        exact ⟨ret3_of HB.out, rfl⟩
      · have hb : (r * s, (r + 1) * s, 0) = blockF r s := by unfold blockF; rw [if_neg (by simp [hs]; omega)]
        have HB := Lib.hid hb; clear hb
        obtain ⟨m1, m2⟩ := mul_rng r s (by omega) (by omega) s1 s2
        have m3 : (r + 1) * s = r * s + s := by rw [Int.add_mul, Int.one_mul]
        have M3 := Lib.hid m3; clear m3
        have m4 : 0 ≤ (r + 1) * s := by rw [M3.out]; omega
        have m5 : (r + 1) * s ≤ 9223372036854775807 := by rw [M3.out]; omega
        go_enter Try.func29, Try.ntmps29
        go_wp2_with (go_at_call 60; refine (right_any _ _).mono ?_; rintro e w' ⟨rfl, rfl⟩)
        go_ret3
        exact ⟨ret3_of (by first | exact HB.out | (rw [← M3.out]; exact HB.out)), rfl⟩
    · have hs' : rightB s = false := by simpa using hs
      have hb : (0, 0, 1) = blockF r s := by unfold blockF; rw [if_pos (.inr (.inl hs'))]
      have HB := Lib.hid hb; clear hb hs
      go_enter Try.func29, Try.ntmps29
      go_wp2_with (go_at_call 60; refine (right_any _ _).mono ?_; rintro e w' ⟨rfl, rfl⟩)
      go_ret3
      exact ⟨ret3_of HB.out, rfl⟩
theorem rblock_any (r s : Int) (w : World) :
    Calls Try.prog 30 #[.int .i64 r, .int .i64 s] w fun e w' => e = .returned (.tuple #[.int .i64 (blockF r s).1, .int .i64 (blockF r s).2.1, .int .i64 (blockF r s).2.2]) ∧ w = w' := by
  by_cases h0 : r < 0
  · have hb : (0, 0, 1) = blockF r s := by unfold blockF; rw [if_pos (.inl h0)]
    have HB := Lib.hid hb; clear hb
    go_enter Try.func30, Try.ntmps30
    go_wp2
    go_ret3
    exact ⟨ret3_of HB.out, rfl⟩
  · by_cases hs : rightB s = true
    · obtain ⟨s1, s2⟩ := rightB_iff hs
      by_cases h2 : r > 1099511627776
      · have hb : (0, 0, 1) = blockF r s := by unfold blockF; rw [if_pos (.inr (.inr h2))]
        have HB := Lib.hid hb; clear hb
        go_enter Try.func30, Try.ntmps30
        go_wp2_with (go_at_call 61; refine (rright_any _ _).mono ?_; rintro e w' ⟨rfl, rfl⟩)
        go_ret3
        exact ⟨ret3_of HB.out, rfl⟩
      · have hb : (r * s, (r + 1) * s, 0) = blockF r s := by unfold blockF; rw [if_neg (by simp [hs]; omega)]
        have HB := Lib.hid hb; clear hb
        obtain ⟨m1, m2⟩ := mul_rng r s (by omega) (by omega) s1 s2
        have m3 : (r + 1) * s = r * s + s := by rw [Int.add_mul, Int.one_mul]
        have M3 := Lib.hid m3; clear m3
        have m4 : 0 ≤ (r + 1) * s := by rw [M3.out]; omega
        have m5 : (r + 1) * s ≤ 9223372036854775807 := by rw [M3.out]; omega
        go_enter Try.func30, Try.ntmps30
        go_wp2_with (go_at_call 61; refine (rright_any _ _).mono ?_; rintro e w' ⟨rfl, rfl⟩)
        go_ret3
        exact ⟨ret3_of (by first | exact HB.out | (rw [← M3.out]; exact HB.out)), rfl⟩
    · have hs' : rightB s = false := by simpa using hs
      have hb : (0, 0, 1) = blockF r s := by unfold blockF; rw [if_pos (.inr (.inl hs'))]
      have HB := Lib.hid hb; clear hb hs
      go_enter Try.func30, Try.ntmps30
      go_wp2_with (go_at_call 61; refine (rright_any _ _).mono ?_; rintro e w' ⟨rfl, rfl⟩)
      go_ret3
      exact ⟨ret3_of HB.out, rfl⟩
theorem owner_any (i s : Int) (w : World) (hi : i ≤ 9223372036854775807) :
    Calls Try.prog 31 #[.int .i64 i, .int .i64 s] w fun e w' => e = .returned (.tuple #[.int .i64 (ownerF i s).1, .int .i64 (ownerF i s).2]) ∧ w = w' := by
  by_cases h0 : i < 0
  · have hb : (0, 1) = ownerF i s := by unfold ownerF; rw [if_pos (.inl h0)]
    have HB := Lib.hid hb; clear hb
    go_enter Try.func31, Try.ntmps31
    go_wp2
    go_ret2
    exact ⟨ret2_of HB.out, rfl⟩
  · by_cases hs : rightB s = true
    · obtain ⟨s1, s2⟩ := rightB_iff hs
      obtain ⟨m1, m2⟩ := div_rng i s (by omega) s1
      have hne : (s == 0) = false := by rw [beq_eq_false_iff_ne]; omega
      by_cases h2 : i / s > 1099511627776
      · have hb : (0, 1) = ownerF i s := by unfold ownerF; rw [if_pos (.inr (.inr h2))]
        have HB := Lib.hid hb; clear hb
        go_enter Try.func31, Try.ntmps31
        go_wp2_with (go_at_call 60; refine (right_any _ _).mono ?_; rintro e w' ⟨rfl, rfl⟩)
        go_ret2
        exact ⟨ret2_of HB.out, rfl⟩
      · have hb : (i / s, 0) = ownerF i s := by unfold ownerF; rw [if_neg (by simp [hs]; omega)]
        have HB := Lib.hid hb; clear hb
        go_enter Try.func31, Try.ntmps31
        go_wp2_with (go_at_call 60; refine (right_any _ _).mono ?_; rintro e w' ⟨rfl, rfl⟩)
        go_ret2
        exact ⟨ret2_of HB.out, rfl⟩
    · have hs' : rightB s = false := by simpa using hs
      have hb : (0, 1) = ownerF i s := by unfold ownerF; rw [if_pos (.inr (.inl hs'))]
      have HB := Lib.hid hb; clear hb hs
      go_enter Try.func31, Try.ntmps31
      go_wp2_with (go_at_call 60; refine (right_any _ _).mono ?_; rintro e w' ⟨rfl, rfl⟩)
      go_ret2
      exact ⟨ret2_of HB.out, rfl⟩
theorem rowner_any (i s : Int) (w : World) (hi : i ≤ 9223372036854775807) :
    Calls Try.prog 32 #[.int .i64 i, .int .i64 s] w fun e w' => e = .returned (.tuple #[.int .i64 (ownerF i s).1, .int .i64 (ownerF i s).2]) ∧ w = w' := by
  by_cases h0 : i < 0
  · have hb : (0, 1) = ownerF i s := by unfold ownerF; rw [if_pos (.inl h0)]
    have HB := Lib.hid hb; clear hb
    go_enter Try.func32, Try.ntmps32
    go_wp2
    go_ret2
    exact ⟨ret2_of HB.out, rfl⟩
  · by_cases hs : rightB s = true
    · obtain ⟨s1, s2⟩ := rightB_iff hs
      obtain ⟨m1, m2⟩ := div_rng i s (by omega) s1
      have hne : (s == 0) = false := by rw [beq_eq_false_iff_ne]; omega
      by_cases h2 : i / s > 1099511627776
      · have hb : (0, 1) = ownerF i s := by unfold ownerF; rw [if_pos (.inr (.inr h2))]
        have HB := Lib.hid hb; clear hb
        go_enter Try.func32, Try.ntmps32
        go_wp2_with (go_at_call 61; refine (rright_any _ _).mono ?_; rintro e w' ⟨rfl, rfl⟩)
        go_ret2
        exact ⟨ret2_of HB.out, rfl⟩
      · have hb : (i / s, 0) = ownerF i s := by unfold ownerF; rw [if_neg (by simp [hs]; omega)]
        have HB := Lib.hid hb; clear hb
        go_enter Try.func32, Try.ntmps32
        go_wp2_with (go_at_call 61; refine (rright_any _ _).mono ?_; rintro e w' ⟨rfl, rfl⟩)
        go_ret2
        exact ⟨ret2_of HB.out, rfl⟩
    · have hs' : rightB s = false := by simpa using hs
      have hb : (0, 1) = ownerF i s := by unfold ownerF; rw [if_pos (.inr (.inl hs'))]
      have HB := Lib.hid hb; clear hb hs
      go_enter Try.func32, Try.ntmps32
      go_wp2_with (go_at_call 61; refine (rright_any _ _).mono ?_; rintro e w' ⟨rfl, rfl⟩)
      go_ret2
      exact ⟨ret2_of HB.out, rfl⟩
end Go.Proofs.Ytdodioacjppohaa
