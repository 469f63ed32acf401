/- Contracts of ids.Of and of its reference: the token that a number is. -/
import Derived.Test.YtdodioacjppohaaIdsE
import Derived.Deep.QuietTactic
import Derived.BigQuiet
import Derived.WalkSmall
namespace Go.Proofs.Ytdodioacjppohaa
open Go.RowKit
theorem and_mask (v : Int) (i : Nat) (m : Int) (hi : i < 64) (hm : m = ((2 ^ i : Nat) : Int)) (h0 : 0 ≤ v) (h1 : v < 18446744073709551616) : bits .and .u64 v (m - 1) = v % m := by
  have hp : 2 ^ i < 2 ^ 64 := Nat.pow_lt_pow_right (by decide) hi
  have hq : 0 < 2 ^ i := Nat.pow_pos (by decide)
  rw [u64_and v (m - 1) h0 h1 (by omega) (by omega)]
  have e : (m - 1).toNat = 2 ^ i - 1 := by omega
  rw [e, Nat.and_two_pow_sub_one_eq_mod]
  subst hm
  obtain ⟨n, rfl⟩ := Int.eq_ofNat_of_zero_le h0
  rw [Int.toNat_natCast]; rfl
theorem take_any (b : Int) (a : Nat) (v : Int) (w : World) (hb : b = 20 ∨ b = 16 ∨ b = 12) (h0 : 0 ≤ v) (h1 : v < 18446744073709551616)
    (hc : w.cell? ⟨a, 0, none⟩ = some (.int .u64 v)) (hf : w.frozen? ⟨a, 0, none⟩ = false) :
    Calls Try.prog 65 #[.int .i64 b, .pointer (some ⟨a, 0, none⟩)] w fun e w' => e = .returned (.int .i64 (v % topOf b)) ∧ ∃ n, w' = (w.setCell ⟨a, 0, none⟩ (.int .u64 (v / topOf b))).drewN n := by
  have e20 := and_mask v 20 1048576 (by decide) (by decide) h0 h1
  have e16 := and_mask v 16 65536 (by decide) (by decide) h0 h1
  have e12 := and_mask v 12 4096 (by decide) (by decide) h0 h1
  simp at e20 e16 e12
  rcases hb with rfl | rfl | rfl
  · rw [top20]
    go_enter Try.func65, Try.ntmps65
    go_wp2
    go_quiet (fail)
    go_wp2
    go_ret
    exact ⟨rfl, _, rfl⟩
  · rw [top16]
    go_enter Try.func65, Try.ntmps65
    go_wp2
    go_quiet (fail)
    go_wp2
    go_ret
    exact ⟨rfl, _, rfl⟩
  · rw [top12]
    go_enter Try.func65, Try.ntmps65
    go_wp2
    go_quiet (fail)
    go_wp2
    go_ret
    exact ⟨rfl, _, rfl⟩
theorem take_as (b : Int) (a : Nat) (v q r : Int) (w : World) (hb : b = 20 ∨ b = 16 ∨ b = 12) (h0 : 0 ≤ v ∧ v < 18446744073709551616) (hq : Hid (v / topOf b = q)) (hr : Hid (v % topOf b = r))
    (hc : w.cell? ⟨a, 0, none⟩ = some (.int .u64 v)) (hf : w.frozen? ⟨a, 0, none⟩ = false) :
    Calls Try.prog 65 #[.int .i64 b, .pointer (some ⟨a, 0, none⟩)] w fun e w' => e = .returned (.int .i64 r) ∧ ∃ n, w' = (w.setCell ⟨a, 0, none⟩ (.int .u64 q)).drewN n := by
  have := take_any b a v w hb h0.1 h0.2 hc hf
  rw [hq.out, hr.out] at this; exact this
def ofTurn (v : Int) : Int := v % 4096
def ofEvent (v : Int) : Int := v / 4096 % 65536
def ofRun (v : Int) : Int := v / 4096 / 65536 % 65536
def ofFlow (v : Int) : Int := v / 4096 / 65536 / 65536 % 1048576
def ofB (v : Int) : Bool := !(ofFlow v == 0 && ofRun v == 0)
def ofVal (v : Int) : Value := if ofB v = true then .agg #[.int .i64 (ofFlow v), .int .i64 (ofRun v), .int .i64 (ofEvent v), .int .i64 (ofTurn v)] else .agg #[.int .i64 0, .int .i64 0, .int .i64 0, .int .i64 0]
def ofErr (v : Int) : Int := if ofB v = true then 0 else 8
set_option maxHeartbeats 2000000 in
theorem of_core (v v1 v2 v3 v4 t e r f : Int) (w : World) (h0 : 0 ≤ v ∧ v < 18446744073709551616) (g1 : 0 ≤ v1 ∧ v1 < 18446744073709551616) (g2 : 0 ≤ v2 ∧ v2 < 18446744073709551616) (g3 : 0 ≤ v3 ∧ v3 < 18446744073709551616)
    (q1 : Hid (v / topOf 12 = v1)) (r1 : Hid (v % topOf 12 = t)) (q2 : Hid (v1 / topOf 16 = v2)) (r2 : Hid (v1 % topOf 16 = e)) (q3 : Hid (v2 / topOf 16 = v3)) (r3 : Hid (v2 % topOf 16 = r)) (q4 : Hid (v3 / topOf 20 = v4)) (r4 : Hid (v3 % topOf 20 = f))
    (res : Value) (c : Int) (hz : ((f == 0) = true ∧ (r == 0) = true ∧ res = .agg #[.int .i64 0, .int .i64 0, .int .i64 0, .int .i64 0] ∧ c = 8) ∨
      (((f == 0) = false ∨ ((f == 0) = true ∧ (r == 0) = false)) ∧ res = .agg #[.int .i64 f, .int .i64 r, .int .i64 e, .int .i64 t] ∧ c = 0)) :
    Calls Try.prog 42 #[.int .u64 v] w fun e w' => e = .returned (.tuple #[res, .int .i64 c]) ∧ Below w.heap.size w w' := by
  rcases hz with ⟨z1, z2, rfl, rfl⟩ | ⟨z1 | ⟨z1, z2⟩, rfl, rfl⟩
  all_goals
    have D1 : ∀ (W : World) (n : Nat) (a : Addr) (v : Value), (W.drewN n).setCell a v = (W.setCell a v).drewN n := fun _ _ _ _ => rfl
    have D2 : ∀ (W : World) (n : Nat) (o : Obj), (W.drewN n).alloc o = (W.alloc o).drewN n := fun _ _ _ => rfl
    go_enter Try.func42, Try.ntmps42
    go_wp2_with fail
    refine (take_as 12 _ v v1 t _ (by decide) h0 q1 r1 (by simp [go_sem]) (by simp [go_sem])).mono ?_
    rintro e w' ⟨rfl, n, rfl⟩
    go_wp2_with fail
    refine (take_as 16 _ v1 v2 _ _ (by decide) g1 q2 r2 (by simp [go_sem]) (by simp [go_sem])).mono ?_
    rintro e w' ⟨rfl, n2, rfl⟩
    go_wp2_with fail
    refine (take_as 16 _ v2 v3 _ _ (by decide) g2 q3 r3 (by simp [go_sem]) (by simp [go_sem])).mono ?_
    rintro e w' ⟨rfl, n3, rfl⟩
    go_wp2_with fail
    refine (take_as 20 _ v3 v4 _ _ (by decide) g3 q4 r4 (by simp [go_sem]) (by simp [go_sem])).mono ?_
    rintro e w' ⟨rfl, n4, rfl⟩
    go_wp2
  all_goals go_returns
  all_goals exact ⟨rfl, below_drewN (by go_grown) _⟩
end Go.Proofs.Ytdodioacjppohaa
