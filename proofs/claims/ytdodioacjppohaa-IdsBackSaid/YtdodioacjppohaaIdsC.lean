/- Contracts of the functions of ids and of its reference: what each returns. -/
import Derived.Test.YtdodioacjppohaaChecked
import Derived.Test.YtdodioacjppohaaIdsM
import Derived.WalkKit
import Derived.Handy
import Derived.Lib.Hide
namespace Go.Proofs.Ytdodioacjppohaa
open Go.RowKit
theorem ret_u64 {k : IntKind} {a b : Int} (h : a = b) : Ending.returned (.int k a) = .returned (.int k b) := by rw [h]
theorem hash_any (n : Int) (w : World) :
    Calls Try.prog 16 #[.int .i64 n] w fun e w' => e = .returned (.int .u64 (hashI n)) ∧ w = w' := by
  go_enter Try.func16, Try.ntmps16
  go_wp2
  go_ret
  exact ⟨ret_u64 (hash_form n _ rfl _ rfl _ rfl), rfl⟩
theorem refmix_any (n : Int) (w : World) :
    Calls Try.prog 33 #[.int .i64 n] w fun e w' => e = .returned (.int .u64 (hashI n)) ∧ w = w' := by
  go_enter Try.func33, Try.ntmps33
  go_wp2
  go_ret
  exact ⟨ret_u64 (hash_form n _ rfl _ rfl _ rfl), rfl⟩
theorem known_any (w : World)  :
    Calls Try.prog 15 #[] w fun e w' => e = .returned (.bool true) ∧ Below w.heap.size w w' := by
  have h0 : (hashI 0 == 0) = true := by rw [hash0]; rfl
  have h1 : (hashI 1 == hashI 1) = true := by simp
  go_enter Try.func15, Try.ntmps15
  go_wp2_with (first | (go_at_call 16; refine (hash_any _ _).mono ?_; rintro e w' ⟨rfl, rfl⟩) | (go_at_call 33; refine (refmix_any _ _).mono ?_; rintro e w' ⟨rfl, rfl⟩) | go_in)
  go_ret
  exact ⟨rfl, by go_grown⟩
end Go.Proofs.Ytdodioacjppohaa
