/- Members, and the sequence over those that have a role. -/
import Derived.RangeFuncNested
import Derived.RangeFuncBound
import Derived.RangeFuncCalls
import Derived.RangeFuncLeaves
import Derived.RangeFuncBox
import Derived.Shelf.Abstract
import Derived.Shelf.RegionOpen
import Derived.WalkKit
import Derived.OwnWalkIn
import Derived.TacticsInMore
import Derived.LoopNIn
import Derived.LoopIn
import Derived.Handy
import Derived.Lib.Hide
import Derived.Test.YtfeaoapjgcibmaaChecked
set_option linter.unusedVariables false
namespace Go.Proofs.Ytfeaoapjgcibmaa
open Go.RowKit Go.Shelf
attribute [local go_sem] Oper.semAt_some
theorem index25 (m : Nat → Int) (k : Nat) (hk : k < 9) (w : World) : (Instr.index 25 (.agg #[.int .u8 (m 0), .int .u8 (m 1), .int .u8 (m 2), .int .u8 (m 3), .int .u8 (m 4), .int .u8 (m 5), .int .u8 (m 6), .int .u8 (m 7), .int .u8 (m 8)]) (.int .i64 (k : Int))).run Try.prog w = .ok (.int .u8 (m k)) w := by
  have : k = 0 ∨ k = 1 ∨ k = 2 ∨ k = 3 ∨ k = 4 ∨ k = 5 ∨ k = 6 ∨ k = 7 ∨ k = 8 := by omega
  rcases this with rfl | rfl | rfl | rfl | rfl | rfl | rfl | rfl | rfl <;> (show _ = _; kernel_rfl)
/-- the nodes below k that have a role, rising -/
def sel (m : Nat → Int) (r : Int) : Nat → List (Fin 9)
  | 0 => []
  | k + 1 => sel m r k ++ (if h : k < 9 ∧ m k = r then [⟨k, h.1⟩] else [])
theorem sel_yes (m : Nat → Int) (r : Int) (k : Nat) (hk : k < 9) (h : m k = r) : sel m r (k + 1) = sel m r k ++ [⟨k, hk⟩] := by rw [sel, dif_pos ⟨hk, h⟩]
theorem sel_no (m : Nat → Int) (r : Int) (k : Nat) (h : ¬ m k = r) : sel m r (k + 1) = sel m r k := by rw [sel, dif_neg (by omega), List.append_nil]
theorem sel_le (m : Nat → Int) (r : Int) (k : Nat) : (sel m r k).length ≤ k := by
  induction k with
  | zero => simp [sel]
  | succ k ih => rw [sel, List.length_append]; split <;> simp <;> omega
set_option maxHeartbeats 1000000 in
theorem all_in (F : Fence) (n : Nat) (h : F.fn 26) (hro : F.round = none) (m : Nat → Int) (r : Int) (w : World) :
    CallsIn F n Try.prog 26 #[.agg #[.int .u8 (m 0), .int .u8 (m 1), .int .u8 (m 2), .int .u8 (m 3), .int .u8 (m 4), .int .u8 (m 5), .int .u8 (m 6), .int .u8 (m 7), .int .u8 (m 8)], .int .i64 r] w fun e w' => e = .returned (.func (.func 27) #[] #[.pointer (some ⟨w.heap.size, 0, none⟩), .pointer (some ⟨w.heap.size + 1, 0, none⟩)]) ∧ w' = (w.alloc (.cells #[.int .u8 (m 0), .int .u8 (m 1), .int .u8 (m 2), .int .u8 (m 3), .int .u8 (m 4), .int .u8 (m 5), .int .u8 (m 6), .int .u8 (m 7), .int .u8 (m 8)] 25)).alloc (.cells #[.int .i64 r] 3) := by
  refine callsIn_of_wp Try.func26 rfl h ?_ hro
  simp only [Try.ntmps26, List.size_toArray, List.length_cons, List.length_nil, Nat.reduceAdd, Nat.reduceSub, Array.replicate_succ, Array.replicate_zero, List.push_toArray, List.append_toArray, List.nil_append, List.cons_append]
  gi_wp2
  go_ret
  exact ⟨rfl, rfl⟩
/-- the box of the role reads as it did -/
def KeepR (B : Nat) (W W' : World) : Prop := W'.cell? ⟨B, 0, none⟩ = W.cell? ⟨B, 0, none⟩
theorem keepR_t {B : Nat} {X Y Z : World} (h : KeepR B X Y) (k : KeepR B Y Z) : KeepR B X Z := Eq.trans k h
theorem keepR_b {B : Nat} {w : World} (hn : B < w.heap.size) (W : World) (l : Nat) (o o' : Obj) (hl : w.heap.size ≤ l) (h : W.heap[l]? = some o) (h1 : o.isCells = false) (h2 : o.isWalk = false) : KeepR B W (W.putObj l o') :=
  (belowK_b (n₀ := w.heap.size) (Nat.le_refl _) W l o o' hl h h1 h2).cell (p := ⟨B, 0, none⟩) hn
set_option maxRecDepth 100000 in
set_option maxHeartbeats 2000000 in
theorem all1_in (F : Fence) (n : Nat) (h27 : F.fn 27) (hro : F.round = none) (hn : 1 ≤ n) (l Bm Br : Nat) (m : Nat → Int) (hm : ∀ k, k < 9 → 0 ≤ m k ∧ m k ≤ 255) (r : Int) (J Jx : List (Fin 9) → World → Prop)
    (hY : ∀ pre x W, J pre W → pre.length < 9 → YieldAt F (n - 1) Try.prog l #[.int .i64 (x.val : Int)] W fun e W' =>
      (e = .returned (.bool true) ∧ J (pre ++ [x]) W' ∧ KeepR Br W W') ∨ (e = .returned (.bool false) ∧ Jx (pre ++ [x]) W'))
    (W : World) (hc : ∀ o, W.cell? ⟨Bm, o, none⟩ = (#[.int .u8 (m 0), .int .u8 (m 1), .int .u8 (m 2), .int .u8 (m 3), .int .u8 (m 4), .int .u8 (m 5), .int .u8 (m 6), .int .u8 (m 7), .int .u8 (m 8)] : Array Value)[o]?) (hr : W.cell? ⟨Br, 0, none⟩ = some (.int .i64 r)) (h0 : J [] W) :
    CallsIn F n Try.prog 27 #[.func (.yield l) #[] #[], .pointer (some ⟨Bm, 0, none⟩), .pointer (some ⟨Br, 0, none⟩)] W fun e W' => (∃ v, e = .returned v) ∧
      ((∃ ys, ys = sel m r 9 ∧ J ys W') ∨ (∃ pre, (∃ k, k ≤ 9 ∧ pre = sel m r k) ∧ Jx pre W')) := by
  refine callsIn_of_wp Try.func27 rfl h27 ?_ hro
  simp only [Try.ntmps27, List.size_toArray, List.length_cons, List.length_nil, Nat.reduceAdd, Nat.reduceSub, Array.replicate_succ, Array.replicate_zero, List.push_toArray, List.append_toArray, List.nil_append, List.cons_append]
  gi_wp2
  gi_loopw [7] (fun i wr => ∃ k : Nat, k ≤ 9 ∧ i = .int .i64 k ∧ J (sel m r k) wr ∧ KeepR Br W wr)
    (fun i _ => 9 - (intOf i).toNat)
  case atStart => exact ⟨0, Nat.zero_le _, rfl, h0, rfl⟩
  case round =>
    obtain ⟨k, hk, rfl, hJs, hnx⟩ := hrel
    have hle := sel_le m r k
    have hr' : wr.cell? ⟨Br, 0, none⟩ = some (.int .i64 r) := Eq.trans hnx hr
    by_cases hlt : k < 9
    · have hix := index25 m k hlt
      obtain ⟨b1, b2⟩ := hm k hlt
      by_cases hmr : m k = r
      · have q1 : (m k == r) = true := beq_iff_eq.2 hmr
        obtain ⟨fn, tmps, assign, body, hy, hR⟩ := hY _ ⟨k, hlt⟩ wr hJs (by omega)
        dsimp only at hy
        have hs : Hid (sel m r (k + 1) = sel m r k ++ [⟨k, hlt⟩]) := Lib.hid (sel_yes m r k hlt hmr)
        clear hmr
        gi_wp2
        refine hR.mono ?_
        rintro e W3 (⟨rfl, hJ3, hk3⟩ | ⟨rfl, hJx3⟩)
        · gi_wp2
          go_roundw
          case rel => exact ⟨k + 1, by omega, by simp, by rw [hs.out]; exact hJ3, Eq.trans hk3 hnx⟩
          case measure => simp [intOf]; omega
        · gi_wp2
          refine bodyPost_ret (results_none rfl _ _ _) rfl ?_
          exact ⟨⟨_, rfl⟩, .inr ⟨_, ⟨k + 1, by omega, rfl⟩, by rw [hs.out]; exact hJx3⟩⟩
      · have q1 : (m k == r) = false := beq_eq_false_iff_ne.2 hmr
        have hs : Hid (sel m r (k + 1) = sel m r k) := Lib.hid (sel_no m r k hmr)
        clear hmr
        gi_wp2
        refine ⟨fun _ h => (by cases h), ?_⟩
        gi_wp2
        go_roundw
        case rel => exact ⟨k + 1, by omega, by simp, by rw [hs.out]; exact hJs, hnx⟩
        case measure => simp [intOf]; omega
    · obtain rfl : k = 9 := by omega
      gi_wp2
      go_end0
      exact ⟨⟨_, rfl⟩, .inl ⟨_, rfl, hJs⟩⟩
theorem all_stops (F : Fence) (n : Nat) (h27 : F.fn 27) (hro : F.round = none) (hn : 1 ≤ n) (Bm Br : Nat) (m : Nat → Int) (hm : ∀ k, k < 9 → 0 ≤ m k ∧ m k ≤ 255) (r : Int) (w : World) (hB : Bm < w.heap.size ∧ Br < w.heap.size)
    (hc : ∀ o, w.cell? ⟨Bm, o, none⟩ = (#[.int .u8 (m 0), .int .u8 (m 1), .int .u8 (m 2), .int .u8 (m 3), .int .u8 (m 4), .int .u8 (m 5), .int .u8 (m 6), .int .u8 (m 7), .int .u8 (m 8)] : Array Value)[o]?) (hr : w.cell? ⟨Br, 0, none⟩ = some (.int .i64 r)) :
    SeqStopsK F n Try.prog 27 #[.pointer (some ⟨Bm, 0, none⟩), .pointer (some ⟨Br, 0, none⟩)] (fun x : Fin 9 => #[Value.int .i64 (x.val : Int)]) (KeepR Br) (fun ys => ys = sel m r 9) (fun pre => ∃ k, k ≤ 9 ∧ pre = sel m r k) 9 w := fun l J Jx W hW _ _ hY h0 =>
  all1_in F n h27 hro hn l Bm Br m hm r J Jx hY W (fun o => (hW.cell (p := ⟨Bm, o, none⟩) hB.1).trans (hc o)) ((hW.cell (p := ⟨Br, 0, none⟩) hB.2).trans hr) h0
end Go.Proofs.Ytfeaoapjgcibmaa
