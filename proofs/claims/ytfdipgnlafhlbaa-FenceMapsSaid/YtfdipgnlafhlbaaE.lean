/- The shards' map in memory, and the contracts of its methods that only read. -/
import Derived.Test.YtfdipgnlafhlbaaC
import Derived.Deep.QuietTactic
import Derived.BigQuiet
set_option linter.unusedVariables false
namespace Go.Proofs.Ytfdipgnlafhlbaa
open Go.RowKit
/-- nothing below the old heap's end has turned but the blocks of M -/
structure Turn (M : Nat → Prop) (w w' : World) : Prop where
  os : w'.os = w.os
  tape : w'.tape = w.tape
  output : w'.output = w.output
  size : w.heap.size ≤ w'.heap.size
  block : ∀ k, k < w.heap.size → ¬ M k → w'.heap[k]? = w.heap[k]?
theorem Turn.below {M : Nat → Prop} {w w' : World} (h : Turn M w w') {B : Nat} (hB : B ≤ w.heap.size) (hM : ∀ k, M k → B ≤ k) : Below B w w' :=
  ⟨h.os, h.tape, h.output, h.size, fun k hk => h.block k (by omega) (fun hm => by have := hM k hm; omega)⟩
theorem Turn.cell {M : Nat → Prop} {w w' : World} (h : Turn M w w') {p : Addr} (hp : p.block < w.heap.size) (hm : ¬ M p.block) : w'.cell? p = w.cell? p := World.cell?_of_block (w := w) (h.block p.block hp hm)
theorem Turn.frozen {M : Nat → Prop} {w w' : World} (h : Turn M w w') {p : Addr} (hp : p.block < w.heap.size) (hm : ¬ M p.block) : w'.frozen? p = w.frozen? p := World.frozen?_of_block (w := w) (h.block p.block hp hm)
theorem Turn.of_below {M : Nat → Prop} {w w' : World} (h : Below w.heap.size w w') : Turn M w w' := ⟨h.os, h.tape, h.output, h.size, fun k hk _ => h.block k hk⟩
theorem Turn.trans {M : Nat → Prop} {a b c : World} (h : Turn M a b) (k : Turn M b c) : Turn M a c :=
  ⟨k.os.trans h.os, k.tape.trans h.tape, k.output.trans h.output, Nat.le_trans h.size k.size, fun i hi hm => (k.block i (by have := h.size; omega) hm).trans (h.block i hi hm)⟩
theorem Turn.setCell {M : Nat → Prop} {a w : World} (h : Turn M a w) {p : Addr} (hp : M p.block ∨ a.heap.size ≤ p.block) (u : Value) : Turn M a (w.setCell p u) :=
  ⟨h.os, h.tape, h.output, by have := h.size; simpa [World.setCell] using this, fun k hk hm => (Below.heap_setCell _ _ _ _ (by intro e; subst e; rcases hp with hp | hp; exact hm hp; omega)).trans (h.block k hk hm)⟩
theorem Turn.alloc {M : Nat → Prop} {a w : World} (h : Turn M a w) (o : Obj) : Turn M a (w.alloc o) :=
  h.trans (Turn.of_below ((Below.refl w.heap.size w).alloc (Nat.le_refl _) o))
theorem Turn.drew {M : Nat → Prop} {a w : World} (h : Turn M a w) : Turn M a w.drew := h.trans (Turn.of_below ((Below.refl w.heap.size w).drew))
theorem Turn.drewN {M : Nat → Prop} {a w : World} (h : Turn M a w) (n : Nat) : Turn M a (w.drewN n) := h.trans (Turn.of_below (below_drewN (Below.refl w.heap.size w) n))
/-- a map of g shards: its two rows -/
structure IsMap (w : World) (P L U g : Nat) (fr fo un : Nat → Int) : Prop where
  lp : P < w.heap.size
  ll : L < w.heap.size
  lu : U < w.heap.size
  pl : P ≠ L
  pu : P ≠ U
  lU : L ≠ U
  g8 : g ≤ 8
  c0 : w.cell? ⟨P, 0, none⟩ = some (.slice (some ⟨L, 0, none⟩) g g)
  c1 : w.cell? ⟨P, 1, none⟩ = some (.slice (some ⟨U, 0, none⟩) g g)
  cr : ∀ s, s < g → w.cell? ⟨L, s * 2, none⟩ = some (.int .i64 (fr s))
  co : ∀ s, s < g → w.cell? ⟨L, s * 2 + 1, none⟩ = some (.int .i64 (fo s))
  cu : ∀ s, s < g → w.cell? ⟨U, s, none⟩ = some (.int .i64 (un s))
  fl : ∀ o, w.frozen? ⟨L, o, none⟩ = false
  fu : ∀ o, w.frozen? ⟨U, o, none⟩ = false
theorem IsMap.turn {w w' : World} {P L U g : Nat} {fr fo un : Nat → Int} (h : IsMap w P L U g fr fo un) {M : Nat → Prop} (ht : Turn M w w') (h1 : ¬ M P) (h2 : ¬ M L) (h3 : ¬ M U) : IsMap w' P L U g fr fo un :=
  ⟨Nat.lt_of_lt_of_le h.lp ht.size, Nat.lt_of_lt_of_le h.ll ht.size, Nat.lt_of_lt_of_le h.lu ht.size, h.pl, h.pu, h.lU, h.g8,
   (ht.cell (p := ⟨P, 0, none⟩) h.lp h1).trans h.c0, (ht.cell (p := ⟨P, 1, none⟩) h.lp h1).trans h.c1,
   fun s hs => (ht.cell (p := ⟨L, s * 2, none⟩) h.ll h2).trans (h.cr s hs), fun s hs => (ht.cell (p := ⟨L, s * 2 + 1, none⟩) h.ll h2).trans (h.co s hs),
   fun s hs => (ht.cell (p := ⟨U, s, none⟩) h.lu h3).trans (h.cu s hs), fun o => (ht.frozen (p := ⟨L, o, none⟩) h.ll h2).trans (h.fl o), fun o => (ht.frozen (p := ⟨U, o, none⟩) h.lu h3).trans (h.fu o)⟩
/-- is there such a shard -/
def isB (g : Nat) (s : Int) : Bool := decide (0 ≤ s ∧ s < (g : Int))
theorem isB_yes {g : Nat} {s : Int} (h : isB g s = true) : ∃ k : Nat, s = (k : Int) ∧ k < g := by
  unfold isB at h; simp only [decide_eq_true_eq] at h
  exact ⟨s.toNat, by omega, by omega⟩
theorem isB_no {g : Nat} {s : Int} (h : isB g s = false) : s < 0 ∨ (0 ≤ s ∧ (g : Int) ≤ s) := by
  unfold isB at h; simp only [decide_eq_false_iff_not] at h
  omega
theorem ret_b {a b : Bool} (h : a = b) : Ending.returned (.bool a) = .returned (.bool b) := by rw [h]
theorem there_any (P L U g : Nat) (fr fo un : Nat → Int) (s : Int) (w : World) (h : IsMap w P L U g fr fo un) :
    Calls Try.prog 29 #[.pointer (some ⟨P, 0, none⟩), .int .i64 s] w fun e w' => e = .returned (.bool (isB g s)) ∧ w = w' := by
  have hc := h.c0
  cases hb : isB g s with
  | true =>
    obtain ⟨k, rfl, hk⟩ := isB_yes hb
    clear hb
    go_enter Try.func29, Try.ntmps29
    go_wp2
    go_ret
    exact ⟨ret_b (by simp <;> omega), rfl⟩
  | false =>
    rcases isB_no hb with h0 | ⟨h0, h1⟩
    all_goals
      clear hb
      go_enter Try.func29, Try.ntmps29
      go_wp2
      go_ret
      exact ⟨ret_b (by simp <;> omega), rfl⟩
theorem until_any (P L U g : Nat) (fr fo un : Nat → Int) (s : Int) (w : World) (h : IsMap w P L U g fr fo un) :
    Calls Try.prog 18 #[.pointer (some ⟨P, 0, none⟩), .int .i64 s] w fun e w' => e = .returned (.int .i64 (if isB g s = true then un s.toNat else 0)) ∧ w = w' := by
  have hc := h.c1
  have h8 := h.g8
  cases hb : isB g s with
  | true =>
    rw [if_pos rfl]
    obtain ⟨k, rfl, hk⟩ := isB_yes hb
    have hu := h.cu k hk
    go_enter Try.func18, Try.ntmps18
    go_wp2_with (go_at_call 29; refine (there_any P L U g fr fo un _ _ h).mono ?_; rintro e w' ⟨rfl, rfl⟩)
    go_ret
    exact ⟨rfl, rfl⟩
  | false =>
    rw [if_neg (by decide)]
    go_enter Try.func18, Try.ntmps18
    go_wp2_with (go_at_call 29; refine (there_any P L U g fr fo un _ _ h).mono ?_; rintro e w' ⟨rfl, rfl⟩)
    go_ret
    exact ⟨rfl, rfl⟩
/-- what Get answers -/
def getV (g : Nat) (fr fo : Nat → Int) (s : Int) : Value := .tuple #[.agg #[.int .i64 (if isB g s = true then fr s.toNat else 0), .int .i64 (if isB g s = true then fo s.toNat else 0)], .bool (isB g s)]
theorem get_any (P L U g : Nat) (fr fo un : Nat → Int) (s : Int) (w : World) (h : IsMap w P L U g fr fo un) :
    Calls Try.prog 19 #[.pointer (some ⟨P, 0, none⟩), .int .i64 s] w fun e w' => e = .returned (getV g fr fo s) ∧ ∃ o1, w' = w.alloc o1 := by
  have h' : IsMap (w.alloc (.cells #[.int .i64 0, .int .i64 0] 25)) P L U g fr fo un := h.turn (M := fun _ => False) ((Turn.of_below (Below.refl _ _)).alloc _) id id id
  have hc := h.c0
  have hl := h.ll
  have hp := h.lp
  have h8 := h.g8
  unfold getV
  cases hb : isB g s with
  | true =>
    rw [if_pos rfl, if_pos rfl]
    obtain ⟨k, rfl, hk⟩ := isB_yes hb
    have hu := h.cr k hk
    have hv := h.co k hk
    go_enter Try.func19, Try.ntmps19
    go_wp2_with (go_at_call 29; refine (there_any P L U g fr fo un _ _ h').mono ?_; rintro e w' ⟨rfl, rfl⟩)
    go_returns
    exact ⟨rfl, _, rfl⟩
  | false =>
    rw [if_neg (by decide), if_neg (by decide)]
    go_enter Try.func19, Try.ntmps19
    go_wp2_with (go_at_call 29; refine (there_any P L U g fr fo un _ _ h').mono ?_; rintro e w' ⟨rfl, rfl⟩)
    go_returns
    exact ⟨rfl, _, rfl⟩
/-- a new row of zeros -/
def zeros (n : Nat) : Array Value := Array.replicate n (.int .i64 0)
theorem zeros_get (n o : Nat) (h : o < n) : (zeros n)[o]? = some (.int .i64 0) := by
  unfold zeros; rw [Array.getElem?_replicate, if_pos h]
theorem make63 (n : Nat) (h1 : 1 ≤ n) (h8 : n ≤ 8) (w : World) : (Instr.makeSlice 63 (.int .i64 (n : Int)) (.int .i64 (n : Int))).run Try.prog w = .ok (.slice (some ⟨w.heap.size, 0, none⟩) n n) (w.alloc (.cells (zeros (2 * n)) 25)) := by
  have : n = 1 ∨ n = 2 ∨ n = 3 ∨ n = 4 ∨ n = 5 ∨ n = 6 ∨ n = 7 ∨ n = 8 := by omega
  rcases this with rfl | rfl | rfl | rfl | rfl | rfl | rfl | rfl <;> (show _ = _; kernel_rfl)
theorem make22 (n : Nat) (h1 : 1 ≤ n) (h8 : n ≤ 8) (w : World) : (Instr.makeSlice 22 (.int .i64 (n : Int)) (.int .i64 (n : Int))).run Try.prog w = .ok (.slice (some ⟨w.heap.size, 0, none⟩) n n) (w.alloc (.cells (zeros n) 3)) := by
  have : n = 1 ∨ n = 2 ∨ n = 3 ∨ n = 4 ∨ n = 5 ∨ n = 6 ∨ n = 7 ∨ n = 8 := by omega
  rcases this with rfl | rfl | rfl | rfl | rfl | rfl | rfl | rfl <;> (show _ = _; kernel_rfl)
def zf : Nat → Int := fun _ => 0
theorem cellA (w : World) (C : Array Value) (T : TypeId) (o : Nat) : (w.alloc (.cells C T)).cell? ⟨w.heap.size, o, none⟩ = C[o]? := World.cell?_alloc_at _ _ _ _ rfl
theorem newA (w : World) (n : Nat) (h8 : n ≤ 8) (T : TypeId) (S : TypeId) : IsMap ((((w.alloc (.cells (zeros (2 * n)) T)).alloc (.cells (zeros n) 3)).alloc (.cells #[.slice (some ⟨w.heap.size, 0, none⟩) n n, .slice (some ⟨w.heap.size + 1, 0, none⟩) n n] S)).drew) (w.heap.size + 1 + 1) w.heap.size (w.heap.size + 1) n zf zf zf := by
  obtain ⟨a1, h1⟩ : ∃ a1, a1 = w.alloc (.cells (zeros (2 * n)) T) := ⟨_, rfl⟩
  obtain ⟨a2, h2⟩ : ∃ a2, a2 = a1.alloc (.cells (zeros n) 3) := ⟨_, rfl⟩
  rw [← h1, ← h2]
  have z1 : a1.heap.size = w.heap.size + 1 := by rw [h1]; simp
  have z2 : a2.heap.size = w.heap.size + 1 + 1 := by rw [h2]; simp [z1]
  have t1 : Turn (fun _ => False) a1 a2 := by rw [h2]; exact (Turn.of_below (Below.refl _ _)).alloc _
  have t2 : Turn (fun _ => False) a2 (a2.alloc (.cells #[.slice (some ⟨w.heap.size, 0, none⟩) n n, .slice (some ⟨w.heap.size + 1, 0, none⟩) n n] S)).drew := ((Turn.of_below (Below.refl _ _)).alloc _).drew
  have cA : ∀ o, a1.cell? ⟨w.heap.size, o, none⟩ = (zeros (2 * n))[o]? := fun o => by rw [h1]; exact cellA _ _ _ _
  have cB : ∀ o, a2.cell? ⟨w.heap.size + 1, o, none⟩ = (zeros n)[o]? := fun o => by rw [h2, ← z1]; exact cellA _ _ _ _
  have fA : ∀ o, a1.frozen? ⟨w.heap.size, o, none⟩ = false := fun o => by rw [h1]; simp [go_sem]
  have fB : ∀ o, a2.frozen? ⟨w.heap.size + 1, o, none⟩ = false := fun o => by rw [h2, ← z1]; simp [go_sem]
  have cA' : ∀ o, (a2.alloc (.cells #[.slice (some ⟨w.heap.size, 0, none⟩) n n, .slice (some ⟨w.heap.size + 1, 0, none⟩) n n] S)).drew.cell? ⟨w.heap.size, o, none⟩ = (zeros (2 * n))[o]? :=
    fun o => (t2.cell (p := ⟨w.heap.size, o, none⟩) (by simp [z2] <;> omega) id).trans ((t1.cell (p := ⟨w.heap.size, o, none⟩) (by simp [z1]) id).trans (cA o))
  have cB' : ∀ o, (a2.alloc (.cells #[.slice (some ⟨w.heap.size, 0, none⟩) n n, .slice (some ⟨w.heap.size + 1, 0, none⟩) n n] S)).drew.cell? ⟨w.heap.size + 1, o, none⟩ = (zeros n)[o]? :=
    fun o => (t2.cell (p := ⟨w.heap.size + 1, o, none⟩) (by simp [z2]) id).trans (cB o)
  refine ⟨by simp [z2], by simp [z2] <;> omega, by simp [z2] <;> omega, by omega, by omega, by omega, h8, ?_, ?_, fun s hs => ?_, fun s hs => ?_, fun s hs => ?_, fun o => ?_, fun o => ?_⟩
  · rw [← z2]; simp [go_sem]
  · rw [← z2]; simp [go_sem]
  · rw [cA']; exact zeros_get _ _ (by omega)
  · rw [cA']; exact zeros_get _ _ (by omega)
  · rw [cB']; exact zeros_get _ _ (by omega)
  · exact (t2.frozen (p := ⟨w.heap.size, o, none⟩) (by simp [z2] <;> omega) id).trans ((t1.frozen (p := ⟨w.heap.size, o, none⟩) (by simp [z1]) id).trans (fA o))
  · exact (t2.frozen (p := ⟨w.heap.size + 1, o, none⟩) (by simp [z2]) id).trans (fB o)
theorem newB (w : World) (n : Nat) (h8 : n ≤ 8) (T : TypeId) (S : TypeId) : IsMap ((((w.alloc (.cells (zeros n) 3)).alloc (.cells (zeros (2 * n)) T)).alloc (.cells #[.slice (some ⟨w.heap.size + 1, 0, none⟩) n n, .slice (some ⟨w.heap.size, 0, none⟩) n n] S)).drew) (w.heap.size + 1 + 1) (w.heap.size + 1) w.heap.size n zf zf zf := by
  obtain ⟨a1, h1⟩ : ∃ a1, a1 = w.alloc (.cells (zeros n) 3) := ⟨_, rfl⟩
  obtain ⟨a2, h2⟩ : ∃ a2, a2 = a1.alloc (.cells (zeros (2 * n)) T) := ⟨_, rfl⟩
  rw [← h1, ← h2]
  have z1 : a1.heap.size = w.heap.size + 1 := by rw [h1]; simp
  have z2 : a2.heap.size = w.heap.size + 1 + 1 := by rw [h2]; simp [z1]
  have t1 : Turn (fun _ => False) a1 a2 := by rw [h2]; exact (Turn.of_below (Below.refl _ _)).alloc _
  have t2 : Turn (fun _ => False) a2 (a2.alloc (.cells #[.slice (some ⟨w.heap.size + 1, 0, none⟩) n n, .slice (some ⟨w.heap.size, 0, none⟩) n n] S)).drew := ((Turn.of_below (Below.refl _ _)).alloc _).drew
  have cA : ∀ o, a1.cell? ⟨w.heap.size, o, none⟩ = (zeros n)[o]? := fun o => by rw [h1]; exact cellA _ _ _ _
  have cB : ∀ o, a2.cell? ⟨w.heap.size + 1, o, none⟩ = (zeros (2 * n))[o]? := fun o => by rw [h2, ← z1]; exact cellA _ _ _ _
  have fA : ∀ o, a1.frozen? ⟨w.heap.size, o, none⟩ = false := fun o => by rw [h1]; simp [go_sem]
  have fB : ∀ o, a2.frozen? ⟨w.heap.size + 1, o, none⟩ = false := fun o => by rw [h2, ← z1]; simp [go_sem]
  have cA' : ∀ o, (a2.alloc (.cells #[.slice (some ⟨w.heap.size + 1, 0, none⟩) n n, .slice (some ⟨w.heap.size, 0, none⟩) n n] S)).drew.cell? ⟨w.heap.size, o, none⟩ = (zeros n)[o]? :=
    fun o => (t2.cell (p := ⟨w.heap.size, o, none⟩) (by simp [z2] <;> omega) id).trans ((t1.cell (p := ⟨w.heap.size, o, none⟩) (by simp [z1]) id).trans (cA o))
  have cB' : ∀ o, (a2.alloc (.cells #[.slice (some ⟨w.heap.size + 1, 0, none⟩) n n, .slice (some ⟨w.heap.size, 0, none⟩) n n] S)).drew.cell? ⟨w.heap.size + 1, o, none⟩ = (zeros (2 * n))[o]? :=
    fun o => (t2.cell (p := ⟨w.heap.size + 1, o, none⟩) (by simp [z2]) id).trans (cB o)
  refine ⟨by simp [z2], by simp [z2] <;> omega, by simp [z2] <;> omega, by omega, by omega, by omega, h8, ?_, ?_, fun s hs => ?_, fun s hs => ?_, fun s hs => ?_, fun o => ?_, fun o => ?_⟩
  · rw [← z2]; simp [go_sem]
  · rw [← z2]; simp [go_sem]
  · rw [cB']; exact zeros_get _ _ (by omega)
  · rw [cB']; exact zeros_get _ _ (by omega)
  · rw [cA']; exact zeros_get _ _ (by omega)
  · exact (t2.frozen (p := ⟨w.heap.size + 1, o, none⟩) (by simp [z2]) id).trans (fB o)
  · exact (t2.frozen (p := ⟨w.heap.size, o, none⟩) (by simp [z2] <;> omega) id).trans ((t1.frozen (p := ⟨w.heap.size, o, none⟩) (by simp [z1]) id).trans (fA o))
/-- a map made by the call -/
def NewAt (w : World) (n : Nat) (e : Ending) (w' : World) : Prop := ∃ P L U : Nat, e = .returned (.tuple #[.pointer (some ⟨P, 0, none⟩), .int .i64 0]) ∧ IsMap w' P L U n zf zf zf ∧ Below w.heap.size w w' ∧ w.heap.size ≤ P ∧ w.heap.size ≤ L ∧ w.heap.size ≤ U
theorem newmap_yes (n : Nat) (h1 : 1 ≤ n) (h8 : n ≤ 8) (w : World) : Calls Try.prog 17 #[.int .i64 (n : Int)] w (NewAt w n) := by
  have hm1 := make63 n h1 h8
  have hm2 := make22 n h1 h8
  go_enter Try.func17, Try.ntmps17
  go_wp2
  go_region
  all_goals go_wp2
  · go_ret2
    exact ⟨_, _, _, rfl, newA w n h8 25 65, by go_grown, by omega, by omega, by omega⟩
  · go_ret2
    exact ⟨_, _, _, rfl, newB w n h8 25 65, by go_grown, by omega, by omega, by omega⟩
theorem newmap_no (n : Int) (h : n < 1 ∨ (1 ≤ n ∧ 8 < n)) (w : World) : Calls Try.prog 17 #[.int .i64 n] w fun e w' => e = .returned (.tuple #[.pointer none, .int .i64 1]) ∧ w = w' := by
  rcases h with h | ⟨h0, h⟩
  all_goals
    go_enter Try.func17, Try.ntmps17
    go_wp2
    go_ret2
    exact ⟨rfl, rfl⟩
end Go.Proofs.Ytfdipgnlafhlbaa
