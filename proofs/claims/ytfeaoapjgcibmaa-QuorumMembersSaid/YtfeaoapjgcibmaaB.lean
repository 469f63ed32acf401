/- Count and Most. -/
import Derived.Test.YtfeaoapjgcibmaaA
set_option linter.unusedVariables false
namespace Go.Proofs.Ytfeaoapjgcibmaa
open Go.RowKit Go.Shelf
attribute [local go_sem] Oper.semAt_some
theorem setCell_block' {w : World} {a b : Addr} (v : Value) (h : a.block ≠ b.block) : (w.setCell a v).cell? b = w.cell? b := World.cell?_setCell_other w a b v (fun e => h (by rw [e]))
def cnt (m : Nat → Int) (r : Int) : Nat := (sel m r 9).length
set_option maxRecDepth 100000 in
set_option maxHeartbeats 2000000 in
theorem count_in (F : Fence) (n : Nat) (h23 : F.fn 23) (h26 : F.fn 26) (h27 : F.fn 27) (hro : F.round = none) (hn : 3 ≤ n) (m : Nat → Int) (hm : ∀ k, k < 9 → 0 ≤ m k ∧ m k ≤ 255) (r : Int) (w : World) :
    CallsIn F n Try.prog 23 #[.agg #[.int .u8 (m 0), .int .u8 (m 1), .int .u8 (m 2), .int .u8 (m 3), .int .u8 (m 4), .int .u8 (m 5), .int .u8 (m 6), .int .u8 (m 7), .int .u8 (m 8)], .int .i64 r] w fun e W' => e = .returned (.int .i64 (cnt m r)) ∧ Below w.heap.size w W' := by
  have h1 : 1 ≤ n := by omega
  refine callsIn_of_wp_marks Try.func23 rfl h23 ?_ hro
  simp only [Try.ntmps23, List.size_toArray, List.length_cons, List.length_nil, Nat.reduceAdd, Nat.reduceSub, Array.replicate_succ, Array.replicate_zero, List.push_toArray, List.append_toArray, List.nil_append, List.cons_append]
  gi_wp2_with (gi_at_call 26; refine (all_in F (n - 1) h26 hro _ _ _).mono ?_; rintro e w' ⟨rfl, rfl⟩)
  have hB0 : Below w.heap.size w ((((w.alloc (.cells #[.int .u8 (m 0), .int .u8 (m 1), .int .u8 (m 2), .int .u8 (m 3), .int .u8 (m 4), .int .u8 (m 5), .int .u8 (m 6), .int .u8 (m 7), .int .u8 (m 8)] 25)).alloc (.cells #[.int .i64 0] 3)).alloc (.cells #[.int .u8 (m 0), .int .u8 (m 1), .int .u8 (m 2), .int .u8 (m 3), .int .u8 (m 4), .int .u8 (m 5), .int .u8 (m 6), .int .u8 (m 7), .int .u8 (m 8)] 25)).alloc (.cells #[.int .i64 r] 3)) := (((((Below.refl _ w).alloc (Nat.le_refl _) _).alloc (by simp) _).alloc (by simp; omega) _).alloc (by simp; omega) _)
  obtain ⟨W0, hW0⟩ : ∃ W0, W0 = ((((w.alloc (.cells #[.int .u8 (m 0), .int .u8 (m 1), .int .u8 (m 2), .int .u8 (m 3), .int .u8 (m 4), .int .u8 (m 5), .int .u8 (m 6), .int .u8 (m 7), .int .u8 (m 8)] 25)).alloc (.cells #[.int .i64 0] 3)).alloc (.cells #[.int .u8 (m 0), .int .u8 (m 1), .int .u8 (m 2), .int .u8 (m 3), .int .u8 (m 4), .int .u8 (m 5), .int .u8 (m 6), .int .u8 (m 7), .int .u8 (m 8)] 25)).alloc (.cells #[.int .i64 r] 3)) := ⟨_, rfl⟩
  have hsz : W0.heap.size = w.heap.size + 4 := by rw [hW0]; simp
  have cM : ∀ o, W0.cell? ⟨w.heap.size + 1 + 1, o, none⟩ = (#[.int .u8 (m 0), .int .u8 (m 1), .int .u8 (m 2), .int .u8 (m 3), .int .u8 (m 4), .int .u8 (m 5), .int .u8 (m 6), .int .u8 (m 7), .int .u8 (m 8)] : Array Value)[o]? := fun o => by
    rw [hW0, World.cell?_alloc_past (hn := by simp)]
    exact World.cell?_alloc_at (hn := by simp) ..
  have cR : W0.cell? ⟨w.heap.size + 1 + 1 + 1, 0, none⟩ = some (.int .i64 r) := by rw [hW0]; simp [go_sem]
  have cN : W0.cell? ⟨w.heap.size + 1, 0, none⟩ = some (.int .i64 0) ∧ W0.frozen? ⟨w.heap.size + 1, 0, none⟩ = false := by
    rw [hW0]
    constructor
    · rw [World.cell?_alloc_past (hn := by simp), World.cell?_alloc_past (hn := by simp)]
      rw [World.cell?_alloc_at (hn := by simp)]; rfl
    · simp [go_sem]
  rw [← hW0] at hB0 ⊢
  clear hW0
  refine wpIn_rangeFunc_ownF hro h1 (gf := 27) (lb := #[.pointer (some ⟨w.heap.size + 1 + 1, 0, none⟩), .pointer (some ⟨w.heap.size + 1 + 1 + 1, 0, none⟩)]) rfl h27 (enters_of Try.func27 (by kernel_rfl) rfl)
    (all_stops F (n - 1) h27 hro (by omega) (w.heap.size + 1 + 1) (w.heap.size + 1 + 1 + 1) m hm r W0 ⟨by omega, by omega⟩ cM cR) keepR_t (keepR_b (by omega)) (Below.refl _ _) (fun _ => rfl)
    (fun pre W => (W.cell? ⟨w.heap.size + 1, 0, none⟩ = some (.int .i64 (pre.length : Int)) ∧ W.frozen? ⟨w.heap.size + 1, 0, none⟩ = false) ∧ Below w.heap.size w W)
    (fun _ _ _ => False)
    (OwnFrom.and (Own.from (fun s A B row hs hg hr => ⟨cell_kept hs.1 hg hr, (frozen_kept hs.1 hg hr).trans hs.2⟩) _) (ownFrom_below (Nat.le_refl _) (by omega)))
    (fun _ _ _ _ _ hs _ _ => hs)
    ⟨cN, hB0⟩
    (fun x => { tmps := #[.agg #[.int .u8 (m 0), .int .u8 (m 1), .int .u8 (m 2), .int .u8 (m 3), .int .u8 (m 4), .int .u8 (m 5), .int .u8 (m 6), .int .u8 (m 7), .int .u8 (m 8)], .int .i64 r, .pointer (some ⟨w.heap.size, 0, none⟩), undef, .int .i64 0, .pointer (some ⟨w.heap.size + 1, 0, none⟩), .agg #[.int .u8 (m 0), .int .u8 (m 1), .int .u8 (m 2), .int .u8 (m 3), .int .u8 (m 4), .int .u8 (m 5), .int .u8 (m 6), .int .u8 (m 7), .int .u8 (m 8)], .int .i64 r, .func (.func 27) #[] #[.pointer (some ⟨w.heap.size + 1 + 1, 0, none⟩), .pointer (some ⟨w.heap.size + 1 + 1 + 1, 0, none⟩)], .int .i64 (x.val : Int), undef, undef, undef], defers := [] }) ?assign ?body ?done ?stop
  case assign =>
    intro l x W K hK
    gi_wp2
    simpa using hK
  case body =>
    rintro l pre x W ⟨⟨hc, hf⟩, hB⟩ hlen
    have hle : (pre.length : Int) ≤ 9 := by omega
    gi_wp2
    exact ⟨KeepsOthers.setCell _ _ _, setCell_block' _ (by simp), ⟨by rw [List.length_append]; exact World.cell?_setCell_same' _ _ _ (by rw [hc]; rfl), by rw [World.frozen?_setCell]; exact hf⟩, hB.setCell (p := ⟨w.heap.size + 1, 0, none⟩) (by simp) _⟩
  case done =>
    rintro D ys W hD rfl ⟨⟨hc, _⟩, hB⟩ hK
    gi_wp2
    refine ⟨by simp, .inl ⟨_, _, rfl, run_takeDeferred hK, ?_⟩⟩
    exact ⟨_, results_tmp rfl _ _ _, rfl, hB.trans (belowK_b (w := w) (Nat.le_refl _) W D _ _ (by omega) hK rfl rfl)⟩
  case stop =>
    rintro D c pre W _ _ h _
    exact h.elim
theorem count_any (m : Nat → Int) (hm : ∀ k, k < 9 → 0 ≤ m k ∧ m k ≤ 255) (r : Int) (w : World) :
    Calls Try.prog 23 #[.agg #[.int .u8 (m 0), .int .u8 (m 1), .int .u8 (m 2), .int .u8 (m 3), .int .u8 (m 4), .int .u8 (m 5), .int .u8 (m 6), .int .u8 (m 7), .int .u8 (m 8)], .int .i64 r] w fun e W' => e = .returned (.int .i64 (cnt m r)) ∧ Below w.heap.size w W' :=
  callsIn_wide.1 (count_in Fence.wide 3 trivial trivial trivial rfl (by decide) m hm r w)
theorem cnt_le (m : Nat → Int) (r : Int) : cnt m r ≤ 9 := sel_le m r 9
def mst (m : Nat → Int) : Int := (cnt m 1 : Int) / 2 + 1
set_option maxRecDepth 100000 in
theorem most_any (m : Nat → Int) (hm : ∀ k, k < 9 → 0 ≤ m k ∧ m k ≤ 255) (w : World) :
    Calls Try.prog 13 #[.agg #[.int .u8 (m 0), .int .u8 (m 1), .int .u8 (m 2), .int .u8 (m 3), .int .u8 (m 4), .int .u8 (m 5), .int .u8 (m 6), .int .u8 (m 7), .int .u8 (m 8)]] w fun e W' => e = .returned (.int .i64 (mst m)) ∧ Below w.heap.size w W' := by
  have hle := cnt_le m 1
  go_enter Try.func13, Try.ntmps13
  go_wp2_with fail
  refine (count_any m hm 1 _).mono ?_
  rintro e w1 ⟨rfl, hb⟩
  go_wp2
  go_ret
  exact ⟨rfl, ((Below.refl _ _).alloc (Nat.le_refl _) _).trans (hb.mono (by simp))⟩
/-- no role of the first k nodes is unknown -/
def lowM (m : Nat → Int) : Nat → Bool
  | 0 => true
  | k + 1 => lowM m k && decide (m k ≤ 2)
theorem lowM_of (m : Nat → Int) (n : Nat) : lowM m n = true ↔ ∀ k, k < n → m k ≤ 2 := by
  induction n with
  | zero => simp [lowM]
  | succ n ih =>
    simp only [lowM, Bool.and_eq_true, ih, decide_eq_true_eq]
    constructor
    · rintro ⟨h1, h2⟩ k hk
      by_cases e : k = n
      · rw [e]; exact h2
      · exact h1 k (by omega)
    · intro h; exact ⟨fun k hk => h k (by omega), h n (by omega)⟩
/-- may members be -/
def okM (m : Nat → Int) : Bool := lowM m 9 && decide (0 < cnt m 1)
theorem okM_not (m : Nat → Int) (k : Nat) (hk : k < 9) (h : 2 < m k) : okM m = false := by
  unfold okM
  cases h9 : lowM m 9 with
  | false => rfl
  | true => have := (lowM_of m 9).1 h9 k hk; omega
set_option maxRecDepth 100000 in
set_option maxHeartbeats 1000000 in
theorem right_any (m : Nat → Int) (hm : ∀ k, k < 9 → 0 ≤ m k ∧ m k ≤ 255) (w : World) :
    Calls Try.prog 11 #[.agg #[.int .u8 (m 0), .int .u8 (m 1), .int .u8 (m 2), .int .u8 (m 3), .int .u8 (m 4), .int .u8 (m 5), .int .u8 (m 6), .int .u8 (m 7), .int .u8 (m 8)]] w fun e W' => e = .returned (.bool (okM m)) ∧ Below w.heap.size w W' := by
  have hle := cnt_le m 1
  obtain ⟨W0, hW0⟩ : ∃ W0, W0 = w.alloc (.cells #[.int .u8 (m 0), .int .u8 (m 1), .int .u8 (m 2), .int .u8 (m 3), .int .u8 (m 4), .int .u8 (m 5), .int .u8 (m 6), .int .u8 (m 7), .int .u8 (m 8)] 25) := ⟨_, rfl⟩
  have hb0 : Below w.heap.size w W0 := by rw [hW0]; exact (Below.refl _ _).alloc (Nat.le_refl _) _
  go_enter Try.func11, Try.ntmps11
  go_wp2
  go_loop [6] (fun i => ∃ k : Nat, k ≤ 9 ∧ i = .int .i64 k ∧ lowM m k = true) (fun i => 9 - (intOf i).toNat)
  case atStart => exact ⟨0, by omega, rfl, rfl⟩
  case round =>
    obtain ⟨k, hk, rfl, hlow⟩ := hrel
    by_cases hlt : k < 9
    · have hix := index25 m k hlt
      obtain ⟨b1, b2⟩ := hm k hlt
      by_cases h2 : 2 < m k
      · have hno := Lib.hid (okM_not m k hlt h2)
        clear hlow
        go_wp2
        go_ret
        exact ⟨by rw [hno.out]; rfl, by go_grown⟩
      · have HL : Hid (lowM m (k + 1) = true) := Lib.hid (by simp only [lowM, hlow, Bool.true_and, decide_eq_true_eq]; omega)
        clear hlow
        go_wp2
        go_round
        case rel => exact ⟨k + 1, by omega, by go_num, HL.out⟩
        case measure => simp [intOf]; omega
    · obtain rfl : k = 9 := by omega
      have HL := Lib.hid hlow
      clear hlow
      go_wp2_with fail
      refine (count_any m hm 1 _).mono ?_
      rintro e w1 ⟨rfl, hb⟩
      go_wp2
      go_ret
      exact ⟨by unfold okM; rw [HL.out]; rfl, ((Below.refl _ _).alloc (Nat.le_refl _) _).trans (hb.mono (by simp))⟩
end Go.Proofs.Ytfeaoapjgcibmaa

