/- Votes. -/
import Derived.Test.YtfeaoapjgcibmaaB
import Derived.Deep.RegionHeld3
import Derived.LoopTactic
import Derived.Deep.LoopGhost
import Derived.Deep.DeepCutAuto
import Derived.WalkSmall
set_option linter.unusedVariables false
set_option linter.unusedSimpArgs false
namespace Go.Proofs.Ytfeaoapjgcibmaa
open Go.RowKit Go.Shelf
attribute [local go_sem] Oper.semAt_some
/-- a row of values that a slice shows -/
def Row (w : World) (a : Option Addr) (n : Nat) (f : Nat → Value) : Prop := n = 0 ∨ ∃ b o, a = some ⟨b, o, none⟩ ∧ b < w.heap.size ∧ ∀ j, j < n → w.cell? ⟨b, o + j, none⟩ = some (f j)
theorem Row.below {w w' : World} {a : Option Addr} {n : Nat} {f : Nat → Value} (h : Row w a n f) (hb : Below w.heap.size w w') : Row w' a n f := by
  rcases h with h | ⟨b, o, h1, h2, h3⟩
  · exact .inl h
  · exact .inr ⟨b, o, h1, Nat.lt_of_lt_of_le h2 hb.size, fun j hj => (hb.cell (p := ⟨b, o + j, none⟩) h2).trans (h3 j hj)⟩
theorem off_add (b off k : Nat) : (⟨b, off, none⟩ : Addr).add k = ⟨b, off + k, none⟩ := by
  unfold Addr.add
  by_cases h : k = 0 <;> simp [h]
/-- those that said so -/
def told (y : Nat → Bool) (n : Nat) (v : Bool) (l : List (Fin 9)) : Nat := (l.filter (fun x => decide (x.val < n) && (y x.val == v))).length
theorem told_le (y : Nat → Bool) (n : Nat) (v : Bool) (l : List (Fin 9)) : told y n v l ≤ l.length := List.length_filter_le _ _
theorem told_add (y : Nat → Bool) (n : Nat) (v : Bool) (l : List (Fin 9)) (x : Fin 9) : told y n v (l ++ [x]) = told y n v l + (if decide (x.val < n) && (y x.val == v) then 1 else 0) := by
  unfold told
  rw [List.filter_append, List.length_append]
  by_cases h : (decide (x.val < n) && (y x.val == v)) = true <;> simp [List.filter, h]
theorem told_cons (y : Nat → Bool) (n : Nat) (v : Bool) (l : List (Fin 9)) (x : Fin 9) : told y n v (x :: l) = told y n v l + (if decide (x.val < n) && (y x.val == v) then 1 else 0) := by
  unfold told
  by_cases h : (decide (x.val < n) && (y x.val == v)) = true <;> simp [List.filter, h]
theorem told_both (y : Nat → Bool) (n : Nat) (l : List (Fin 9)) : told y n true l + told y n false l ≤ l.length := by
  induction l with
  | nil => simp [told]
  | cons a l ih =>
    rw [told_cons, told_cons, List.length_cons]
    by_cases h : a.val < n <;> cases hy : y a.val <;> simp [h] <;> omega
def won (m : Nat → Int) (y : Nat → Bool) (n : Nat) : Bool := decide (mst m ≤ told y n true (sel m 1 9))
def lost (m : Nat → Int) (y : Nat → Bool) (n : Nat) : Bool := decide ((cnt m 1 : Int) - told y n false (sel m 1 9) < mst m)
structure Vc (w : World) (m : Nat → Int) (a : Option Addr) (len cap : Nat) (y : Nat → Bool) (pre : List (Fin 9)) (W : World) : Prop where
  A : W.cell? ⟨w.heap.size + 1 + 1, 0, none⟩ = some (.int .i64 (told y len true pre : Int))
  fA : W.frozen? ⟨w.heap.size + 1 + 1, 0, none⟩ = false
  O : W.cell? ⟨w.heap.size + 1 + 1 + 1, 0, none⟩ = some (.int .i64 (told y len false pre : Int))
  fO : W.frozen? ⟨w.heap.size + 1 + 1 + 1, 0, none⟩ = false
  S : W.cell? ⟨w.heap.size + 1, 0, none⟩ = some (.slice a len cap)
  B : ∀ (o : Nat) (v : Value), (#[.int .u8 (m 0), .int .u8 (m 1), .int .u8 (m 2), .int .u8 (m 3), .int .u8 (m 4), .int .u8 (m 5), .int .u8 (m 6), .int .u8 (m 7), .int .u8 (m 8)] : Array Value)[o]? = some v → W.cell? ⟨w.heap.size, o, none⟩ = some v
theorem Vc.put {w W : World} {m : Nat → Int} {a : Option Addr} {len cap : Nat} {y : Nat → Bool} {pre pre' : List (Fin 9)} (h : Vc w m a len cap y pre W) (q : Nat) (c : Int) (hq : q = 2 ∨ q = 3)
    (hA : (told y len true pre' : Int) = if q = 2 then c else (told y len true pre : Int)) (hO : (told y len false pre' : Int) = if q = 3 then c else (told y len false pre : Int)) : Vc w m a len cap y pre' (W.setCell ⟨w.heap.size + q, 0, none⟩ (.int .i64 c)) := by
  rcases hq with rfl | rfl
  · refine ⟨?_, by rw [World.frozen?_setCell]; exact h.fA, ?_, by rw [World.frozen?_setCell]; exact h.fO, ?_, fun o v hv => ?_⟩
    · rw [hA, if_pos rfl]; exact World.cell?_setCell_same' _ _ _ (by rw [h.A]; rfl)
    · rw [hO, if_neg (by decide), setCell_block' _ (by simp)]; exact h.O
    · rw [setCell_block' _ (by simp)]; exact h.S
    · rw [setCell_block' _ (by simp)]; exact h.B o v hv
  · refine ⟨?_, by rw [World.frozen?_setCell]; exact h.fA, ?_, by rw [World.frozen?_setCell]; exact h.fO, ?_, fun o v hv => ?_⟩
    · rw [hA, if_neg (by decide), setCell_block' _ (by simp)]; exact h.A
    · rw [hO, if_pos rfl]; exact World.cell?_setCell_same' _ _ _ (by rw [h.O]; rfl)
    · rw [setCell_block' _ (by simp)]; exact h.S
    · rw [setCell_block' _ (by simp)]; exact h.B o v hv
theorem lt_of_cell {W : World} {b o : Nat} {v : Value} (h : W.cell? ⟨b, o, none⟩ = some v) : b < W.heap.size := by
  apply Classical.byContradiction
  intro hn
  have : W.heap[b]? = none := Array.getElem?_eq_none (by omega)
  simp [World.cell?, this] at h
theorem vKeep {w W w' : World} {m : Nat → Int} {T N : Int} (hsz : w.heap.size + 1 + 1 + 1 < W.heap.size) (hA : W.cell? ⟨w.heap.size + 1 + 1, 0, none⟩ = some (.int .i64 T)) (hO : W.cell? ⟨w.heap.size + 1 + 1 + 1, 0, none⟩ = some (.int .i64 N))
    (hB : ∀ (o : Nat) (v : Value), (#[.int .u8 (m 0), .int .u8 (m 1), .int .u8 (m 2), .int .u8 (m 3), .int .u8 (m 4), .int .u8 (m 5), .int .u8 (m 6), .int .u8 (m 7), .int .u8 (m 8)] : Array Value)[o]? = some v → W.cell? ⟨w.heap.size, o, none⟩ = some v) (hb : Below W.heap.size W w') :
    Below W.heap.size W w' ∧ w'.cell? ⟨w.heap.size + 1 + 1, 0, none⟩ = some (.int .i64 T) ∧ w'.cell? ⟨w.heap.size + 1 + 1 + 1, 0, none⟩ = some (.int .i64 N) ∧ w'.rangeAt w.heap.size 0 [.int .u8 (m 0), .int .u8 (m 1), .int .u8 (m 2), .int .u8 (m 3), .int .u8 (m 4), .int .u8 (m 5), .int .u8 (m 6), .int .u8 (m 7), .int .u8 (m 8)] := by
  have hC : ∀ (o : Nat) (v : Value), (#[.int .u8 (m 0), .int .u8 (m 1), .int .u8 (m 2), .int .u8 (m 3), .int .u8 (m 4), .int .u8 (m 5), .int .u8 (m 6), .int .u8 (m 7), .int .u8 (m 8)] : Array Value)[o]? = some v → w'.cell? ⟨w.heap.size, o, none⟩ = some v := fun o v h => (hb.cell (p := ⟨w.heap.size, o, none⟩) (by show w.heap.size < _; omega)).trans (hB o v h)
  exact ⟨hb, (hb.cell (p := ⟨w.heap.size + 1 + 1, 0, none⟩) (by show w.heap.size + 1 + 1 < _; omega)).trans hA, (hb.cell (p := ⟨w.heap.size + 1 + 1 + 1, 0, none⟩) hsz).trans hO, fun j v h => by rw [Nat.zero_add]; exact hC j v (by simpa using h)⟩
theorem bCat {w8 wx wy : World} {R : Prop} (hb : Below wx.heap.size wx wy) (h : Below w8.heap.size w8 wx ∧ R) : Below w8.heap.size w8 wy := h.1.trans (hb.mono h.1.size)
set_option maxRecDepth 100000 in
set_option maxHeartbeats 2000000 in
theorem votes_any (m : Nat → Int) (hm : ∀ k, k < 9 → 0 ≤ m k ∧ m k ≤ 255) (a : Option Addr) (len cap : Nat) (hl : len ≤ 9223372036854775807) (y : Nat → Bool) (w : World) (hrow : Row w a len (fun j => .bool (y j))) :
    Calls Try.prog 14 #[.agg #[.int .u8 (m 0), .int .u8 (m 1), .int .u8 (m 2), .int .u8 (m 3), .int .u8 (m 4), .int .u8 (m 5), .int .u8 (m 6), .int .u8 (m 7), .int .u8 (m 8)], .slice a len cap] w fun e W' => e = .returned (.tuple #[.bool (won m y len), .bool (lost m y len)]) ∧ Below w.heap.size w W' := by
  refine (callsIn_wide (n := 5)).1 ?_
  obtain ⟨F, hF, h14, h26, h27, hro⟩ : ∃ F, Hid (F = Fence.wide) ∧ F.fn 14 ∧ F.fn 26 ∧ F.fn 27 ∧ F.round = none := ⟨_, Lib.hid rfl, trivial, trivial, trivial, rfl⟩
  rw [← hF.out]
  refine callsIn_of_wp_marks Try.func14 rfl h14 ?_ hro
  simp only [Try.ntmps14, List.size_toArray, List.length_cons, List.length_nil, Nat.reduceAdd, Nat.reduceSub, Array.replicate_succ, Array.replicate_zero, List.push_toArray, List.append_toArray, List.nil_append, List.cons_append]
  gi_wp2_with (gi_at_call 26; refine (all_in F 4 h26 hro _ _ _).mono ?_; rintro e w' ⟨rfl, rfl⟩)
  have hB0 : Below w.heap.size w ((((((w.alloc (.cells #[.int .u8 (m 0), .int .u8 (m 1), .int .u8 (m 2), .int .u8 (m 3), .int .u8 (m 4), .int .u8 (m 5), .int .u8 (m 6), .int .u8 (m 7), .int .u8 (m 8)] 25)).alloc (.cells #[.slice a len cap] 36)).alloc (.cells #[.int .i64 0] 3)).alloc (.cells #[.int .i64 0] 3)).alloc (.cells #[.int .u8 (m 0), .int .u8 (m 1), .int .u8 (m 2), .int .u8 (m 3), .int .u8 (m 4), .int .u8 (m 5), .int .u8 (m 6), .int .u8 (m 7), .int .u8 (m 8)] 25)).alloc (.cells #[.int .i64 1] 3)) := (((((((Below.refl _ w).alloc (Nat.le_refl _) _).alloc (by simp) _).alloc (by simp; omega) _).alloc (by simp; omega) _).alloc (by simp; omega) _).alloc (by simp; omega) _)
  obtain ⟨W0, hW0⟩ : ∃ W0, W0 = ((((((w.alloc (.cells #[.int .u8 (m 0), .int .u8 (m 1), .int .u8 (m 2), .int .u8 (m 3), .int .u8 (m 4), .int .u8 (m 5), .int .u8 (m 6), .int .u8 (m 7), .int .u8 (m 8)] 25)).alloc (.cells #[.slice a len cap] 36)).alloc (.cells #[.int .i64 0] 3)).alloc (.cells #[.int .i64 0] 3)).alloc (.cells #[.int .u8 (m 0), .int .u8 (m 1), .int .u8 (m 2), .int .u8 (m 3), .int .u8 (m 4), .int .u8 (m 5), .int .u8 (m 6), .int .u8 (m 7), .int .u8 (m 8)] 25)).alloc (.cells #[.int .i64 1] 3)) := ⟨_, rfl⟩
  have hsz : W0.heap.size = w.heap.size + 6 := by rw [hW0]; simp
  have cM : ∀ o, W0.cell? ⟨w.heap.size + 1 + 1 + 1 + 1, o, none⟩ = (#[.int .u8 (m 0), .int .u8 (m 1), .int .u8 (m 2), .int .u8 (m 3), .int .u8 (m 4), .int .u8 (m 5), .int .u8 (m 6), .int .u8 (m 7), .int .u8 (m 8)] : Array Value)[o]? := fun o => by
    rw [hW0, World.cell?_alloc_past (hn := by simp)]
    exact World.cell?_alloc_at (hn := by simp) ..
  have cR : W0.cell? ⟨w.heap.size + 1 + 1 + 1 + 1 + 1, 0, none⟩ = some (.int .i64 1) := by rw [hW0]; simp [go_sem]
  have cA : W0.cell? ⟨w.heap.size + 1 + 1, 0, none⟩ = some (.int .i64 0) ∧ W0.frozen? ⟨w.heap.size + 1 + 1, 0, none⟩ = false := by
    rw [hW0]; constructor <;> simp [go_sem]
  have cO : W0.cell? ⟨w.heap.size + 1 + 1 + 1, 0, none⟩ = some (.int .i64 0) ∧ W0.frozen? ⟨w.heap.size + 1 + 1 + 1, 0, none⟩ = false := by
    rw [hW0]; constructor <;> simp [go_sem]
  have cS : W0.cell? ⟨w.heap.size + 1, 0, none⟩ = some (.slice a len cap) := by rw [hW0]; simp [go_sem]
  have cB : ∀ o, W0.cell? ⟨w.heap.size, o, none⟩ = (#[.int .u8 (m 0), .int .u8 (m 1), .int .u8 (m 2), .int .u8 (m 3), .int .u8 (m 4), .int .u8 (m 5), .int .u8 (m 6), .int .u8 (m 7), .int .u8 (m 8)] : Array Value)[o]? := fun o => by
    rw [hW0, World.cell?_alloc_past (hn := by simp <;> omega), World.cell?_alloc_past (hn := by simp <;> omega), World.cell?_alloc_past (hn := by simp <;> omega), World.cell?_alloc_past (hn := by simp <;> omega), World.cell?_alloc_past (hn := by simp <;> omega)]
    exact World.cell?_alloc_at (hn := by simp) ..
  have hr0 : Row W0 a len (fun j => .bool (y j)) := by rw [hW0]; exact hrow.below hB0
  rw [← hW0] at hB0 ⊢
  clear hW0
  refine wpIn_rangeFunc_ownF hro (by decide) (gf := 27) (lb := #[.pointer (some ⟨w.heap.size + 1 + 1 + 1 + 1, 0, none⟩), .pointer (some ⟨w.heap.size + 1 + 1 + 1 + 1 + 1, 0, none⟩)]) rfl h27 (enters_of Try.func27 (by kernel_rfl) rfl)
    (all_stops F 4 h27 hro (by omega) (w.heap.size + 1 + 1 + 1 + 1) (w.heap.size + 1 + 1 + 1 + 1 + 1) m hm 1 W0 ⟨by omega, by omega⟩ cM cR) keepR_t (keepR_b (by omega)) (Below.refl _ _) (fun _ => rfl)
    (fun pre W => Vc w m a len cap y pre W ∧ Below w.heap.size w W)
    (fun _ _ _ => False)
    (OwnFrom.and (Own.from (fun s A B row hs hg hr => ⟨cell_kept hs.A hg hr, (frozen_kept hs.A hg hr).trans hs.fA, cell_kept hs.O hg hr, (frozen_kept hs.O hg hr).trans hs.fO, cell_kept hs.S hg hr, fun o v hv => cell_kept (hs.B o v hv) hg hr⟩) _) (ownFrom_below (Nat.le_refl _) (by omega)))
    (fun _ _ _ _ _ hs _ _ => hs)
    ⟨⟨cA.1, cA.2, cO.1, cO.2, cS, fun o v hv => (cB o).trans hv⟩, hB0⟩
    (fun x => { tmps := #[.agg #[.int .u8 (m 0), .int .u8 (m 1), .int .u8 (m 2), .int .u8 (m 3), .int .u8 (m 4), .int .u8 (m 5), .int .u8 (m 6), .int .u8 (m 7), .int .u8 (m 8)], .slice a len cap, .pointer (some ⟨w.heap.size, 0, none⟩), .pointer (some ⟨w.heap.size + 1, 0, none⟩), .bool false, .bool false, .pointer (some ⟨w.heap.size + 1 + 1, 0, none⟩), .pointer (some ⟨w.heap.size + 1 + 1 + 1, 0, none⟩), .int .i64 (x.val : Int), .agg #[.int .u8 (m 0), .int .u8 (m 1), .int .u8 (m 2), .int .u8 (m 3), .int .u8 (m 4), .int .u8 (m 5), .int .u8 (m 6), .int .u8 (m 7), .int .u8 (m 8)], .func (.func 27) #[] #[.pointer (some ⟨w.heap.size + 1 + 1 + 1 + 1, 0, none⟩), .pointer (some ⟨w.heap.size + 1 + 1 + 1 + 1 + 1, 0, none⟩)], .int .i64 (x.val : Int), undef, undef, undef, undef, undef, undef, undef, undef, undef, undef, undef, undef, undef, undef, undef, undef, undef, undef, undef, undef, undef, undef, undef, undef, undef], defers := [] }) ?assign ?body ?done ?stop
  case assign =>
    intro l x W K hK
    gi_wp2
    simpa using hK
  case stop =>
    rintro D c pre W _ _ h _
    exact h.elim
  case body =>
    rintro l pre x W ⟨hv, hB⟩ hlen
    have hle : (pre.length : Int) ≤ 9 := by omega
    have hx := x.isLt
    have htt := told_le y len true pre
    have htf := told_le y len false pre
    obtain ⟨vA, vfA, vO, vfO, vS, vB⟩ := hv
    have hv : Vc w m a len cap y pre W := ⟨vA, vfA, vO, vfO, vS, vB⟩
    clear vB
    by_cases hxl : x.val < len
    · have hrw : Row W a len (fun j => .bool (y j)) := hrow.below hB
      rcases hrw with h0 | ⟨b, o, rfl, hb, hcell⟩
      · omega
      · have hc : W.cell? ⟨b, o + x.val, none⟩ = some (.bool (y x.val)) := hcell x.val hxl
        cases hy : y x.val with
        | true =>
          rw [hy] at hc
          have e1 : told y len true (pre ++ [x]) = told y len true pre + 1 := by rw [told_add, hy]; simp [hxl]
          have e2 : told y len false (pre ++ [x]) = told y len false pre := by rw [told_add, hy]; simp [hxl]
          have hput := hv.put (pre' := pre ++ [x]) 2 ((told y len true pre : Int) + 1) (.inl rfl) (by rw [e1]; simp) (by rw [e2]; simp)
          clear e1 e2
          gi_wp2
          exact ⟨KeepsOthers.setCell _ _ _, setCell_block' _ (by simp), hput, hB.setCell (p := ⟨w.heap.size + 2, 0, none⟩) (by simp) _⟩
        | false =>
          rw [hy] at hc
          have e1 : told y len true (pre ++ [x]) = told y len true pre := by rw [told_add, hy]; simp [hxl]
          have e2 : told y len false (pre ++ [x]) = told y len false pre + 1 := by rw [told_add, hy]; simp [hxl]
          have hput := hv.put (pre' := pre ++ [x]) 3 ((told y len false pre : Int) + 1) (.inr rfl) (by rw [e1]; simp) (by rw [e2]; simp)
          clear e1 e2
          gi_wp2
          exact ⟨KeepsOthers.setCell _ _ _, setCell_block' _ (by simp), hput, hB.setCell (p := ⟨w.heap.size + 3, 0, none⟩) (by simp) _⟩
    · have e1 : told y len true (pre ++ [x]) = told y len true pre := by rw [told_add]; simp [hxl]
      have e2 : told y len false (pre ++ [x]) = told y len false pre := by rw [told_add]; simp [hxl]
      gi_wp2
      exact ⟨KeepsOthers.refl _, rfl, ⟨by rw [e1]; exact vA, vfA, by rw [e2]; exact vO, vfO, vS, hv.B⟩, hB⟩
  case done =>
    rintro D ys W hD rfl ⟨⟨vA, vfA, vO, vfO, vS, vB⟩, hB⟩ hK
    gi_wp2_with fail
    have hW4 : w.heap.size + 1 + 1 + 1 < W.heap.size := lt_of_cell vO
    have hsz2 : W.heap.size ≥ 0 := by omega
    have hle := cnt_le m 1
    have htt := told_le y len true (sel m 1 9)
    have htf := told_le y len false (sel m 1 9)
    have hc9 : (sel m 1 9).length = cnt m 1 := rfl
    have hms : mst m = (cnt m 1 : Int) / 2 + 1 := rfl
    obtain ⟨T, hT⟩ : ∃ T, told y len true (sel m 1 9) = T := ⟨_, rfl⟩
    obtain ⟨N, hN⟩ : ∃ N, told y len false (sel m 1 9) = N := ⟨_, rfl⟩
    have hkp := fun w' (h : Below W.heap.size W w') => vKeep (m := m) (T := T) (N := N) hW4 (by rw [← hT]; exact vA) (by rw [← hN]; exact vO) vB h
    rw [hT] at vA htt
    rw [hN] at vO htf
    have k0 := hkp W (Below.refl _ _)
    have hu25 : Try.prog.underlying 25 = some (.array 9 5) := Try.underlying25
    have hi25 : (Try.prog.info? 25).map (·.size) = some ([.int .u8 (m 0), .int .u8 (m 1), .int .u8 (m 2), .int .u8 (m 3), .int .u8 (m 4), .int .u8 (m 5), .int .u8 (m 6), .int .u8 (m 7), .int .u8 (m 8)] : List Value).length := by kernel_rfl
    have hwr : IntKind.i64.wrap ((cnt m 1 : Int) - (N : Int)) = (cnt m 1 : Int) - (N : Int) := IntWalk.i64_in _ (by omega)
    clear vB
    have e := hF.out
    subst e
    refine wpIn_wide.2 ?_
    refine wp_region_noPanic ?_
    refine wp_region_held_drew (S := fun (w' : World) => Below W.heap.size W w' ∧ w'.cell? ⟨w.heap.size + 1 + 1, 0, none⟩ = some (.int .i64 T) ∧ w'.cell? ⟨w.heap.size + 1 + 1 + 1, 0, none⟩ = some (.int .i64 N) ∧ w'.rangeAt w.heap.size 0 [.int .u8 (m 0), .int .u8 (m 1), .int .u8 (m 2), .int .u8 (m 3), .int .u8 (m 4), .int .u8 (m 5), .int .u8 (m 6), .int .u8 (m 7), .int .u8 (m 8)]) (by kernel_rfl) (hkp _ (Below.refl _ _).drew) (fun hHeld => ?_)
    refine wpAnyH_take (i := 0) (oi := _) (v := ?v0) rfl (by kernel_rfl) (by kernel_rfl) (by kernel_rfl) (fun _ _ _ h => h) (Or.inl ⟨by rfl, ?y0⟩) (by assumption) ?r0
    case y0 => intro w1 hSw; obtain ⟨s1, s2, s3, s4⟩ := hSw; go_simp; try with_reducible rfl
    try simp only [List.getElem_toArray, List.getElem_cons_zero, List.getElem_cons_succ, Act.put, List.setIfInBounds_toArray, List.set_cons_zero, List.set_cons_succ]
    refine' wpAnyH_take (i := 1) (oi := _) (v := _) rfl (by kernel_rfl) (by kernel_rfl) (by kernel_rfl) (fun _ _ _ h => h) (yieldsIf_load_mid (by rfl) _ _ rfl _ _ rfl _ _ ?s1 hu25 rfl hi25) (by assumption) ?r1
    case s1 => intro w1 hSw; exact hSw.2.2.2
    try simp only [List.getElem_toArray, List.getElem_cons_zero, List.getElem_cons_succ, Act.put, List.setIfInBounds_toArray, List.set_cons_zero, List.set_cons_succ]
    refine' wpAnyH_take (i := 4) (oi := _) (v := _) rfl (by kernel_rfl) (by kernel_rfl) (by kernel_rfl) (fun _ _ _ h => h) (yieldsIf_load_mid (by rfl) _ _ rfl _ _ rfl _ _ ?s4 hu25 rfl hi25) (by assumption) ?r4
    case s4 => intro w1 hSw; exact hSw.2.2.2
    try simp only [List.getElem_toArray, List.getElem_cons_zero, List.getElem_cons_succ, Act.put, List.setIfInBounds_toArray, List.set_cons_zero, List.set_cons_succ]
    refine wpAnyH_take (i := 6) (oi := _) (v := ?v6) rfl (by kernel_rfl) (by kernel_rfl) (by kernel_rfl) (fun _ _ _ h => h) (Or.inl ⟨by rfl, ?y6⟩) (by assumption) ?r6
    case y6 => intro w1 hSw; obtain ⟨s1, s2, s3, s4⟩ := hSw; go_simp; try with_reducible rfl
    try simp only [List.getElem_toArray, List.getElem_cons_zero, List.getElem_cons_succ, Act.put, List.setIfInBounds_toArray, List.set_cons_zero, List.set_cons_succ]
    refine' wpAnyH_take (i := 8) (oi := _) (v := _) rfl (by kernel_rfl) (by kernel_rfl) (by kernel_rfl) (fun _ _ _ h => h) (yieldsIf_load_mid (by rfl) _ _ rfl _ _ rfl _ _ ?s8 hu25 rfl hi25) (by assumption) ?r8
    case s8 => intro w1 hSw; exact hSw.2.2.2
    try simp only [List.getElem_toArray, List.getElem_cons_zero, List.getElem_cons_succ, Act.put, List.setIfInBounds_toArray, List.set_cons_zero, List.set_cons_succ]
    refine wpAnyH_ready (rs := [2]) (by kernel_rfl) (by simp) ?_
    refine AllReadyH.cons (o := _) rfl (fun K hK => ?_) AllReadyH.nil
    rw [if_pos (by rfl)]
    try simp only [List.getElem_toArray, List.getElem_cons_zero, List.getElem_cons_succ]
    go_simp
    refine (most_any m hm _).mono ?_
    rintro e w2 ⟨rfl, hb2⟩
    go_wp2_with fail
    refine hK.out _ _ (hkp _ (bCat hb2 (by assumption))) (fun hHeld2 => ?_)
    clear hK K
    try simp only [List.getElem_toArray, List.getElem_cons_zero, List.getElem_cons_succ, Act.put, List.setIfInBounds_toArray, List.set_cons_zero, List.set_cons_succ]
    refine wpAnyH_take (i := 3) (oi := _) (v := ?v3) rfl (by kernel_rfl) (by kernel_rfl) (by kernel_rfl) (fun _ _ _ h => h) (Or.inl ⟨by rfl, ?y3⟩) (by assumption) ?r3
    case y3 => intro w1 hSw; obtain ⟨s1, s2, s3, s4⟩ := hSw; go_simp; try with_reducible rfl
    try simp only [List.getElem_toArray, List.getElem_cons_zero, List.getElem_cons_succ, Act.put, List.setIfInBounds_toArray, List.set_cons_zero, List.set_cons_succ]
    refine wpAnyH_ready (rs := [5]) (by kernel_rfl) (by simp) ?_
    refine AllReadyH.cons (o := _) rfl (fun K hK => ?_) AllReadyH.nil
    rw [if_pos (by rfl)]
    try simp only [List.getElem_toArray, List.getElem_cons_zero, List.getElem_cons_succ]
    go_simp
    refine (count_any m hm 1 _).mono ?_
    rintro e w5 ⟨rfl, hb5⟩
    go_wp2_with fail
    refine hK.out _ _ (hkp _ (bCat hb5 (by assumption))) (fun hHeld5 => ?_)
    clear hK K
    try simp only [List.getElem_toArray, List.getElem_cons_zero, List.getElem_cons_succ, Act.put, List.setIfInBounds_toArray, List.set_cons_zero, List.set_cons_succ]
    refine wpAnyH_take (i := 7) (oi := _) (v := ?v7) rfl (by kernel_rfl) (by kernel_rfl) (by kernel_rfl) (fun _ _ _ h => h) (Or.inl ⟨by rfl, ?y7⟩) (by assumption) ?r7
    case y7 => intro w1 hSw; obtain ⟨s1, s2, s3, s4⟩ := hSw; go_simp; try with_reducible rfl
    try simp only [List.getElem_toArray, List.getElem_cons_zero, List.getElem_cons_succ, Act.put, List.setIfInBounds_toArray, List.set_cons_zero, List.set_cons_succ]
    refine wpAnyH_ready (rs := [9]) (by kernel_rfl) (by simp) ?_
    refine AllReadyH.cons (o := _) rfl (fun K hK => ?_) AllReadyH.nil
    rw [if_pos (by rfl)]
    try simp only [List.getElem_toArray, List.getElem_cons_zero, List.getElem_cons_succ]
    go_simp
    refine (most_any m hm _).mono ?_
    rintro e w9 ⟨rfl, hb9⟩
    go_wp2_with fail
    refine hK.out _ _ (hkp _ (bCat hb9 (by assumption))) (fun hHeld9 => ?_)
    clear hK K
    try simp only [List.getElem_toArray, List.getElem_cons_zero, List.getElem_cons_succ, Act.put, List.setIfInBounds_toArray, List.set_cons_zero, List.set_cons_succ]
    refine wpAnyH_take (i := 10) (oi := _) (v := ?v10) rfl (by kernel_rfl) (by kernel_rfl) (by kernel_rfl) (fun _ _ _ h => h) (Or.inl ⟨by rfl, ?y10⟩) (by assumption) ?r10
    case y10 => intro w1 hSw; obtain ⟨s1, s2, s3, s4⟩ := hSw; go_simp; try with_reducible rfl
    try simp only [List.getElem_toArray, List.getElem_cons_zero, List.getElem_cons_succ, Act.put, List.setIfInBounds_toArray, List.set_cons_zero, List.set_cons_succ]
    refine wpAnyH_take (i := 11) (oi := _) (v := ?v11) rfl (by kernel_rfl) (by kernel_rfl) (by kernel_rfl) (fun _ _ _ h => h) (Or.inl ⟨by rfl, ?y11⟩) (by assumption) ?r11
    case y11 => intro w1 hSw; obtain ⟨s1, s2, s3, s4⟩ := hSw; go_simp; try with_reducible rfl
    try simp only [List.getElem_toArray, List.getElem_cons_zero, List.getElem_cons_succ, Act.put, List.setIfInBounds_toArray, List.set_cons_zero, List.set_cons_succ]
    refine wpAnyH_take (i := 12) (oi := _) (v := ?v12) rfl (by kernel_rfl) (by kernel_rfl) (by kernel_rfl) (fun _ _ _ h => h) (Or.inl ⟨by rfl, ?y12⟩) (by assumption) ?r12
    case y12 => intro w1 hSw; obtain ⟨s1, s2, s3, s4⟩ := hSw; go_simp; try with_reducible rfl
    try simp only [List.getElem_toArray, List.getElem_cons_zero, List.getElem_cons_succ, Act.put, List.setIfInBounds_toArray, List.set_cons_zero, List.set_cons_succ]
    refine wpAnyH_done (by kernel_rfl) ?_ _
    refine NoPanic.normal ?_
    have hb9' : Below W.heap.size W w9 := hHeld9.1
    have hK9 : w9.heap[D]? = some (.deferred (some [])) := by
      have hDl : D < W.heap.size := (Array.getElem?_eq_some_iff.1 hK).1
      rw [hb9'.block D hDl]; exact hK
    gi_wp2
    refine ⟨by simp, .inl ⟨_, _, rfl, run_takeDeferred hK9, ?_⟩⟩
    have hWb : Below w.heap.size w w9 := hB.trans (hb9'.mono hB.size)
    refine ⟨_, results_tmp2 rfl _ _ _, ?_, hWb.trans (belowK_b (w := w) (Nat.le_refl _) w9 D _ _ (by omega) hK9 rfl rfl)⟩
    unfold won lost
    rw [hT, hN]
    rfl
end Go.Proofs.Ytfeaoapjgcibmaa

