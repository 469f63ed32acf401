/- Index. -/
import Derived.Test.YtfeaoapjgcibmaaD
import Derived.Test.YtfeaoapjgcibmaaP
set_option linter.unusedVariables false
set_option linter.unusedSimpArgs false
namespace Go.Proofs.Ytfeaoapjgcibmaa
open Go.RowKit Go.Shelf
attribute [local go_sem] Oper.semAt_some
/-- a whole block -/
def Blk (W : World) (B : Nat) (t : TypeId) (cs : Array Value) : Prop := W.heap[B]? = some (.cells cs t (0, 0))
theorem Blk.lt {W : World} {B : Nat} {t : TypeId} {cs : Array Value} (h : Blk W B t cs) : B < W.heap.size := (Array.getElem?_eq_some_iff.1 h).1
theorem Blk.kept {W W' : World} {row : Option Nat} {B : Nat} {t : TypeId} {cs : Array Value} (h : Blk W B t cs) (hg : W.grownBy W' row) (hne : some B ≠ row) : Blk W' B t cs := (hg.block B h.lt hne).trans h
theorem Blk.alloc {W : World} {B : Nat} {t : TypeId} {cs : Array Value} (h : Blk W B t cs) (o : Obj) : Blk (W.alloc o) B t cs := h.kept (World.grownBy_alloc W o none) (by simp)
theorem Blk.new (W : World) (t : TypeId) (cs : Array Value) : Blk (W.alloc (.cells cs t)) W.heap.size t cs := World.alloc_heap_new W _
theorem Blk.below {W W' : World} {B : Nat} {t : TypeId} {cs : Array Value} (h : Blk W B t cs) (hb : Below W.heap.size W W') : Blk W' B t cs := (hb.block B h.lt).trans h
theorem Blk.cell {W : World} {B : Nat} {t : TypeId} {cs : Array Value} (h : Blk W B t cs) (o : Nat) : W.cell? ⟨B, o, none⟩ = cs[o]? := by simp [World.cell?, show W.heap[B]? = _ from h]
theorem blk_own (B : Nat) (t : TypeId) (cs : Array Value) : Own (fun (_ : Unit) W => Blk W B t cs) := by
  intro s A W' row hs hg hr
  refine hs.kept hg ?_
  intro e
  obtain ⟨ob, ho, hc⟩ := hr B e.symm
  rw [show A.heap[B]? = _ from hs] at ho
  cases ho
  cases hc
theorem Blk.other {W : World} {B B' : Nat} {t : TypeId} {cs : Array Value} (h : Blk W B t cs) (hne : B ≠ B') (u : Value) : Blk (W.setCell ⟨B', 0, none⟩ u) B t cs := h.kept (grownBy_setCell' W B' u) (fun e => hne (by cases e; rfl))
theorem hav_add (mt : Nat → Int) (n : Nat) (v : Int) (l : List (Fin 9)) (x : Fin 9) : hav mt n v (l ++ [x]) = hav mt n v l + (if decide (x.val < n) && decide (v ≤ mt x.val) then 1 else 0) := by
  unfold hav
  rw [List.filter_append, List.length_append]
  by_cases h : (decide (x.val < n) && decide (v ≤ mt x.val)) = true <;> simp [List.filter, h]
theorem hav_le (mt : Nat → Int) (n : Nat) (v : Int) (l : List (Fin 9)) : hav mt n v l ≤ l.length := List.length_filter_le _ _
theorem wpIn_once {F : Fence} {n : Nat} {P : Program} {c : Code} {Q : Exit → Act → World → Prop} {a A : Act} {w W' : World} (h : c.wpIn F n P (fun e a' w' => e = .normal ∧ a' = A ∧ w' = W') a w) (hq : Q .normal A W') : c.wpIn F n P Q a w :=
  wpIn_mono h (fun e a w h => by obtain ⟨rfl, rfl, rfl⟩ := h; exact hq)
theorem wpIn_below {F : Fence} {n n0 : Nat} {P : Program} {c : Code} {Q : Exit → Act → World → Prop} {a A : Act} {w : World} (h : c.wpIn F n P (fun e a' w' => e = .normal ∧ a' = A ∧ Below n0 w w') a w) (hq : ∀ w', Below n0 w w' → Q .normal A w') : c.wpIn F n P Q a w :=
  wpIn_mono h (fun e a w h => by obtain ⟨rfl, rfl, hb⟩ := h; exact hq _ hb)
theorem keepsO_of_below {W W' : World} (h : Below W.heap.size W W') : KeepsOthers W W' := ⟨h.size, fun k o ho _ => (h.block k (Array.getElem?_eq_some_iff.1 ho).1).trans ho⟩
theorem iKeep {W w' : World} {B V : Nat} {m : Nat → Int} {N : Int} (hV : V < W.heap.size) (hA : W.cell? ⟨V, 0, none⟩ = some (.int .i64 N))
    (hB : Blk W B 25 #[.int .u8 (m 0), .int .u8 (m 1), .int .u8 (m 2), .int .u8 (m 3), .int .u8 (m 4), .int .u8 (m 5), .int .u8 (m 6), .int .u8 (m 7), .int .u8 (m 8)]) (hb : Below W.heap.size W w') :
    Below W.heap.size W w' ∧ w'.cell? ⟨V, 0, none⟩ = some (.int .i64 N) ∧ w'.rangeAt B 0 [.int .u8 (m 0), .int .u8 (m 1), .int .u8 (m 2), .int .u8 (m 3), .int .u8 (m 4), .int .u8 (m 5), .int .u8 (m 6), .int .u8 (m 7), .int .u8 (m 8)] := by
  exact ⟨hb, (hb.cell (p := ⟨V, 0, none⟩) hV).trans hA, fun j v h => by rw [Nat.zero_add, (hB.below hb).cell]; simpa using h⟩
set_option maxRecDepth 100000 in
set_option maxHeartbeats 2000000 in
theorem index_in (F : Fence) (n : Nat) (hF : Hid (F = Fence.wide)) (h12 : F.fn 12) (h13 : F.fn 13) (h23 : F.fn 23) (h26 : F.fn 26) (h27 : F.fn 27) (hro : F.round = none) (hn : 9 ≤ n) (m : Nat → Int) (hm : ∀ k, k < 9 → 0 ≤ m k ∧ m k ≤ 255) (a : Option Addr) (len cap : Nat) (hl : len ≤ 9223372036854775807) (mt : Nat → Int) (w : World) (hrow : Row w a len (fun j => .int .i64 (mt j))) :
    CallsIn F n Try.prog 12 #[.agg #[.int .u8 (m 0), .int .u8 (m 1), .int .u8 (m 2), .int .u8 (m 3), .int .u8 (m 4), .int .u8 (m 5), .int .u8 (m 6), .int .u8 (m 7), .int .u8 (m 8)], .slice a len cap] w fun e W' => e = .returned (.int .i64 (idx m mt len (sel m 1 9))) ∧ Below w.heap.size w W' := by
  have h1 : 1 ≤ n := by omega
  refine callsIn_of_wp_marks Try.func12 rfl h12 ?_ hro
  simp only [Try.ntmps12, List.size_toArray, List.length_cons, List.length_nil, Nat.reduceAdd, Nat.reduceSub, Array.replicate_succ, Array.replicate_zero, List.push_toArray, List.append_toArray, List.nil_append, List.cons_append]
  gi_wp2_with (gi_at_call 26; refine (all_in F (n - 1) h26 hro _ _ _).mono ?_; rintro e w' ⟨rfl, rfl⟩)
  have b2 := ((((Blk.new w 25 #[.int .u8 (m 0), .int .u8 (m 1), .int .u8 (m 2), .int .u8 (m 3), .int .u8 (m 4), .int .u8 (m 5), .int .u8 (m 6), .int .u8 (m 7), .int .u8 (m 8)]).alloc (.cells #[.slice a len cap] 22)).alloc (.cells #[.int .i64 0] 3)).alloc (.cells #[.int .u8 (m 0), .int .u8 (m 1), .int .u8 (m 2), .int .u8 (m 3), .int .u8 (m 4), .int .u8 (m 5), .int .u8 (m 6), .int .u8 (m 7), .int .u8 (m 8)] 25)).alloc (.cells #[.int .i64 1] 3)
  have b3 := (((Boxed.new (w.alloc (.cells #[.int .u8 (m 0), .int .u8 (m 1), .int .u8 (m 2), .int .u8 (m 3), .int .u8 (m 4), .int .u8 (m 5), .int .u8 (m 6), .int .u8 (m 7), .int .u8 (m 8)] 25)) 22 (.slice a len cap)).alloc (.cells #[.int .i64 0] 3)).alloc (.cells #[.int .u8 (m 0), .int .u8 (m 1), .int .u8 (m 2), .int .u8 (m 3), .int .u8 (m 4), .int .u8 (m 5), .int .u8 (m 6), .int .u8 (m 7), .int .u8 (m 8)] 25)).alloc (.cells #[.int .i64 1] 3)
  have b5 := ((Boxed.new ((w.alloc (.cells #[.int .u8 (m 0), .int .u8 (m 1), .int .u8 (m 2), .int .u8 (m 3), .int .u8 (m 4), .int .u8 (m 5), .int .u8 (m 6), .int .u8 (m 7), .int .u8 (m 8)] 25)).alloc (.cells #[.slice a len cap] 22)) 3 (.int .i64 0)).alloc (.cells #[.int .u8 (m 0), .int .u8 (m 1), .int .u8 (m 2), .int .u8 (m 3), .int .u8 (m 4), .int .u8 (m 5), .int .u8 (m 6), .int .u8 (m 7), .int .u8 (m 8)] 25)).alloc (.cells #[.int .i64 1] 3)
  have bM := (Blk.new (((w.alloc (.cells #[.int .u8 (m 0), .int .u8 (m 1), .int .u8 (m 2), .int .u8 (m 3), .int .u8 (m 4), .int .u8 (m 5), .int .u8 (m 6), .int .u8 (m 7), .int .u8 (m 8)] 25)).alloc (.cells #[.slice a len cap] 22)).alloc (.cells #[.int .i64 0] 3)) 25 #[.int .u8 (m 0), .int .u8 (m 1), .int .u8 (m 2), .int .u8 (m 3), .int .u8 (m 4), .int .u8 (m 5), .int .u8 (m 6), .int .u8 (m 7), .int .u8 (m 8)]).alloc (.cells #[.int .i64 1] 3)
  have bR := Boxed.new ((((w.alloc (.cells #[.int .u8 (m 0), .int .u8 (m 1), .int .u8 (m 2), .int .u8 (m 3), .int .u8 (m 4), .int .u8 (m 5), .int .u8 (m 6), .int .u8 (m 7), .int .u8 (m 8)] 25)).alloc (.cells #[.slice a len cap] 22)).alloc (.cells #[.int .i64 0] 3)).alloc (.cells #[.int .u8 (m 0), .int .u8 (m 1), .int .u8 (m 2), .int .u8 (m 3), .int .u8 (m 4), .int .u8 (m 5), .int .u8 (m 6), .int .u8 (m 7), .int .u8 (m 8)] 25)) 3 (.int .i64 1)
  simp only [World.size_alloc] at b2 b3 b5 bM bR
  have hB0 : Below w.heap.size w (((((w.alloc (.cells #[.int .u8 (m 0), .int .u8 (m 1), .int .u8 (m 2), .int .u8 (m 3), .int .u8 (m 4), .int .u8 (m 5), .int .u8 (m 6), .int .u8 (m 7), .int .u8 (m 8)] 25)).alloc (.cells #[.slice a len cap] 22)).alloc (.cells #[.int .i64 0] 3)).alloc (.cells #[.int .u8 (m 0), .int .u8 (m 1), .int .u8 (m 2), .int .u8 (m 3), .int .u8 (m 4), .int .u8 (m 5), .int .u8 (m 6), .int .u8 (m 7), .int .u8 (m 8)] 25)).alloc (.cells #[.int .i64 1] 3)) := ((((((Below.refl _ w).alloc (Nat.le_refl _) _).alloc (by simp) _).alloc (by simp; omega) _).alloc (by simp; omega) _).alloc (by simp; omega) _)
  have hsz : (((((w.alloc (.cells #[.int .u8 (m 0), .int .u8 (m 1), .int .u8 (m 2), .int .u8 (m 3), .int .u8 (m 4), .int .u8 (m 5), .int .u8 (m 6), .int .u8 (m 7), .int .u8 (m 8)] 25)).alloc (.cells #[.slice a len cap] 22)).alloc (.cells #[.int .i64 0] 3)).alloc (.cells #[.int .u8 (m 0), .int .u8 (m 1), .int .u8 (m 2), .int .u8 (m 3), .int .u8 (m 4), .int .u8 (m 5), .int .u8 (m 6), .int .u8 (m 7), .int .u8 (m 8)] 25)).alloc (.cells #[.int .i64 1] 3)).heap.size = w.heap.size + 5 := by simp
  obtain ⟨W0, hW0⟩ : ∃ W0, (((((w.alloc (.cells #[.int .u8 (m 0), .int .u8 (m 1), .int .u8 (m 2), .int .u8 (m 3), .int .u8 (m 4), .int .u8 (m 5), .int .u8 (m 6), .int .u8 (m 7), .int .u8 (m 8)] 25)).alloc (.cells #[.slice a len cap] 22)).alloc (.cells #[.int .i64 0] 3)).alloc (.cells #[.int .u8 (m 0), .int .u8 (m 1), .int .u8 (m 2), .int .u8 (m 3), .int .u8 (m 4), .int .u8 (m 5), .int .u8 (m 6), .int .u8 (m 7), .int .u8 (m 8)] 25)).alloc (.cells #[.int .i64 1] 3)) = W0 := ⟨_, rfl⟩
  rw [hW0] at b2 b3 b5 bM bR hB0 hsz ⊢
  clear hW0
  refine wpIn_rangeFunc_ownH hro h1 (gf := 27) (lb := #[.pointer (some ⟨w.heap.size + 1 + 1 + 1, 0, none⟩), .pointer (some ⟨w.heap.size + 1 + 1 + 1 + 1, 0, none⟩)]) rfl h27 (enters_of Try.func27 (by kernel_rfl) rfl)
    (all_stops F (n - 1) h27 hro (by omega) (w.heap.size + 1 + 1 + 1) (w.heap.size + 1 + 1 + 1 + 1) m hm 1 W0 ⟨by omega, by omega⟩ (fun o => bM.cell o) bR.cell) keepR_t (keepR_b (by omega)) (Below.refl _ _) (fun _ => rfl)
    (fun pre W => (Blk W w.heap.size 25 #[.int .u8 (m 0), .int .u8 (m 1), .int .u8 (m 2), .int .u8 (m 3), .int .u8 (m 4), .int .u8 (m 5), .int .u8 (m 6), .int .u8 (m 7), .int .u8 (m 8)] ∧ Boxed W (w.heap.size + 1) 22 (.slice a len cap) ∧ Boxed W (w.heap.size + 1 + 1) 3 (.int .i64 (idx m mt len pre)) ∧ Boxed W (w.heap.size + 1 + 1 + 1 + 1) 3 (.int .i64 1)) ∧ Below w.heap.size w W)
    (fun _ _ _ => False)
    ?own
    (fun _ _ _ _ _ hs _ _ => hs)
    ⟨⟨b2, b3, b5, bR⟩, hB0⟩
    (fun x a' W => ∃ Bx, w.heap.size + 1 + 1 + 1 + 1 < Bx ∧ Boxed W Bx 3 (.int .i64 (x.val : Int)) ∧ a' = { tmps := #[.agg #[.int .u8 (m 0), .int .u8 (m 1), .int .u8 (m 2), .int .u8 (m 3), .int .u8 (m 4), .int .u8 (m 5), .int .u8 (m 6), .int .u8 (m 7), .int .u8 (m 8)], .slice a len cap, .pointer (some ⟨w.heap.size, 0, none⟩), .pointer (some ⟨w.heap.size + 1, 0, none⟩), .int .i64 0, .pointer (some ⟨w.heap.size + 1 + 1, 0, none⟩), .pointer (some ⟨Bx, 0, none⟩), undef, undef, .agg #[.int .u8 (m 0), .int .u8 (m 1), .int .u8 (m 2), .int .u8 (m 3), .int .u8 (m 4), .int .u8 (m 5), .int .u8 (m 6), .int .u8 (m 7), .int .u8 (m 8)], .func (.func 27) #[] #[.pointer (some ⟨w.heap.size + 1 + 1 + 1, 0, none⟩), .pointer (some ⟨w.heap.size + 1 + 1 + 1 + 1, 0, none⟩)], .int .i64 (x.val : Int), undef, undef, undef, undef, undef, undef, undef, undef, undef, undef, undef, undef, undef, undef, undef, undef, undef, undef, undef, undef, undef, undef, undef, undef, undef, undef, undef, undef, undef, undef, undef, undef, undef, undef, undef, undef, undef, undef, undef, undef, undef], defers := [] })
    (fun x a' _ X Y row hs hg hr => by obtain ⟨Bx, h1, h2, h3⟩ := hs; exact ⟨Bx, h1, boxed_own Bx 3 (fun (_ : Unit) => Value.int .i64 (x.val : Int)) () X Y row h2 hg (fun r e => (hr r e).2), h3⟩)
    ?assign ?body ?done ?stop
  case stop =>
    rintro D c pre W _ _ h _
    exact h.elim
  case assign =>
    rintro l pre x W K ⟨⟨b2, b3, b5, bR⟩, hB1⟩ hK
    gi_wp2
    exact hK _ _ ((KeepsOthers.alloc _ _).from _) ((bR.alloc _).cell.trans bR.cell.symm) ⟨⟨b2.alloc _, b3.alloc _, b5.alloc _, bR.alloc _⟩, hB1.alloc hB1.size _⟩ ⟨W.heap.size, bR.lt, Boxed.new W 3 _, rfl⟩
  case body =>
    rintro l pre x a' W hl' ⟨r, hr⟩ ⟨⟨b2, b3, b5, bR⟩, hB1⟩ ⟨Bx, hBx, bX, rfl⟩ hlt
    have c3 := b3.cell
    have c5 := b5.cell
    have cX := bX.cell
    have hx := x.isLt
    obtain ⟨k0, k1, k2, k3, k4, k5, k6, k7, k8⟩ : W.cell? ⟨w.heap.size, 0, none⟩ = some (.int .u8 (m 0)) ∧ W.cell? ⟨w.heap.size, 1, none⟩ = some (.int .u8 (m 1)) ∧ W.cell? ⟨w.heap.size, 2, none⟩ = some (.int .u8 (m 2)) ∧ W.cell? ⟨w.heap.size, 3, none⟩ = some (.int .u8 (m 3)) ∧ W.cell? ⟨w.heap.size, 4, none⟩ = some (.int .u8 (m 4)) ∧ W.cell? ⟨w.heap.size, 5, none⟩ = some (.int .u8 (m 5)) ∧ W.cell? ⟨w.heap.size, 6, none⟩ = some (.int .u8 (m 6)) ∧ W.cell? ⟨w.heap.size, 7, none⟩ = some (.int .u8 (m 7)) ∧ W.cell? ⟨w.heap.size, 8, none⟩ = some (.int .u8 (m 8)) :=
      ⟨b2.cell 0, b2.cell 1, b2.cell 2, b2.cell 3, b2.cell 4, b2.cell 5, b2.cell 6, b2.cell 7, b2.cell 8⟩
    by_cases hxl : x.val < len
    · have hrw : Row W a len (fun j => .int .i64 (mt j)) := hrow.below hB1
      rcases hrw with h0 | ⟨b, o, rfl, hb, hcell⟩
      · omega
      · have hc : W.cell? ⟨b, o + x.val, none⟩ = some (.int .i64 (mt x.val)) := hcell x.val hxl
        by_cases hbm : idx m mt len pre < mt x.val
        · have q1 : decide (mt x.val ≤ idx m mt len pre) = false := decide_eq_false_iff_not.2 (by omega)
          have q2 : decide (len ≤ x.val) = false := decide_eq_false_iff_not.2 (by omega)
          gi_wp2_with fail
          apply wpIn_once (W' := W.drew)
          case h =>
            refine calm_region (S := fun w' => w'.cell? ⟨w.heap.size + 1, 0, none⟩ = some (.slice (some ⟨b, o, none⟩) len cap) ∧ w'.cell? ⟨w.heap.size + 1 + 1, 0, none⟩ = some (.int .i64 (idx m mt len pre)) ∧ w'.cell? ⟨Bx, 0, none⟩ = some (.int .i64 (x.val : Int)) ∧ w'.cell? ⟨b, o + x.val, none⟩ = some (.int .i64 (mt x.val))) (by kernel_rfl) (by kernel_rfl) (by rintro ⟨_, _, h, _⟩; cases h) ⟨c3, c5, cX, hc⟩ (fun hHeld => ?_)
            refine wpAnyH_take (i := 0) (oi := _) (v := ?va0) rfl (by kernel_rfl) (by kernel_rfl) (by kernel_rfl) (fun _ _ _ h => (by cases h.1)) (Or.inl ⟨by rfl, ?ya0⟩) (by assumption) ?ra0
            case ya0 => intro w1 hSw; obtain ⟨s0, s1, s2, s3⟩ := hSw; go_simp; try with_reducible rfl
            try simp only [List.getElem_toArray, List.getElem_cons_zero, List.getElem_cons_succ, Act.put, List.setIfInBounds_toArray, List.set_cons_zero, List.set_cons_succ]
            refine wpAnyH_take (i := 1) (oi := _) (v := ?va1) rfl (by kernel_rfl) (by kernel_rfl) (by kernel_rfl) (fun _ _ _ h => (by cases h.1)) (Or.inl ⟨by rfl, ?ya1⟩) (by assumption) ?ra1
            case ya1 => intro w1 hSw; obtain ⟨s0, s1, s2, s3⟩ := hSw; go_simp; try with_reducible rfl
            try simp only [List.getElem_toArray, List.getElem_cons_zero, List.getElem_cons_succ, Act.put, List.setIfInBounds_toArray, List.set_cons_zero, List.set_cons_succ]
            refine wpAnyH_take (i := 2) (oi := _) (v := ?va2) rfl (by kernel_rfl) (by kernel_rfl) (by kernel_rfl) (fun _ _ _ h => (by cases h.1)) (Or.inl ⟨by rfl, ?ya2⟩) (by assumption) ?ra2
            case ya2 => intro w1 hSw; obtain ⟨s0, s1, s2, s3⟩ := hSw; go_simp; try with_reducible rfl
            try simp only [List.getElem_toArray, List.getElem_cons_zero, List.getElem_cons_succ, Act.put, List.setIfInBounds_toArray, List.set_cons_zero, List.set_cons_succ]
            refine wpAnyH_take (i := 3) (oi := _) (v := ?va3) rfl (by kernel_rfl) (by kernel_rfl) (by kernel_rfl) (fun _ _ _ h => (by cases h.1)) (Or.inl ⟨by rfl, ?ya3⟩) (by assumption) ?ra3
            case ya3 => intro w1 hSw; obtain ⟨s0, s1, s2, s3⟩ := hSw; go_simp; try with_reducible rfl
            try simp only [List.getElem_toArray, List.getElem_cons_zero, List.getElem_cons_succ, Act.put, List.setIfInBounds_toArray, List.set_cons_zero, List.set_cons_succ]
            refine wpAnyH_take (i := 4) (oi := _) (v := ?va4) rfl (by kernel_rfl) (by kernel_rfl) (by kernel_rfl) (fun _ _ _ h => (by cases h.1)) (Or.inl ⟨by rfl, ?ya4⟩) (by assumption) ?ra4
            case ya4 => intro w1 hSw; obtain ⟨s0, s1, s2, s3⟩ := hSw; go_simp; try with_reducible rfl
            try simp only [List.getElem_toArray, List.getElem_cons_zero, List.getElem_cons_succ, Act.put, List.setIfInBounds_toArray, List.set_cons_zero, List.set_cons_succ]
            refine wpAnyH_take (i := 5) (oi := _) (v := ?va5) rfl (by kernel_rfl) (by kernel_rfl) (by kernel_rfl) (fun _ _ _ h => (by cases h.1)) (Or.inl ⟨by rfl, ?ya5⟩) (by assumption) ?ra5
            case ya5 => intro w1 hSw; obtain ⟨s0, s1, s2, s3⟩ := hSw; go_simp; try with_reducible rfl
            try simp only [List.getElem_toArray, List.getElem_cons_zero, List.getElem_cons_succ, Act.put, List.setIfInBounds_toArray, List.set_cons_zero, List.set_cons_succ]
            refine wpAnyH_take (i := 6) (oi := _) (v := ?va6) rfl (by kernel_rfl) (by kernel_rfl) (by kernel_rfl) (fun _ _ _ h => (by cases h.1)) (Or.inl ⟨by rfl, ?ya6⟩) (by assumption) ?ra6
            case ya6 => intro w1 hSw; obtain ⟨s0, s1, s2, s3⟩ := hSw; go_simp; try with_reducible rfl
            try simp only [List.getElem_toArray, List.getElem_cons_zero, List.getElem_cons_succ, Act.put, List.setIfInBounds_toArray, List.set_cons_zero, List.set_cons_succ]
            refine wpAnyH_take (i := 7) (oi := _) (v := ?va7) rfl (by kernel_rfl) (by kernel_rfl) (by kernel_rfl) (fun _ _ _ h => (by cases h.1)) (Or.inl ⟨by rfl, ?ya7⟩) (by assumption) ?ra7
            case ya7 => intro w1 hSw; obtain ⟨s0, s1, s2, s3⟩ := hSw; go_simp; try with_reducible rfl
            try simp only [List.getElem_toArray, List.getElem_cons_zero, List.getElem_cons_succ, Act.put, List.setIfInBounds_toArray, List.set_cons_zero, List.set_cons_succ]
            refine wpAnyH_take (i := 8) (oi := _) (v := ?va8) rfl (by kernel_rfl) (by kernel_rfl) (by kernel_rfl) (fun _ _ _ h => (by cases h.1)) (Or.inl ⟨by rfl, ?ya8⟩) (by assumption) ?ra8
            case ya8 => intro w1 hSw; obtain ⟨s0, s1, s2, s3⟩ := hSw; go_simp; try with_reducible rfl
            try simp only [List.getElem_toArray, List.getElem_cons_zero, List.getElem_cons_succ, Act.put, List.setIfInBounds_toArray, List.set_cons_zero, List.set_cons_succ]
            refine wpAnyH_take (i := 9) (oi := _) (v := ?va9) rfl (by kernel_rfl) (by kernel_rfl) (by kernel_rfl) (fun _ _ _ h => (by cases h.1)) (Or.inl ⟨by rfl, ?ya9⟩) (by assumption) ?ra9
            case ya9 => intro w1 hSw; obtain ⟨s0, s1, s2, s3⟩ := hSw; go_simp; try with_reducible rfl
            try simp only [List.getElem_toArray, List.getElem_cons_zero, List.getElem_cons_succ, Act.put, List.setIfInBounds_toArray, List.set_cons_zero, List.set_cons_succ]
            refine wpAnyH_take (i := 10) (oi := _) (v := ?va10) rfl (by kernel_rfl) (by kernel_rfl) (by kernel_rfl) (fun _ _ _ h => (by cases h.1)) (Or.inl ⟨by rfl, ?ya10⟩) (by assumption) ?ra10
            case ya10 => intro w1 hSw; obtain ⟨s0, s1, s2, s3⟩ := hSw; go_simp; try with_reducible rfl
            try simp only [List.getElem_toArray, List.getElem_cons_zero, List.getElem_cons_succ, Act.put, List.setIfInBounds_toArray, List.set_cons_zero, List.set_cons_succ]
            refine wpAnyH_take (i := 11) (oi := _) (v := ?va11) rfl (by kernel_rfl) (by kernel_rfl) (by kernel_rfl) (fun _ _ _ h => (by cases h.1)) (Or.inl ⟨by rfl, ?ya11⟩) (by assumption) ?ra11
            case ya11 => intro w1 hSw; obtain ⟨s0, s1, s2, s3⟩ := hSw; go_simp; try with_reducible rfl
            try simp only [List.getElem_toArray, List.getElem_cons_zero, List.getElem_cons_succ, Act.put, List.setIfInBounds_toArray, List.set_cons_zero, List.set_cons_succ]
            refine wpAnyH_done (by kernel_rfl) ?_ _
            exact ⟨rfl, rfl, rfl⟩
          case hq =>
            have h1' : 1 ≤ n - 1 - 1 := by omega
            obtain ⟨V, hV⟩ : ∃ V, W.drew = V := ⟨_, rfl⟩
            have bV : Below w.heap.size W V := by rw [← hV]; exact (Below.refl _ W).drew
            have kV : KeepsOthers W V := by rw [← hV]; exact KeepsOthers.drew W
            have d2 : Blk V w.heap.size 25 #[.int .u8 (m 0), .int .u8 (m 1), .int .u8 (m 2), .int .u8 (m 3), .int .u8 (m 4), .int .u8 (m 5), .int .u8 (m 6), .int .u8 (m 7), .int .u8 (m 8)] := by rw [← hV]; exact b2
            have d3 : Boxed V (w.heap.size + 1) 22 (.slice (some ⟨b, o, none⟩) len cap) := by rw [← hV]; exact b3
            have d5 : Boxed V (w.heap.size + 1 + 1) 3 (.int .i64 (idx m mt len pre)) := by rw [← hV]; exact b5
            have dR : Boxed V (w.heap.size + 1 + 1 + 1 + 1) 3 (.int .i64 1) := by rw [← hV]; exact bR
            have dX : Boxed V Bx 3 (.int .i64 (x.val : Int)) := by rw [← hV]; exact bX
            rw [hV]
            clear hV k0 k1 k2 k3 k4 k5 k6 k7 k8 c3 c5 cX hc
            have n2 : w.heap.size < V.heap.size := d2.lt
            have n3 : w.heap.size + 1 < V.heap.size := d3.lt
            have n5 : w.heap.size + 1 + 1 < V.heap.size := d5.lt
            have nX : Bx < V.heap.size := dX.lt
            have k0 := d2.cell 0
            have k1 := d2.cell 1
            have k2 := d2.cell 2
            have k3 := d2.cell 3
            have k4 := d2.cell 4
            have k5 := d2.cell 5
            have k6 := d2.cell 6
            have k7 := d2.cell 7
            have k8 := d2.cell 8
            simp only [List.getElem?_toArray, List.getElem?_cons_zero, List.getElem?_cons_succ] at k0 k1 k2 k3 k4 k5 k6 k7 k8
            gi_wp2_with (gi_at_call 26; refine (CallsIn.inRound l (all_in F (n - 1 - 1 - 1) h26 hro _ _ _)).mono ?_; rintro e w' ⟨rfl, rfl⟩)
            have hsW := hB1.size
            have eS : (((V.alloc (.cells #[.int .i64 0] 3)).alloc (.cells #[.int .u8 (m 0), .int .u8 (m 1), .int .u8 (m 2), .int .u8 (m 3), .int .u8 (m 4), .int .u8 (m 5), .int .u8 (m 6), .int .u8 (m 7), .int .u8 (m 8)] 25)).alloc (.cells #[.int .i64 1] 3)).heap.size = V.heap.size + 3 := by simp
            have i2 := ((d2.alloc (.cells #[.int .i64 0] 3)).alloc (.cells #[.int .u8 (m 0), .int .u8 (m 1), .int .u8 (m 2), .int .u8 (m 3), .int .u8 (m 4), .int .u8 (m 5), .int .u8 (m 6), .int .u8 (m 7), .int .u8 (m 8)] 25)).alloc (.cells #[.int .i64 1] 3)
            have i3 := ((d3.alloc (.cells #[.int .i64 0] 3)).alloc (.cells #[.int .u8 (m 0), .int .u8 (m 1), .int .u8 (m 2), .int .u8 (m 3), .int .u8 (m 4), .int .u8 (m 5), .int .u8 (m 6), .int .u8 (m 7), .int .u8 (m 8)] 25)).alloc (.cells #[.int .i64 1] 3)
            have i5 := ((d5.alloc (.cells #[.int .i64 0] 3)).alloc (.cells #[.int .u8 (m 0), .int .u8 (m 1), .int .u8 (m 2), .int .u8 (m 3), .int .u8 (m 4), .int .u8 (m 5), .int .u8 (m 6), .int .u8 (m 7), .int .u8 (m 8)] 25)).alloc (.cells #[.int .i64 1] 3)
            have iR := ((dR.alloc (.cells #[.int .i64 0] 3)).alloc (.cells #[.int .u8 (m 0), .int .u8 (m 1), .int .u8 (m 2), .int .u8 (m 3), .int .u8 (m 4), .int .u8 (m 5), .int .u8 (m 6), .int .u8 (m 7), .int .u8 (m 8)] 25)).alloc (.cells #[.int .i64 1] 3)
            have iX := ((dX.alloc (.cells #[.int .i64 0] 3)).alloc (.cells #[.int .u8 (m 0), .int .u8 (m 1), .int .u8 (m 2), .int .u8 (m 3), .int .u8 (m 4), .int .u8 (m 5), .int .u8 (m 6), .int .u8 (m 7), .int .u8 (m 8)] 25)).alloc (.cells #[.int .i64 1] 3)
            have iN := ((Boxed.new V 3 (.int .i64 0)).alloc (.cells #[.int .u8 (m 0), .int .u8 (m 1), .int .u8 (m 2), .int .u8 (m 3), .int .u8 (m 4), .int .u8 (m 5), .int .u8 (m 6), .int .u8 (m 7), .int .u8 (m 8)] 25)).alloc (.cells #[.int .i64 1] 3)
            have iM := (Blk.new (V.alloc (.cells #[.int .i64 0] 3)) 25 #[.int .u8 (m 0), .int .u8 (m 1), .int .u8 (m 2), .int .u8 (m 3), .int .u8 (m 4), .int .u8 (m 5), .int .u8 (m 6), .int .u8 (m 7), .int .u8 (m 8)]).alloc (.cells #[.int .i64 1] 3)
            have iQ := Boxed.new ((V.alloc (.cells #[.int .i64 0] 3)).alloc (.cells #[.int .u8 (m 0), .int .u8 (m 1), .int .u8 (m 2), .int .u8 (m 3), .int .u8 (m 4), .int .u8 (m 5), .int .u8 (m 6), .int .u8 (m 7), .int .u8 (m 8)] 25)) 3 (.int .i64 1)
            simp only [World.size_alloc] at iM iQ
            have bb2 : Below w.heap.size W (((V.alloc (.cells #[.int .i64 0] 3)).alloc (.cells #[.int .u8 (m 0), .int .u8 (m 1), .int .u8 (m 2), .int .u8 (m 3), .int .u8 (m 4), .int .u8 (m 5), .int .u8 (m 6), .int .u8 (m 7), .int .u8 (m 8)] 25)).alloc (.cells #[.int .i64 1] 3)) := ((bV.alloc (by omega) _).alloc (by simp; omega) _).alloc (by simp; omega) _
            have kk2 : KeepsFrom W0.heap.size W (((V.alloc (.cells #[.int .i64 0] 3)).alloc (.cells #[.int .u8 (m 0), .int .u8 (m 1), .int .u8 (m 2), .int .u8 (m 3), .int .u8 (m 4), .int .u8 (m 5), .int .u8 (m 6), .int .u8 (m 7), .int .u8 (m 8)] 25)).alloc (.cells #[.int .i64 1] 3)) := (kV.trans ((KeepsOthers.alloc _ _).trans ((KeepsOthers.alloc _ _).trans (KeepsOthers.alloc _ _)))).from _
            have hr' : (((V.alloc (.cells #[.int .i64 0] 3)).alloc (.cells #[.int .u8 (m 0), .int .u8 (m 1), .int .u8 (m 2), .int .u8 (m 3), .int .u8 (m 4), .int .u8 (m 5), .int .u8 (m 6), .int .u8 (m 7), .int .u8 (m 8)] 25)).alloc (.cells #[.int .i64 1] 3)).heap[l]? = some (.loop r) := kk2.same l _ hl' hr rfl
            obtain ⟨Wi, hWi⟩ : ∃ Wi, ((V.alloc (.cells #[.int .i64 0] 3)).alloc (.cells #[.int .u8 (m 0), .int .u8 (m 1), .int .u8 (m 2), .int .u8 (m 3), .int .u8 (m 4), .int .u8 (m 5), .int .u8 (m 6), .int .u8 (m 7), .int .u8 (m 8)] 25)).alloc (.cells #[.int .i64 1] 3) = Wi := ⟨_, rfl⟩
            rw [hWi] at eS i2 i3 i5 iR iX iN iM iQ bb2 kk2 hr' ⊢
            clear hWi k0 k1 k2 k3 k4 k5 k6 k7 k8
            refine wpIn_rangeFunc_ownN (l₀ := l) (r₀ := r) rfl hr' h1' (gf := 27) (lb := #[.pointer (some ⟨V.heap.size + 1, 0, none⟩), .pointer (some ⟨V.heap.size + 1 + 1, 0, none⟩)]) rfl h27 (enters_of Try.func27 (by kernel_rfl) rfl)
              ((all_stops F (n - 1 - 1 - 1) h27 hro (by omega) (V.heap.size + 1) (V.heap.size + 1 + 1) m hm 1 Wi ⟨by omega, by omega⟩ (fun o => iM.cell o) iQ.cell).inRound l) keepR_t (keepR_b (by omega)) (Below.refl _ _) (fun _ => rfl)
              (fun pre' W' => (Blk W' w.heap.size 25 #[.int .u8 (m 0), .int .u8 (m 1), .int .u8 (m 2), .int .u8 (m 3), .int .u8 (m 4), .int .u8 (m 5), .int .u8 (m 6), .int .u8 (m 7), .int .u8 (m 8)] ∧ Boxed W' (w.heap.size + 1) 22 (.slice (some ⟨b, o, none⟩) len cap) ∧ Boxed W' (w.heap.size + 1 + 1) 3 (.int .i64 (idx m mt len pre)) ∧ Boxed W' (w.heap.size + 1 + 1 + 1 + 1) 3 (.int .i64 1) ∧ Boxed W' Bx 3 (.int .i64 (x.val : Int)) ∧ Boxed W' V.heap.size 3 (.int .i64 (hav mt len (mt x.val) pre' : Int)) ∧ Boxed W' (V.heap.size + 1 + 1) 3 (.int .i64 1)) ∧ (Below w.heap.size W W' ∧ KeepsFrom W0.heap.size W W'))
              (fun _ _ _ => False)
              ?own2
              (fun _ _ _ _ _ hs _ _ => hs)
              ⟨⟨i2, i3, i5, iR, iX, iN, iQ⟩, bb2, kk2⟩
              (fun z a'' _ => a'' = { tmps := #[.agg #[.int .u8 (m 0), .int .u8 (m 1), .int .u8 (m 2), .int .u8 (m 3), .int .u8 (m 4), .int .u8 (m 5), .int .u8 (m 6), .int .u8 (m 7), .int .u8 (m 8)], .slice (some ⟨b, o, none⟩) len cap, .pointer (some ⟨w.heap.size, 0, none⟩), .pointer (some ⟨w.heap.size + 1, 0, none⟩), .int .i64 0, .pointer (some ⟨w.heap.size + 1 + 1, 0, none⟩), .pointer (some ⟨Bx, 0, none⟩), .pointer (some ⟨V.heap.size, 0, none⟩), .int .i64 (z.val : Int), .agg #[.int .u8 (m 0), .int .u8 (m 1), .int .u8 (m 2), .int .u8 (m 3), .int .u8 (m 4), .int .u8 (m 5), .int .u8 (m 6), .int .u8 (m 7), .int .u8 (m 8)], .func (.func 27) #[] #[.pointer (some ⟨w.heap.size + 1 + 1 + 1, 0, none⟩), .pointer (some ⟨w.heap.size + 1 + 1 + 1 + 1, 0, none⟩)], .int .i64 (x.val : Int), .int .i64 (x.val : Int), .slice (some ⟨b, o, none⟩) len cap, .int .i64 (len : Int), .bool false, .bool false, .slice (some ⟨b, o, none⟩) len cap, .int .i64 (x.val : Int), .pointer (some ⟨b, o + x.val, none⟩), .int .i64 (mt x.val), .int .i64 (idx m mt len pre), .bool false, .bool false, .agg #[.int .u8 (m 0), .int .u8 (m 1), .int .u8 (m 2), .int .u8 (m 3), .int .u8 (m 4), .int .u8 (m 5), .int .u8 (m 6), .int .u8 (m 7), .int .u8 (m 8)], .func (.func 27) #[] #[.pointer (some ⟨V.heap.size + 1, 0, none⟩), .pointer (some ⟨V.heap.size + 1 + 1, 0, none⟩)], .int .i64 (z.val : Int), undef, undef, undef, undef, undef, undef, undef, undef, undef, undef, undef, undef, undef, undef, undef, undef, undef, undef, undef, undef, undef, undef, undef, undef, undef, undef], defers := [] })
              (fun _ _ _ _ _ _ hs _ _ => hs)
              ?assign2 ?body2 ?done2 ?stop2
            case stop2 =>
              rintro c pre' W' _ h
              exact h.elim
            case assign2 =>
              rintro l2 pre' y W' K hi hK
              gi_wp2
              exact hK _ _ (KeepsFrom.refl _ _) rfl hi rfl
            case own2 =>
              have hs1 := kV.size
              have hs2 := hB1.size
              refine OwnFrom.and (Own.from (fun s A B row hs hg hr => ?_) _) (OwnFrom.and (ownFrom_below (by omega) (by omega)) (ownFrom_keepsFrom (by omega)))
              obtain ⟨o2, o3, o5, oR, oX, oN, oQ⟩ := hs
              exact ⟨blk_own _ _ _ () A B row o2 hg hr, boxed_own _ _ (fun (_ : Unit) => _) () A B row o3 hg hr, boxed_own _ _ (fun (_ : Unit) => _) () A B row o5 hg hr, boxed_own _ _ (fun (_ : Unit) => _) () A B row oR hg hr, boxed_own _ _ (fun (_ : Unit) => _) () A B row oX hg hr, boxed_own _ _ (fun (_ : Unit) => _) () A B row oN hg hr, boxed_own _ _ (fun (_ : Unit) => _) () A B row oQ hg hr⟩
            case body2 =>
              rintro l2 pre' y a'' W' _ _ ⟨⟨o2, o3, o5, oR, oX, oN, oQ⟩, hBW, hKF⟩ rfl hlt'
              have hvl := hav_le mt len (mt x.val) pre'
              have hle9 : (pre'.length : Int) ≤ 9 := by omega
              have hy := y.isLt
              have hrw' : Row W' (some ⟨b, o, none⟩) len (fun j => .int .i64 (mt j)) := hrow.below (hB1.trans hBW)
              rcases hrw' with h0 | ⟨b', o', hbo, hb', hcell'⟩
              · omega
              · obtain ⟨rfl, rfl⟩ : b = b' ∧ o = o' := by simpa using hbo
                have hcx : W'.cell? ⟨b, o + x.val, none⟩ = some (.int .i64 (mt x.val)) := hcell' x.val hxl
                have e3 := o3.cell
                have eX := oX.cell
                by_cases hyl : y.val < len
                · have hcy : W'.cell? ⟨b, o + y.val, none⟩ = some (.int .i64 (mt y.val)) := hcell' y.val hyl
                  have p1 : decide (y.val < len) = true := decide_eq_true hyl
                  by_cases hxy : mt x.val ≤ mt y.val
                  · have p2 : decide (mt x.val ≤ mt y.val) = true := decide_eq_true hxy
                    have HV : Hid (hav mt len (mt x.val) (pre' ++ [y]) = hav mt len (mt x.val) pre' + 1) := Lib.hid (by rw [hav_add, p1, p2]; rfl)
                    gi_wp2_with fail
                    apply wpIn_once (W' := W'.drew)
                    case h =>
                      refine calm_region (S := fun w' => w'.cell? ⟨w.heap.size + 1, 0, none⟩ = some (.slice (some ⟨b, o, none⟩) len cap) ∧ w'.cell? ⟨Bx, 0, none⟩ = some (.int .i64 (x.val : Int)) ∧ w'.cell? ⟨b, o + x.val, none⟩ = some (.int .i64 (mt x.val)) ∧ w'.cell? ⟨b, o + y.val, none⟩ = some (.int .i64 (mt y.val))) (by kernel_rfl) (by kernel_rfl) (by rintro ⟨_, _, h, _⟩; cases h) ⟨e3, eX, hcx, hcy⟩ (fun hHeld => ?_)
                      refine wpAnyH_take (i := 0) (oi := _) (v := ?vf0) rfl (by kernel_rfl) (by kernel_rfl) (by kernel_rfl) (fun _ _ _ h => (by cases h.1)) (Or.inl ⟨by rfl, ?yf0⟩) (by assumption) ?rf0
                      case yf0 => intro w1 hSw; obtain ⟨s0, s1, s2, s3⟩ := hSw; go_simp; try with_reducible rfl
                      try simp only [List.getElem_toArray, List.getElem_cons_zero, List.getElem_cons_succ, Act.put, List.setIfInBounds_toArray, List.set_cons_zero, List.set_cons_succ]
                      refine wpAnyH_take (i := 1) (oi := _) (v := ?vf1) rfl (by kernel_rfl) (by kernel_rfl) (by kernel_rfl) (fun _ _ _ h => (by cases h.1)) (Or.inl ⟨by rfl, ?yf1⟩) (by assumption) ?rf1
                      case yf1 => intro w1 hSw; obtain ⟨s0, s1, s2, s3⟩ := hSw; go_simp; try with_reducible rfl
                      try simp only [List.getElem_toArray, List.getElem_cons_zero, List.getElem_cons_succ, Act.put, List.setIfInBounds_toArray, List.set_cons_zero, List.set_cons_succ]
                      refine wpAnyH_take (i := 2) (oi := _) (v := ?vf2) rfl (by kernel_rfl) (by kernel_rfl) (by kernel_rfl) (fun _ _ _ h => (by cases h.1)) (Or.inl ⟨by rfl, ?yf2⟩) (by assumption) ?rf2
                      case yf2 => intro w1 hSw; obtain ⟨s0, s1, s2, s3⟩ := hSw; go_simp; try with_reducible rfl
                      try simp only [List.getElem_toArray, List.getElem_cons_zero, List.getElem_cons_succ, Act.put, List.setIfInBounds_toArray, List.set_cons_zero, List.set_cons_succ]
                      refine wpAnyH_take (i := 3) (oi := _) (v := ?vf3) rfl (by kernel_rfl) (by kernel_rfl) (by kernel_rfl) (fun _ _ _ h => (by cases h.1)) (Or.inl ⟨by rfl, ?yf3⟩) (by assumption) ?rf3
                      case yf3 => intro w1 hSw; obtain ⟨s0, s1, s2, s3⟩ := hSw; go_simp; try with_reducible rfl
                      try simp only [List.getElem_toArray, List.getElem_cons_zero, List.getElem_cons_succ, Act.put, List.setIfInBounds_toArray, List.set_cons_zero, List.set_cons_succ]
                      refine wpAnyH_take (i := 4) (oi := _) (v := ?vf4) rfl (by kernel_rfl) (by kernel_rfl) (by kernel_rfl) (fun _ _ _ h => (by cases h.1)) (Or.inl ⟨by rfl, ?yf4⟩) (by assumption) ?rf4
                      case yf4 => intro w1 hSw; obtain ⟨s0, s1, s2, s3⟩ := hSw; go_simp; try with_reducible rfl
                      try simp only [List.getElem_toArray, List.getElem_cons_zero, List.getElem_cons_succ, Act.put, List.setIfInBounds_toArray, List.set_cons_zero, List.set_cons_succ]
                      refine wpAnyH_take (i := 5) (oi := _) (v := ?vf5) rfl (by kernel_rfl) (by kernel_rfl) (by kernel_rfl) (fun _ _ _ h => (by cases h.1)) (Or.inl ⟨by rfl, ?yf5⟩) (by assumption) ?rf5
                      case yf5 => intro w1 hSw; obtain ⟨s0, s1, s2, s3⟩ := hSw; go_simp; try with_reducible rfl
                      try simp only [List.getElem_toArray, List.getElem_cons_zero, List.getElem_cons_succ, Act.put, List.setIfInBounds_toArray, List.set_cons_zero, List.set_cons_succ]
                      refine wpAnyH_take (i := 6) (oi := _) (v := ?vf6) rfl (by kernel_rfl) (by kernel_rfl) (by kernel_rfl) (fun _ _ _ h => (by cases h.1)) (Or.inl ⟨by rfl, ?yf6⟩) (by assumption) ?rf6
                      case yf6 => intro w1 hSw; obtain ⟨s0, s1, s2, s3⟩ := hSw; go_simp; try with_reducible rfl
                      try simp only [List.getElem_toArray, List.getElem_cons_zero, List.getElem_cons_succ, Act.put, List.setIfInBounds_toArray, List.set_cons_zero, List.set_cons_succ]
                      refine wpAnyH_take (i := 7) (oi := _) (v := ?vf7) rfl (by kernel_rfl) (by kernel_rfl) (by kernel_rfl) (fun _ _ _ h => (by cases h.1)) (Or.inl ⟨by rfl, ?yf7⟩) (by assumption) ?rf7
                      case yf7 => intro w1 hSw; obtain ⟨s0, s1, s2, s3⟩ := hSw; go_simp; try with_reducible rfl
                      try simp only [List.getElem_toArray, List.getElem_cons_zero, List.getElem_cons_succ, Act.put, List.setIfInBounds_toArray, List.set_cons_zero, List.set_cons_succ]
                      refine wpAnyH_take (i := 8) (oi := _) (v := ?vf8) rfl (by kernel_rfl) (by kernel_rfl) (by kernel_rfl) (fun _ _ _ h => (by cases h.1)) (Or.inl ⟨by rfl, ?yf8⟩) (by assumption) ?rf8
                      case yf8 => intro w1 hSw; obtain ⟨s0, s1, s2, s3⟩ := hSw; go_simp; try with_reducible rfl
                      try simp only [List.getElem_toArray, List.getElem_cons_zero, List.getElem_cons_succ, Act.put, List.setIfInBounds_toArray, List.set_cons_zero, List.set_cons_succ]
                      refine wpAnyH_take (i := 9) (oi := _) (v := ?vf9) rfl (by kernel_rfl) (by kernel_rfl) (by kernel_rfl) (fun _ _ _ h => (by cases h.1)) (Or.inl ⟨by rfl, ?yf9⟩) (by assumption) ?rf9
                      case yf9 => intro w1 hSw; obtain ⟨s0, s1, s2, s3⟩ := hSw; go_simp; try with_reducible rfl
                      try simp only [List.getElem_toArray, List.getElem_cons_zero, List.getElem_cons_succ, Act.put, List.setIfInBounds_toArray, List.set_cons_zero, List.set_cons_succ]
                      refine wpAnyH_take (i := 10) (oi := _) (v := ?vf10) rfl (by kernel_rfl) (by kernel_rfl) (by kernel_rfl) (fun _ _ _ h => (by cases h.1)) (Or.inl ⟨by rfl, ?yf10⟩) (by assumption) ?rf10
                      case yf10 => intro w1 hSw; obtain ⟨s0, s1, s2, s3⟩ := hSw; go_simp; try with_reducible rfl
                      try simp only [List.getElem_toArray, List.getElem_cons_zero, List.getElem_cons_succ, Act.put, List.setIfInBounds_toArray, List.set_cons_zero, List.set_cons_succ]
                      refine wpAnyH_take (i := 11) (oi := _) (v := ?vf11) rfl (by kernel_rfl) (by kernel_rfl) (by kernel_rfl) (fun _ _ _ h => (by cases h.1)) (Or.inl ⟨by rfl, ?yf11⟩) (by assumption) ?rf11
                      case yf11 => intro w1 hSw; obtain ⟨s0, s1, s2, s3⟩ := hSw; go_simp; try with_reducible rfl
                      try simp only [List.getElem_toArray, List.getElem_cons_zero, List.getElem_cons_succ, Act.put, List.setIfInBounds_toArray, List.set_cons_zero, List.set_cons_succ]
                      refine wpAnyH_take (i := 12) (oi := _) (v := ?vf12) rfl (by kernel_rfl) (by kernel_rfl) (by kernel_rfl) (fun _ _ _ h => (by cases h.1)) (Or.inl ⟨by rfl, ?yf12⟩) (by assumption) ?rf12
                      case yf12 => intro w1 hSw; obtain ⟨s0, s1, s2, s3⟩ := hSw; go_simp; try with_reducible rfl
                      try simp only [List.getElem_toArray, List.getElem_cons_zero, List.getElem_cons_succ, Act.put, List.setIfInBounds_toArray, List.set_cons_zero, List.set_cons_succ]
                      refine wpAnyH_take (i := 13) (oi := _) (v := ?vf13) rfl (by kernel_rfl) (by kernel_rfl) (by kernel_rfl) (fun _ _ _ h => (by cases h.1)) (Or.inl ⟨by rfl, ?yf13⟩) (by assumption) ?rf13
                      case yf13 => intro w1 hSw; obtain ⟨s0, s1, s2, s3⟩ := hSw; go_simp; try with_reducible rfl
                      try simp only [List.getElem_toArray, List.getElem_cons_zero, List.getElem_cons_succ, Act.put, List.setIfInBounds_toArray, List.set_cons_zero, List.set_cons_succ]
                      refine wpAnyH_take (i := 14) (oi := _) (v := ?vf14) rfl (by kernel_rfl) (by kernel_rfl) (by kernel_rfl) (fun _ _ _ h => (by cases h.1)) (Or.inl ⟨by rfl, ?yf14⟩) (by assumption) ?rf14
                      case yf14 => intro w1 hSw; obtain ⟨s0, s1, s2, s3⟩ := hSw; go_simp; try with_reducible rfl
                      try simp only [List.getElem_toArray, List.getElem_cons_zero, List.getElem_cons_succ, Act.put, List.setIfInBounds_toArray, List.set_cons_zero, List.set_cons_succ]
                      refine wpAnyH_done (by kernel_rfl) ?_ _
                      exact ⟨rfl, rfl, rfl⟩
                    case hq =>
                      obtain ⟨W2, hW2⟩ : ∃ W2, W'.drew = W2 := ⟨_, rfl⟩
                      have fN : Boxed W2 V.heap.size 3 (.int .i64 (hav mt len (mt x.val) pre' : Int)) := by rw [← hW2]; exact oN
                      have hK2 : KeepsOthers W' W2 := by rw [← hW2]; exact KeepsOthers.drew W'
                      have hB2 : Below w.heap.size W W2 := by rw [← hW2]; exact hBW.drew
                      have f2 : Blk W2 w.heap.size 25 #[.int .u8 (m 0), .int .u8 (m 1), .int .u8 (m 2), .int .u8 (m 3), .int .u8 (m 4), .int .u8 (m 5), .int .u8 (m 6), .int .u8 (m 7), .int .u8 (m 8)] := by rw [← hW2]; exact o2
                      have f3 : Boxed W2 (w.heap.size + 1) 22 (.slice (some ⟨b, o, none⟩) len cap) := by rw [← hW2]; exact o3
                      have f5 : Boxed W2 (w.heap.size + 1 + 1) 3 (.int .i64 (idx m mt len pre)) := by rw [← hW2]; exact o5
                      have fR : Boxed W2 (w.heap.size + 1 + 1 + 1 + 1) 3 (.int .i64 1) := by rw [← hW2]; exact oR
                      have fX : Boxed W2 Bx 3 (.int .i64 (x.val : Int)) := by rw [← hW2]; exact oX
                      have fQ : Boxed W2 (V.heap.size + 1 + 1) 3 (.int .i64 1) := by rw [← hW2]; exact oQ
                      have hkR : W2.cell? ⟨V.heap.size + 1 + 1, 0, none⟩ = W'.cell? ⟨V.heap.size + 1 + 1, 0, none⟩ := by rw [← hW2]; rfl
                      rw [hW2]
                      clear hW2
                      have cN := fN.cell
                      have fzN := fN.frozen
                      gi_wp2
                      exact ⟨(hK2.trans (KeepsOthers.setCell _ _ _)).from _, (setCell_block' _ (by show V.heap.size ≠ V.heap.size + 1 + 1; omega)).trans hkR, ⟨⟨f2.other (by omega) _, f3.other (by omega) _, f5.other (by omega) _, fR.other (by omega) _, fX.other (by omega) _, by rw [HV.out]; push_cast; exact fN.set _, fQ.other (by omega) _⟩, hB2.setCell (p := ⟨V.heap.size, 0, none⟩) (by simp; omega) _, hKF.trans ((hK2.trans (KeepsOthers.setCell _ _ _)).from _)⟩⟩
                  · have p2 : decide (mt x.val ≤ mt y.val) = false := decide_eq_false hxy
                    have HV : Hid (hav mt len (mt x.val) (pre' ++ [y]) = hav mt len (mt x.val) pre') := Lib.hid (by rw [hav_add, p1, p2]; rfl)
                    gi_wp2_with fail
                    apply wpIn_once (W' := W'.drew)
                    case h =>
                      refine calm_region (S := fun w' => w'.cell? ⟨w.heap.size + 1, 0, none⟩ = some (.slice (some ⟨b, o, none⟩) len cap) ∧ w'.cell? ⟨Bx, 0, none⟩ = some (.int .i64 (x.val : Int)) ∧ w'.cell? ⟨b, o + x.val, none⟩ = some (.int .i64 (mt x.val)) ∧ w'.cell? ⟨b, o + y.val, none⟩ = some (.int .i64 (mt y.val))) (by kernel_rfl) (by kernel_rfl) (by rintro ⟨_, _, h, _⟩; cases h) ⟨e3, eX, hcx, hcy⟩ (fun hHeld => ?_)
                      refine wpAnyH_take (i := 0) (oi := _) (v := ?vg0) rfl (by kernel_rfl) (by kernel_rfl) (by kernel_rfl) (fun _ _ _ h => (by cases h.1)) (Or.inl ⟨by rfl, ?yg0⟩) (by assumption) ?rg0
                      case yg0 => intro w1 hSw; obtain ⟨s0, s1, s2, s3⟩ := hSw; go_simp; try with_reducible rfl
                      try simp only [List.getElem_toArray, List.getElem_cons_zero, List.getElem_cons_succ, Act.put, List.setIfInBounds_toArray, List.set_cons_zero, List.set_cons_succ]
                      refine wpAnyH_take (i := 1) (oi := _) (v := ?vg1) rfl (by kernel_rfl) (by kernel_rfl) (by kernel_rfl) (fun _ _ _ h => (by cases h.1)) (Or.inl ⟨by rfl, ?yg1⟩) (by assumption) ?rg1
                      case yg1 => intro w1 hSw; obtain ⟨s0, s1, s2, s3⟩ := hSw; go_simp; try with_reducible rfl
                      try simp only [List.getElem_toArray, List.getElem_cons_zero, List.getElem_cons_succ, Act.put, List.setIfInBounds_toArray, List.set_cons_zero, List.set_cons_succ]
                      refine wpAnyH_take (i := 2) (oi := _) (v := ?vg2) rfl (by kernel_rfl) (by kernel_rfl) (by kernel_rfl) (fun _ _ _ h => (by cases h.1)) (Or.inl ⟨by rfl, ?yg2⟩) (by assumption) ?rg2
                      case yg2 => intro w1 hSw; obtain ⟨s0, s1, s2, s3⟩ := hSw; go_simp; try with_reducible rfl
                      try simp only [List.getElem_toArray, List.getElem_cons_zero, List.getElem_cons_succ, Act.put, List.setIfInBounds_toArray, List.set_cons_zero, List.set_cons_succ]
                      refine wpAnyH_take (i := 3) (oi := _) (v := ?vg3) rfl (by kernel_rfl) (by kernel_rfl) (by kernel_rfl) (fun _ _ _ h => (by cases h.1)) (Or.inl ⟨by rfl, ?yg3⟩) (by assumption) ?rg3
                      case yg3 => intro w1 hSw; obtain ⟨s0, s1, s2, s3⟩ := hSw; go_simp; try with_reducible rfl
                      try simp only [List.getElem_toArray, List.getElem_cons_zero, List.getElem_cons_succ, Act.put, List.setIfInBounds_toArray, List.set_cons_zero, List.set_cons_succ]
                      refine wpAnyH_take (i := 4) (oi := _) (v := ?vg4) rfl (by kernel_rfl) (by kernel_rfl) (by kernel_rfl) (fun _ _ _ h => (by cases h.1)) (Or.inl ⟨by rfl, ?yg4⟩) (by assumption) ?rg4
                      case yg4 => intro w1 hSw; obtain ⟨s0, s1, s2, s3⟩ := hSw; go_simp; try with_reducible rfl
                      try simp only [List.getElem_toArray, List.getElem_cons_zero, List.getElem_cons_succ, Act.put, List.setIfInBounds_toArray, List.set_cons_zero, List.set_cons_succ]
                      refine wpAnyH_take (i := 5) (oi := _) (v := ?vg5) rfl (by kernel_rfl) (by kernel_rfl) (by kernel_rfl) (fun _ _ _ h => (by cases h.1)) (Or.inl ⟨by rfl, ?yg5⟩) (by assumption) ?rg5
                      case yg5 => intro w1 hSw; obtain ⟨s0, s1, s2, s3⟩ := hSw; go_simp; try with_reducible rfl
                      try simp only [List.getElem_toArray, List.getElem_cons_zero, List.getElem_cons_succ, Act.put, List.setIfInBounds_toArray, List.set_cons_zero, List.set_cons_succ]
                      refine wpAnyH_take (i := 6) (oi := _) (v := ?vg6) rfl (by kernel_rfl) (by kernel_rfl) (by kernel_rfl) (fun _ _ _ h => (by cases h.1)) (Or.inl ⟨by rfl, ?yg6⟩) (by assumption) ?rg6
                      case yg6 => intro w1 hSw; obtain ⟨s0, s1, s2, s3⟩ := hSw; go_simp; try with_reducible rfl
                      try simp only [List.getElem_toArray, List.getElem_cons_zero, List.getElem_cons_succ, Act.put, List.setIfInBounds_toArray, List.set_cons_zero, List.set_cons_succ]
                      refine wpAnyH_take (i := 7) (oi := _) (v := ?vg7) rfl (by kernel_rfl) (by kernel_rfl) (by kernel_rfl) (fun _ _ _ h => (by cases h.1)) (Or.inl ⟨by rfl, ?yg7⟩) (by assumption) ?rg7
                      case yg7 => intro w1 hSw; obtain ⟨s0, s1, s2, s3⟩ := hSw; go_simp; try with_reducible rfl
                      try simp only [List.getElem_toArray, List.getElem_cons_zero, List.getElem_cons_succ, Act.put, List.setIfInBounds_toArray, List.set_cons_zero, List.set_cons_succ]
                      refine wpAnyH_take (i := 8) (oi := _) (v := ?vg8) rfl (by kernel_rfl) (by kernel_rfl) (by kernel_rfl) (fun _ _ _ h => (by cases h.1)) (Or.inl ⟨by rfl, ?yg8⟩) (by assumption) ?rg8
                      case yg8 => intro w1 hSw; obtain ⟨s0, s1, s2, s3⟩ := hSw; go_simp; try with_reducible rfl
                      try simp only [List.getElem_toArray, List.getElem_cons_zero, List.getElem_cons_succ, Act.put, List.setIfInBounds_toArray, List.set_cons_zero, List.set_cons_succ]
                      refine wpAnyH_take (i := 9) (oi := _) (v := ?vg9) rfl (by kernel_rfl) (by kernel_rfl) (by kernel_rfl) (fun _ _ _ h => (by cases h.1)) (Or.inl ⟨by rfl, ?yg9⟩) (by assumption) ?rg9
                      case yg9 => intro w1 hSw; obtain ⟨s0, s1, s2, s3⟩ := hSw; go_simp; try with_reducible rfl
                      try simp only [List.getElem_toArray, List.getElem_cons_zero, List.getElem_cons_succ, Act.put, List.setIfInBounds_toArray, List.set_cons_zero, List.set_cons_succ]
                      refine wpAnyH_take (i := 10) (oi := _) (v := ?vg10) rfl (by kernel_rfl) (by kernel_rfl) (by kernel_rfl) (fun _ _ _ h => (by cases h.1)) (Or.inl ⟨by rfl, ?yg10⟩) (by assumption) ?rg10
                      case yg10 => intro w1 hSw; obtain ⟨s0, s1, s2, s3⟩ := hSw; go_simp; try with_reducible rfl
                      try simp only [List.getElem_toArray, List.getElem_cons_zero, List.getElem_cons_succ, Act.put, List.setIfInBounds_toArray, List.set_cons_zero, List.set_cons_succ]
                      refine wpAnyH_take (i := 11) (oi := _) (v := ?vg11) rfl (by kernel_rfl) (by kernel_rfl) (by kernel_rfl) (fun _ _ _ h => (by cases h.1)) (Or.inl ⟨by rfl, ?yg11⟩) (by assumption) ?rg11
                      case yg11 => intro w1 hSw; obtain ⟨s0, s1, s2, s3⟩ := hSw; go_simp; try with_reducible rfl
                      try simp only [List.getElem_toArray, List.getElem_cons_zero, List.getElem_cons_succ, Act.put, List.setIfInBounds_toArray, List.set_cons_zero, List.set_cons_succ]
                      refine wpAnyH_take (i := 12) (oi := _) (v := ?vg12) rfl (by kernel_rfl) (by kernel_rfl) (by kernel_rfl) (fun _ _ _ h => (by cases h.1)) (Or.inl ⟨by rfl, ?yg12⟩) (by assumption) ?rg12
                      case yg12 => intro w1 hSw; obtain ⟨s0, s1, s2, s3⟩ := hSw; go_simp; try with_reducible rfl
                      try simp only [List.getElem_toArray, List.getElem_cons_zero, List.getElem_cons_succ, Act.put, List.setIfInBounds_toArray, List.set_cons_zero, List.set_cons_succ]
                      refine wpAnyH_take (i := 13) (oi := _) (v := ?vg13) rfl (by kernel_rfl) (by kernel_rfl) (by kernel_rfl) (fun _ _ _ h => (by cases h.1)) (Or.inl ⟨by rfl, ?yg13⟩) (by assumption) ?rg13
                      case yg13 => intro w1 hSw; obtain ⟨s0, s1, s2, s3⟩ := hSw; go_simp; try with_reducible rfl
                      try simp only [List.getElem_toArray, List.getElem_cons_zero, List.getElem_cons_succ, Act.put, List.setIfInBounds_toArray, List.set_cons_zero, List.set_cons_succ]
                      refine wpAnyH_take (i := 14) (oi := _) (v := ?vg14) rfl (by kernel_rfl) (by kernel_rfl) (by kernel_rfl) (fun _ _ _ h => (by cases h.1)) (Or.inl ⟨by rfl, ?yg14⟩) (by assumption) ?rg14
                      case yg14 => intro w1 hSw; obtain ⟨s0, s1, s2, s3⟩ := hSw; go_simp; try with_reducible rfl
                      try simp only [List.getElem_toArray, List.getElem_cons_zero, List.getElem_cons_succ, Act.put, List.setIfInBounds_toArray, List.set_cons_zero, List.set_cons_succ]
                      refine wpAnyH_done (by kernel_rfl) ?_ _
                      exact ⟨rfl, rfl, rfl⟩
                    case hq =>
                      obtain ⟨W2, hW2⟩ : ∃ W2, W'.drew = W2 := ⟨_, rfl⟩
                      have fN : Boxed W2 V.heap.size 3 (.int .i64 (hav mt len (mt x.val) pre' : Int)) := by rw [← hW2]; exact oN
                      have hK2 : KeepsOthers W' W2 := by rw [← hW2]; exact KeepsOthers.drew W'
                      have hB2 : Below w.heap.size W W2 := by rw [← hW2]; exact hBW.drew
                      have f2 : Blk W2 w.heap.size 25 #[.int .u8 (m 0), .int .u8 (m 1), .int .u8 (m 2), .int .u8 (m 3), .int .u8 (m 4), .int .u8 (m 5), .int .u8 (m 6), .int .u8 (m 7), .int .u8 (m 8)] := by rw [← hW2]; exact o2
                      have f3 : Boxed W2 (w.heap.size + 1) 22 (.slice (some ⟨b, o, none⟩) len cap) := by rw [← hW2]; exact o3
                      have f5 : Boxed W2 (w.heap.size + 1 + 1) 3 (.int .i64 (idx m mt len pre)) := by rw [← hW2]; exact o5
                      have fR : Boxed W2 (w.heap.size + 1 + 1 + 1 + 1) 3 (.int .i64 1) := by rw [← hW2]; exact oR
                      have fX : Boxed W2 Bx 3 (.int .i64 (x.val : Int)) := by rw [← hW2]; exact oX
                      have fQ : Boxed W2 (V.heap.size + 1 + 1) 3 (.int .i64 1) := by rw [← hW2]; exact oQ
                      have hkR : W2.cell? ⟨V.heap.size + 1 + 1, 0, none⟩ = W'.cell? ⟨V.heap.size + 1 + 1, 0, none⟩ := by rw [← hW2]; rfl
                      rw [hW2]
                      clear hW2
                      have cN := fN.cell
                      have fzN := fN.frozen
                      gi_wp2
                      exact ⟨hK2.from _, hkR, ⟨⟨f2, f3, f5, fR, fX, by rw [HV.out]; exact fN, fQ⟩, hB2, hKF.trans (hK2.from _)⟩⟩
                · have p1 : decide (y.val < len) = false := decide_eq_false hyl
                  have HV : Hid (hav mt len (mt x.val) (pre' ++ [y]) = hav mt len (mt x.val) pre') := Lib.hid (by rw [hav_add, p1]; rfl)
                  gi_wp2_with fail
                  apply wpIn_once (W' := W'.drew)
                  case h =>
                    refine calm_region (S := fun w' => w'.cell? ⟨w.heap.size + 1, 0, none⟩ = some (.slice (some ⟨b, o, none⟩) len cap) ∧ w'.cell? ⟨Bx, 0, none⟩ = some (.int .i64 (x.val : Int)) ∧ w'.cell? ⟨b, o + x.val, none⟩ = some (.int .i64 (mt x.val)) ∧ True) (by kernel_rfl) (by kernel_rfl) (by rintro ⟨_, _, h, _⟩; cases h) ⟨e3, eX, hcx, trivial⟩ (fun hHeld => ?_)
                    refine wpAnyH_take (i := 0) (oi := _) (v := ?vj0) rfl (by kernel_rfl) (by kernel_rfl) (by kernel_rfl) (fun _ _ _ h => (by cases h.1)) (Or.inl ⟨by rfl, ?yj0⟩) (by assumption) ?rj0
                    case yj0 => intro w1 hSw; obtain ⟨s0, s1, s2, s3⟩ := hSw; go_simp; try with_reducible rfl
                    try simp only [List.getElem_toArray, List.getElem_cons_zero, List.getElem_cons_succ, Act.put, List.setIfInBounds_toArray, List.set_cons_zero, List.set_cons_succ]
                    refine wpAnyH_take (i := 1) (oi := _) (v := ?vj1) rfl (by kernel_rfl) (by kernel_rfl) (by kernel_rfl) (fun _ _ _ h => (by cases h.1)) (Or.inl ⟨by rfl, ?yj1⟩) (by assumption) ?rj1
                    case yj1 => intro w1 hSw; obtain ⟨s0, s1, s2, s3⟩ := hSw; go_simp; try with_reducible rfl
                    try simp only [List.getElem_toArray, List.getElem_cons_zero, List.getElem_cons_succ, Act.put, List.setIfInBounds_toArray, List.set_cons_zero, List.set_cons_succ]
                    refine wpAnyH_take (i := 2) (oi := _) (v := ?vj2) rfl (by kernel_rfl) (by kernel_rfl) (by kernel_rfl) (fun _ _ _ h => (by cases h.1)) (Or.inl ⟨by rfl, ?yj2⟩) (by assumption) ?rj2
                    case yj2 => intro w1 hSw; obtain ⟨s0, s1, s2, s3⟩ := hSw; go_simp; try with_reducible rfl
                    try simp only [List.getElem_toArray, List.getElem_cons_zero, List.getElem_cons_succ, Act.put, List.setIfInBounds_toArray, List.set_cons_zero, List.set_cons_succ]
                    refine wpAnyH_take (i := 3) (oi := _) (v := ?vj3) rfl (by kernel_rfl) (by kernel_rfl) (by kernel_rfl) (fun _ _ _ h => (by cases h.1)) (Or.inl ⟨by rfl, ?yj3⟩) (by assumption) ?rj3
                    case yj3 => intro w1 hSw; obtain ⟨s0, s1, s2, s3⟩ := hSw; go_simp; try with_reducible rfl
                    try simp only [List.getElem_toArray, List.getElem_cons_zero, List.getElem_cons_succ, Act.put, List.setIfInBounds_toArray, List.set_cons_zero, List.set_cons_succ]
                    refine wpAnyH_take (i := 4) (oi := _) (v := ?vj4) rfl (by kernel_rfl) (by kernel_rfl) (by kernel_rfl) (fun _ _ _ h => (by cases h.1)) (Or.inl ⟨by rfl, ?yj4⟩) (by assumption) ?rj4
                    case yj4 => intro w1 hSw; obtain ⟨s0, s1, s2, s3⟩ := hSw; go_simp; try with_reducible rfl
                    try simp only [List.getElem_toArray, List.getElem_cons_zero, List.getElem_cons_succ, Act.put, List.setIfInBounds_toArray, List.set_cons_zero, List.set_cons_succ]
                    refine wpAnyH_take (i := 5) (oi := _) (v := undef) rfl (by kernel_rfl) (by kernel_rfl) (by kernel_rfl) (fun _ _ _ h => (by cases h.1)) (Or.inr ⟨by rfl, rfl⟩) (by assumption) ?rj5
                    try simp only [List.getElem_toArray, List.getElem_cons_zero, List.getElem_cons_succ, Act.put, List.setIfInBounds_toArray, List.set_cons_zero, List.set_cons_succ]
                    refine wpAnyH_take (i := 6) (oi := _) (v := undef) rfl (by kernel_rfl) (by kernel_rfl) (by kernel_rfl) (fun _ _ _ h => (by cases h.1)) (Or.inr ⟨by rfl, rfl⟩) (by assumption) ?rj6
                    try simp only [List.getElem_toArray, List.getElem_cons_zero, List.getElem_cons_succ, Act.put, List.setIfInBounds_toArray, List.set_cons_zero, List.set_cons_succ]
                    refine wpAnyH_take (i := 7) (oi := _) (v := undef) rfl (by kernel_rfl) (by kernel_rfl) (by kernel_rfl) (fun _ _ _ h => (by cases h.1)) (Or.inr ⟨by rfl, rfl⟩) (by assumption) ?rj7
                    try simp only [List.getElem_toArray, List.getElem_cons_zero, List.getElem_cons_succ, Act.put, List.setIfInBounds_toArray, List.set_cons_zero, List.set_cons_succ]
                    refine wpAnyH_take (i := 8) (oi := _) (v := undef) rfl (by kernel_rfl) (by kernel_rfl) (by kernel_rfl) (fun _ _ _ h => (by cases h.1)) (Or.inr ⟨by rfl, rfl⟩) (by assumption) ?rj8
                    try simp only [List.getElem_toArray, List.getElem_cons_zero, List.getElem_cons_succ, Act.put, List.setIfInBounds_toArray, List.set_cons_zero, List.set_cons_succ]
                    refine wpAnyH_take (i := 9) (oi := _) (v := undef) rfl (by kernel_rfl) (by kernel_rfl) (by kernel_rfl) (fun _ _ _ h => (by cases h.1)) (Or.inr ⟨by rfl, rfl⟩) (by assumption) ?rj9
                    try simp only [List.getElem_toArray, List.getElem_cons_zero, List.getElem_cons_succ, Act.put, List.setIfInBounds_toArray, List.set_cons_zero, List.set_cons_succ]
                    refine wpAnyH_take (i := 10) (oi := _) (v := undef) rfl (by kernel_rfl) (by kernel_rfl) (by kernel_rfl) (fun _ _ _ h => (by cases h.1)) (Or.inr ⟨by rfl, rfl⟩) (by assumption) ?rj10
                    try simp only [List.getElem_toArray, List.getElem_cons_zero, List.getElem_cons_succ, Act.put, List.setIfInBounds_toArray, List.set_cons_zero, List.set_cons_succ]
                    refine wpAnyH_take (i := 11) (oi := _) (v := undef) rfl (by kernel_rfl) (by kernel_rfl) (by kernel_rfl) (fun _ _ _ h => (by cases h.1)) (Or.inr ⟨by rfl, rfl⟩) (by assumption) ?rj11
                    try simp only [List.getElem_toArray, List.getElem_cons_zero, List.getElem_cons_succ, Act.put, List.setIfInBounds_toArray, List.set_cons_zero, List.set_cons_succ]
                    refine wpAnyH_take (i := 12) (oi := _) (v := undef) rfl (by kernel_rfl) (by kernel_rfl) (by kernel_rfl) (fun _ _ _ h => (by cases h.1)) (Or.inr ⟨by rfl, rfl⟩) (by assumption) ?rj12
                    try simp only [List.getElem_toArray, List.getElem_cons_zero, List.getElem_cons_succ, Act.put, List.setIfInBounds_toArray, List.set_cons_zero, List.set_cons_succ]
                    refine wpAnyH_take (i := 13) (oi := _) (v := undef) rfl (by kernel_rfl) (by kernel_rfl) (by kernel_rfl) (fun _ _ _ h => (by cases h.1)) (Or.inr ⟨by rfl, rfl⟩) (by assumption) ?rj13
                    try simp only [List.getElem_toArray, List.getElem_cons_zero, List.getElem_cons_succ, Act.put, List.setIfInBounds_toArray, List.set_cons_zero, List.set_cons_succ]
                    refine wpAnyH_take (i := 14) (oi := _) (v := ?vj14) rfl (by kernel_rfl) (by kernel_rfl) (by kernel_rfl) (fun _ _ _ h => (by cases h.1)) (Or.inl ⟨by rfl, ?yj14⟩) (by assumption) ?rj14
                    case yj14 => intro w1 hSw; obtain ⟨s0, s1, s2, s3⟩ := hSw; go_simp; try with_reducible rfl
                    try simp only [List.getElem_toArray, List.getElem_cons_zero, List.getElem_cons_succ, Act.put, List.setIfInBounds_toArray, List.set_cons_zero, List.set_cons_succ]
                    refine wpAnyH_done (by kernel_rfl) ?_ _
                    exact ⟨rfl, rfl, rfl⟩
                  case hq =>
                    obtain ⟨W2, hW2⟩ : ∃ W2, W'.drew = W2 := ⟨_, rfl⟩
                    have fN : Boxed W2 V.heap.size 3 (.int .i64 (hav mt len (mt x.val) pre' : Int)) := by rw [← hW2]; exact oN
                    have hK2 : KeepsOthers W' W2 := by rw [← hW2]; exact KeepsOthers.drew W'
                    have hB2 : Below w.heap.size W W2 := by rw [← hW2]; exact hBW.drew
                    have f2 : Blk W2 w.heap.size 25 #[.int .u8 (m 0), .int .u8 (m 1), .int .u8 (m 2), .int .u8 (m 3), .int .u8 (m 4), .int .u8 (m 5), .int .u8 (m 6), .int .u8 (m 7), .int .u8 (m 8)] := by rw [← hW2]; exact o2
                    have f3 : Boxed W2 (w.heap.size + 1) 22 (.slice (some ⟨b, o, none⟩) len cap) := by rw [← hW2]; exact o3
                    have f5 : Boxed W2 (w.heap.size + 1 + 1) 3 (.int .i64 (idx m mt len pre)) := by rw [← hW2]; exact o5
                    have fR : Boxed W2 (w.heap.size + 1 + 1 + 1 + 1) 3 (.int .i64 1) := by rw [← hW2]; exact oR
                    have fX : Boxed W2 Bx 3 (.int .i64 (x.val : Int)) := by rw [← hW2]; exact oX
                    have fQ : Boxed W2 (V.heap.size + 1 + 1) 3 (.int .i64 1) := by rw [← hW2]; exact oQ
                    have hkR : W2.cell? ⟨V.heap.size + 1 + 1, 0, none⟩ = W'.cell? ⟨V.heap.size + 1 + 1, 0, none⟩ := by rw [← hW2]; rfl
                    rw [hW2]
                    clear hW2
                    have cN := fN.cell
                    have fzN := fN.frozen
                    gi_wp2
                    exact ⟨hK2.from _, hkR, ⟨⟨f2, f3, f5, fR, fX, by rw [HV.out]; exact fN, fQ⟩, hB2, hKF.trans (hK2.from _)⟩⟩
            case done2 =>
              rintro ys' W' rfl ⟨⟨o2, o3, o5, oR, oX, oN, oQ⟩, hBW, hKF⟩
              gi_wp2_with fail
              have hu25 : Try.prog.underlying 25 = some (.array 9 5) := Try.underlying25
              have hi25 : (Try.prog.info? 25).map (·.size) = some ([.int .u8 (m 0), .int .u8 (m 1), .int .u8 (m 2), .int .u8 (m 3), .int .u8 (m 4), .int .u8 (m 5), .int .u8 (m 6), .int .u8 (m 7), .int .u8 (m 8)] : List Value).length := by kernel_rfl
              have hkp := fun w' (h : Below W'.heap.size W' w') => iKeep oN.lt oN.cell o2 h
              have hmb := Lib.hid hm
              have e := hF.out
              subst e
              apply wpIn_below (n0 := W'.heap.size)
              case h =>
                refine round_region (S := fun (w' : World) => Below W'.heap.size W' w' ∧ w'.cell? ⟨V.heap.size, 0, none⟩ = some (.int .i64 (hav mt len (mt x.val) (sel m 1 9) : Int)) ∧ w'.rangeAt w.heap.size 0 [.int .u8 (m 0), .int .u8 (m 1), .int .u8 (m 2), .int .u8 (m 3), .int .u8 (m 4), .int .u8 (m 5), .int .u8 (m 6), .int .u8 (m 7), .int .u8 (m 8)]) (by kernel_rfl) (by kernel_rfl) (by rintro ⟨_, _, h, _⟩; cases h) (hkp _ (Below.refl _ _).drew) (fun hHeld => ?_)
                refine wpAnyH_take (i := 0) (oi := _) (v := ?v0) rfl (by kernel_rfl) (by kernel_rfl) (by kernel_rfl) (fun _ _ _ h => (by cases h.1)) (Or.inl ⟨by rfl, ?y0⟩) (by assumption) ?r0
                case y0 => intro w1 hSw; obtain ⟨s1, s2, s3⟩ := hSw; go_simp; try with_reducible rfl
                try simp only [List.getElem_toArray, List.getElem_cons_zero, List.getElem_cons_succ, Act.put, List.setIfInBounds_toArray, List.set_cons_zero, List.set_cons_succ]
                refine' wpAnyH_take (i := 1) (oi := _) (v := _) rfl (by kernel_rfl) (by kernel_rfl) (by kernel_rfl) (fun _ _ _ h => (by cases h.1)) (yieldsIf_load_mid (by rfl) _ _ rfl _ _ rfl _ _ ?s1 hu25 rfl hi25) (by assumption) ?r1
                case s1 => intro w1 hSw; exact hSw.2.2
                try simp only [List.getElem_toArray, List.getElem_cons_zero, List.getElem_cons_succ, Act.put, List.setIfInBounds_toArray, List.set_cons_zero, List.set_cons_succ]
                refine wpAnyH_ready (rs := [2]) (by kernel_rfl) (by simp) ?_
                refine AllReadyH.cons (o := _) rfl (fun K hK => ?_) AllReadyH.nil
                rw [if_pos (by rfl)]
                try simp only [List.getElem_toArray, List.getElem_cons_zero, List.getElem_cons_succ]
                go_simp
                refine (most_any m hmb.out _).mono ?_
                rintro e w2 ⟨rfl, hb2⟩
                dsimp only
                try simp only [List.getElem_toArray, List.getElem_cons_zero, List.getElem_cons_succ, Act.put, List.setIfInBounds_toArray, List.set_cons_zero, List.set_cons_succ]
                refine hK.out _ _ (hkp _ (bCat hb2 (by assumption))) (fun hHeld2 => ?_)
                clear hK K
                try simp only [List.getElem_toArray, List.getElem_cons_zero, List.getElem_cons_succ, Act.put, List.setIfInBounds_toArray, List.set_cons_zero, List.set_cons_succ]
                refine wpAnyH_take (i := 3) (oi := _) (v := ?v3) rfl (by kernel_rfl) (by kernel_rfl) (by kernel_rfl) (fun _ _ _ h => (by cases h.1)) (Or.inl ⟨by rfl, ?y3⟩) (by assumption) ?r3
                case y3 => intro w1 hSw; obtain ⟨s1, s2, s3⟩ := hSw; go_simp; try with_reducible rfl
                try simp only [List.getElem_toArray, List.getElem_cons_zero, List.getElem_cons_succ, Act.put, List.setIfInBounds_toArray, List.set_cons_zero, List.set_cons_succ]
                refine wpAnyH_done (by kernel_rfl) ?_ _
                exact ⟨rfl, rfl, hHeld2.1⟩
              case hq =>
                intro W9 hb9
                try simp only [List.getElem_toArray, List.getElem_cons_zero, List.getElem_cons_succ, Act.put, List.setIfInBounds_toArray, List.set_cons_zero, List.set_cons_succ]
                have g2 := o2.below hb9
                have g3 := (show Boxed W9 (w.heap.size + 1) 22 (.slice (some ⟨b, o, none⟩) len cap) from (hb9.block _ o3.lt).trans o3)
                have g5 := (show Boxed W9 (w.heap.size + 1 + 1) 3 (.int .i64 (idx m mt len pre)) from (hb9.block _ o5.lt).trans o5)
                have gR := (show Boxed W9 (w.heap.size + 1 + 1 + 1 + 1) 3 (.int .i64 1) from (hb9.block _ oR.lt).trans oR)
                have gX := (show Boxed W9 Bx 3 (.int .i64 (x.val : Int)) from (hb9.block _ oX.lt).trans oX)
                have hKF9 : KeepsFrom W0.heap.size W W9 := hKF.trans ((keepsO_of_below hb9).from _)
                have hB9 : Below w.heap.size W W9 := hBW.trans (hb9.mono (Nat.le_trans hsW hBW.size))
                have hrw9 : Row W9 (some ⟨b, o, none⟩) len (fun j => .int .i64 (mt j)) := hrow.below (hB1.trans hB9)
                have hcx : W9.cell? ⟨b, o + x.val, none⟩ = some (.int .i64 (mt x.val)) := by
                  rcases hrw9 with h0 | ⟨b', o', hbo, hb', hcell'⟩
                  · omega
                  · obtain ⟨rfl, rfl⟩ : b = b' ∧ o = o' := by simpa using hbo
                    exact hcell' x.val hxl
                have Hsz := Lib.hid hsz
                clear hsz hkp hKF hBW o2 o3 o5 oR oX oN oQ hrw9 iQ iM iN iX iR i5 i3 i2 bb2 kk2
                have c3 := g3.cell
                have c5 := g5.cell
                have z5 := g5.frozen
                have cX := gX.cell
                by_cases hmst : mst m ≤ hav mt len (mt x.val) (sel m 1 9)
                · have q3 : decide (mst m ≤ (hav mt len (mt x.val) (sel m 1 9) : Int)) = true := decide_eq_true hmst
                  have HI : Hid (idx m mt len (pre ++ [x]) = mt x.val) := Lib.hid (by rw [idx_snoc, step, if_pos ⟨hxl, hbm, hmst⟩])
                  clear hmst
                  rw [q3]
                  gi_wp2
                  exact ⟨hKF9.trans ((KeepsOthers.setCell _ _ _).from _), ((setCell_block' _ (by simp)).trans gR.cell).trans bR.cell.symm, ⟨g2.other (by omega) _, g3.other (by omega) _, by rw [HI.out]; exact g5.set _, gR.other (by omega) _⟩, hB1.trans (hB9.setCell (p := ⟨w.heap.size + 1 + 1, 0, none⟩) (by simp; omega) _)⟩
                · have q3 : decide (mst m ≤ (hav mt len (mt x.val) (sel m 1 9) : Int)) = false := decide_eq_false hmst
                  have HI : Hid (idx m mt len (pre ++ [x]) = idx m mt len pre) := Lib.hid (by rw [idx_snoc, step, if_neg (fun h => hmst h.2.2)])
                  clear hmst
                  rw [q3]
                  gi_wp2
                  exact ⟨hKF9, gR.cell.trans bR.cell.symm, ⟨g2, g3, by rw [HI.out]; exact g5, gR⟩, hB1.trans hB9⟩
        · have q1 : decide (mt x.val ≤ idx m mt len pre) = true := decide_eq_true (by omega)
          have q2 : decide (len ≤ x.val) = false := decide_eq_false_iff_not.2 (by omega)
          have HI : Hid (idx m mt len (pre ++ [x]) = idx m mt len pre) := Lib.hid (by rw [idx_snoc, step, if_neg (fun h => hbm h.2.1)])
          gi_wp2_with fail
          apply wpIn_once (W' := W.drew)
          case h =>
            refine calm_region (S := fun w' => w'.cell? ⟨w.heap.size + 1, 0, none⟩ = some (.slice (some ⟨b, o, none⟩) len cap) ∧ w'.cell? ⟨w.heap.size + 1 + 1, 0, none⟩ = some (.int .i64 (idx m mt len pre)) ∧ w'.cell? ⟨Bx, 0, none⟩ = some (.int .i64 (x.val : Int)) ∧ w'.cell? ⟨b, o + x.val, none⟩ = some (.int .i64 (mt x.val))) (by kernel_rfl) (by kernel_rfl) (by rintro ⟨_, _, h, _⟩; cases h) ⟨c3, c5, cX, hc⟩ (fun hHeld => ?_)
            refine wpAnyH_take (i := 0) (oi := _) (v := ?vb0) rfl (by kernel_rfl) (by kernel_rfl) (by kernel_rfl) (fun _ _ _ h => (by cases h.1)) (Or.inl ⟨by rfl, ?yb0⟩) (by assumption) ?rb0
            case yb0 => intro w1 hSw; obtain ⟨s0, s1, s2, s3⟩ := hSw; go_simp; try with_reducible rfl
            try simp only [List.getElem_toArray, List.getElem_cons_zero, List.getElem_cons_succ, Act.put, List.setIfInBounds_toArray, List.set_cons_zero, List.set_cons_succ]
            refine wpAnyH_take (i := 1) (oi := _) (v := ?vb1) rfl (by kernel_rfl) (by kernel_rfl) (by kernel_rfl) (fun _ _ _ h => (by cases h.1)) (Or.inl ⟨by rfl, ?yb1⟩) (by assumption) ?rb1
            case yb1 => intro w1 hSw; obtain ⟨s0, s1, s2, s3⟩ := hSw; go_simp; try with_reducible rfl
            try simp only [List.getElem_toArray, List.getElem_cons_zero, List.getElem_cons_succ, Act.put, List.setIfInBounds_toArray, List.set_cons_zero, List.set_cons_succ]
            refine wpAnyH_take (i := 2) (oi := _) (v := ?vb2) rfl (by kernel_rfl) (by kernel_rfl) (by kernel_rfl) (fun _ _ _ h => (by cases h.1)) (Or.inl ⟨by rfl, ?yb2⟩) (by assumption) ?rb2
            case yb2 => intro w1 hSw; obtain ⟨s0, s1, s2, s3⟩ := hSw; go_simp; try with_reducible rfl
            try simp only [List.getElem_toArray, List.getElem_cons_zero, List.getElem_cons_succ, Act.put, List.setIfInBounds_toArray, List.set_cons_zero, List.set_cons_succ]
            refine wpAnyH_take (i := 3) (oi := _) (v := ?vb3) rfl (by kernel_rfl) (by kernel_rfl) (by kernel_rfl) (fun _ _ _ h => (by cases h.1)) (Or.inl ⟨by rfl, ?yb3⟩) (by assumption) ?rb3
            case yb3 => intro w1 hSw; obtain ⟨s0, s1, s2, s3⟩ := hSw; go_simp; try with_reducible rfl
            try simp only [List.getElem_toArray, List.getElem_cons_zero, List.getElem_cons_succ, Act.put, List.setIfInBounds_toArray, List.set_cons_zero, List.set_cons_succ]
            refine wpAnyH_take (i := 4) (oi := _) (v := ?vb4) rfl (by kernel_rfl) (by kernel_rfl) (by kernel_rfl) (fun _ _ _ h => (by cases h.1)) (Or.inl ⟨by rfl, ?yb4⟩) (by assumption) ?rb4
            case yb4 => intro w1 hSw; obtain ⟨s0, s1, s2, s3⟩ := hSw; go_simp; try with_reducible rfl
            try simp only [List.getElem_toArray, List.getElem_cons_zero, List.getElem_cons_succ, Act.put, List.setIfInBounds_toArray, List.set_cons_zero, List.set_cons_succ]
            refine wpAnyH_take (i := 5) (oi := _) (v := ?vb5) rfl (by kernel_rfl) (by kernel_rfl) (by kernel_rfl) (fun _ _ _ h => (by cases h.1)) (Or.inl ⟨by rfl, ?yb5⟩) (by assumption) ?rb5
            case yb5 => intro w1 hSw; obtain ⟨s0, s1, s2, s3⟩ := hSw; go_simp; try with_reducible rfl
            try simp only [List.getElem_toArray, List.getElem_cons_zero, List.getElem_cons_succ, Act.put, List.setIfInBounds_toArray, List.set_cons_zero, List.set_cons_succ]
            refine wpAnyH_take (i := 6) (oi := _) (v := ?vb6) rfl (by kernel_rfl) (by kernel_rfl) (by kernel_rfl) (fun _ _ _ h => (by cases h.1)) (Or.inl ⟨by rfl, ?yb6⟩) (by assumption) ?rb6
            case yb6 => intro w1 hSw; obtain ⟨s0, s1, s2, s3⟩ := hSw; go_simp; try with_reducible rfl
            try simp only [List.getElem_toArray, List.getElem_cons_zero, List.getElem_cons_succ, Act.put, List.setIfInBounds_toArray, List.set_cons_zero, List.set_cons_succ]
            refine wpAnyH_take (i := 7) (oi := _) (v := ?vb7) rfl (by kernel_rfl) (by kernel_rfl) (by kernel_rfl) (fun _ _ _ h => (by cases h.1)) (Or.inl ⟨by rfl, ?yb7⟩) (by assumption) ?rb7
            case yb7 => intro w1 hSw; obtain ⟨s0, s1, s2, s3⟩ := hSw; go_simp; try with_reducible rfl
            try simp only [List.getElem_toArray, List.getElem_cons_zero, List.getElem_cons_succ, Act.put, List.setIfInBounds_toArray, List.set_cons_zero, List.set_cons_succ]
            refine wpAnyH_take (i := 8) (oi := _) (v := ?vb8) rfl (by kernel_rfl) (by kernel_rfl) (by kernel_rfl) (fun _ _ _ h => (by cases h.1)) (Or.inl ⟨by rfl, ?yb8⟩) (by assumption) ?rb8
            case yb8 => intro w1 hSw; obtain ⟨s0, s1, s2, s3⟩ := hSw; go_simp; try with_reducible rfl
            try simp only [List.getElem_toArray, List.getElem_cons_zero, List.getElem_cons_succ, Act.put, List.setIfInBounds_toArray, List.set_cons_zero, List.set_cons_succ]
            refine wpAnyH_take (i := 9) (oi := _) (v := ?vb9) rfl (by kernel_rfl) (by kernel_rfl) (by kernel_rfl) (fun _ _ _ h => (by cases h.1)) (Or.inl ⟨by rfl, ?yb9⟩) (by assumption) ?rb9
            case yb9 => intro w1 hSw; obtain ⟨s0, s1, s2, s3⟩ := hSw; go_simp; try with_reducible rfl
            try simp only [List.getElem_toArray, List.getElem_cons_zero, List.getElem_cons_succ, Act.put, List.setIfInBounds_toArray, List.set_cons_zero, List.set_cons_succ]
            refine wpAnyH_take (i := 10) (oi := _) (v := ?vb10) rfl (by kernel_rfl) (by kernel_rfl) (by kernel_rfl) (fun _ _ _ h => (by cases h.1)) (Or.inl ⟨by rfl, ?yb10⟩) (by assumption) ?rb10
            case yb10 => intro w1 hSw; obtain ⟨s0, s1, s2, s3⟩ := hSw; go_simp; try with_reducible rfl
            try simp only [List.getElem_toArray, List.getElem_cons_zero, List.getElem_cons_succ, Act.put, List.setIfInBounds_toArray, List.set_cons_zero, List.set_cons_succ]
            refine wpAnyH_take (i := 11) (oi := _) (v := ?vb11) rfl (by kernel_rfl) (by kernel_rfl) (by kernel_rfl) (fun _ _ _ h => (by cases h.1)) (Or.inl ⟨by rfl, ?yb11⟩) (by assumption) ?rb11
            case yb11 => intro w1 hSw; obtain ⟨s0, s1, s2, s3⟩ := hSw; go_simp; try with_reducible rfl
            try simp only [List.getElem_toArray, List.getElem_cons_zero, List.getElem_cons_succ, Act.put, List.setIfInBounds_toArray, List.set_cons_zero, List.set_cons_succ]
            refine wpAnyH_done (by kernel_rfl) ?_ _
            exact ⟨rfl, rfl, rfl⟩
          case hq =>
            have hKo : KeepsOthers W W.drew := KeepsOthers.drew W
            gi_wp2
            exact ⟨hKo.from _, rfl, ⟨b2, b3, by rw [HI.out]; exact b5, bR⟩, hB1.drew⟩
    · have q2 : decide (len ≤ x.val) = true := decide_eq_true (by omega)
      have HI : Hid (idx m mt len (pre ++ [x]) = idx m mt len pre) := Lib.hid (by rw [idx_snoc, step, if_neg (fun h => hxl h.1)])
      gi_wp2_with fail
      apply wpIn_once (W' := W.drew)
      case h =>
        refine calm_region (S := fun w' => w'.cell? ⟨w.heap.size + 1, 0, none⟩ = some (.slice a len cap) ∧ w'.cell? ⟨w.heap.size + 1 + 1, 0, none⟩ = some (.int .i64 (idx m mt len pre)) ∧ w'.cell? ⟨Bx, 0, none⟩ = some (.int .i64 (x.val : Int)) ∧ True) (by kernel_rfl) (by kernel_rfl) (by rintro ⟨_, _, h, _⟩; cases h) ⟨c3, c5, cX, trivial⟩ (fun hHeld => ?_)
        refine wpAnyH_take (i := 0) (oi := _) (v := ?vc0) rfl (by kernel_rfl) (by kernel_rfl) (by kernel_rfl) (fun _ _ _ h => (by cases h.1)) (Or.inl ⟨by rfl, ?yc0⟩) (by assumption) ?rc0
        case yc0 => intro w1 hSw; obtain ⟨s0, s1, s2, s3⟩ := hSw; go_simp; try with_reducible rfl
        try simp only [List.getElem_toArray, List.getElem_cons_zero, List.getElem_cons_succ, Act.put, List.setIfInBounds_toArray, List.set_cons_zero, List.set_cons_succ]
        refine wpAnyH_take (i := 1) (oi := _) (v := ?vc1) rfl (by kernel_rfl) (by kernel_rfl) (by kernel_rfl) (fun _ _ _ h => (by cases h.1)) (Or.inl ⟨by rfl, ?yc1⟩) (by assumption) ?rc1
        case yc1 => intro w1 hSw; obtain ⟨s0, s1, s2, s3⟩ := hSw; go_simp; try with_reducible rfl
        try simp only [List.getElem_toArray, List.getElem_cons_zero, List.getElem_cons_succ, Act.put, List.setIfInBounds_toArray, List.set_cons_zero, List.set_cons_succ]
        refine wpAnyH_take (i := 2) (oi := _) (v := ?vc2) rfl (by kernel_rfl) (by kernel_rfl) (by kernel_rfl) (fun _ _ _ h => (by cases h.1)) (Or.inl ⟨by rfl, ?yc2⟩) (by assumption) ?rc2
        case yc2 => intro w1 hSw; obtain ⟨s0, s1, s2, s3⟩ := hSw; go_simp; try with_reducible rfl
        try simp only [List.getElem_toArray, List.getElem_cons_zero, List.getElem_cons_succ, Act.put, List.setIfInBounds_toArray, List.set_cons_zero, List.set_cons_succ]
        refine wpAnyH_take (i := 3) (oi := _) (v := ?vc3) rfl (by kernel_rfl) (by kernel_rfl) (by kernel_rfl) (fun _ _ _ h => (by cases h.1)) (Or.inl ⟨by rfl, ?yc3⟩) (by assumption) ?rc3
        case yc3 => intro w1 hSw; obtain ⟨s0, s1, s2, s3⟩ := hSw; go_simp; try with_reducible rfl
        try simp only [List.getElem_toArray, List.getElem_cons_zero, List.getElem_cons_succ, Act.put, List.setIfInBounds_toArray, List.set_cons_zero, List.set_cons_succ]
        refine wpAnyH_take (i := 4) (oi := _) (v := ?vc4) rfl (by kernel_rfl) (by kernel_rfl) (by kernel_rfl) (fun _ _ _ h => (by cases h.1)) (Or.inl ⟨by rfl, ?yc4⟩) (by assumption) ?rc4
        case yc4 => intro w1 hSw; obtain ⟨s0, s1, s2, s3⟩ := hSw; go_simp; try with_reducible rfl
        try simp only [List.getElem_toArray, List.getElem_cons_zero, List.getElem_cons_succ, Act.put, List.setIfInBounds_toArray, List.set_cons_zero, List.set_cons_succ]
        refine wpAnyH_take (i := 5) (oi := _) (v := undef) rfl (by kernel_rfl) (by kernel_rfl) (by kernel_rfl) (fun _ _ _ h => (by cases h.1)) (Or.inr ⟨by rfl, rfl⟩) (by assumption) ?rc5
        try simp only [List.getElem_toArray, List.getElem_cons_zero, List.getElem_cons_succ, Act.put, List.setIfInBounds_toArray, List.set_cons_zero, List.set_cons_succ]
        refine wpAnyH_take (i := 6) (oi := _) (v := undef) rfl (by kernel_rfl) (by kernel_rfl) (by kernel_rfl) (fun _ _ _ h => (by cases h.1)) (Or.inr ⟨by rfl, rfl⟩) (by assumption) ?rc6
        try simp only [List.getElem_toArray, List.getElem_cons_zero, List.getElem_cons_succ, Act.put, List.setIfInBounds_toArray, List.set_cons_zero, List.set_cons_succ]
        refine wpAnyH_take (i := 7) (oi := _) (v := undef) rfl (by kernel_rfl) (by kernel_rfl) (by kernel_rfl) (fun _ _ _ h => (by cases h.1)) (Or.inr ⟨by rfl, rfl⟩) (by assumption) ?rc7
        try simp only [List.getElem_toArray, List.getElem_cons_zero, List.getElem_cons_succ, Act.put, List.setIfInBounds_toArray, List.set_cons_zero, List.set_cons_succ]
        refine wpAnyH_take (i := 8) (oi := _) (v := undef) rfl (by kernel_rfl) (by kernel_rfl) (by kernel_rfl) (fun _ _ _ h => (by cases h.1)) (Or.inr ⟨by rfl, rfl⟩) (by assumption) ?rc8
        try simp only [List.getElem_toArray, List.getElem_cons_zero, List.getElem_cons_succ, Act.put, List.setIfInBounds_toArray, List.set_cons_zero, List.set_cons_succ]
        refine wpAnyH_take (i := 9) (oi := _) (v := undef) rfl (by kernel_rfl) (by kernel_rfl) (by kernel_rfl) (fun _ _ _ h => (by cases h.1)) (Or.inr ⟨by rfl, rfl⟩) (by assumption) ?rc9
        try simp only [List.getElem_toArray, List.getElem_cons_zero, List.getElem_cons_succ, Act.put, List.setIfInBounds_toArray, List.set_cons_zero, List.set_cons_succ]
        refine wpAnyH_take (i := 10) (oi := _) (v := undef) rfl (by kernel_rfl) (by kernel_rfl) (by kernel_rfl) (fun _ _ _ h => (by cases h.1)) (Or.inr ⟨by rfl, rfl⟩) (by assumption) ?rc10
        try simp only [List.getElem_toArray, List.getElem_cons_zero, List.getElem_cons_succ, Act.put, List.setIfInBounds_toArray, List.set_cons_zero, List.set_cons_succ]
        refine wpAnyH_take (i := 11) (oi := _) (v := ?vc11) rfl (by kernel_rfl) (by kernel_rfl) (by kernel_rfl) (fun _ _ _ h => (by cases h.1)) (Or.inl ⟨by rfl, ?yc11⟩) (by assumption) ?rc11
        case yc11 => intro w1 hSw; obtain ⟨s0, s1, s2, s3⟩ := hSw; go_simp; try with_reducible rfl
        try simp only [List.getElem_toArray, List.getElem_cons_zero, List.getElem_cons_succ, Act.put, List.setIfInBounds_toArray, List.set_cons_zero, List.set_cons_succ]
        refine wpAnyH_done (by kernel_rfl) ?_ _
        exact ⟨rfl, rfl, rfl⟩
      case hq =>
        have hKo : KeepsOthers W W.drew := KeepsOthers.drew W
        gi_wp2
        exact ⟨hKo.from _, rfl, ⟨b2, b3, by rw [HI.out]; exact b5, bR⟩, hB1.drew⟩
  case own =>
    refine OwnFrom.and (Own.from (fun s A B row hs hg hr => ?_) _) (ownFrom_below (Nat.le_refl _) (by omega))
    obtain ⟨o2, o3, o5, oR⟩ := hs
    exact ⟨blk_own _ _ _ () A B row o2 hg hr, boxed_own _ _ (fun (_ : Unit) => _) () A B row o3 hg hr, boxed_own _ _ (fun (_ : Unit) => _) () A B row o5 hg hr, boxed_own _ _ (fun (_ : Unit) => _) () A B row oR hg hr⟩
  case done =>
    rintro D ys W hD rfl ⟨⟨b2, b3, b5, bR⟩, hB⟩ hK
    have c5 := b5.cell
    gi_wp2
    refine ⟨by simp, .inl ⟨_, _, rfl, run_takeDeferred hK, ?_⟩⟩
    exact ⟨_, results_tmp rfl _ _ _, rfl, hB.trans (belowK_b (w := w) (Nat.le_refl _) W D _ _ (by omega) hK rfl rfl)⟩
theorem index_any (m : Nat → Int) (hm : ∀ k, k < 9 → 0 ≤ m k ∧ m k ≤ 255) (a : Option Addr) (len cap : Nat) (hl : len ≤ 9223372036854775807) (mt : Nat → Int) (w : World) (hrow : Row w a len (fun j => .int .i64 (mt j))) :
    Calls Try.prog 12 #[.agg #[.int .u8 (m 0), .int .u8 (m 1), .int .u8 (m 2), .int .u8 (m 3), .int .u8 (m 4), .int .u8 (m 5), .int .u8 (m 6), .int .u8 (m 7), .int .u8 (m 8)], .slice a len cap] w fun e W' => e = .returned (.int .i64 (idx m mt len (sel m 1 9))) ∧ Below w.heap.size w W' :=
  callsIn_wide.1 (index_in Fence.wide 9 (Lib.hid rfl) trivial trivial trivial trivial trivial rfl (by decide) m hm a len cap hl mt w hrow)
end Go.Proofs.Ytfeaoapjgcibmaa

