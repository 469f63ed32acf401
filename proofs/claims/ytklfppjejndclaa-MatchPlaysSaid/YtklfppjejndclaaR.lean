/- Both lists, act for act. -/
import Derived.Test.YtklfppjejndclaaP
set_option linter.unusedVariables false
set_option linter.unusedSimpArgs false
namespace Go.Proofs.Ytklfppjejndclaa.P2
open Go.RowKit Go.Maps
variable {W0 W : World} {sb mb rb B0 i : Nat} {most : Int} {R : List (Int × Int)}
theorem RC.row_ge {W : World} {rb B0 : Nat} {T : Int} {R : List (Int × Int)} (h : RC W rb B0 T R) {k : Nat} (hk : rowB W rb = some k) : B0 ≤ k ∧ k < W.heap.size := by
  obtain ⟨sv, h1, h2⟩ := h.s
  rw [rowB_of h1] at hk
  rcases h2.2 with ⟨rfl, _⟩ | ⟨g, cp, cur, rfl, hb, hgb, _, _, _, _⟩
  · cases hk
  · cases hk
    exact ⟨hb, (Array.getElem?_eq_some_iff.1 hgb).1⟩
theorem RC.sb_lt {T : Int} (h : RC W rb B0 T R) {k : Nat} (hk : SB W rb k) : k < W.heap.size ∧ (k = rb ∨ B0 ≤ k) := by
  rcases hk with rfl | hk
  · have := h.d; exact ⟨by omega, .inl rfl⟩
  · have := h.row_ge hk; exact ⟨this.2, .inr this.1⟩
theorem RC.sb_fr {S : Nat → Prop} {W' : World} {T : Int} (h : RC W rb B0 T R) (hf : Fr S W W') (hn : ¬ S rb) : SB W' rb = SB W rb := by
  obtain ⟨sv, h1, _⟩ := h.s
  funext k
  unfold SB
  rw [rowB_fr h1 hf hn]
/-- both lists stand alike -/
structure Two (W0 W : World) (sb mb rb B0 : Nat) (most : Int) (i : Nat) : Prop where
  c : ∃ L R N, LS (SB W rb) 55 W sb mb most N L ∧ RC W rb B0 most R ∧ (∀ x, iKE.ok x → L x = zv (At R x)) ∧ (∀ p ∈ R, iKE.ok p.1) ∧ R.length ≤ i ∧ N ≤ i
  b : Below W0.heap.size W0 W
  d : W0.heap.size ≤ sb ∧ W0.heap.size ≤ mb ∧ sb < rb ∧ mb < rb ∧ rb < B0
theorem Two.lt (h : Two W0 W sb mb rb B0 most i) : B0 ≤ W.heap.size := by
  obtain ⟨L, R, N, h1, h2, _⟩ := h.c
  exact h2.d.2
theorem Two.fr0 {W' : World} (h : Two W0 W sb mb rb B0 most i) (hf : Fr (fun _ => False) W W') : Two W0 W' sb mb rb B0 most i := by
  obtain ⟨L, R, N, h1, h2, h3⟩ := h.c
  refine ⟨⟨L, R, N, ?_, h2.kept hf, h3⟩, h.b.trans (hf.below h.b.size (fun k e => e.elim)), h.d⟩
  rw [h2.sb_fr hf id]
  exact h1.turn0 hf (fun k e => e.elim) id id (fun k e => .inl e)
theorem Two.next (h : Two W0 W sb mb rb B0 most i) : Two W0 W sb mb rb B0 most (i + 1) := by
  obtain ⟨L, R, N, h1, h2, h3, h4, h5, h6⟩ := h.c
  exact ⟨⟨L, R, N, h1, h2, h3, h4, by omega, by omega⟩, h.b, h.d⟩
/-- behind a step of each -/
theorem two_step {W1 W2 : World} {L : Int → List Value} {N : Nat} {R1 : List (Int × Int)} (hb : Below W0.heap.size W0 W1) (hd : W0.heap.size ≤ sb ∧ W0.heap.size ≤ mb ∧ sb < rb ∧ mb < rb ∧ rb < B0)
    (h1 : LS (SB W1 rb) 55 W1 sb mb most N L) (hR1 : RC W1 rb B0 most R1) (ht : Turn W1 W2 rb) (h2 : RC W2 rb B0 most R) (h3 : ∀ x, iKE.ok x → L x = zv (At R x)) (h4 : ∀ p ∈ R, iKE.ok p.1) (h5 : R.length ≤ i) (h6 : N ≤ i) : Two W0 W2 sb mb rb B0 most i := by
  refine ⟨⟨L, R, N, h1.turn0 ht.fr (fun k e => e) (fun e => ?_) (fun e => ?_) (fun k e => ?_), h2, h3, h4, h5, h6⟩, hb.trans (ht.fr.below hb.size (fun k e => ?_)), hd⟩
  · have := (hR1.sb_lt e).2; omega
  · have := (hR1.sb_lt e).2; omega
  · rcases e with e | e
    · exact .inl (.inl e)
    · rcases ht.row k e with e | e
      · exact .inl (.inr e)
      · exact .inr e
  · have := (hR1.sb_lt e).2; omega
/-- a step of each -/
def Pair (f1 f2 : Nat) (a1 a2 : Array Value) (W0 W : World) (sb mb rb B0 : Nat) (most : Int) (i : Nat) (v : Value) : Prop :=
  Calls Try.prog f1 a1 W fun e W1 => e = .returned v ∧ Fr (fun k => k = mb) W W1 ∧ Calls Try.prog f2 a2 W1 fun e W2 => e = .returned v ∧ Fr (SB W rb) W1 W2 ∧ Two W0 W2 sb mb rb B0 most (i + 1)
theorem fr_mb {W' : World} (hg : W.grownBy W' (some mb)) : Fr (fun k => k = mb) W W' := Fr.grown hg (fun k e => (Option.some.inj e).symm)
theorem zv_append (l m : List Int) : zv (l ++ m) = zv l ++ zv m := by simp [zv]
theorem two_push (h : Two W0 W sb mb rb B0 most i) (hi : i ≤ 300) (hm : most ≤ 65536) (x t : Int) (hx : iKE.ok x) : ∃ v : Int, Pair 8 15 #[.pointer (some ⟨sb, 0, none⟩), .int .i64 x, .int .i64 t] #[.pointer (some ⟨rb, 0, none⟩), .int .i64 x, .int .i64 t] W0 W sb mb rb B0 most i (.int .i64 v) := by
  obtain ⟨L, R, N, h1, h2, h3, h4, h5, h6⟩ := h.c
  have hd := h.d
  have hb := h.b
  have hlen : (L x).length = (At R x).length := by rw [h3 x hx]; simp [zv]
  by_cases hf : most ≤ ((L x).length : Int)
  · refine ⟨4, ?_⟩
    refine (pushI_full W sb mb most N L h1 x hx t hf).mono ?_
    rintro e W1 ⟨rfl, n, rfl⟩
    have hf0 := Fr.drewN (fun _ => False) W n
    refine ⟨rfl, Fr.drewN _ W n, ?_⟩
    have k2 := h2.kept hf0
    have k1 := h1.turn0 (S' := SB (W.drewN n) rb) hf0 (fun k e => e.elim) id id (fun k e => .inl (by rw [h2.sb_fr hf0 id] at e; exact e))
    refine (rpush_any k2 (by omega) x t).mono ?_
    rintro e W2 ⟨ht, hor⟩
    have hfr : Fr (SB W rb) (W.drewN n) W2 := by have := ht.fr; rw [h2.sb_fr hf0 id] at this; exact this
    rcases hor with ⟨_, rfl, h2'⟩ | ⟨hno, _⟩
    · exact ⟨rfl, hfr, two_step (hb.trans (hf0.below hb.size (fun k e => e.elim))) hd k1 k2 ht h2' h3 h4 (by omega) (by omega)⟩
    · exact absurd (by omega) hno
  · refine ⟨0, ?_⟩
    refine (pushI_room W (fun k e => (h2.sb_lt e).1) sb mb most N L h1 (by unfold maxLen; omega) hm x hx t hf).mono ?_
    rintro e W1 ⟨rfl, k1, hg⟩
    have f1 := fr_mb hg
    refine ⟨rfl, f1, ?_⟩
    have k2 := h2.fr f1 (fun e => by omega) (fun k e => by omega)
    have es := h2.sb_fr f1 (fun e => by omega)
    rw [← es] at k1
    refine (rpush_any k2 (by omega) x t).mono ?_
    rintro e W2 ⟨ht, hor⟩
    have hfr : Fr (SB W rb) W1 W2 := by have := ht.fr; rw [es] at this; exact this
    rcases hor with ⟨hyes, _⟩ | ⟨_, rfl, h2'⟩
    · exact absurd (by omega) hf
    · refine ⟨rfl, hfr, two_step (hb.trans (f1.below hb.size (fun k e => by omega))) hd k1 k2 ht h2' (fun y hy => ?_) (fun p hp => ?_) (by rw [List.length_append]; simp; omega) (by omega)⟩
      · rw [At_append, At_one]
        by_cases e : y = x
        · subst e; simp [h3 y hx, zv_append]; rfl
        · rw [if_neg e, if_neg (fun e' => e e'.symm), List.append_nil]; exact h3 y hy
      · rcases List.mem_append.1 hp with hp | hp
        · exact h4 p hp
        · rw [List.mem_singleton.1 hp]; exact hx
theorem At_cut {j : Nat} {y v x : Int} (hj : R[j]? = some (y, v)) (hy : y = x) (hno : ∀ (k : Nat) (a b : Int), k < j → R[k]? = some (a, b) → a ≠ x) :
    At R x = v :: At (R.take j ++ R.drop (j + 1)) x ∧ ∀ z, z ≠ x → At (R.take j ++ R.drop (j + 1)) z = At R z := by
  have hno' : ∀ (k : Nat) (p : Int × Int), k < j → R[k]? = some p → p.1 ≠ x := fun k p hk hp => hno k p.1 p.2 hk hp
  have h0 : At (R.take j) x = [] := At_none fun p hp => by
    obtain ⟨k, hk⟩ := List.getElem?_of_mem hp
    have hkl : k < j := by have := (List.getElem?_eq_some_iff.1 hk).1; rw [List.length_take] at this; omega
    rw [List.getElem?_take_of_lt hkl] at hk
    exact hno' k p hkl hk
  refine ⟨?_, fun z hz => ?_⟩
  · rw [At_append, h0, List.nil_append]
    exact At_first hj hy hno'
  · conv => rhs; rw [split_at hj]
    rw [At_append, At_append, show (y, v) :: R.drop (j + 1) = [(y, v)] ++ R.drop (j + 1) from rfl, At_append, At_one, if_neg (fun e => hz (by rw [← e, ← hy])), List.nil_append]
theorem two_pop (h : Two W0 W sb mb rb B0 most i) (hi : i ≤ 300) (x : Int) (hx : iKE.ok x) : ∃ (v : Int) (q : Bool), Pair 10 16 #[.pointer (some ⟨sb, 0, none⟩), .int .i64 x] #[.pointer (some ⟨rb, 0, none⟩), .int .i64 x] W0 W sb mb rb B0 most i (.tuple #[.int .i64 v, .bool q]) := by
  obtain ⟨L, R, N, h1, h2, h3, h4, h5, h6⟩ := h.c
  have hd := h.d
  have hb := h.b
  cases hA : At R x with
  | nil =>
    refine ⟨0, false, ?_⟩
    refine (popI_none W sb mb most N L h1 x hx (by rw [h3 x hx, hA]; rfl)).mono ?_
    rintro e W1 ⟨rfl, rfl⟩
    refine ⟨rfl, Fr.refl _ _, ?_⟩
    refine (rpop_any h2 (by omega) x).mono ?_
    rintro e W2 ⟨ht, hor⟩
    rcases hor with ⟨_, rfl, h2'⟩ | ⟨j, y, v, hj, hy, hno, _⟩
    · exact ⟨rfl, ht.fr, two_step hb hd h1 h2 ht h2' h3 h4 (by omega) (by omega)⟩
    · have := (At_cut hj hy hno).1; rw [hA] at this; cases this
  | cons v l =>
    refine ⟨v, true, ?_⟩
    refine (popI_some W (fun k e => (h2.sb_lt e).1) sb mb most N L h1 (by unfold maxLen; omega) x hx (.int .i64 v) (zv l) (by rw [h3 x hx, hA]; rfl) (by have := At_len R x; rw [hA] at this; simp at this; simp [zv]; omega)).mono ?_
    rintro e W1 ⟨rfl, k1, hg⟩
    have f1 := fr_mb hg
    refine ⟨rfl, f1, ?_⟩
    have k2 := h2.fr f1 (fun e => by omega) (fun k e => by omega)
    have es := h2.sb_fr f1 (fun e => by omega)
    rw [← es] at k1
    refine (rpop_any k2 (by omega) x).mono ?_
    rintro e W2 ⟨ht, hor⟩
    have hfr : Fr (SB W rb) W1 W2 := by have := ht.fr; rw [es] at this; exact this
    rcases hor with ⟨hno, _⟩ | ⟨j, y, v', hj, hy, hno, rfl, h2'⟩
    · rw [At_none hno] at hA; cases hA
    · obtain ⟨g1, g2⟩ := At_cut hj hy hno
      rw [hA] at g1
      injection g1 with g1 g3
      subst g1
      refine ⟨rfl, hfr, two_step (hb.trans (f1.below hb.size (fun k e => by omega))) hd k1 k2 ht h2' (fun z hz => ?_) (fun p hp => ?_) (by rw [List.length_append, List.length_take, List.length_drop]; omega) (by omega)⟩
      · by_cases e : z = x
        · rw [if_pos e, e, g3]
        · rw [if_neg e, g2 z e]; exact h3 z hz
      · rcases List.mem_append.1 hp with hp | hp
        · exact h4 p (List.mem_of_mem_take hp)
        · exact h4 p (List.mem_of_mem_drop hp)
theorem keep_len (x d r : Int) : ∀ R : List (Int × Int), (R.length : Int) - ((R.filter (kp x d r)).length : Int) = ((At R x).length : Int) - (((At R x).filter (prd d r)).length : Int)
  | [] => by simp [At]
  | p :: R => by
    have ih := keep_len x d r R
    have e1 : At (p :: R) x = (if p.1 = x then [p.2] else []) ++ At R x := by
      rw [show p :: R = [p] ++ R from rfl, At_append, At_one]
    rw [e1]
    by_cases e : p.1 = x
    · by_cases e2 : prd d r p.2 = true
      · have : kp x d r p = true := by simp [kp, e2]
        rw [List.filter_cons_of_pos this, if_pos e]
        simp [e2]; omega
      · have : ¬ kp x d r p = true := by simp [kp, e, e2]
        rw [List.filter_cons_of_neg this, if_pos e]
        simp [e2]; omega
    · have : kp x d r p = true := by simp [kp, e]
      rw [List.filter_cons_of_pos this, if_neg e]
      simp; omega
theorem two_keep (h : Two W0 W sb mb rb B0 most i) (hi : i ≤ 300) (x d r : Int) (hx : iKE.ok x) (pb qb : Nat) (hpb : W.cell? ⟨pb, 0, none⟩ = some (.int .i64 d)) (hqb : W.cell? ⟨qb, 4, none⟩ = some (.int .i64 r)) (hd1 : 1 ≤ d) :
    ∃ v : Int, Pair 11 18 #[.pointer (some ⟨sb, 0, none⟩), .int .i64 x, .func (.func 17) #[] #[.pointer (some ⟨pb, 0, none⟩), .pointer (some ⟨qb, 0, none⟩)]] #[.pointer (some ⟨rb, 0, none⟩), .int .i64 x, .int .i64 d, .int .i64 r] W0 W sb mb rb B0 most i (.int .i64 v) := by
  obtain ⟨L, R, N, h1, h2, h3, h4, h5, h6⟩ := h.c
  have hd := h.d
  have hb := h.b
  refine ⟨((At R x).length : Int) - (((At R x).filter (prd d r)).length : Int), ?_⟩
  refine (keep_any W sb mb most N L h1 (by unfold maxLen; omega) x hx (At R x) (h3 x hx) (by have := At_len R x; omega) (fun k e => (h2.sb_lt e).1) pb qb d r hpb hqb hd1).mono ?_
  rintro e W1 ⟨rfl, k1, hg⟩
  have f1 := fr_mb hg
  refine ⟨rfl, f1, ?_⟩
  have k2 := h2.fr f1 (fun e => by omega) (fun k e => by omega)
  have es := h2.sb_fr f1 (fun e => by omega)
  rw [← es] at k1
  refine (rkeep_any k2 (by omega) x d r hd1).mono ?_
  rintro e W2 ⟨rfl, ht, h2'⟩
  have hfr : Fr (SB W rb) W1 W2 := by have := ht.fr; rw [es] at this; exact this
  have hle : (R.filter (kp x d r)).length ≤ R.length := List.length_filter_le _ _
  refine ⟨by rw [keep_len], hfr, two_step (hb.trans (f1.below hb.size (fun k e => by omega))) hd k1 k2 ht h2' (fun z hz => ?_) (fun p hp => h4 p (List.mem_filter.1 hp).1) (by omega) (by omega)⟩
  rw [At_keep]
  by_cases e : z = x
  · rw [if_pos e, if_pos e]
  · rw [if_neg e, if_neg e]; exact h3 z hz
/-- the row's length, out of the world -/
def lenB (W : World) (rb : Nat) : Nat := match W.cell? ⟨rb, 1, none⟩ with | some (.slice _ n _) => n | _ => 0
theorem RC.lenB {T : Int} (h : RC W rb B0 T R) : lenB W rb = R.length := by
  obtain ⟨ao, cp, h1, _⟩ := h.open
  have := h1.cell 1
  simp only [List.getElem?_toArray, List.getElem?_cons_zero, List.getElem?_cons_succ] at this
  unfold P2.lenB
  rw [this]
/-- the program's list is clear, the reference pops -/
structure Half (W0 W : World) (sb mb rb B0 : Nat) (most : Int) (i : Nat) (x : Int) (R : List (Int × Int)) : Prop where
  c : ∃ L N, LS (SB W rb) 55 W sb mb most N L ∧ RC W rb B0 most R ∧ (∀ y, y ≠ x → iKE.ok y → L y = zv (At R y)) ∧ L x = [] ∧ (∀ p ∈ R, iKE.ok p.1) ∧ R.length ≤ i ∧ N ≤ i + 1
  b : Below W0.heap.size W0 W
  d : W0.heap.size ≤ sb ∧ W0.heap.size ≤ mb ∧ sb < rb ∧ mb < rb ∧ rb < B0
theorem Half.two {x : Int} (h : Half W0 W sb mb rb B0 most i x R) (h0 : At R x = []) : Two W0 W sb mb rb B0 most (i + 1) := by
  obtain ⟨L, N, h1, h2, h3, hx, h4, h5, h6⟩ := h.c
  refine ⟨⟨L, R, N, h1, h2, fun y hy => ?_, h4, by omega, by omega⟩, h.b, h.d⟩
  by_cases e : y = x
  · rw [e, hx, h0]; rfl
  · exact h3 y e hy
theorem Half.rc {x : Int} (h : Half W0 W sb mb rb B0 most i x R) : RC W rb B0 most R := by obtain ⟨L, N, h1, h2, _⟩ := h.c; exact h2
theorem Half.len {x : Int} (h : Half W0 W sb mb rb B0 most i x R) : R.length ≤ i := by obtain ⟨L, N, h1, h2, h3, hx, h4, h5, h6⟩ := h.c; exact h5
/-- Clear, behind Len -/
theorem two_clear (h : Two W0 W sb mb rb B0 most i) (hi : i ≤ 300) (x : Int) (hx : iKE.ok x) : ∃ R : List (Int × Int), RC W rb B0 most R ∧ R.length ≤ i ∧ Calls Try.prog 20 #[.pointer (some ⟨sb, 0, none⟩), .int .i64 x] W fun e W1 => e = .returned (.int .i64 ((At R x).length : Int)) ∧ Fr (fun k => k = mb) W W1 ∧ Half W0 W1 sb mb rb B0 most i x R ∧ SB W1 rb = SB W rb := by
  obtain ⟨L, R, N, h1, h2, h3, h4, h5, h6⟩ := h.c
  have hd := h.d
  have hb := h.b
  refine ⟨R, h2, h5, ?_⟩
  refine (clear_any W sb mb most N L h1 (by unfold maxLen; omega) x hx).mono ?_
  rintro e W1 ⟨rfl, k1, hg⟩
  have f1 := fr_mb hg
  have k2 := h2.fr f1 (fun e => by omega) (fun k e => by omega)
  have es := h2.sb_fr f1 (fun e => by omega)
  rw [← es] at k1
  refine ⟨by rw [h3 x hx]; simp [zv], f1, ⟨⟨_, N + 1, k1, k2, fun y hy ok => ?_, if_pos rfl, h4, h5, by omega⟩, hb.trans (f1.below hb.size (fun k e => by omega)), hd⟩, es⟩
  rw [if_neg hy]; exact h3 y ok
/-- one of the reference's Pops -/
theorem half_pop {x : Int} (h : Half W0 W sb mb rb B0 most i x R) (hi : i ≤ 300) (hne : At R x ≠ []) : Calls Try.prog 16 #[.pointer (some ⟨rb, 0, none⟩), .int .i64 x] W fun e W' => ∃ (v : Value) (R' : List (Int × Int)), e = .returned v ∧ Fr (SB W rb) W W' ∧ Half W0 W' sb mb rb B0 most i x R' ∧ R'.length < R.length ∧ ∀ k, SB W' rb k → SB W rb k ∨ W.heap.size ≤ k := by
  obtain ⟨L, N, h1, h2, h3, hx, h4, h5, h6⟩ := h.c
  have hd := h.d
  have hb := h.b
  refine (rpop_any h2 (by omega) x).mono ?_
  rintro e W2 ⟨ht, hor⟩
  rcases hor with ⟨hno, _⟩ | ⟨j, y, v', hj, hy, hno, rfl, h2'⟩
  · exact absurd (At_none hno) hne
  · obtain ⟨g1, g2⟩ := At_cut hj hy hno
    have hjl := (List.getElem?_eq_some_iff.1 hj).1
    have hlen : (R.take j ++ R.drop (j + 1)).length < R.length := by rw [List.length_append, List.length_take, List.length_drop]; omega
    refine ⟨_, _, rfl, ht.fr, ⟨⟨L, N, h1.turn0 ht.fr (fun k e => e) (fun e => ?_) (fun e => ?_) (fun k e => ?_), h2', fun z hz ok => ?_, hx, fun p hp => ?_, by omega, h6⟩, hb.trans (ht.fr.below hb.size (fun k e => ?_)), hd⟩, hlen, fun k e => ?_⟩
    · have := (h2.sb_lt e).2; omega
    · have := (h2.sb_lt e).2; omega
    · rcases e with e | e
      · exact .inl (.inl e)
      · rcases ht.row k e with e | e
        · exact .inl (.inr e)
        · exact .inr e
    · rw [g2 z hz]; exact h3 z hz ok
    · rcases List.mem_append.1 hp with hp | hp
      · exact h4 p (List.mem_of_mem_take hp)
      · exact h4 p (List.mem_of_mem_drop hp)
    · have := (h2.sb_lt e).2; omega
    · rcases e with e | e
      · exact .inl (.inl e)
      · rcases ht.row k e with e | e
        · exact .inl (.inr e)
        · exact .inr e
/-- what is looked at -/
theorem two_looks (h : Two W0 W sb mb rb B0 most i) (hi : i ≤ 300) (x : Int) (hx : iKE.ok x) : Calls Try.prog 21 #[.pointer (some ⟨sb, 0, none⟩), .pointer (some ⟨rb, 0, none⟩), .int .i64 x] W fun e W' => e = .returned (.bool true) ∧ Two W0 W' sb mb rb B0 most i := by
  obtain ⟨L, R, N, h1, h2, h3, h4, h5, h6⟩ := h.c
  have hl := h1.lt
  have hd := h2.d
  exact (looks_any W sb mb rb B0 most N h1 h2 ⟨h3, h4, by omega⟩ (by omega) ⟨hl.1, hl.2.1, by omega⟩ x hx).mono fun e W' hh => ⟨hh.1, h.fr0 hh.2⟩
end Go.Proofs.Ytklfppjejndclaa.P2
