/- Both clocks, act for act. -/
import Derived.Test.YtjcnmlfkdfpjmaaU
import Derived.Test.YtjcnmlfkdfpjmaaO
set_option linter.unusedVariables false
set_option linter.unusedSimpArgs false
namespace Go.Proofs.Ytjcnmlfkdfpjmaa
open Go.RowKit Go.Maps Go.Sort
/-- both clocks stand alike -/
structure Two (W0 W : World) (cb mb rb : Nat) (i : Nat) (T : Int) : Prop where
  c : ∃ F L, CK W cb mb T i F ∧ RC W rb (rb + 1) T L ∧ Rel F L ∧ L.length ≤ i
  t : 0 ≤ T ∧ T ≤ (i : Int) * 1048576
  b : Below W0.heap.size W0 W
  d : W0.heap.size ≤ cb ∧ W0.heap.size ≤ mb ∧ cb < rb ∧ mb < rb
variable {W0 W : World} {cb mb rb i : Nat} {T : Int}
theorem Two.fr0 {W' : World} (h : Two W0 W cb mb rb i T) (hf : Fr (fun _ => False) W W') : Two W0 W' cb mb rb i T := by
  obtain ⟨F, L, h1, h2, h3, h4⟩ := h.c
  exact ⟨⟨F, L, h1.kept hf, h2.kept hf, h3, h4⟩, h.t, h.b.trans (hf.below h.b.size (fun k e => e.elim)), h.d⟩
theorem Two.next (h : Two W0 W cb mb rb i T) : Two W0 W cb mb rb (i + 1) T := by
  obtain ⟨F, L, h1, h2, h3, h4⟩ := h.c
  have := h.t
  exact ⟨⟨F, L, h1.more (by omega), h2, h3, by omega⟩, by push_cast; omega, h.b, h.d⟩
theorem Two.lt (h : Two W0 W cb mb rb i T) : rb < W.heap.size := by
  obtain ⟨F, L, h1, h2, h3, h4⟩ := h.c
  have := h2.d
  omega
/-- a step of each -/
def Pair (f1 f2 : Nat) (a1 a2 : Array Value) (W0 W : World) (cb mb rb i : Nat) (v : Value) : Prop :=
  Calls Try.prog f1 a1 W fun e W1 => e = .returned v ∧ Fr (fun k => k = cb ∨ k = mb) W W1 ∧ Calls Try.prog f2 a2 W1 fun e W2 => e = .returned v ∧ Fr (fun k => k = rb) W1 W2 ∧ ∃ T', Two W0 W2 cb mb rb (i + 1) T'
theorem tickF_in (T n : Int) (h : 0 ≤ T) : 0 ≤ tickF T n ∧ tickF T n ≤ T + 1048576 := by unfold tickF; split <;> omega
theorem two_tick (h : Two W0 W cb mb rb i T) (hi : i ≤ 400) (n : Int) : Pair 14 24 #[.pointer (some ⟨cb, 0, none⟩), .int .i64 n] #[.pointer (some ⟨rb, 0, none⟩), .int .i64 n] W0 W cb mb rb i (.int .i64 (tickF T n)) := by
  obtain ⟨F, L, h1, h2, h3, h4⟩ := h.c
  have ht := h.t
  have hd := h.d
  have hb := h.b
  refine (tick_any h1 ht.1 (by omega) n).mono ?_
  rintro e W1 ⟨rfl, k1, f1⟩
  refine ⟨rfl, f1.mono fun _ e => .inl e, ?_⟩
  have b1 := hb.trans (f1.below hb.size (fun k e => by omega))
  refine (rtick_any (h2.fr f1 (fun e => by omega) (fun k e => by omega)) ht.1 (by omega) n).mono ?_
  rintro e W2 ⟨rfl, k2, f2⟩
  have hh := tickF_in T n ht.1
  refine ⟨rfl, f2, _, ⟨F, L, (k1.fr f2 (fun e => by omega) (fun e => by omega)).more (by omega), k2, h3, by omega⟩, by push_cast; omega, b1.trans (f2.below b1.size (fun k e => by omega)), hd⟩
theorem setB_t {T a : Int} : setB T a = true ↔ T < a ∧ a ≤ 1099511627776 := by unfold setB; simp
theorem two_set (h : Two W0 W cb mb rb i T) (hi : i ≤ 400) (x n : Int) (hx : iKE.ok x) : Pair 13 25 #[.pointer (some ⟨cb, 0, none⟩), .int .i64 x, .int .i64 n] #[.pointer (some ⟨rb, 0, none⟩), .int .i64 x, .int .i64 n] W0 W cb mb rb i (.bool (setB T n)) := by
  obtain ⟨F, L, h1, h2, h3, h4⟩ := h.c
  have ht := h.t
  have hd := h.d
  have hb := h.b
  refine (set_any h1 (by unfold maxLen; omega) x n hx).mono ?_
  rintro e W1 ⟨rfl, k1, f1⟩
  refine ⟨rfl, f1.mono fun _ e => .inr e, ?_⟩
  have b1 := hb.trans (f1.below hb.size (fun k e => by omega))
  refine (rset_any (h2.fr f1 (fun e => by omega) (fun k e => by omega)) (by omega) x n).mono ?_
  rintro e W2 ⟨f2, L1, hdr, hor⟩
  have hr := h3.drop hx hdr
  have hlen := hdr.len
  have b2 := b1.trans (f2.below b1.size (fun k e => by omega))
  have k2 := k1.fr f2 (fun e => by omega) (fun e => by omega)
  have htt : 0 ≤ T ∧ T ≤ ((i + 1 : Nat) : Int) * 1048576 := by push_cast; omega
  rcases hor with ⟨hno, rfl, hR⟩ | ⟨g1, g2, rfl, j, hj, hlo, hhi, hR⟩
  · have e1 : setB T n = false := by cases hs : setB T n; rfl; exact absurd (setB_t.1 hs) hno
    rw [e1]
    refine ⟨rfl, f2, T, ⟨_, L1, k2, hR, ?_, by omega⟩, htt, b2, hd⟩
    unfold setF
    rw [if_neg hno]
    exact hr
  · have e1 : setB T n = true := setB_t.2 ⟨g1, g2⟩
    rw [e1]
    refine ⟨rfl, f2, T, ⟨_, _, k2, hR, ?_, ?_⟩, htt, b2, hd⟩
    · unfold setF
      rw [if_pos ⟨g1, g2⟩]
      exact hr.set hx hj hlo hhi
    · rw [List.length_append, List.length_take, List.length_cons, List.length_drop]; omega
theorem two_drop (h : Two W0 W cb mb rb i T) (hi : i ≤ 400) (x : Int) (hx : iKE.ok x) : ∃ b, Pair 26 27 #[.pointer (some ⟨cb, 0, none⟩), .int .i64 x] #[.pointer (some ⟨rb, 0, none⟩), .int .i64 x] W0 W cb mb rb i (.bool b) := by
  obtain ⟨F, L, h1, h2, h3, h4⟩ := h.c
  have ht := h.t
  have hd := h.d
  have hb := h.b
  refine ⟨(F x).isSome, ?_⟩
  refine (drop_any h1 x hx).mono ?_
  rintro e W1 ⟨rfl, k1, f1⟩
  refine ⟨rfl, f1.mono fun _ e => .inr e, ?_⟩
  have b1 := hb.trans (f1.below hb.size (fun k e => by omega))
  refine (rdrop_any (h2.fr f1 (fun e => by omega) (fun k e => by omega)) (by omega) x).mono ?_
  rintro e W2 ⟨f2, hor⟩
  have b2 := b1.trans (f2.below b1.size (fun k e => by omega))
  have k2 := (k1.fr f2 (fun e => by omega) (fun e => by omega)).more (N' := i + 1) (by omega)
  have htt : 0 ≤ T ∧ T ≤ ((i + 1 : Nat) : Int) * 1048576 := by push_cast; omega
  obtain ⟨d1, d2⟩ := h3.dropB hx
  rcases hor with ⟨hno, rfl, hR⟩ | ⟨j, p, hj, hp, rfl, hR⟩
  · rw [d1 hno]
    exact ⟨rfl, f2, T, ⟨_, L, k2, hR, h3.drop hx (.inl ⟨hno, rfl⟩), by omega⟩, htt, b2, hd⟩
  · rw [d2 j p hj hp]
    refine ⟨rfl, f2, T, ⟨_, _, k2, hR, h3.drop hx (.inr ⟨j, p, hj, hp, rfl⟩), ?_⟩, htt, b2, hd⟩
    rw [List.length_append, List.length_take, List.length_drop]; omega
/-- what is due of both -/
theorem two_due (h : Two W0 W cb mb rb i T) (hi : i ≤ 400) : Calls Try.prog 15 #[.pointer (some ⟨cb, 0, none⟩)] W fun e W1 => ∃ (ao : Option Addr) (cp : Nat) (l : List Int), e = .returned (.slice ao l.length cp) ∧ l.length ≤ i ∧ RowI W1 W.heap.size ao l ∧ Fr (fun k => k = cb ∨ k = mb) W W1 ∧
    Calls Try.prog 28 #[.pointer (some ⟨rb, 0, none⟩)] W1 fun e W2 => ∃ (ao2 : Option Addr) (cp2 : Nat), e = .returned (.slice ao2 l.length cp2) ∧ RowI W2 W.heap.size ao l ∧ RowI W2 W.heap.size ao2 l ∧ Fr (fun k => k = rb) W1 W2 ∧ ∃ T', Two W0 W2 cb mb rb (i + 1) T' := by
  obtain ⟨F, L, h1, h2, h3, h4⟩ := h.c
  have ht := h.t
  have hd := h.d
  have hb := h.b
  have hlt := h.lt
  refine (due_any h1 (by omega)).mono ?_
  rintro e W1 ⟨ao, cp, l, rfl, hl, hll, hr, k1, f1⟩
  refine ⟨ao, cp, l, rfl, hll, hr, f1.mono fun _ e => .inr e, ?_⟩
  have b1 := hb.trans (f1.below hb.size (fun k e => by omega))
  refine (rdue_any (h2.fr f1 (fun e => by omega) (fun k e => by omega)) (by omega)).mono ?_
  rintro e W2 ⟨ao2, cp2, k, hk, rfl, g1, g2, hr2, hR, f2⟩
  obtain ⟨e1, hrel⟩ := h3.due hl hk g1 g2
  rw [e1] at hr2 ⊢
  refine ⟨ao2, cp2, rfl, hr.fr f2 (fun k e => by omega), ?_, f2, T, ⟨_, _, (k1.fr f2 (fun e => by omega) (fun e => by omega)).more (by omega), hR, hrel, ?_⟩, by push_cast; omega, b1.trans (f2.below b1.size (fun k e => by omega)), hd⟩
  · rcases hr2 with h | ⟨g, h1, h2, h3⟩
    · exact .inl h
    · exact .inr ⟨g, h1, by have := f1.size; omega, h3⟩
  · rw [List.length_drop]; omega
/-- Next of both -/
theorem two_next (h : Two W0 W cb mb rb i T) (hi : i ≤ 401) : Calls Try.prog 29 #[.pointer (some ⟨cb, 0, none⟩)] W fun e W1 => ∃ v q, e = .returned (.tuple #[.int .i64 v, .bool q]) ∧ Two W0 W1 cb mb rb i T ∧ Calls Try.prog 30 #[.pointer (some ⟨rb, 0, none⟩)] W1 fun e W2 => e = .returned (.tuple #[.int .i64 v, .bool q]) ∧ W1 = W2 := by
  obtain ⟨F, L, h1, h2, h3, h4⟩ := h.c
  refine (next_clock h1 (by omega)).mono ?_
  rintro e W1 ⟨v, q, rfl, hn, f1⟩
  refine ⟨v, q, rfl, h.fr0 f1, ?_⟩
  refine (rnext_clock (h2.kept f1) (by omega)).mono ?_
  rintro e W2 ⟨rfl, rfl⟩
  obtain ⟨e1, e2⟩ := h3.next hn
  rw [← e1, ← e2]
  exact ⟨rfl, rfl⟩
theorem Two.now (h : Two W0 W cb mb rb i T) : Calls Try.prog 17 #[.pointer (some ⟨cb, 0, none⟩)] W (fun e W' => e = .returned (.int .i64 T) ∧ W = W') ∧ W.cell? ⟨rb, 0, none⟩ = some (.int .i64 T) := by
  obtain ⟨F, L, h1, h2, h3, h4⟩ := h.c
  refine ⟨now_any h1, ?_⟩
  obtain ⟨sv, hs, _⟩ := h2.s
  have := hs.cell 0
  simpa using this
end Go.Proofs.Ytjcnmlfkdfpjmaa
