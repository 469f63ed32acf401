/- maps.Values' iterator, over this program's map: every value comes. -/
import Derived.Test.YtjcnmlfkdfpjmaaQ
import Derived.RangeFuncGives
set_option linter.unusedVariables false
set_option linter.unusedSimpArgs false
namespace Go.Proofs.Ytjcnmlfkdfpjmaa
open Go.RowKit Go.Maps Go.Sort Go.Shelf
/-- the values of what is no longer to come -/
def Got (F : Int → Option Int) (left : Lit → Bool) (ss : List Int) : Prop := ∀ t, t ∈ ss ↔ ∃ x, iKE.ok x ∧ F x = some t ∧ left (.int .i64 x) = false
def Vals (F : Int → Option Int) (ss : List Int) : Prop := ∀ t, t ∈ ss ↔ ∃ x, iKE.ok x ∧ F x = some t
theorem Got.step {F : Int → Option Int} {left : Lit → Bool} {ss : List Int} (h : Got F left ss) {x t : Int} (hx : iKE.ok x) (ht : F x = some t) : Got F (fun z => left z && !z.sameKey (.int .i64 x)) (ss ++ [t]) := by
  intro u
  rw [List.mem_append, h u, List.mem_singleton]
  constructor
  · rintro (⟨y, h1, h2, h3⟩ | rfl)
    · exact ⟨y, h1, h2, by simp [h3]⟩
    · exact ⟨x, hx, ht, by simp [Lit.sameKey]⟩
  · rintro ⟨y, h1, h2, h3⟩
    by_cases e : y = x
    · subst e
      rw [h2] at ht
      exact .inr (Option.some.inj ht)
    · refine .inl ⟨y, h1, h2, ?_⟩
      have hk : (Lit.int .i64 y).sameKey (.int .i64 x) = false := by simp [Lit.sameKey, e]
      simpa [hk] using h3
set_option maxRecDepth 100000 in
set_option maxHeartbeats 1000000 in
theorem vals1_in (G : Int → Option Int) (n : Nat) (hn : 1 ≤ n) (l Bm b nn : Nat) (D0 : DataW Value)
    (hD : ∀ x, iKE.ok x → Maps.has D0 (iKE.kl x) = (mI G x).isSome ∧ ∀ z, D0.atKey (iKE.kl x) z = (match mI G x with | some v => .held v | none => z)) (J : List Int → World → Prop)
    (hY : ∀ pre x W, J pre W → pre.length < Maps.size D0 → YieldAt Fence.wide (n - 1) Try.prog l #[encZ x] W fun e W' => e = .returned (.bool true) ∧ J (pre ++ [x]) W' ∧ KeepsWalks W W')
    (W : World) (hJ : AbidesFrom W.heap.size J) (hm : W.cell? ⟨Bm, 0, none⟩ = some (.map (some b))) (hown : W.ownsMap Try.prog 3 rawR b nn D0) (h0 : J [] W) :
    CallsIn Fence.wide n Try.prog 46 #[.func (.yield l) #[] #[], .pointer (some ⟨Bm, 0, none⟩)] W fun e W' => (∃ v, e = .returned v) ∧ ∃ ss : List Int, Vals G ss ∧ J ss W' := by
  have hDD := Lib.hid hD
  clear hD
  refine callsIn_of_wp Try.func46 rfl trivial ?_ rfl
  simp only [Try.ntmps46, List.size_toArray, List.length_cons, List.length_nil, Nat.reduceAdd, Nat.reduceSub, Array.replicate_succ, Array.replicate_zero, List.push_toArray, List.append_toArray, List.nil_append, List.cons_append]
  gi_wp2_with (first
    | (gi_at_range; refine wpListIn_range_own _ rfl _ 32 rfl 3 3 (int_keyed under3) Try.underlying32 _ b nn _ rfl hown ?_; intro w0 hrg0 hg0 hs0)
    | gi_in)
  go_frame
  gi_loopw [4] (fun _ wr => ∃ (left : Lit → Bool) (cnt : Nat) (ss : List Int), wr.ranges Try.prog 3 rawR b W.heap.size nn D0 left cnt ∧ ss.length + cnt ≤ Maps.size D0 ∧ Got G left ss ∧ J ss wr)
    (fun _ wr => wr.rangeLeft b W.heap.size)
  case atStart =>
    refine ⟨_, _, [], hrg0, by simp, fun t => ⟨fun h => (by cases h), ?_⟩, hJ [] W w0 none h0 hg0 (fun r e => by cases e)⟩
    rintro ⟨x, h1, h2, h3⟩
    have := (hDD.out x h1).1
    have e : Maps.has D0 (.int .i64 x) = (mI G x).isSome := this
    rw [e] at h3
    unfold mI at h3
    rw [h2] at h3
    simp at h3
  case round =>
    obtain ⟨left, cnt, ss, hrg, hcs, hC, hJs⟩ := hrel
    gi_wp2_with (first
      | (gi_at_next; refine wpListIn_next_ranges _ rfl _ rfl 3 (int_keyed under3) rawR encZ id (fun key kl hk => by obtain ⟨x, hx, _⟩ := Maps.keyOf_i64 under3 hk; exact ⟨x, hx⟩) (fun v _ _ => ⟨v, rfl⟩) b W.heap.size nn _ _ _ rfl hrg ?_ ?_)
      | gi_in)
    · intro hc0 hl0
      gi_wp2
      go_end0
      refine ⟨⟨_, rfl⟩, ss, fun t => ?_, hJs⟩
      rw [hC t]
      constructor
      · rintro ⟨x, h1, h2, _⟩; exact ⟨x, h1, h2⟩
      · rintro ⟨x, h1, h2⟩; exact ⟨x, h1, h2, hl0 _⟩
    · intro x cv kl yd yp w2 cnt2 hkey hlk hv hat hrg2 hlt hg2 hs2 hen
      obtain ⟨hxk, t, rfl, hxt⟩ := next_val hDD.out hkey hv hat
      obtain ⟨x', ex, rfl, _⟩ := Maps.keyOf_int_inv under3 hkey
      cases ex
      have hJ2 : J ss w2 := hJ ss wr w2 (some W.heap.size) hJs hg2 (fun r e => by cases e; exact ⟨Nat.le_refl _, hrg.iter_walk⟩)
      obtain ⟨fn, tmps, assign, body, hy, hR⟩ := hY ss t w2 hJ2 (by omega)
      have HS := Lib.hid (hC.step hxk hxt)
      clear hs2 hkey hv hat hxt
      gi_wp2
      refine hR.mono ?_
      rintro e W3 ⟨rfl, hJ3, hk3⟩
      gi_wp2
      have hrg3 := hrg2.of_walks hk3
      go_roundw
      case rel => exact ⟨_, cnt2, ss ++ [t], hrg3, by simp; omega, HS.out, hJ3⟩
      case measure => rw [hrg3.left_eq, hrg.left_eq]; exact hlt
theorem vals_gives (G : Int → Option Int) (n : Nat) (hn : 1 ≤ n) (Bm b nn : Nat) (D0 : DataW Value)
    (hD : ∀ x, iKE.ok x → Maps.has D0 (iKE.kl x) = (mI G x).isSome ∧ ∀ z, D0.atKey (iKE.kl x) z = (match mI G x with | some v => .held v | none => z)) (w : World) (hBm : Bm < w.heap.size)
    (hm : w.cell? ⟨Bm, 0, none⟩ = some (.map (some b))) (hown : w.ownsMap Try.prog 3 rawR b nn D0) :
    SeqGives Fence.wide n Try.prog 46 #[.pointer (some ⟨Bm, 0, none⟩)] encZ (Vals G) (Maps.size D0) w := fun l J W hW hJ hY h0 => by
  have hown' : W.ownsMap Try.prog 3 rawR b nn D0 := by
    have hbl := hown.lt
    obtain ⟨es, clock, hb, Ft, hs, hD⟩ := hown
    exact ⟨es, clock, (hW.block b hbl).trans hb, Ft, hs, hD⟩
  exact vals1_in G n hn l Bm b nn D0 hD J hY W hJ ((hW.cell (p := ⟨Bm, 0, none⟩) hBm).trans hm) hown' h0
end Go.Proofs.Ytjcnmlfkdfpjmaa
