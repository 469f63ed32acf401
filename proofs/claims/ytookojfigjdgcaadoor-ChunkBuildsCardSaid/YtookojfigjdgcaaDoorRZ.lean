/- A region whose last operation writes what its earlier ones load: the condition on the world holds till that operation has come up. -/
import Derived.Test.YtookojfigjdgcaaDoorK
import Derived.OrdersHeld
import Derived.Deep.RegionHeld
namespace Go.Proofs.YtookojfigjdgcaaDoor
section
variable {P : Program} {ops : Array Oper} {Q : Exit → Act → World → Prop} {md : Region.Mode} {T : World → Prop} {z : Nat}
/-- whatever order comes: T holds behind each operation but number z -/
def anyZ (P : Program) (md : Region.Mode) (ops : Array Oper) (Q : Exit → Act → World → Prop) (T : World → Prop) (z : Nat) : Nat → Array Bool → Act → World → Prop
  | 0, l, a, w => Region.ready md ops l = [] ∧ Q .normal a w
  | n + 1, l, a, w => (Region.ready md ops l = [] → Q .normal a w) ∧ ∀ i ∈ Region.ready md ops l, wpOp P ops Q i (fun a w => (i ≠ z → T w) ∧ anyZ P md ops Q T z n (l.setIfInBounds i true) a w) a w
theorem anyZ_any : ∀ (n : Nat) (l : Array Bool) (a : Act) (w : World), anyZ P md ops Q T z n l a w → wpAny P md ops Q n l a w
  | 0, _, _, _, h => h
  | n + 1, _, _, _, h => ⟨h.1, fun i hi => wpOp_mono (fun a w k => anyZ_any n _ a w k.2) (h.2 i hi)⟩
/-- does number z wait for number i? -/
def waits (md : Region.Mode) (ops : Array Oper) (z i : Nat) : Bool := match ops[z]? with
  | some o => o.after.any fun e => Region.binds md e && e.on == i
  | none => false
theorem waits_not {l : Array Bool} {i : Nat} (hw : waits md ops z i = true) (hl : l.getD i true = false) : z ∉ Region.ready md ops l := fun hz => by
  obtain ⟨_, o, ho, hall⟩ := mem_ready.1 hz
  unfold waits at hw
  rw [ho] at hw
  obtain ⟨e, he, h⟩ := Array.any_eq_true'.1 hw
  simp only [Bool.and_eq_true, beq_iff_eq] at h
  have h1 := hall e he h.1
  rw [h.2] at h1
  rcases Nat.lt_or_ge i l.size with h' | h'
  · simp [h'] at hl h1; rw [hl] at h1; cases h1
  · simp [Array.getElem?_eq_none h'] at h1
theorem anyZ_first {i : Nat} {oi : Oper} {v : Value} (hi : ops[i]? = some oi) (hsel : ∀ (j : Nat) (o : Oper) cs b, ops[j]? = some o → o.op ≠ .select cs b)
    (hQ : ∀ c a w, Q (.panic c) (a.put oi.dst v) w → Q (.panic c) a w) (hz : waits md ops z i = true) : ∀ (n : Nat) (l : Array Bool) (a : Act) (w : World),
      (∀ j oj, ops[j]? = some oj → j ≠ i → l.getD j true = false → (∀ e ∈ oj.after, Region.binds md e = true → e.on ≠ i) → oi.apart ops oj = true) →
      i ∈ Region.ready md ops l → YieldsIf P ops T oi v a → T w → anyZ P md ops Q T z n (l.setIfInBounds i true) (a.put oi.dst v) w → anyZ P md ops Q T z (n + 1) l a w := by
  intro n
  induction n with
  | zero =>
    intro l a w _ hr hy hT H
    refine ⟨fun h => (by rw [h] at hr; cases hr), fun j hj => ?_⟩
    by_cases e : j = i
    · subst e
      exact hy.wpOp hi hT ⟨fun _ => hT, H⟩
    · have h := ready_mono hj e
      rw [H.1] at h
      cases h
  | succ n ih =>
    intro l a w hfree hr hy hT H
    have hli := (mem_ready.1 hr).1
    refine ⟨fun h => (by rw [h] at hr; cases hr), fun j hj => ?_⟩
    by_cases e : j = i
    · subst e
      exact hy.wpOp hi hT ⟨fun _ => hT, H⟩
    have hjz : j ≠ z := fun h => waits_not hz hli (h ▸ hj)
    obtain ⟨hun, oj, hoj, hall⟩ := mem_ready.1 hj
    have hno : ∀ d ∈ oj.after, Region.binds md d = true → d.on ≠ i := fun d hd hb h => by
      have h1 := hall d hd hb
      rw [h] at h1
      rcases Nat.lt_or_ge i l.size with h' | h'
      · simp [h'] at hli h1; rw [hli] at h1; cases h1
      · simp [Array.getElem?_eq_none h'] at h1
    have h2 := wpOp_putIf hoj (hfree j oj hoj e hun hno) (fun cs b => hsel i oi cs b hi) (fun cs b => hsel j oj cs b hoj) hQ hy (H.2 j (ready_mono hj e))
    refine wpOp_mono (fun a2 w2 h3 => ⟨h3.2.1, ih (l.setIfInBounds j true) a2 w2 (fun k ok hk hki hku hkn => hfree k ok hk hki ?_ hkn) (ready_mono hr (Ne.symm e)) h3.1 (h3.2.1 hjz) ?_⟩) h2
    · by_cases ejk : j = k
      · subst ejk; exact hun
      · rw [getD_set_ne true ejk] at hku; exact hku
    · rw [Array.setIfInBounds_comm _ _ e]
      exact h3.2.2
theorem anyZ_take {i : Nat} {oi : Oper} {v : Value} {n : Nat} {l : Array Bool} {a : Act} {w : World} (hi : ops[i]? = some oi) (hs : Region.noSelect ops = true) (hf : Region.free md ops l i = true)
    (hz : waits md ops z i = true) (hr : (Region.ready md ops l).contains i = true) (hQ : ∀ c a w, Q (.panic c) (a.put oi.dst v) w → Q (.panic c) a w) (hy : YieldsIf P ops T oi v a) (hT : T w)
    (h : anyZ P md ops Q T z n (l.setIfInBounds i true) (a.put oi.dst v) w) : anyZ P md ops Q T z (n + 1) l a w :=
  anyZ_first hi (Region.noSelect_spec hs) hQ hz n l a w (Region.free_spec hi hf) (by simpa using hr) hy hT h
theorem anyZ_done {l : Array Bool} {a : Act} {w : World} (hr : Region.ready md ops l = []) (h : Q .normal a w) : ∀ n, anyZ P md ops Q T z n l a w
  | 0 => ⟨hr, h⟩
  | _ + 1 => ⟨fun _ => h, by rw [hr]; simp⟩
/-- one operation alone is ready -/
theorem anyZ_one {i : Nat} {o : Oper} {n : Nat} {l : Array Bool} {a : Act} {w : World} (hr : Region.ready md ops l = [i]) (ho : ops[i]? = some o)
    (h : ∀ K : Act → World → Prop, Shut (∀ a w, (i ≠ z → T w) → ((i ≠ z → T w) → anyZ P md ops Q T z n (l.setIfInBounds i true) a w) → K a w) → if Region.wanted o (yielded ops a.tmps) = true then Oper.wp P o a w K Q else K (a.put o.dst undef) w) :
    anyZ P md ops Q T z (n + 1) l a w :=
  ⟨fun h0 => (by rw [hr] at h0; cases h0), fun j hj => by
    rw [hr] at hj
    obtain rfl : j = i := by simpa using hj
    exact wpOp_step ho fun K hK => h K fun a w hT hW => hK a w ⟨hT, hW hT⟩⟩
theorem region_Z {id : Nat} {a : Act} {w : World} (T : World → Prop) (z : Nat) (hm : P.follows .mixedOrders = true) (hT : T w.drew) (h : T w.drew → anyZ P .any ops Q T z ops.size (Array.replicate ops.size false) a w.drew) :
    (Code.region id ops true).wp P Q a w := wp_region_any hm (anyZ_any _ _ _ _ (h hT))
end
end Go.Proofs.YtookojfigjdgcaaDoor
