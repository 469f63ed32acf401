/- A region of reads that draws its order, inside a fence, by the plain laws. -/
import Derived.Test.YtfeaoapjgcibmaaC
import Derived.OrdersIn
set_option linter.unusedVariables false
set_option linter.unusedSimpArgs false
namespace Go.Proofs.Ytfeaoapjgcibmaa
open Go.RowKit Go.Shelf
def calm : Op → Bool
  | .move _ | .assign _ | .pick _ _ _ | .load _ _ | .binOp _ _ _ _ _ | .unOp _ _ _ | .indexAddr _ _ _ | .convert _ _ _ | .extract _ _ => true
  | .call c => match c.callee with
    | .builtin .len => true
    | _ => false
  | _ => false
theorem then_value {α : Type} {R : Result α} {f : α → Value} {w' : World} {r : Next} (h : (R.andThen fun a w' => Result.ok (Next.value (f a)) w') = .ok r w') : ∃ v, r = .value v := by
  cases R with
  | ok x w1 => simp only [Result.andThen_ok] at h; cases h; exact ⟨_, rfl⟩
  | halt x w1 => simp at h
theorem calm_value {P : Program} {ρ : Operand → Value} {o : Oper} (hc : calm o.op = true) {w w' : World} {r : Next} (h : (execOp ρ o).run P w = .ok r w') : ∃ v, r = .value v := by
  unfold execOp at h
  cases ho : o.op <;> rw [ho] at hc h <;> simp only [calm, Bool.false_eq_true] at hc
  case call c =>
    cases hcc : c.callee with
    | builtin b =>
      rw [hcc] at hc
      cases b <;> simp only [Bool.false_eq_true] at hc
      simp only [Sem.run_bind, resolve, hcc, Sem.run_pure, Result.andThen_ok, invoke, builtin] at h
      exact then_value h
    | _ => rw [hcc] at hc; simp at hc
  all_goals
    simp only [Sem.run_bind, Sem.run_pure] at h
    first
    | (cases h; exact ⟨_, rfl⟩)
    | exact then_value h
theorem calm_about {P : Program} {ρ : Operand → Value} {o : Oper} (hc : calm o.op = true) (w : World) : o.about P w ρ = none := by
  unfold Oper.about
  cases ho : o.op <;> rw [ho] at hc <;> simp only [calm, Bool.false_eq_true] at hc <;> try rfl
  rename_i c
  cases hcc : c.callee with
  | builtin b =>
    simp only [resolve, hcc, Sem.run_bind, Sem.run_pure, Result.andThen_ok]
    first | rfl | (simp [Target.leads])
  | _ => rw [hcc] at hc; simp at hc
theorem calm_in {F : Fence} {n : Nat} {P : Program} {o : Oper} (hc : calm o.op = true) {a : Act} {w : World} {K : Act → World → Prop} {Q : Exit → Act → World → Prop} (h : o.wp P a w K Q) : o.wpIn F n P a w K Q := by
  unfold Oper.wpIn
  refine ⟨fun f hf => (by rw [calm_about hc] at hf; cases hf), ?_⟩
  rw [Oper.semAt_eq _ _ _ (by intro c e; rw [e] at hc; simp [calm] at hc)]
  unfold Oper.wp at h
  cases hr : (execOp a.eval o).run P w with
  | ok r w' =>
    rw [hr] at h
    obtain ⟨v, rfl⟩ := calm_value hc hr
    exact h
  | halt x w' =>
    rw [hr] at h
    cases x <;> first | exact h | exact h.elim
theorem anyIn_of {F : Fence} {n : Nat} {P : Program} {md : Region.Mode} {ops : Array Oper} {Q : Exit → Act → World → Prop} (hc : ops.all (fun o => calm o.op) = true) (hL : ¬ LetsOut Q) :
    ∀ (fuel : Nat) (listed : Array Bool) (a : Act) (w : World), wpAny P md ops Q fuel listed a w → wpAnyIn F n P md ops Q fuel listed a w
  | 0, _, _, _, h => h
  | fuel + 1, listed, a, w, h => by
    refine ⟨h.1, fun i hi => ?_⟩
    have := h.2 i hi
    unfold wpOp at this
    unfold wpOpIn
    cases ho : ops[i]? with
    | none => simp only [ho] at this ⊢; exact anyIn_of hc hL fuel _ _ _ this
    | some o =>
      have hco : calm o.op = true := by
        obtain ⟨hlt, e⟩ := Array.getElem?_eq_some_iff.1 ho
        have := Array.all_eq_true.1 hc i hlt
        rw [e] at this; exact this
      simp only [ho] at this ⊢
      by_cases hw : Region.wanted o (yielded ops a.tmps) = true
      · rw [if_pos hw] at this ⊢
        rcases this with this | this
        · exact Oper.wpIn_mono (fun a w h => anyIn_of hc hL fuel _ _ _ h) (calm_in hco this)
        · exact absurd this.2 hL
      · rw [if_neg hw] at this ⊢
        exact ⟨fun f hf => (by rw [calm_about hco] at hf; cases hf), anyIn_of hc hL fuel _ _ _ this⟩
/-- a region of reads, in a fence: from the plain law that holds the cells -/
theorem calm_region {F : Fence} {n : Nat} {P : Program} {id : Nat} {ops : Array Oper} {Q : Exit → Act → World → Prop} {S : World → Prop} {a : Act} {w : World} (hm : P.follows .mixedOrders = true) (hc : ops.all (fun o => calm o.op) = true) (hL : ¬ LetsOut Q)
    (hS : S w.drew) (h : S w.drew → wpAnyH P .any ops Q S ops.size (Array.replicate ops.size false) a w.drew) : (Code.region id ops true).wpIn F n P Q a w :=
  wpIn_region_any hm (anyIn_of hc hL _ _ _ _ (wpAny_of_held _ _ _ _ (h hS)))
def noDef : Op → Bool
  | .defer _ => false
  | _ => true
theorem wide_about {l : Nat} (f : FuncId) : (Fence.wide.inRound l).fn f := trivial
theorem wide_op {l n : Nat} {P : Program} {o : Oper} (hc : noDef o.op = true) {a : Act} {w : World} {K : Act → World → Prop} {Q : Exit → Act → World → Prop} (h : o.wp P a w K Q) : o.wpIn (Fence.wide.inRound l) n P a w K Q := by
  unfold Oper.wpIn
  refine ⟨fun f _ => trivial, ?_⟩
  rw [Oper.semAt_eq _ _ _ (by intro c e; rw [e] at hc; simp [noDef] at hc)]
  unfold Oper.wp at h
  generalize (execOp a.eval o).run P w = r at h ⊢
  cases r with
  | ok x w' =>
    cases x <;> first
      | exact h
      | exact ⟨fun e => by simp [Fence.wide] at e, CallsIn.inRound l (callsIn_wide.2 h)⟩
      | exact ⟨fun e => by simp [Fence.wide] at e, fun c cs _ => let ⟨v, w', r, s⟩ := h c cs; ⟨v, w', r, stepsIn_wide.2 s⟩⟩
      | exact h.elim
  | halt x w' => cases x <;> first | exact h | exact h.elim
theorem anyIn_round {l n : Nat} {P : Program} {md : Region.Mode} {ops : Array Oper} {Q : Exit → Act → World → Prop} (hc : ops.all (fun o => noDef o.op) = true) (hL : ¬ LetsOut Q) :
    ∀ (fuel : Nat) (listed : Array Bool) (a : Act) (w : World), wpAny P md ops Q fuel listed a w → wpAnyIn (Fence.wide.inRound l) n P md ops Q fuel listed a w
  | 0, _, _, _, h => h
  | fuel + 1, listed, a, w, h => by
    refine ⟨h.1, fun i hi => ?_⟩
    have := h.2 i hi
    unfold wpOp at this
    unfold wpOpIn
    cases ho : ops[i]? with
    | none => simp only [ho] at this ⊢; exact anyIn_round hc hL fuel _ _ _ this
    | some o =>
      have hco : noDef o.op = true := by
        obtain ⟨hlt, e⟩ := Array.getElem?_eq_some_iff.1 ho
        have := Array.all_eq_true.1 hc i hlt
        rw [e] at this; exact this
      simp only [ho] at this ⊢
      by_cases hw : Region.wanted o (yielded ops a.tmps) = true
      · rw [if_pos hw] at this ⊢
        rcases this with this | this
        · exact Oper.wpIn_mono (fun a w h => anyIn_round hc hL fuel _ _ _ h) (wide_op hco this)
        · exact absurd this.2 hL
      · rw [if_neg hw] at this ⊢
        exact ⟨fun f _ => trivial, anyIn_round hc hL fuel _ _ _ this⟩
/-- a region within a round, at the wide fence: from the plain law that holds the cells -/
theorem round_region {l n : Nat} {P : Program} {id : Nat} {ops : Array Oper} {Q : Exit → Act → World → Prop} {S : World → Prop} {a : Act} {w : World} (hm : P.follows .mixedOrders = true) (hc : ops.all (fun o => noDef o.op) = true) (hL : ¬ LetsOut Q)
    (hS : S w.drew) (h : S w.drew → wpAnyH P .any ops Q S ops.size (Array.replicate ops.size false) a w.drew) : (Code.region id ops true).wpIn (Fence.wide.inRound l) n P Q a w :=
  wpIn_region_any hm (anyIn_round hc hL _ _ _ _ (wpAny_of_held _ _ _ _ (h hS)))
end Go.Proofs.Ytfeaoapjgcibmaa
