/- The law of FlowOnce: its walk. -/
import Derived.Test.YtnkelaohcbdjnaaGreatKp
import Derived.Deep.QuietTactic
import Derived.BigQuiet
set_option linter.unusedVariables false
set_option linter.unusedSimpArgs false
namespace Go.Proofs.YtnkelaohcbdjnaaGreat
open Go.RowKit Go.Maps
/-- what stands between acts of a law -/
structure Run (B : Nat) (S R : Nat → Prop) (W : World) (fb mb rb : Nat) (s : FSt) (q : Nat) : Prop where
 j : JS S R W fb mb rb s
 i : FInv s
 at_ : rightP s.l 0 (q : Int)
 pot : potN s ≤ 2 + 18 * q
 wf : 0 ≤ s.at_ ∧ s.at_ ≤ s.l.length
 S : ∀ k,S k → B ≤ k
theorem Run.fr0 {B : Nat} {S R : Nat → Prop} {W W' : World} {fb mb rb : Nat} {s : FSt} {q : Nat} (h : Run B S R W fb mb rb s q) (hf : Fr (fun _=>False) W W') : Run B S R W' fb mb rb s q:=⟨h.j.fr0 hf,h.i,h.at_,h.pot,h.wf,h.S⟩
theorem Run.len {B : Nat} {S R : Nat → Prop} {W : World} {fb mb rb : Nat} {s : FSt} {q : Nat} (h : Run B S R W fb mb rb s q) (hq : q ≤ 120) : s.l.length ≤ 2162:=by
 have h1:=len_pot s
 have h2:=h.pot
 omega
theorem Run.up {B : Nat} {S R : Nat → Prop} {W : World} {fb mb rb : Nat} {s : FSt} {q : Nat} (h : Run B S R W fb mb rb s q) (hq : q ≤ 120) : Run B S R W fb mb rb s (q + 1):=⟨h.j,h.i,right_up h.at_ (by omega),by have:=h.pot;omega,h.wf,h.S⟩
/-- behind a step at its own time -/
theorem Run.step {B : Nat} {S R : Nat → Prop} {W W' : World} {fb mb rb : Nat} {s : FSt} {q : Nat} (h : Run B S R W fb mb rb s q) (hq : q ≤ 120) (hB : B ≤ W.heap.size) (a : ActV) (hjo : JOut S W fb rb (stepC s a (q : Int)).1 W') : Fr (fun k=>B ≤ k) W W' ∧ ∃ S' R' mb',Run B S' R' W' fb mb' rb (stepC s a (q : Int)).1 (q + 1):=by
 obtain ⟨S',R',mb',h1,h2,h3⟩:=hjo
 have hl:=h.len hq
 have hk:=step_kept h.i h.at_ (by omega) a
 have hs:=step_small h.i (q : Int) (by omega) a
 exact ⟨h3.mono h.S,S',R',mb',h1,hk.inv,right_up hk.at_ (by omega),by have:=h.pot;have:=hs.pot;omega,hs.at_ h.wf,fun k e=>by
  rcases Nat.lt_or_ge k W.heap.size with hlt | hge
  ·exact h.S k ((h2 k hlt).1 e)
  ·omega⟩
theorem fr_above {B : Nat} {W W1 W2 : World} (h1 : Fr (fun _=>False) W W1) (hB : W.heap.size = B) (h2 : Fr (fun k=>B ≤ k) W1 W2) : Fr (fun _=>False) W W2:=Fr.step h1 h2 (fun k hk e=>by omega)
/-- the two new runs -/
theorem Run.start {W w3 w4 : World} {fb mb rb B : Nat} {S' R' : Nat → Prop} (hB : W.heap.size = B) (hp : PF (fun k=>k = fb ∨ k = mb) w3 fb mb (begun1 3 1 0 7 0 [])) (hfb : B ≤ fb) (hmb : B ≤ mb) (hW : W.heap.size ≤ w3.heap.size) (hs : ∀ k,k < w3.heap.size → (S' k ↔ (k = fb ∨ k = mb)) ∧ ¬ R' k) (hr : RF S' R' w4 rb (begun1 3 1 0 7 0 [])) (hf : Fr (fun _=>False) w3 w4) : Run B S' R' w4 fb mb rb (begun1 3 1 0 7 0 []) 0:=by
 have hi:=begun1_inv (id:=3) (run:=1) (list:=0) (n:=7) (now:=0) (ds:=[]) (by omega) (by omega) (by omega) ⟨by simp,by omega,by omega,fun e he=>(by cases he)⟩
 refine ⟨⟨⟨(hp.fl.to (fun k hk e=>(hs k hk).1.1 e)).fr0 hf,(hs fb (hp.lt fb (.inl rfl))).1.2 (.inl rfl),(hs mb (hp.lt mb (.inr rfl))).1.2 (.inr rfl),hr.lt⟩,hr⟩,hi.1,⟨by omega,by omega,by omega,fun e he=>?_⟩,?_,?_,fun k e=>?_⟩
 ·simp [begun1,sched,YtnkelaohcbdjnaaGreat.start] at he
  rw [← he]
  exact Int.le_refl 0
 ·unfold potN
  rw [if_neg (by show ¬ (1 : Int) = 2;decide)]
  simp [begun1,sched,YtnkelaohcbdjnaaGreat.start]
 ·simp [begun1,sched,YtnkelaohcbdjnaaGreat.start]
 ·rcases Nat.lt_or_ge k w3.heap.size with hlt | hge
  ·rcases (hs k hlt).1.1 e with e | e <;> omega
  ·omega
end Go.Proofs.YtnkelaohcbdjnaaGreat
