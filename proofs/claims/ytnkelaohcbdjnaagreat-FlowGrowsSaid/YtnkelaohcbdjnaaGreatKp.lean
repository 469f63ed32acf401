/- What acts do to a run's length and task;what was done once is stale: plain. -/
import Derived.Test.YtnkelaohcbdjnaaGreatJt
set_option linter.unusedVariables false
set_option linter.unusedSimpArgs false
namespace Go.Proofs.YtnkelaohcbdjnaaGreat
open Go.RowKit Go.Maps
/-- a run's length,and what its task makes up for -/
def potN (s : FSt) : Nat:=s.l.length + if s.task = 2 then 16 else 0
/-- small steps -/
structure Stp (s s' : FSt) : Prop where
 pot : potN s' ≤ potN s + 18
 at_ : (0 ≤ s.at_ ∧ s.at_ ≤ s.l.length) → (0 ≤ s'.at_ ∧ s'.at_ ≤ s'.l.length)
theorem Stp.refl (s : FSt) : Stp s s:=⟨by omega,id⟩
theorem len_pot (s : FSt) : s.l.length ≤ potN s:=by unfold potN;omega
theorem Stp.of {s s' : FSt} (h1 : s'.l.length ≤ s.l.length + 2 ∧ s.l.length ≤ s'.l.length) (h2 : s'.task = 2 → s.task = 2) (h3 : s'.at_ = s.at_ ∨ s'.at_ = s'.l.length) : Stp s s':=by
 refine ⟨?_,fun h=>?_⟩
 ·unfold potN
  by_cases a : s'.task = 2
  ·rw [if_pos a,if_pos (h2 a)];omega
  ·rw [if_neg a];omega
 ·rcases h3 with h3 | h3 <;> omega
theorem Stp.wake {s s1 : FSt} (hl : ∃ e,s1.l = s.l ++ [e]) (ht : s1.task = s.task) (ha : s1.at_ = s.at_) (now : Int) : Stp s (wakeS s1 now):=by
 have h1 : s1.l.length = s.l.length + 1:=by obtain ⟨e,hl⟩:=hl;rw [hl];simp
 unfold wakeS
 split
 ·rename_i h0
  refine Stp.of ?_ (fun h=>by cases h) (.inr ?_)
  ·have : (sched s1 now).l.length = s1.l.length + 1:=by simp [sched]
   omega
  ·show (s1.l.length : Int) + 1 = ((s1.l ++ _).length : Nat)
   rw [List.length_append]
   simp
 ·exact Stp.of (by omega) (fun h=>by rw [← ht];exact h) (.inl ha)
theorem Stp.fault (s : FSt) (m now er : Int) : Stp s (YtnkelaohcbdjnaaGreat.faultC s m now er).1:=by
 have h1 : (sched (faulted s now m) now).l.length = s.l.length + 2:=by simp [sched,faulted]
 refine Stp.of (by show (sched _ now).l.length ≤ _ ∧ _ ≤ (sched _ now).l.length;omega) (fun h=>by cases h) (.inr ?_)
 show ((faulted s now m).l.length : Int) + 1 = (sched (faulted s now m) now).l.length
 rw [h1]
 simp [faulted]
 omega
theorem Stp.tries {s : FSt} {n : Nat} {now : Int} {c : FSt × List Ov × Int} (h : rightP s.l n now → statusK s.l = 1 → Stp s c.1) : Stp s (rtryC s n now c).1:=by
 unfold rtryC readyE
 by_cases h1 : rightB s.l n now = true
 ·rw [if_pos h1]
  by_cases h2 : statusK s.l = 1
  ·rw [if_pos h2,if_pos rfl]
   exact h (rightB_iff.1 h1) h2
  ·rw [if_neg h2,if_neg (by decide)]
   exact Stp.refl s
 ·rw [if_neg h1,if_neg (by decide)]
  exact Stp.refl s
theorem doneS_at (s : FSt) (x : Dv) (now : Int) : (doneS s x now).at_ = s.at_:=by
 unfold doneS openedS shut
 repeat' split
 all_goals rfl
theorem fold_at : ∀ (l : List Dv) (s : FSt) (now : Int),(decFold now s l).1.at_ = s.at_
 | [],s,now=>by rw [decFold_nil]
 | x :: l,s,now=>by rw [decFold_cons];exact (fold_at l _ now).trans (doneS_at s x now)
theorem Stp.decide {s : FSt} (h : FInv s) (ho : statusK s.l = 1) {n : Nat} {now : Int} (ref turn : Int) (l : List Dv) (hr : rightP s.l n now) (hf : s.l.length ≤ 30000) : Stp s (rdecideC s ref turn l now).1:=by
 rw [(decide_same h ho ref turn l hr hf).1]
 unfold decideC
 by_cases hc : s.task = 2 ∧ s.at_ = ref ∧ s.turn = turn
 rotate_left
 ·rw [if_neg hc]
  exact Stp.refl s
 rw [if_pos hc]
 by_cases hb : badS s l = true
 ·rw [if_pos hb]
  exact Stp.fault s 1 now 22
 rw [if_neg hb]
 by_cases hl : s.late = true ∧ endsB l = true
 ·rw [if_pos hl]
  exact Stp.fault s 2 now 23
 rw [if_neg hl]
 have hb' : badS s l = false:=by simpa using hb
 obtain ⟨hm,h32⟩:=decided_mid (now:=now) h.openOk h.uniq h.ids hb'
 obtain ⟨d1,d2⟩:=decided_inv h ho hc.1 hr (by omega)
 have hdl : (decided s now).l.length = s.l.length + 1:=by simp [decided]
 obtain ⟨f1,f2,f3,f4,f5,f6⟩:=fold_keep l (s:=decided s now) (now:=now) 0 d1 (fun _=>d2) (right_snoc hr rfl) (by omega) hm.bad rfl
 have hat : (decFold now (decided s now) l).1.at_ = s.at_:=fold_at l _ now
 have hps : potN s = s.l.length + 16:=by unfold potN;rw [if_pos hc.1]
 unfold fineC
 dsimp only
 by_cases hs : s.late = true ∧ statusK (decFold now (decided s now) l).1.l = 1
 ·rw [if_pos hs]
  have hsl : (sched (decFold now (decided s now) l).1 now).l.length = (decFold now (decided s now) l).1.l.length + 1:=by simp [sched]
  have hpt : potN (sched (decFold now (decided s now) l).1 now) = (sched (decFold now (decided s now) l).1 now).l.length:=by unfold potN;rw [if_neg (by show ¬ (1 : Int) = 2;decide)];rfl
  refine ⟨by rw [hpt,hps];omega,fun _=>?_⟩
  show 0 ≤ ((decFold now (decided s now) l).1.l.length : Int) + 1 ∧ ((decFold now (decided s now) l).1.l.length : Int) + 1 ≤ (sched (decFold now (decided s now) l).1 now).l.length
  rw [hsl]
  omega
 ·rw [if_neg hs]
  have hpt : potN (decFold now (decided s now) l).1 = (decFold now (decided s now) l).1.l.length:=by unfold potN;rw [if_neg (by rw [f4];decide)];rfl
  refine ⟨by rw [hpt,hps];omega,fun ha=>?_⟩
  show 0 ≤ (decFold now (decided s now) l).1.at_ ∧ (decFold now (decided s now) l).1.at_ ≤ (decFold now (decided s now) l).1.l.length
  rw [hat]
  omega
theorem Stp.ends (s : FSt) (k ref : Int) (ds : List Value) (now : Int) : Stp s (endsC s k ref ds now).1:=by
 unfold endsC
 split
 ·exact Stp.wake (by exact ⟨_,rfl⟩) (by rfl) (by rfl) now
 ·exact Stp.refl s
theorem Stp.missed (s : FSt) (ref turn now : Int) : Stp s (missedC s ref turn now).1:=by
 unfold missedC
 split
 ·have h1 : (sched (YtnkelaohcbdjnaaGreat.missed s now) now).l.length = s.l.length + 2:=by simp [sched,YtnkelaohcbdjnaaGreat.missed]
  refine Stp.of (by show (sched _ now).l.length ≤ _ ∧ _ ≤ (sched _ now).l.length;omega) (fun h=>by cases h) (.inr ?_)
  show ((YtnkelaohcbdjnaaGreat.missed s now).l.length : Int) + 1 = (sched (YtnkelaohcbdjnaaGreat.missed s now) now).l.length
  rw [h1]
  simp [YtnkelaohcbdjnaaGreat.missed]
  omega
 ·exact Stp.refl s
/-- EACH STEP IS SMALL -/
theorem step_small {s : FSt} (h : FInv s) (now : Int) (hl : s.l.length ≤ 4000) (a : ActV) : Stp s (stepC s a now).1:=by
 unfold stepC
 split
 ·exact Stp.tries (fun _ _=>Stp.wake (by exact ⟨_,rfl⟩) (by rfl) (by rfl) now)
 split
 ·refine Stp.tries (fun _ _=>?_)
  unfold cancelC
  split
  ·exact Stp.refl s
  ·exact Stp.wake (by exact ⟨_,rfl⟩) (by rfl) (by rfl) now
 split
 ·exact Stp.tries (fun _ _=>Stp.of (by show (s.l ++ _).length ≤ _ ∧ _ ≤ (s.l ++ _).length;simp) (fun h=>by cases h) (.inl rfl))
 split
 ·refine Stp.tries (fun _ _=>?_)
  unfold rdecidesC
  split
  ·rename_i hc
   refine ⟨?_,fun hh=>?_⟩
   ·unfold potN
    rw [if_pos (by rfl),if_neg (by rw [hc.1];decide)]
    show (s.l ++ _).length + 16 ≤ _
    rw [List.length_append]
    simp
   ·show 0 ≤ s.at_ ∧ s.at_ ≤ ((s.l ++ _).length : Nat)
    rw [List.length_append]
    simp
    omega
  ·exact Stp.refl s
 split
 ·exact Stp.tries (fun hr ho=>Stp.decide h ho a.ref a.turn a.l hr (by omega))
 split
 ·refine Stp.tries (fun _ _=>?_)
  unfold worksC
  split
  ·exact Stp.of (by show (s.l ++ _).length ≤ _ ∧ _ ≤ (s.l ++ _).length;simp) id (.inl rfl)
  ·exact Stp.refl s
 split
 ·exact Stp.tries (fun _ _=>Stp.ends _ _ _ _ _)
 split
 ·split
  ·refine Stp.tries (fun _ _=>?_)
   unfold fireC
   split
   ·exact Stp.missed _ _ _ _
   split
   ·unfold lapsedC
    split
    ·exact Stp.ends _ _ _ _ _
    ·exact Stp.refl s
   ·unfold firedC
    split
    ·exact Stp.wake (by exact ⟨_,rfl⟩) (by rfl) (by rfl) now
    ·exact Stp.refl s
  ·exact Stp.refl s
 split
 ·split
  ·refine Stp.tries (fun _ _=>?_)
   unfold childC
   split
   ·split
    ·exact Stp.wake (by exact ⟨_,rfl⟩) (by rfl) (by rfl) now
    ·exact Stp.refl s
   ·exact Stp.refl s
  ·exact Stp.refl s
 ·exact Stp.refl s
theorem wakeS_mp (s : FSt) (now : Int) : (wakeS s now).mp = s.mp:=by
 unfold wakeS
 split <;> rfl
theorem upd_self (F : Int → Option Value) (x : Int) (v : Option Value) : upd F x v x = v:=by unfold upd;rw [if_pos rfl]
/-- an act's outcome that is an error,and turned nothing -/
def Err (s : FSt) (c : FSt × List Ov × Int) : Prop:=c.2.2 ≠ 0 ∧ c.1 = s
theorem Err.of (s : FSt) {er : Int} (h : er ≠ 0) : Err s (s,[],er):=⟨h,rfl⟩
theorem Err.tries {s : FSt} {n : Nat} {now : Int} {c : FSt × List Ov × Int} (h : readyE s n now = 0 → Err s c) : Err s (rtryC s n now c):=by
 unfold rtryC
 split
 ·rename_i h0
  exact h h0
 ·rename_i h0
  exact ⟨h0,rfl⟩
/-- one act,then the same act: c is what the first left of s;D tells the act's own function -/
theorem once_of {s : FSt} {n : Nat} {now : Int} {D : FSt → FSt × List Ov × Int} (h1 : ∀ s,Err s (D s) ∨ (D s).2.2 = 0) (h2 : (D s).2.2 = 0 → readyE s n now = 0 → statusK (D s).1.l = 1 → Err (D s).1 (D (D s).1)) (ho : statusK (rtryC s n now (D s)).1.l = 1) : Err (rtryC s n now (D s)).1 (rtryC (rtryC s n now (D s)).1 n now (D (rtryC s n now (D s)).1)):=by
 by_cases h0 : readyE s n now = 0
 ·have e1 : rtryC s n now (D s) = D s:=by unfold rtryC;rw [if_pos h0]
  rw [e1] at ho ⊢
  rcases h1 s with he | he
  ·rw [he.2]
   exact Err.tries (fun _=>he)
  ·exact Err.tries (fun _=>h2 he h0 ho)
 ·have e1 : rtryC s n now (D s) = (s,[],readyE s n now):=by unfold rtryC;rw [if_neg h0]
  rw [e1]
  exact Err.tries (fun h=>absurd h h0)
theorem ends_err (s : FSt) (k ref : Int) (ds : List Value) (now : Int) : Err s (endsC s k ref ds now) ∨ (endsC s k ref ds now).2.2 = 0:=by
 unfold endsC
 split
 ·exact .inr rfl
 ·exact .inl (Err.of _ (by decide))
theorem ends_again {s : FSt} {k ref : Int} {ds : List Value} {now : Int} (hi : ∀ s',s' = (endsC s k ref ds now).1 → FInv s') (k2 : Int) (h : (endsC s k ref ds now).2.2 = 0) (ho : statusK (endsC s k ref ds now).1.l = 1) : Err (endsC s k ref ds now).1 (endsC (endsC s k ref ds now).1 k2 ref ds now):=by
 have hi':=hi _ rfl
 have hmp : (endsC s k ref ds now).1.mp ref = none:=by
  unfold endsC at h ⊢
  split
  ·show (wakeS _ now).mp ref = none
   rw [wakeS_mp]
   exact upd_self _ _ _
  ·rename_i hc
   rw [if_neg hc] at h
   cases h
 obtain ⟨s',hs'⟩ : ∃ s',(endsC s k ref ds now).1 = s':=⟨_,rfl⟩
 rw [hs'] at hi' hmp ho ⊢
 unfold endsC
 rw [if_neg (fun hc=>by have:=works_back hi' ho hc.1;rw [hmp] at this;cases this)]
 exact (Err.of _ (by decide))
/-- WHAT WAS DONE ONCE IS STALE -/
theorem once_law {s : FSt} (h : FInv s) {now : Int} (hnow : rightP s.l 0 now) (hl : s.l.length ≤ 4000) (a : ActV) (hop : a.op = 4 ∨ a.op = 6 ∨ a.op = 7 ∨ a.op = 8) (ho : statusK (stepC s a now).1.l = 1) : Err (stepC s a now).1 (stepC (stepC s a now).1 a now):=by
 have hkept:=(step_kept h hnow hl a).inv
 rcases hop with hop | hop | hop | hop
 ·have e : ∀ t : FSt,stepC t a now = rtryC t 0 now (rdecidesC t a.ref a.turn now):=fun t=>by
   unfold stepC
   rw [if_neg (by omega),if_neg (by omega),if_neg (by omega),if_pos hop]
  rw [e] at ho ⊢
  rw [e]
  refine once_of (D:=fun t=>rdecidesC t a.ref a.turn now) (fun t=>?_) (fun h0 hr0 hs=>?_) ho
  ·show Err t (rdecidesC t a.ref a.turn now) ∨ (rdecidesC t a.ref a.turn now).2.2 = 0
   unfold rdecidesC
   split
   ·exact .inr rfl
   ·exact .inl (Err.of _ (by decide))
  ·show Err _ (rdecidesC _ a.ref a.turn now)
   have h0' : (rdecidesC s a.ref a.turn now).2.2 = 0:=h0
   have e1 : (rdecidesC s a.ref a.turn now).1.task = 2:=by
    unfold rdecidesC at h0' ⊢
    split
    ·rfl
    ·rename_i hc
     rw [if_neg hc] at h0'
     cases h0'
   obtain ⟨s',hs'⟩ : ∃ s',(rdecidesC s a.ref a.turn now).1 = s':=⟨_,rfl⟩
   rw [hs'] at e1 ⊢
   unfold rdecidesC
   rw [if_neg (by rw [e1];rintro ⟨e,_⟩;cases e)]
   exact (Err.of _ (by decide))
 ·have e : ∀ t : FSt,stepC t a now = rtryC t 0 now (worksC t a.ref now):=fun t=>by
   unfold stepC
   rw [if_neg (by omega),if_neg (by omega),if_neg (by omega),if_neg (by omega),if_neg (by omega),if_pos hop]
  rw [e] at ho hkept ⊢
  rw [e]
  refine once_of (D:=fun t=>worksC t a.ref now) (fun t=>?_) (fun h0 hr0 hs=>?_) ho
  ·show Err t (worksC t a.ref now) ∨ (worksC t a.ref now).2.2 = 0
   unfold worksC
   split
   ·exact .inr rfl
   ·exact .inl (Err.of _ (by decide))
  ·show Err _ (worksC _ a.ref now)
   have h0' : (worksC s a.ref now).2.2 = 0:=h0
   have hs' : statusK (worksC s a.ref now).1.l = 1:=hs
   have hi' : FInv (worksC s a.ref now).1:=by
    unfold rtryC at hkept
    rw [if_pos hr0] at hkept
    exact hkept
   have hmp : ∃ i,(worksC s a.ref now).1.mp a.ref = some (opv 7 i ((s.l.length : Int) + 1)):=by
    unfold worksC at h0' ⊢
    split
    ·exact ⟨_,upd_self _ _ _⟩
    ·rename_i hc
     rw [if_neg hc] at h0'
     cases h0'
   obtain ⟨i,hm⟩:=hmp
   obtain ⟨t,ht⟩ : ∃ t,(worksC s a.ref now).1 = t:=⟨_,rfl⟩
   rw [ht] at hm hi' hs' ⊢
   have hw:=(works_some hi' hs' hm).1
   unfold worksC
   rw [if_neg (by rw [hw];intro e;have:=congrArg Prod.fst e;dsimp only at this;omega)]
   exact (Err.of _ (by decide))
 ·have e : ∀ t : FSt,stepC t a now = rtryC t a.d.length now (endsC t (if a.good = true then 9 else 10) a.ref a.d now):=fun t=>by
   unfold stepC
   rw [if_neg (by omega),if_neg (by omega),if_neg (by omega),if_neg (by omega),if_neg (by omega),if_neg (by omega),if_pos hop]
  rw [e] at ho hkept ⊢
  rw [e]
  refine once_of (D:=fun t=>endsC t (if a.good = true then 9 else 10) a.ref a.d now) (fun t=>ends_err t _ _ _ _) (fun h0 hr0 hs=>?_) ho
  refine ends_again (fun s' hs'=>?_) _ h0 hs
  unfold rtryC at hkept
  rw [if_pos hr0] at hkept
  rw [hs']
  exact hkept
 ·have e : ∀ t : FSt,stepC t a now = if a.kind = 3 ∨ a.kind = 4 ∨ a.kind = 5 then rtryC t 0 now (fireC t a.kind a.ref a.turn now) else (t,[],1):=fun t=>by
   unfold stepC
   rw [if_neg (by omega),if_neg (by omega),if_neg (by omega),if_neg (by omega),if_neg (by omega),if_neg (by omega),if_neg (by omega),if_pos hop]
  rw [e] at ho hkept ⊢
  rw [e]
  by_cases hk : a.kind = 3 ∨ a.kind = 4 ∨ a.kind = 5
  rotate_left
  ·rw [if_neg hk,if_neg hk]
   exact (Err.of _ (by decide))
  rw [if_pos hk] at ho hkept ⊢
  rw [if_pos hk]
  have hk1 : ∀ hr0 : readyE s 0 now = 0,FInv (fireC s a.kind a.ref a.turn now).1:=fun hr0=>by
   unfold rtryC at hkept
   rw [if_pos hr0] at hkept
   exact hkept
  refine once_of (D:=fun t=>fireC t a.kind a.ref a.turn now) (fun t=>?_) (fun h0 hr0 hs=>?_) ho
  ·show Err t (fireC t a.kind a.ref a.turn now) ∨ (fireC t a.kind a.ref a.turn now).2.2 = 0
   unfold fireC
   split
   ·unfold missedC
    split
    ·exact .inr rfl
    ·exact .inl (Err.of _ (by decide))
   split
   ·unfold lapsedC
    split
    ·exact ends_err _ _ _ _ _
    ·exact .inl (Err.of _ (by decide))
   ·unfold firedC
    split
    ·exact .inr rfl
    ·exact .inl (Err.of _ (by decide))
  ·show Err _ (fireC _ a.kind a.ref a.turn now)
   have h0' : (fireC s a.kind a.ref a.turn now).2.2 = 0:=h0
   have hs' : statusK (fireC s a.kind a.ref a.turn now).1.l = 1:=hs
   have hi':=hk1 hr0
   by_cases k3 : a.kind = 3
   ·have e3 : ∀ t,fireC t a.kind a.ref a.turn now = missedC t a.ref a.turn now:=fun t=>by unfold fireC;rw [if_pos k3]
    rw [e3] at h0' ⊢
    rw [e3]
    have e1 : (missedC s a.ref a.turn now).1.task = 1:=by
     unfold missedC at h0' ⊢
     split
     ·rfl
     ·rename_i hc
      rw [if_neg hc] at h0'
      cases h0'
    obtain ⟨t,ht⟩ : ∃ t,(missedC s a.ref a.turn now).1 = t:=⟨_,rfl⟩
    rw [ht] at e1 ⊢
    unfold missedC
    rw [if_neg (by rw [e1];rintro ⟨e,_⟩;cases e)]
    exact (Err.of _ (by decide))
   by_cases k4 : a.kind = 4
   ·have e4 : ∀ t,fireC t a.kind a.ref a.turn now = lapsedC t a.ref a.turn now:=fun t=>by unfold fireC;rw [if_neg k3,if_pos k4]
    rw [e4] at h0' hs' hi' ⊢
    rw [e4]
    unfold lapsedC at h0' hs' hi' ⊢
    by_cases ht : a.turn = 0
    ·rw [if_pos ht] at h0' hs' hi' ⊢
     rw [if_pos ht]
     exact ends_again (fun s' hs'=>by rw [hs'];exact hi') 11 h0' hs'
    ·rw [if_neg ht] at h0'
     cases h0'
   ·have e5 : ∀ t,fireC t a.kind a.ref a.turn now = firedC t a.ref a.turn now:=fun t=>by unfold fireC;rw [if_neg k3,if_neg k4]
    rw [e5] at h0' hs' hi' ⊢
    rw [e5]
    have hmp : (firedC s a.ref a.turn now).1.mp a.ref = none:=by
     unfold firedC at h0' ⊢
     split
     ·show (wakeS _ now).mp a.ref = none
      rw [wakeS_mp]
      exact upd_self _ _ _
     ·rename_i hc
      rw [if_neg hc] at h0'
      cases h0'
    obtain ⟨t,ht⟩ : ∃ t,(firedC s a.ref a.turn now).1 = t:=⟨_,rfl⟩
    rw [ht] at hmp hs' hi' ⊢
    unfold firedC
    rw [if_neg (fun hc=>by have:=timer_back hi' hs' hc.2;rw [hmp] at this;cases this)]
    exact (Err.of _ (by decide))
theorem right_up {l : List Rv} {q : Nat} (h : rightP l 0 (q : Int)) (hq : q ≤ 1000000) : rightP l 0 ((q + 1 : Nat) : Int):=⟨by omega,by omega,by omega,fun e he=>by have:=h.2.2.2 e he;omega⟩
end Go.Proofs.YtnkelaohcbdjnaaGreat
