/- Histories that are told: good ones;bytes in them. -/
import Derived.Test.YtnkelaohcbdjnaaGreatJt
import Derived.Test.YtnkelaohcbdjnaaGreatGc
set_option linter.unusedVariables false
set_option linter.unusedSimpArgs false
namespace Go.Proofs.YtnkelaohcbdjnaaGreat
open Go.RowKit Go.Maps Ev
theorem good_same : ∀ (l : List Ev.Ev) (L : List Ev.Ev) (s : Hi),l.length = L.length → (∀ (i : Nat) (x y : Ev.Ev),l[i]? = some x → L[i]? = some y → y.k = x.k ∧ y.at_ = x.at_ ∧ y.ref = x.ref ∧ y.id = x.id ∧ y.list = x.list ∧ y.n = x.n ∧ y.dl = x.dl) → feed s l = feed s L ∧ ∀ (i : Nat) (x y : Ev.Ev),l[i]? = some x → L[i]? = some y → ∀ s,Ev.faultC s x = Ev.faultC s y:=by
 have key : ∀ (x y : Ev.Ev) (s : Hi),(y.k = x.k ∧ y.at_ = x.at_ ∧ y.ref = x.ref ∧ y.id = x.id ∧ y.list = x.list ∧ y.n = x.n ∧ y.dl = x.dl) → Ev.faultC s x = Ev.faultC s y ∧ addO s x = addO s y:=by
  rintro ⟨k,a,r,i,l,n,ao,dl,cp⟩ ⟨k',a',r',i',l',n',ao',dl',cp'⟩ s ⟨h1,h2,h3,h4,h5,h6,h7⟩
  dsimp only at h1 h2 h3 h4 h5 h6 h7
  subst h1 h2 h3 h4 h5 h6 h7
  have e1 : Ev.faultC s ⟨k',a',r',i',l',n',ao,dl',cp⟩ = Ev.faultC s ⟨k',a',r',i',l',n',ao',dl',cp'⟩:=rfl
  refine ⟨e1,?_⟩
  unfold addO
  rw [e1]
  rfl
 intro l
 induction l with
 | nil=>
   intro L s hl h
   have : L = []:=List.eq_nil_of_length_eq_zero (by simpa using hl.symm)
   subst this
   exact ⟨rfl,fun i x y hx=>by simp at hx⟩
 | cons a l ih=>
   intro L s hl h
   cases L with
   | nil=>simp at hl
   | cons b L=>
     have hab:=h 0 a b rfl rfl
     obtain ⟨k1,k2⟩:=key a b s hab
     obtain ⟨h1,h2⟩:=ih L (addO s a) (by simpa using hl) (fun i x y hx hy=>h (i + 1) x y (by simpa using hx) (by simpa using hy))
     refine ⟨?_,fun i x y hx hy s=>(key x y s (h i x y hx hy)).1⟩
     show feed (addO s a) l = feed (addO s b) L
     rw [h1,k2]
theorem good_tells {S : Nat → Prop} {W : World} {l : List Rv} {L : List Ev.Ev} (h : Tells S W l L) (hl : L.length = l.length) (hg : Gd l) : Ev.Good L L.length:=fun j x hj hx=>by
 have hj2 : j < l.length:=by omega
 obtain ⟨e,he⟩ : ∃ e,l[j]? = some e:=⟨_,List.getElem?_eq_getElem hj2⟩
 have hge : (Gs l)[j]? = some (ge e):=by unfold Gs;rw [List.getElem?_map,he];rfl
 have key : ∀ (i : Nat) (x y : Ev.Ev),(Gs l)[i]? = some x → L[i]? = some y → y.k = x.k ∧ y.at_ = x.at_ ∧ y.ref = x.ref ∧ y.id = x.id ∧ y.list = x.list ∧ y.n = x.n ∧ y.dl = x.dl:=fun i x y hx hy=>by
  unfold Gs at hx
  rw [List.getElem?_map,Option.map_eq_some_iff] at hx
  obtain ⟨e,he,rfl⟩:=hx
  obtain ⟨a,b,c,d,f,g,q,_⟩:=h i e y he hy
  exact ⟨a,b,c,d,f,g,q⟩
 have h1:=good_same ((Gs l).take j) (L.take j) hi0 (by simp [Gs];omega) (fun i x y hx hy=>by
  rw [List.getElem?_take] at hx hy
  split at hx
  ·rename_i hij
   rw [if_pos hij] at hy
   exact key i x y hx hy
  ·cases hx)
 have h2:=(good_same (Gs l) L hi0 (by simp [Gs];omega) key).2 j _ x hge hx
 rw [← h1.1,← h2]
 exact hg j _ (by simp [Gs];omega) hge
/-- the data of each event are bytes -/
def BytL (l : List Rv) : Prop:=∀ e ∈ l,Byt e.d
theorem BytL.snoc {l : List Rv} {e : Rv} (h : BytL l) (he : Byt e.d) : BytL (l ++ [e]):=fun x hx=>by
 rcases List.mem_append.1 hx with hx | hx
 ·exact h x hx
 ·simp only [List.mem_singleton] at hx
  rw [hx]
  exact he
theorem BytL.start : BytL (begun1 3 1 0 7 0 []).l:=fun x hx=>by
 simp [begun1,sched,YtnkelaohcbdjnaaGreat.start] at hx
 rcases hx with rfl | rfl <;> exact Byt.nil
theorem BytL.wake {s : FSt} (now : Int) (h : BytL s.l) : BytL (wakeS s now).l:=by
 unfold wakeS
 split
 ·exact h.snoc Byt.nil
 ·exact h
theorem BytL.tries {s : FSt} {n : Nat} {now : Int} {c : FSt × List Ov × Int} (h : BytL s.l) (hc : BytL c.1.l) : BytL (rtryC s n now c).1.l:=by
 unfold rtryC
 split
 ·exact hc
 ·exact h
theorem BytL.done {s : FSt} (x : Dv) (now : Int) (h : BytL s.l) (hx : Byt x.d) : BytL (rdoneS s x now).l:=by
 unfold rdoneS
 repeat' split
 all_goals exact h.snoc hx
theorem fold_bytes (now : Int) : ∀ (l : List Dv) (s : FSt),BytL s.l → (∀ x ∈ l,Byt x.d) → BytL (rdecFold now s l).1.l
 | [],s,hs,_=>hs
 | x :: l,s,hs,h=>by
   rw [rdecFold]
   exact fold_bytes now l _ (hs.done x now (h x List.mem_cons_self)) (fun y hy=>h y (List.mem_cons_of_mem _ hy))
theorem BytL.fault {s : FSt} (n now er : Int) (h : BytL s.l) : BytL (YtnkelaohcbdjnaaGreat.faultC s n now er).1.l:=(h.snoc Byt.nil).snoc Byt.nil
theorem BytL.decide {s : FSt} {ref turn now : Int} {l : List Dv} (hs : BytL s.l) (h : ∀ x ∈ l,Byt x.d) : BytL (rdecideC s ref turn l now).1.l:=by
 unfold rdecideC
 split
 rotate_left
 ·exact hs
 split
 ·exact hs.fault _ _ _
 split
 ·exact hs.fault _ _ _
 have hf:=fold_bytes now l (decided s now) (hs.snoc Byt.nil) h
 unfold rfineC
 split
 ·exact hf.snoc Byt.nil
 ·exact hf
/-- A STEP KEEPS IT -/
theorem step_bytes {s : FSt} (hs : BytL s.l) (a : ActV) (now : Int) (h1 : Byt a.d) (h2 : ∀ x ∈ a.l,Byt x.d) : BytL (stepC s a now).1.l:=by
 unfold stepC
 split
 ·exact hs.tries ((hs.snoc h1).wake now)
 split
 ·refine hs.tries ?_
  unfold cancelC
  split
  ·exact hs
  ·exact (hs.snoc Byt.nil).wake now
 split
 ·exact hs.tries (hs.snoc h1)
 split
 ·refine hs.tries ?_
  unfold rdecidesC
  split
  ·exact hs.snoc Byt.nil
  ·exact hs
 split
 ·exact hs.tries (hs.decide h2)
 split
 ·refine hs.tries ?_
  unfold worksC
  split
  ·exact hs.snoc Byt.nil
  ·exact hs
 have he : ∀ k ref ds,Byt ds → BytL (endsC s k ref ds now).1.l:=fun k ref ds hd=>by
  unfold endsC
  split
  ·exact (hs.snoc hd).wake now
  ·exact hs
 split
 ·exact hs.tries (he _ _ _ h1)
 split
 ·split
  ·refine hs.tries ?_
   unfold fireC missedC lapsedC firedC
   split
   ·split
    ·exact (hs.snoc Byt.nil).snoc Byt.nil
    ·exact hs
   split
   ·split
    ·exact he _ _ _ Byt.nil
    ·exact hs
   ·split
    ·exact (hs.snoc Byt.nil).wake now
    ·exact hs
  ·exact hs
 split
 ·split
  ·refine hs.tries ?_
   unfold childC
   split
   ·split
    ·exact (hs.snoc h1).wake now
    ·exact hs
   ·exact hs
  ·exact hs
 ·exact hs
end Go.Proofs.YtnkelaohcbdjnaaGreat
