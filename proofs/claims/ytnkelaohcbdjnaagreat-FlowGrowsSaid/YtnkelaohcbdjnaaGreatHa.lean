/- Histories,plain: what one event more turns. -/
import Derived.Test.YtnkelaohcbdjnaaGreatRi
import Derived.Test.YtnkelaohcbdjnaaGreatRe
import Derived.Test.YtnkelaohcbdjnaaGreatDf
set_option linter.unusedVariables false
set_option linter.unusedSimpArgs false
namespace Go.Proofs.YtnkelaohcbdjnaaGreat
open Go.RowKit Go.Maps Ev
theorem Gs_snoc (l : List Rv) (e : Rv) : Gs (l ++ [e]) = Gs l ++ [ge e]:=by simp [Gs]
/-- a history that can be -/
def Gd (l : List Rv) : Prop:=Ev.Good (Gs l) (Gs l).length
theorem Gd.nil : Gd []:=fun j e hj _=>by simp [Gs] at hj
theorem Gd.inv {l : List Rv} (h : Gd l) : Inv2 (Gs l) (feed hi0 (Gs l)):=good_inv _ _ rfl h
theorem Gd.why {l : List Rv} (h : Gd l) (e : Ev.Ev) : rWhyC (Gs l) e = Ev.faultC (feed hi0 (Gs l)) e:=h.inv.1.why e
theorem Gd.front {l : List Rv} {e : Rv} (h : Gd (l ++ [e])) : Gd l ∧ rWhyC (Gs l) (ge e) = 0:=by
 have h' : Ev.Good (Gs l ++ [ge e]) (Gs l ++ [ge e]).length:=by have:=h;unfold Gd at this;rwa [Gs_snoc] at this
 have hg : Gd l:=fun j x hj hx=>by
  have:=h' j x (by simp;omega) (by rw [List.getElem?_append_left hj];exact hx)
  rw [List.take_append_of_le_length (by omega)] at this
  exact this
 refine ⟨hg,?_⟩
 have hf:=h' (Gs l).length (ge e) (by simp) (by simp)
 rw [List.take_left' rfl] at hf
 rw [hg.why]
 exact hf
theorem Gd.snoc {l : List Rv} {e : Rv} (h : Gd l) (hf : rWhyC (Gs l) (ge e) = 0) : Gd (l ++ [e]):=by
 rw [h.why] at hf
 unfold Gd
 rw [Gs_snoc]
 intro j x hj hx
 rw [List.length_append] at hj
 simp only [List.length_cons,List.length_nil] at hj
 by_cases h1 : j < (Gs l).length
 ·rw [List.getElem?_append_left h1] at hx
  rw [List.take_append_of_le_length (by omega)]
  exact h j x h1 hx
 ·have e1 : j = (Gs l).length:=by omega
  subst e1
  rw [List.take_left' rfl]
  have : x = ge e:=by simpa using hx.symm
  rw [this]
  exact hf
theorem Gd.ind {P : List Rv → Prop} (h0 : P []) (h1 : ∀ l e,Gd l → P l → rWhyC (Gs l) (ge e) = 0 → P (l ++ [e])) : ∀ (n : Nat) (l : List Rv),l.length = n → Gd l → P l
 | 0,l,hn,_=>by rw [List.eq_nil_of_length_eq_zero hn];exact h0
 | n + 1,l,hn,hg=>by
   rcases List.eq_nil_or_concat l with rfl | ⟨l',e,hle⟩
   ·cases hn
   rw [List.concat_eq_append] at hle
   subst hle
   obtain ⟨a,b⟩:=hg.front
   exact h1 l' e a (Gd.ind h0 h1 n l' (by simpa using hn) a) b
/-- what it means that an event may be the next -/
structure Fits (L : List Ev.Ev) (e : Ev.Ev) : Prop where
 rb : Ev.rightB e = true
 at_ : 0 < L.length → lastAt L ≤ e.at_
 first : L.length = 0 ↔ e.k = 1
 op : L.any (fun x=>closeB x.k) = false
 refs : rRefs L e = true
 two : e.k = 2 → (rTask L).1 = 0
 used : (e.k = 7 ∨ e.k = 12 ∨ e.k = 17) → rUsed L e = false
theorem fits_iff {L : List Ev.Ev} {e : Ev.Ev} : rWhyC L e = 0 ↔ Fits L e:=by
 unfold rWhyC
 constructor
 ·intro h
  split at h
  ·cases h
  rename_i h1
  split at h
  ·cases h
  rename_i h2
  split at h
  ·cases h
  rename_i h3
  split at h
  ·cases h
  rename_i h4
  split at h
  ·cases h
  rename_i h5
  split at h
  ·cases h
  rename_i h6
  split at h
  ·cases h
  rename_i h7
  refine ⟨by simpa using h1,fun hh=>by apply Classical.byContradiction;intro hn;exact h2 ⟨hh,by omega⟩,?_,by simpa using h4,by simpa using h5,fun hk=>by apply Classical.byContradiction;intro hn;exact h6 ⟨hk,hn⟩,fun hk=>by rw [Bool.eq_false_iff];exact fun hu=>h7 ⟨hk,hu⟩⟩
  by_cases hl : L.length = 0 <;> by_cases hk : e.k = 1 <;> simp_all
 ·intro h
  rw [if_neg (by rw [h.rb];decide),if_neg (fun hh=>by have:=h.at_ hh.1;omega),if_neg,if_neg (by rw [h.op];decide),if_neg (by rw [h.refs];decide),if_neg (fun hh=>hh.2 (h.two hh.1)),if_neg (fun hh=>by have:=h.used hh.1;rw [this] at hh;exact absurd hh.2 (by decide))]
  have:=h.first
  by_cases hl : L.length = 0
  ·have hk:=this.1 hl
   simp [hl,hk]
  ·have hk : e.k ≠ 1:=fun hk=>hl (this.2 hk)
   have e1 : (((L.length : Nat) : Int) == 0) = false:=by simp;intro e;exact hl (by rw [e];rfl)
   have e2 : (e.k == 1) = false:=by simp [hk]
   rw [e1,e2]
   decide
theorem Gd.refsIn {l : List Rv} (h : Gd l) : RefsIn (Gs l):=h.inv.1.rf
theorem Fits.refIn {L : List Ev.Ev} {e : Ev.Ev} (h : Fits L e) : 0 ≤ e.ref ∧ e.ref ≤ L.length:=ref_in h.refs (rLast_le L 2)
/-- how what is open is kept -/
def opR (L : List Ev.Ev) (x : Int) : Option Value:=if rOpen L x = true then some (opv (rKind L x) (idAt L x) (if rKind L x = 7 then rWorks L x else 0)) else none
theorem opR_none {L : List Ev.Ev} {x : Int} (h : rOpen L x = false) : opR L x = none:=by unfold opR;rw [h];rfl
theorem opR_out {L : List Ev.Ev} {x : Int} (h : x < 1 ∨ (L.length : Int) < x) : opR L x = none:=opR_none (rOpen_none h)
theorem opR_keep {L : List Ev.Ev} {e : Ev.Ev} (h : RefsIn L) (he : Fits L e) {x : Int} (hx : x ≠ (L.length : Int) + 1) (hd : rOpen L x = true → dead L e x = false) (hw : ¬ (e.k = 8 ∧ e.ref = x)) : opR (L ++ [e]) x = opR L x:=by
 have h1 : rOpen (L ++ [e]) x = rOpen L x:=by
  rw [rOpen_snoc h he.refIn.2 hx]
  cases ho : rOpen L x with
  | false=>rfl
  | true=>rw [hd ho];rfl
 unfold opR
 rw [h1,rKind_snoc,if_neg hx,idAt_snoc,if_neg hx,works_snoc_no hw]
theorem opR_new {L : List Ev.Ev} {e : Ev.Ev} (h : RefsIn L) (he : Fits L e) (hk : ¬ (e.k = 7 ∨ e.k = 12 ∨ e.k = 17)) : opR (L ++ [e]) ((L.length : Int) + 1) = none:=by
 apply opR_none
 rw [rOpen_new h he.refIn.2]
 simp
 omega
theorem opR_plain {L : List Ev.Ev} {e : Ev.Ev} (h : RefsIn L) (he : Fits L e) (hk : ¬ (e.k = 7 ∨ e.k = 12 ∨ e.k = 17 ∨ e.k = 8 ∨ e.k = 9 ∨ e.k = 10 ∨ e.k = 11 ∨ e.k = 13 ∨ e.k = 14 ∨ e.k = 18)) : opR (L ++ [e]) = opR L:=by
 funext x
 by_cases hx : x = (L.length : Int) + 1
 ·subst hx
  rw [opR_new h he (by omega),opR_out (by omega)]
 ·exact opR_keep h he hx (fun _=>dead_no (by omega) x) (by omega)
theorem opR_open {L : List Ev.Ev} {e : Ev.Ev} (h : RefsIn L) (he : Fits L e) (hk : e.k = 7 ∨ e.k = 12 ∨ e.k = 17) : opR (L ++ [e]) = upd (opR L) ((L.length : Int) + 1) (some (opv e.k e.id 0)):=by
 funext x
 unfold upd
 by_cases hx : x = (L.length : Int) + 1
 ·rw [if_pos hx]
  subst hx
  have h1 : rOpen (L ++ [e]) ((L.length : Int) + 1) = true:=by rw [rOpen_new h he.refIn.2];simp;omega
  have h2 : rWorks (L ++ [e]) ((L.length : Int) + 1) = 0:=by rw [works_snoc_no (by omega)];exact works_past h (by omega)
  unfold opR
  rw [if_pos h1,rKind_snoc,if_pos rfl,idAt_snoc,if_pos rfl,h2]
  congr 2
  split <;> rfl
 ·rw [if_neg hx]
  exact opR_keep h he hx (fun _=>dead_no (by omega) x) (by omega)
theorem opR_works {L : List Ev.Ev} {e : Ev.Ev} (h : RefsIn L) (he : Fits L e) (hk : e.k = 8) : opR (L ++ [e]) = upd (opR L) e.ref (some (opv 7 (idAt L e.ref) ((L.length : Int) + 1))) ∧ opR L e.ref = some (opv 7 (idAt L e.ref) 0):=by
 obtain ⟨r7,w0⟩:=refs_8 hk he.refs
 have hin:=kind_in (l:=L) (x:=e.ref) (by omega)
 have ho : rOpen L e.ref = true:=by unfold rOpen;rw [if_pos r7,w0];rfl
 refine ⟨?_,by unfold opR;rw [if_pos ho,r7,if_pos rfl,w0]⟩
 funext x
 unfold upd
 by_cases hx : x = e.ref
 ·rw [if_pos hx]
  subst hx
  have h1 : rOpen (L ++ [e]) e.ref = true:=by rw [rOpen_snoc h he.refIn.2 (by omega),dead_no (by omega),ho];rfl
  have h2 : rWorks (L ++ [e]) e.ref = (L.length : Int) + 1:=by rw [rWorks_snoc,if_neg (by rw [w0];simp),if_pos (by simp [wkB,hk])]
  unfold opR
  rw [if_pos h1,rKind_snoc,if_neg (by omega),idAt_snoc,if_neg (by omega),h2,r7,if_pos rfl]
 ·rw [if_neg hx]
  by_cases hx2 : x = (L.length : Int) + 1
  ·subst hx2
   rw [opR_new h he (by omega),opR_out (by omega)]
  ·exact opR_keep h he hx2 (fun _=>dead_no (by omega) x) (fun hh=>hx hh.2.symm)
/-- one that ends what is open at x0 -/
theorem opR_end {L : List Ev.Ev} {e : Ev.Ev} (h : RefsIn L) (he : Fits L e) (hk : e.k = 9 ∨ e.k = 10 ∨ e.k = 11 ∨ e.k = 13 ∨ e.k = 14 ∨ e.k = 18) (x0 : Int) (ho : rOpen L x0 = true) (hd : ∀ x,rOpen L x = true → (dead L e x = true ↔ x = x0)) : opR (L ++ [e]) = upd (opR L) x0 none:=by
 have hin:=open_in ho
 funext x
 unfold upd
 by_cases hx : x = x0
 ·rw [if_pos hx]
  subst hx
  apply opR_none
  rw [rOpen_snoc h he.refIn.2 (by omega),(hd x ho).2 rfl]
  simp
 ·rw [if_neg hx]
  by_cases hx2 : x = (L.length : Int) + 1
  ·subst hx2
   rw [opR_new h he (by omega),opR_out (by omega)]
  ·exact opR_keep h he hx2 (fun ho2=>by rw [Bool.eq_false_iff];exact fun hh=>hx ((hd x ho2).1 hh)) (by omega)
theorem dead_9 {L : List Ev.Ev} {e : Ev.Ev} (hk : e.k = 9 ∨ e.k = 10 ∨ e.k = 11) {x0 : Int} (h7 : rKind L x0 = 7) (hw : rWorks L x0 = e.ref) (hw0 : e.ref ≠ 0) (x : Int) : dead L e x = true ↔ x = x0:=by
 have a1 : ([9,10,11].any (fun k=>e.k == k)) = true:=by simp;omega
 have a2 : ([13,14].any (fun k=>e.k == k)) = false:=by simp;omega
 have a3 : ([18].any (fun k=>e.k == k)) = false:=by simp;omega
 unfold dead
 rw [a1,a2,a3]
 constructor
 ·intro hd
  simp only [Bool.true_and,Bool.false_and,Bool.and_false,Bool.or_false,Bool.and_eq_true,beq_iff_eq,bne_iff_ne,ne_eq] at hd
  obtain ⟨_,h1,h2⟩:=hd
  obtain ⟨y,hy,_,hy2,_⟩:=rWorks_spec L x h2
  obtain ⟨z,hz,_,hz2,_⟩:=rWorks_spec L x0 (by rw [hw];exact hw0)
  rw [← h1] at hy
  rw [hw,hy] at hz
  cases hz
  rw [← hy2,hz2]
 ·rintro rfl
  rw [h7,hw]
  simp [hw0]
theorem dead_13 {L : List Ev.Ev} {e : Ev.Ev} (hk : e.k = 13 ∨ e.k = 14) (h12 : rKind L e.ref = 12) (x : Int) : dead L e x = true ↔ x = e.ref:=by
 have a1 : ([9,10,11].any (fun k=>e.k == k)) = false:=by simp;omega
 have a2 : ([13,14].any (fun k=>e.k == k)) = true:=by simp;omega
 have a3 : ([18].any (fun k=>e.k == k)) = false:=by simp;omega
 unfold dead
 rw [a1,a2,a3]
 constructor
 ·intro hd
  simp only [Bool.true_and,Bool.false_and,Bool.and_false,Bool.or_false,Bool.false_or,Bool.and_eq_true,beq_iff_eq] at hd
  exact hd.2.symm
 ·rintro rfl
  rw [h12]
  simp
theorem dead_18 {L : List Ev.Ev} {e : Ev.Ev} (hk : e.k = 18) (h17 : rKind L e.ref = 17) (x : Int) : dead L e x = true ↔ x = e.ref:=by
 have a1 : ([9,10,11].any (fun k=>e.k == k)) = false:=by simp;omega
 have a2 : ([13,14].any (fun k=>e.k == k)) = false:=by simp;omega
 have a3 : ([18].any (fun k=>e.k == k)) = true:=by simp;omega
 unfold dead
 rw [a1,a2,a3]
 constructor
 ·intro hd
  simp only [Bool.true_and,Bool.false_and,Bool.and_false,Bool.or_false,Bool.false_or,Bool.and_eq_true,beq_iff_eq] at hd
  exact hd.2.symm
 ·rintro rfl
  rw [h17]
  simp
/-- the task behind one event more -/
theorem task_snoc {l : List Rv} {e : Rv} (h : Gd l) (he : Fits (Gs l) (ge e)) : rTask (Gs (l ++ [e])) = if e.k = 2 then (1,(l.length : Int) + 1) else if e.k = 3 then (2,(l.length : Int) + 1) else if e.k = 4 ∨ e.k = 5 ∨ e.k = 6 then (0,0) else rTask (Gs l):=by
 have hf : Ev.faultC (feed hi0 (Gs l)) (ge e) = 0:=by rw [← h.why];exact fits_iff.2 he
 have h1:=h.inv.1
 have h2:=(h.inv.step _ hf).1
 rw [Gs_snoc]
 obtain ⟨H,hH⟩ : ∃ H,feed hi0 (Gs l) = H:=⟨_,rfl⟩
 rw [hH] at h1 h2 hf
 have hn : H.n = l.length:=by rw [h1.n,Gs_len]
 have hcase:=h2.task
 have ht : (addO H (ge e)).task = (turned (step1 H (ge e)) (ge e)).task ∧ (addO H (ge e)).begun = (turned (step1 H (ge e)) (ge e)).begun:=by
  rw [addO_0 hf]
  obtain ⟨_,_,a,b,_⟩:=closes_flds (turned (step1 H (ge e)) (ge e)) (ge e)
  exact ⟨a,b⟩
 rw [ht.1,ht.2] at hcase
 have hk : (ge e).k = e.k:=rfl
 have hN : (((step1 H (ge e)).n : Nat) : Int) = (l.length : Int) + 1:=by show ((H.n + 1 : Nat) : Int) = _;rw [hn];omega
 unfold turned at hcase
 rw [hk] at hcase
 by_cases k2 : e.k = 2
 ·rw [if_pos k2] at hcase ⊢
  rcases hcase with ⟨a,_,_⟩ | ⟨_,_,c⟩ | ⟨_,b,_⟩
  ·have : (((step1 H (ge e)).n : Nat) : Int) = 0:=a
   omega
  ·rw [c];exact congrArg (Prod.mk 1) hN
  ·cases b
 rw [if_neg k2] at hcase ⊢
 by_cases k3 : e.k = 3
 ·rw [if_pos k3] at hcase ⊢
  rcases hcase with ⟨_,b,_⟩ | ⟨_,b,_⟩ | ⟨_,_,c⟩
  ·cases b
  ·cases b
  ·rw [c];exact congrArg (Prod.mk 2) hN
 rw [if_neg k3] at hcase ⊢
 by_cases k4 : e.k = 4 ∨ e.k = 5 ∨ e.k = 6
 ·rw [if_pos k4] at hcase ⊢
  rcases hcase with ⟨_,_,c⟩ | ⟨a,_,_⟩ | ⟨a,_,_⟩
  ·exact c
  ·exact absurd rfl a
  ·exact absurd rfl a
 rw [if_neg k4] at hcase ⊢
 have hkeep : ∀ t : Hi,t.task = H.task → t.begun = H.begun → ((t.task = 0 ∧ t.begun = false ∧ rTask (Gs l ++ [ge e]) = (0,0)) ∨ (t.task ≠ 0 ∧ t.begun = false ∧ rTask (Gs l ++ [ge e]) = (1,t.task)) ∨ (t.task ≠ 0 ∧ t.begun = true ∧ rTask (Gs l ++ [ge e]) = (2,t.task))) → rTask (Gs l ++ [ge e]) = rTask (Gs l):=by
  intro t e1 e2 hc
  rw [e1,e2] at hc
  rcases h1.task with ⟨a,b,c⟩ | ⟨a,b,c⟩ | ⟨a,b,c⟩ <;> rcases hc with ⟨a',b',c'⟩ | ⟨a',b',c'⟩ | ⟨a',b',c'⟩
  ·rw [c,c']
  ·exact absurd a a'
  ·exact absurd a a'
  ·exact absurd a' a
  ·rw [c,c']
  ·rw [b] at b';cases b'
  ·exact absurd a' a
  ·rw [b] at b';cases b'
  ·rw [c,c']
 repeat' (split at hcase)
 all_goals exact hkeep _ (by rfl) (by rfl) hcase
/-- an open run's history holds nothing that closes -/
theorem open_any : ∀ {l : List Rv},Gd l → statusK l = 1 → (Gs l).any (fun x=>closeB x.k) = false:=fun {l} hg hs=>by
 rcases List.eq_nil_or_concat l with rfl | ⟨l',e,hle⟩
 ·rfl
 rw [List.concat_eq_append] at hle
 subst hle
 obtain ⟨a,b⟩:=hg.front
 rw [Gs_snoc,List.any_append,(fits_iff.1 b).op]
 unfold statusK at hs
 rw [List.getLast?_concat] at hs
 have : closeB e.k = false:=by
  unfold closeB
  rw [Bool.eq_false_iff]
  intro hc
  simp only [Bool.and_eq_true,decide_eq_true_eq] at hc
  dsimp only at hs
  repeat' (split at hs)
  all_goals first | omega | cases hs
 simp [ge,this]
theorem lastAt_gs (l : List Rv) : lastAt (Gs l) = match l.getLast? with | some e=>e.a | none=>0:=by
 unfold lastAt Gs
 rw [List.getLast?_map]
 cases l.getLast? <;> rfl
/-- the next event of an open run -/
theorem Gd.next {l : List Rv} (h : Gd l) (hne : l ≠ []) (hs : statusK l = 1) {now : Int} (hr : rightP l 0 now) (e : Rv) (ha : e.a = now) (hk : 2 ≤ e.k ∧ e.k ≤ 23) (hr1 : 0 ≤ e.r ∧ e.r ≤ 1099511627776) (hi : 0 ≤ e.i ∧ e.i ≤ 1099511627776) (hl : 0 ≤ e.l ∧ e.l ≤ 1099511627776) (hn : 0 ≤ e.n ∧ e.n ≤ 1099511627776) (hd : e.d.length ≤ 4096)
 (refs : rRefs (Gs l) (ge e) = true) (two : e.k = 2 → (rTask (Gs l)).1 = 0) (used : (e.k = 7 ∨ e.k = 12 ∨ e.k = 17) → rUsed (Gs l) (ge e) = false) : Fits (Gs l) (ge e):=by
 obtain ⟨_,h1,h2,h3⟩:=hr
 refine ⟨?_,fun _=>?_,⟨fun hh=>?_,fun hh=>?_⟩,open_any h hs,refs,two,used⟩
 ·unfold Ev.rightB
  have b : ∀ v : Int,0 ≤ v ∧ v ≤ 1099511627776 → betB v = true:=fun v hv=>(betB_iff v).2 hv
  have e1 : (ge e).k = e.k:=rfl
  have e2 : (ge e).at_ = now:=ha
  have e3 : (ge e).ref = e.r:=rfl
  have e4 : (ge e).id = e.i:=rfl
  have e5 : (ge e).list = e.l:=rfl
  have e6 : (ge e).n = e.n:=rfl
  have e7 : (ge e).dl = e.d.length:=rfl
  rw [e1,e2,e3,e4,e5,e6,e7,b _ ⟨h1,h2⟩,b _ hr1,b _ hi,b _ hl,b _ hn]
  simp
  omega
 ·rw [lastAt_gs]
  show _ ≤ e.a
  rw [ha]
  cases hx : l.getLast? with
  | none=>exact h1
  | some x=>exact h3 x hx
 ·rw [Gs_len] at hh
  exact absurd (List.eq_nil_of_length_eq_zero hh) hne
 ·exfalso
  have : e.k = 1:=hh
  omega
theorem worksGo_snoc (a : Int) (e : Rv) : ∀ (xs : List Rv) (i : Nat) (w : Int),worksGo a i (xs ++ [e]) w = if (worksGo a i xs w).2 = true then worksGo a (i + xs.length) [e] (worksGo a i xs w).1 else (0,false)
 | [],i,w=>by
   have e1 : worksGo a i [] w = (w,true):=by rw [worksGo]
   rw [List.nil_append,e1,List.length_nil,Nat.add_zero]
   exact (if_pos rfl).symm
 | x :: xs,i,w=>by
   rw [List.cons_append,worksGo,worksGo]
   split
   ·rw [worksGo_snoc a e xs,List.length_cons,show i + 1 + xs.length = i + (xs.length + 1) by omega]
   ·split
    ·rfl
    ·rw [worksGo_snoc a e xs,List.length_cons,show i + 1 + xs.length = i + (xs.length + 1) by omega]
theorem rWorks_nn (L : List Ev.Ev) (x : Int) : 0 ≤ rWorks L x:=by
 unfold rWorks
 split
 ·omega
 ·omega
/-- what the document's works tells -/
theorem works_law : ∀ (n : Nat) (l : List Rv),l.length = n → Gd l → ∀ x,worksR l x = if rKind (Gs l) x = 7 ∧ rOpen (Gs l) x = true then (rWorks (Gs l) x,true) else (0,false):=by
 apply Gd.ind
 ·intro x
  have : rKind (Gs []) x = 0:=kindR_out (l:=[]) (by simp;omega)
  rw [if_neg (by rw [this];simp)]
  unfold worksR kindR
  rw [this]
  rfl
 ·intro l e hg ih hf x
  have he:=fits_iff.1 hf
  have hrf:=hg.refsIn
  have hke : (ge e).k = e.k:=rfl
  have hre : (ge e).ref = e.r:=rfl
  have hlen : ((Gs l).length : Int) = l.length:=by rw [Gs_len]
  rw [Gs_snoc]
  unfold worksR kindR
  rw [Gs_snoc,rKind_snoc,hlen]
  by_cases hx : x = (l.length : Int) + 1
  ·rw [if_pos hx,hke]
   by_cases h7 : e.k = 7
   ·rw [if_pos h7,if_pos ⟨h7,by rw [hx,← hlen,rOpen_new hrf he.refIn.2];simp [hke,h7]⟩]
    have e1 : (l ++ [e]).drop x.toNat = []:=List.drop_eq_nil_of_le (by rw [List.length_append];simp;omega)
    rw [e1,works_snoc_no (by omega),works_past hrf (by omega)]
    rfl
   ·rw [if_neg h7,if_neg (fun hh=>h7 hh.1)]
  ·rw [if_neg hx]
   by_cases h7 : rKind (Gs l) x = 7
   ·have hin:=kind_in (l:=Gs l) (x:=x) (by omega)
    rw [hlen] at hin
    have ih':=ih x
    unfold worksR kindR at ih'
    rw [if_pos h7] at ih'
    rw [if_pos h7,List.drop_append_of_le_length (by omega),worksGo_snoc,ih',List.length_drop,show x.toNat + (l.length - x.toNat) = l.length by omega]
    rw [rOpen_snoc hrf he.refIn.2 (by rw [hlen];exact hx)]
    by_cases ho : rOpen (Gs l) x = true
    ·have hc0 : (if rKind (Gs l) x = 7 ∧ rOpen (Gs l) x = true then (rWorks (Gs l) x,true) else ((0 : Int),false)) = (rWorks (Gs l) x,true):=if_pos ⟨h7,ho⟩
     rw [hc0,ho]
     simp only [if_true,Bool.true_and]
     rw [worksGo]
     by_cases h8 : e.k = 8 ∧ e.r = x
     ·rw [if_pos h8,dead_no (by omega),if_pos ⟨h7,rfl⟩]
      have hr8:=(refs_8 (l:=Gs l) (e:=ge e) h8.1 he.refs).2
      rw [hre,h8.2] at hr8
      rw [rWorks_snoc,if_neg (by rw [hr8];simp),if_pos (by simp [wkB,hke,hre,h8.1,h8.2]),hlen]
      rfl
     ·rw [if_neg h8,works_snoc_no (by rw [hke,hre];exact h8)]
      have hd : dead (Gs l) (ge e) x = true ↔ (0 < rWorks (Gs l) x ∧ e.r = rWorks (Gs l) x ∧ (e.k = 9 ∨ e.k = 10 ∨ e.k = 11)):=by
       have hnn:=rWorks_nn (Gs l) x
       unfold dead
       rw [h7,hke,hre]
       simp
       constructor
       ·rintro ⟨a,b,c⟩;exact ⟨by omega,b,a⟩
       ·rintro ⟨a,b,c⟩;exact ⟨c,b,by omega⟩
      by_cases hdd : 0 < rWorks (Gs l) x ∧ e.r = rWorks (Gs l) x ∧ (e.k = 9 ∨ e.k = 10 ∨ e.k = 11)
      ·rw [if_pos hdd,hd.2 hdd,if_neg (by simp)]
      ·have : dead (Gs l) (ge e) x = false:=by rw [Bool.eq_false_iff];exact fun hh=>hdd (hd.1 hh)
       rw [if_neg hdd,this,if_pos ⟨h7,rfl⟩]
       rfl
    ·have ho' : rOpen (Gs l) x = false:=by rw [Bool.eq_false_iff];exact ho
     have hc0 : (if rKind (Gs l) x = 7 ∧ rOpen (Gs l) x = true then (rWorks (Gs l) x,true) else ((0 : Int),false)) = (0,false):=if_neg (fun hh=>ho hh.2)
     rw [hc0,ho']
     simp
   ·rw [if_neg h7,if_neg (fun hh=>h7 hh.1)]
theorem timerGo_snoc (a : Int) (e : Rv) : ∀ (xs : List Rv),timerGo a (xs ++ [e]) = (timerGo a xs && timerGo a [e])
 | []=>by simp [timerGo]
 | x :: xs=>by
   rw [List.cons_append,timerGo,timerGo]
   split
   ·rfl
   ·exact timerGo_snoc a e xs
/-- what the document's timer tells -/
theorem timer_law : ∀ (n : Nat) (l : List Rv),l.length = n → Gd l → ∀ x,timerR l x = (rKind (Gs l) x == 12 && rOpen (Gs l) x):=by
 apply Gd.ind
 ·intro x
  have : rKind (Gs []) x = 0:=kindR_out (l:=[]) (by simp;omega)
  unfold timerR kindR
  rw [this]
  rfl
 ·intro l e hg ih hf x
  have he:=fits_iff.1 hf
  have hrf:=hg.refsIn
  have hke : (ge e).k = e.k:=rfl
  have hre : (ge e).ref = e.r:=rfl
  have hlen : ((Gs l).length : Int) = l.length:=by rw [Gs_len]
  rw [Gs_snoc]
  unfold timerR kindR
  rw [Gs_snoc,rKind_snoc,hlen]
  by_cases hx : x = (l.length : Int) + 1
  ·rw [if_pos hx,hke]
   by_cases h7 : e.k = 12
   ·have e1 : (l ++ [e]).drop x.toNat = []:=List.drop_eq_nil_of_le (by rw [List.length_append];simp;omega)
    rw [if_pos h7,e1,hx,← hlen,rOpen_new hrf he.refIn.2,hke,h7]
    rfl
   ·rw [if_neg h7]
    simp [h7]
  ·rw [if_neg hx]
   by_cases h7 : rKind (Gs l) x = 12
   ·have hin:=kind_in (l:=Gs l) (x:=x) (by omega)
    rw [hlen] at hin
    have ih':=ih x
    unfold timerR kindR at ih'
    rw [if_pos h7,h7] at ih'
    rw [if_pos h7,List.drop_append_of_le_length (by omega),timerGo_snoc,ih',h7,rOpen_snoc hrf he.refIn.2 (by rw [hlen];exact hx)]
    have hd : timerGo x [e] = !dead (Gs l) (ge e) x:=by
     unfold dead
     rw [h7,hke,hre,timerGo,timerGo]
     by_cases hc : e.r = x ∧ (e.k = 13 ∨ e.k = 14)
     ·rw [if_pos hc]
      rcases hc with ⟨a,b | b⟩ <;> simp [a,b]
     ·rw [if_neg hc]
      rw [Bool.eq_iff_iff]
      simp
      by_cases hr : e.r = x
      ·exact .inl ⟨fun hk=>hc ⟨hr,.inl hk⟩,fun hk=>hc ⟨hr,.inr hk⟩⟩
      ·exact .inr hr
    rw [hd]
    simp
   ·rw [if_neg h7]
    simp [h7]
theorem beganGo_front (l : List Rv) (e : Rv) (k id : Int) : ∀ n,n ≤ l.length → beganGo (l ++ [e]) k id n = beganGo l k id n
 | 0,_=>rfl
 | n + 1,h=>by
   rw [beganGo,beganGo,List.getElem?_append_left (by omega),beganGo_front l e k id n (by omega)]
theorem beganR_snoc (l : List Rv) (e : Rv) (k id : Int) : beganR (l ++ [e]) k id = if e.k = k ∧ e.i = id then (l.length : Int) + 1 else beganR l k id:=by
 unfold beganR
 rw [List.length_append,show l.length + [e].length = l.length + 1 from rfl,beganGo]
 have : (l ++ [e])[l.length]? = some e:=by simp
 rw [this]
 dsimp only
 rw [beganGo_front l e k id _ (Nat.le_refl _)]
theorem used_of {L : List Ev.Ev} {e : Ev.Ev} {x : Int} (ho : rOpen L x = true) (hk : rKind L x = e.k) (hi : idAt L x = e.id) : rUsed L e = true:=by
 have hin:=open_in ho
 obtain ⟨i,rfl⟩ : ∃ i : Nat,x = (i : Int) + 1:=⟨(x - 1).toNat,by omega⟩
 obtain ⟨y,hy⟩ : ∃ y,L[i]? = some y:=⟨_,List.getElem?_eq_getElem (by omega)⟩
 have he : evAt L ((i : Int) + 1) = some y:=by
  unfold evAt
  rw [if_neg (by omega),show ((i : Int) + 1 - 1).toNat = i by omega,hy]
 rw [rKind_ev,he] at hk
 unfold idAt at hi
 rw [he] at hi
 refine used_yes (i:=i) (by omega) ?_
 unfold usedB
 rw [hy]
 have e1 : y.k = e.k:=hk
 have e2 : y.id = e.id:=hi
 simp [e1,e2,ho]
theorem used_iff {L : List Ev.Ev} {e : Ev.Ev} : rUsed L e = true ↔ ∃ x,rOpen L x = true ∧ rKind L x = e.k ∧ idAt L x = e.id:=by
 constructor
 ·intro hu
  obtain ⟨i,hi,hh⟩:=List.any_eq_true.1 hu
  unfold usedB at hh
  cases hy : L[i]? with
  | none=>rw [hy] at hh;cases hh
  | some y=>
    rw [hy] at hh
    simp only [Bool.and_eq_true,beq_iff_eq] at hh
    obtain ⟨e1,e2,ho⟩:=hh
    have he : evAt L ((i : Int) + 1) = some y:=by
     unfold evAt
     rw [if_neg (by omega),show ((i : Int) + 1 - 1).toNat = i by omega,hy]
    refine ⟨(i : Int) + 1,ho,by rw [rKind_ev,he];exact e1,by unfold idAt;rw [he];exact e2⟩
 ·rintro ⟨x,a,b,c⟩
  exact used_of a b c
/-- what the document's began tells of what is open -/
theorem began_law : ∀ (n : Nat) (l : List Rv),l.length = n → Gd l → ∀ x,rOpen (Gs l) x = true → beganR l (rKind (Gs l) x) (idAt (Gs l) x) = x:=by
 apply Gd.ind
 ·intro x ho
  have:=open_in ho
  simp [Gs] at this
  omega
 ·intro l e hg ih hf x ho
  have he:=fits_iff.1 hf
  have hrf:=hg.refsIn
  have hke : (ge e).k = e.k:=rfl
  have hie : (ge e).id = e.i:=rfl
  have hlen : ((Gs l).length : Int) = l.length:=by rw [Gs_len]
  rw [Gs_snoc] at ho ⊢
  rw [beganR_snoc,rKind_snoc,idAt_snoc,hlen]
  by_cases hx : x = (l.length : Int) + 1
  ·rw [if_pos hx,if_pos hx,hke,hie,if_pos ⟨rfl,rfl⟩,hx]
  ·rw [if_neg hx,if_neg hx]
   rw [rOpen_snoc hrf he.refIn.2 (by rw [hlen];exact hx),Bool.and_eq_true] at ho
   rw [if_neg,ih x ho.1]
   rintro ⟨h1,h2⟩
   have hk:=rOpen_kind ho.1
   have:=he.used (by rw [hke];omega)
   rw [used_of ho.1 (by rw [hke];exact h1.symm) (by rw [hie];exact h2.symm)] at this
   cases this
/-- what the document's look at what is open tells -/
theorem openR_iff (l : List Rv) (y : Int × Int) : openR l y = true ↔ ∃ x,rOpen (Gs l) x = true ∧ rKind (Gs l) x = y.1 ∧ idAt (Gs l) x = y.2:=by
 unfold openR hasB rIds
 simp only [List.any_eq_true,List.mem_map,List.mem_filter,List.mem_range,beq_iff_eq]
 constructor
 ·rintro ⟨v,⟨i,⟨h1,h2⟩,rfl⟩,h3⟩
  unfold inK at h2
  simp only [Bool.and_eq_true,beq_iff_eq] at h2
  exact ⟨(i : Int) + 1,h2.2,h2.1,h3⟩
 ·rintro ⟨x,h1,h2,h3⟩
  have hin:=open_in h1
  rw [Gs_len] at hin
  refine ⟨_,⟨(x - 1).toNat,⟨by omega,?_⟩,rfl⟩,?_⟩
  ·unfold inK
   rw [show (((x - 1).toNat : Nat) : Int) + 1 = x by omega,h1,h2]
   simp
  ·rw [show (((x - 1).toNat : Nat) : Int) + 1 = x by omega]
   exact h3
end Go.Proofs.YtnkelaohcbdjnaaGreat
set_option linter.unusedVariables false
set_option linter.unusedSimpArgs false
namespace Go.Proofs.YtnkelaohcbdjnaaGreat
open Go.RowKit Go.Maps Ev
/-- what stands of a run -/
structure FInv (s : FSt) : Prop where
 g : Gd s.l
 ne : s.l ≠ []
 mp : statusK s.l = 1 → s.mp = opR (Gs s.l)
 tk : statusK s.l = 1 → (s.task = 0 ∧ rTask (Gs s.l) = (0,0)) ∨ (s.task = 1 ∧ rTask (Gs s.l) = (1,s.at_)) ∨ (s.task = 2 ∧ rTask (Gs s.l) = (2,s.bg))
 cl : statusK s.l ≠ 1 → s.mp = (fun _=>none) ∧ s.task = 0
 mc : s.mc ≤ s.l.length
 tn : 0 ≤ s.turn ∧ s.turn ≤ s.l.length
 ls : 0 ≤ s.list ∧ s.list ≤ 1048576
 nn : 0 ≤ s.n ∧ s.n ≤ 1048576
 ids : IdOk s
 io : 0 ≤ s.id ∧ s.id ≤ 1048576
theorem opR_some {L : List Ev.Ev} {x : Int} {v : Value} (h : opR L x = some v) : rOpen L x = true ∧ v = opv (rKind L x) (idAt L x) (if rKind L x = 7 then rWorks L x else 0):=by
 unfold opR at h
 split at h
 ·rename_i ho
  exact ⟨ho,(Option.some.inj h).symm⟩
 ·cases h
theorem opR_of {L : List Ev.Ev} {x k i w : Int} (h : opR L x = some (opv k i w)) : rOpen L x = true ∧ rKind L x = k ∧ idAt L x = i ∧ w = (if k = 7 then rWorks L x else 0):=by
 obtain ⟨h1,h2⟩:=opR_some h
 obtain ⟨a,b,c⟩:=opv_inj h2
 subst a b
 exact ⟨h1,rfl,rfl,c⟩
theorem FInv.openOk {s : FSt} (h : FInv s) : OpenOk s:=fun x v hx=>by
 by_cases ho : statusK s.l = 1
 ·rw [h.mp ho] at hx
  obtain ⟨h1,h2⟩:=opR_some hx
  have:=open_in h1
  rw [Gs_len] at this
  exact ⟨this.1,this.2,_,_,_,h2⟩
 ·rw [(h.cl ho).1] at hx;cases hx
theorem FInv.uniq {s : FSt} (h : FInv s) : UniqO s:=fun x y k i w w' hx hy=>by
 by_cases ho : statusK s.l = 1
 ·rw [h.mp ho] at hx hy
  obtain ⟨a1,a2,a3,_⟩:=opR_of hx
  obtain ⟨b1,b2,b3,_⟩:=opR_of hy
  exact good_uniq _ _ rfl h.g x y a1 b1 (by rw [a2,b2]) (by rw [a3,b3])
 ·rw [(h.cl ho).1] at hx;cases hx
theorem right0 {l : List Rv} {n : Nat} {now : Int} (h : rightP l n now) : rightP l 0 now:=⟨by omega,h.2⟩
theorem right_snoc {l : List Rv} {n : Nat} {now : Int} (h : rightP l n now) {e : Rv} (ha : e.a = now) : rightP (l ++ [e]) 0 now:=⟨by omega,h.2.1,h.2.2.1,fun x hx=>by
 rw [List.getLast?_concat] at hx
 cases hx
 omega⟩
theorem status_snoc (l : List Rv) (e : Rv) : statusK (l ++ [e]) = stOf e.k:=by
 unfold statusK stOf
 rw [List.getLast?_concat]
theorem stOf_1 {k : Int} (h : k < 19 ∨ 23 < k) : stOf k = 1:=by
 unfold stOf
 repeat rw [if_neg (by omega)]
theorem stOf_ne {k : Int} (h : 19 ≤ k ∧ k ≤ 23) : stOf k ≠ 1:=by
 unfold stOf
 repeat' split
 all_goals omega
theorem refs_plain {L : List Ev.Ev} {e : Ev.Ev} (hk : e.k ≠ 3 ∧ e.k ≠ 4 ∧ e.k ≠ 5 ∧ e.k ≠ 6 ∧ e.k ≠ 8 ∧ e.k ≠ 9 ∧ e.k ≠ 10 ∧ e.k ≠ 11 ∧ e.k ≠ 13 ∧ e.k ≠ 14 ∧ e.k ≠ 18) (hr : e.ref = 0) : rRefs L e = true:=by
 unfold rRefs
 rw [if_neg (by omega),if_neg (by omega),if_neg (by omega),if_neg (by omega),if_neg (by omega),if_neg (by omega),hr]
 rfl
/-- one event more,of a run that stays open -/
theorem FInv.next {s s' : FSt} {e : Rv} (h : FInv s) (ho : statusK s.l = 1) (he : Fits (Gs s.l) (ge e)) (hl : s'.l = s.l ++ [e]) (hk : e.k < 19) (hmp : s'.mp = opR (Gs (s.l ++ [e])))
 (htk : (s'.task = 0 ∧ rTask (Gs (s.l ++ [e])) = (0,0)) ∨ (s'.task = 1 ∧ rTask (Gs (s.l ++ [e])) = (1,s'.at_)) ∨ (s'.task = 2 ∧ rTask (Gs (s.l ++ [e])) = (2,s'.bg)))
 (hmc : s'.mc ≤ s.mc + 1) (htn : 0 ≤ s'.turn ∧ s'.turn ≤ s.l.length + 1) (hls : s'.list = s.list) (hnn : s'.n = s.n) (hid : s'.id = s.id) (ids : IdOk s') : FInv s' ∧ statusK s'.l = 1:=by
 have hs : statusK s'.l = 1:=by rw [hl,status_snoc];exact stOf_1 (.inl hk)
 have hlen : s'.l.length = s.l.length + 1:=by rw [hl];simp
 have:=h.mc
 exact ⟨⟨by rw [hl];exact h.g.snoc (fits_iff.2 he),by rw [hl];simp,fun _=>by rw [hl];exact hmp,fun _=>by rw [hl];exact htk,fun hn=>absurd hs hn,by omega,by omega,by rw [hls];exact h.ls,by rw [hnn];exact h.nn,ids,by rw [hid];exact h.io⟩,hs⟩
/-- the task stays as it is -/
theorem FInv.tk_same {s s' : FSt} {e : Rv} (h : FInv s) (ho : statusK s.l = 1) (he : Fits (Gs s.l) (ge e)) (hk : ¬ (2 ≤ e.k ∧ e.k ≤ 6)) (h1 : s'.task = s.task) (h2 : s'.at_ = s.at_) (h3 : s'.bg = s.bg) : (s'.task = 0 ∧ rTask (Gs (s.l ++ [e])) = (0,0)) ∨ (s'.task = 1 ∧ rTask (Gs (s.l ++ [e])) = (1,s'.at_)) ∨ (s'.task = 2 ∧ rTask (Gs (s.l ++ [e])) = (2,s'.bg)):=by
 rw [task_snoc h.g he,if_neg (by omega),if_neg (by omega),if_neg (by omega),h1,h2,h3]
 exact h.tk ho
theorem FInv.mp_plain {s : FSt} {e : Rv} (h : FInv s) (ho : statusK s.l = 1) (he : Fits (Gs s.l) (ge e)) (hk : e.k < 7 ∨ e.k = 15 ∨ e.k = 16) : s.mp = opR (Gs (s.l ++ [e])):=by
 have hke : (ge e).k = e.k:=rfl
 rw [Gs_snoc,opR_plain h.g.refsIn he (by rw [hke];omega)]
 exact h.mp ho
theorem FInv.mp0 {s : FSt} (h : FInv s) {x : Int} (hx : x < 1) : s.mp x = none:=by
 by_cases ho : statusK s.l = 1
 ·rw [h.mp ho];exact opR_out (.inl hx)
 ·rw [(h.cl ho).1]
theorem FInv.upd0 {s : FSt} (h : FInv s) : upd s.mp 0 none = s.mp:=by
 funext x
 unfold upd
 split
 ·rename_i e
  rw [e];exact (h.mp0 (by decide)).symm
 ·rfl
theorem cdn_le (F : Int → Option Value) (x : Int) (c : Nat) : cdn F x c ≤ c:=by unfold cdn;split <;> omega
theorem cup_le (F : Int → Option Value) (x : Int) (c : Nat) : cup F x c ≤ c + 1:=by unfold cup;split <;> omega
theorem sched_inv {s : FSt} (h : FInv s) (ho : statusK s.l = 1) (ht : s.task = 0) {n : Nat} {now : Int} (hr : rightP s.l n now) (hf : s.l.length ≤ 40000) : FInv (sched s now) ∧ statusK (sched s now).l = 1:=by
 have hT : (rTask (Gs s.l)).1 = 0:=by
  rcases h.tk ho with ⟨_,b⟩ | ⟨a,_⟩ | ⟨a,_⟩
  ·rw [b]
  ·omega
  ·omega
 have htn:=h.tn
 have he : Fits (Gs s.l) (ge ⟨2,now,0,0,s.list,s.turn,[]⟩):=h.g.next h.ne ho (right0 hr) _ rfl ⟨by dsimp only;first | done | omega,by dsimp only;first | done | omega⟩ ⟨by dsimp only;first | done | omega,by dsimp only;first | done | omega⟩ ⟨by dsimp only;first | done | omega,by dsimp only;first | done | omega⟩ (by have:=h.ls;show 0 ≤ s.list ∧ s.list ≤ _;omega) (by show 0 ≤ s.turn ∧ s.turn ≤ _;omega) (by simp) (refs_plain (by dsimp only [ge];first | done | omega) rfl) (fun _=>hT) (fun hk=>by exfalso;revert hk;dsimp only [ge];first | done | omega | (intro h;omega))
 refine h.next ho he rfl (by show (2 : Int) < 19;decide) (h.mp_plain ho he (.inl (by show (2 : Int) < 7;decide))) (.inr (.inl ⟨rfl,?_⟩)) (Nat.le_succ _) (by show 0 ≤ s.turn ∧ s.turn ≤ _;omega) rfl rfl rfl h.ids
 rw [task_snoc h.g he,if_pos rfl]
 rfl
theorem wakeS_inv {s : FSt} (h : FInv s) (ho : statusK s.l = 1) {n : Nat} {now : Int} (hr : rightP s.l n now) (hf : s.l.length ≤ 40000) : FInv (wakeS s now) ∧ statusK (wakeS s now).l = 1:=by
 unfold wakeS
 split
 ·rename_i ht
  exact sched_inv h ho ht hr hf
 ·exact ⟨h,ho⟩
/-- what neither opens nor ends anything -/
theorem mid_inv {s s' : FSt} {e : Rv} (h : FInv s) (ho : statusK s.l = 1) (he : Fits (Gs s.l) (ge e)) (hl : s'.l = s.l ++ [e]) (hk : e.k < 19 ∧ ¬ (2 ≤ e.k ∧ e.k ≤ 6)) (hmp : s'.mp = opR (Gs (s.l ++ [e]))) (h1 : s'.task = s.task) (h2 : s'.at_ = s.at_) (h3 : s'.bg = s.bg) (h4 : s'.turn = s.turn) (h5 : s'.mc ≤ s.mc + 1) (hls : s'.list = s.list) (hnn : s'.n = s.n) (hid : s'.id = s.id) (ids : IdOk s') : FInv s' ∧ statusK s'.l = 1:=by
 have htn:=h.tn
 exact h.next ho he hl hk.1 hmp (h.tk_same ho he hk.2 h1 h2 h3) h5 (by omega) hls hnn hid ids
theorem signaled_inv {s : FSt} (h : FInv s) (ho : statusK s.l = 1) {now : Int} (ds : List Value) (hr : rightP s.l ds.length now) : FInv (signaled s now ds) ∧ statusK (signaled s now ds).l = 1:=by
 have he : Fits (Gs s.l) (ge ⟨15,now,0,0,0,0,ds⟩):=h.g.next h.ne ho (right0 hr) _ rfl ⟨by dsimp only;first | done | omega,by dsimp only;first | done | omega⟩ ⟨by dsimp only;first | done | omega,by dsimp only;first | done | omega⟩ ⟨by dsimp only;first | done | omega,by dsimp only;first | done | omega⟩ ⟨by dsimp only;first | done | omega,by dsimp only;first | done | omega⟩ ⟨by dsimp only;first | done | omega,by dsimp only;first | done | omega⟩ hr.1 (refs_plain (by dsimp only [ge];first | done | omega) rfl) (fun hk=>by exfalso;revert hk;dsimp only [ge];first | done | omega | (intro h;omega)) (fun hk=>by exfalso;revert hk;dsimp only [ge];first | done | omega | (intro h;omega))
 exact mid_inv h ho he rfl (by dsimp only [ge];first | done | omega) (h.mp_plain ho he (.inr (.inl rfl))) rfl rfl rfl rfl (Nat.le_succ _) rfl rfl rfl h.ids
theorem canceled_inv {s : FSt} (h : FInv s) (ho : statusK s.l = 1) {n : Nat} {now : Int} (hr : rightP s.l n now) : FInv (canceled s now) ∧ statusK (canceled s now).l = 1:=by
 have he : Fits (Gs s.l) (ge ⟨16,now,0,0,0,0,[]⟩):=h.g.next h.ne ho (right0 hr) _ rfl ⟨by dsimp only;first | done | omega,by dsimp only;first | done | omega⟩ ⟨by dsimp only;first | done | omega,by dsimp only;first | done | omega⟩ ⟨by dsimp only;first | done | omega,by dsimp only;first | done | omega⟩ ⟨by dsimp only;first | done | omega,by dsimp only;first | done | omega⟩ ⟨by dsimp only;first | done | omega,by dsimp only;first | done | omega⟩ (by simp) (refs_plain (by dsimp only [ge];first | done | omega) rfl) (fun hk=>by exfalso;revert hk;dsimp only [ge];first | done | omega | (intro h;omega)) (fun hk=>by exfalso;revert hk;dsimp only [ge];first | done | omega | (intro h;omega))
 exact mid_inv h ho he rfl (by dsimp only [ge];first | done | omega) (by show upd s.mp 0 none = _;rw [h.upd0];exact h.mp_plain ho he (.inr (.inr rfl))) rfl rfl rfl rfl (by show cdn _ _ _ ≤ _;have:=cdn_le s.mp 0 s.mc;omega) rfl rfl rfl (fun x k i w hx=>h.ids x k i w (by rw [← h.upd0];exact hx))
theorem refs_3 {L : List Ev.Ev} {e : Ev.Ev} (hk : e.k = 3) (ht : rTask L = (1,e.ref)) : rRefs L e = true:=by
 unfold rRefs
 rw [if_pos hk,ht]
 simp
theorem refs_4 {L : List Ev.Ev} {e : Ev.Ev} (hk : e.k = 4 ∨ e.k = 5 ∨ e.k = 6) (ht : rTask L = (2,e.ref)) : rRefs L e = true:=by
 unfold rRefs
 rw [if_neg (by omega),if_pos hk,ht]
 simp
theorem task_in {s : FSt} (h : FInv s) : 0 ≤ (rTask (Gs s.l)).2 ∧ (rTask (Gs s.l)).2 ≤ s.l.length:=by
 have hl2:=rLast_le (Gs s.l) 2
 have hl3:=rLast_le (Gs s.l) 3
 rw [Gs_len] at hl2 hl3
 unfold rTask
 split
 ·exact ⟨by decide,by omega⟩
 split
 ·exact ⟨by omega,by omega⟩
 split
 ·exact ⟨by decide,by omega⟩
 ·exact ⟨by omega,by omega⟩
theorem began_inv {s : FSt} (h : FInv s) (ho : statusK s.l = 1) (ht : s.task = 1) {n : Nat} {now : Int} (hr : rightP s.l n now) (hf : s.l.length ≤ 40000) : FInv (began s now s.at_) ∧ statusK (began s now s.at_).l = 1:=by
 have hT : rTask (Gs s.l) = (1,s.at_):=by
  rcases h.tk ho with ⟨a,_⟩ | ⟨_,b⟩ | ⟨a,_⟩
  ·omega
  ·exact b
  ·omega
 have hin:=task_in h
 rw [hT] at hin
 have htn:=h.tn
 have he : Fits (Gs s.l) (ge ⟨3,now,s.at_,0,0,0,[]⟩):=h.g.next h.ne ho (right0 hr) _ rfl ⟨by dsimp only;first | done | omega,by dsimp only;first | done | omega⟩ (by show 0 ≤ s.at_ ∧ s.at_ ≤ _;dsimp only at hin;omega) ⟨by dsimp only;first | done | omega,by dsimp only;first | done | omega⟩ ⟨by dsimp only;first | done | omega,by dsimp only;first | done | omega⟩ ⟨by dsimp only;first | done | omega,by dsimp only;first | done | omega⟩ (by simp) (refs_3 rfl hT) (fun hk=>by exfalso;revert hk;dsimp only [ge];first | done | omega | (intro h;omega)) (fun hk=>by exfalso;revert hk;dsimp only [ge];first | done | omega | (intro h;omega))
 refine h.next ho he rfl (by show (3 : Int) < 19;decide) (h.mp_plain ho he (.inl (by show (3 : Int) < 7;decide))) (.inr (.inr ⟨rfl,?_⟩)) (Nat.le_succ _) (by show 0 ≤ s.turn ∧ s.turn ≤ _;omega) rfl rfl rfl h.ids
 rw [task_snoc h.g he,if_neg (by show ¬ (3 : Int) = 2;decide),if_pos rfl]
 rfl
/-- what ends a task -/
theorem over_inv {s s' : FSt} {e : Rv} (h : FInv s) (ho : statusK s.l = 1) (ht : s.task = 2) {n : Nat} {now : Int} (hr : rightP s.l n now) (hf : s.l.length ≤ 40000) (hk : e.k = 4 ∨ e.k = 5 ∨ e.k = 6) (ha : e.a = now) (h1 : e.r = s.bg) (h2 : e.i = 0) (h3 : e.l = 0) (h4 : 0 ≤ e.n ∧ e.n ≤ 2) (h5 : e.d = []) (hl : s'.l = s.l ++ [e]) (hmp : s'.mp = s.mp) (hmc : s'.mc = s.mc) (htk : s'.task = 0) (htn : 0 ≤ s'.turn ∧ s'.turn ≤ s.l.length + 1) (hls : s'.list = s.list) (hnn : s'.n = s.n) (hid : s'.id = s.id) : FInv s' ∧ statusK s'.l = 1:=by
 have hT : rTask (Gs s.l) = (2,s.bg):=by
  rcases h.tk ho with ⟨a,_⟩ | ⟨a,_⟩ | ⟨_,b⟩
  ·omega
  ·omega
  ·exact b
 have hin:=task_in h
 rw [hT] at hin
 dsimp only at hin
 have he : Fits (Gs s.l) (ge e):=h.g.next h.ne ho (right0 hr) _ ha (by omega) (by rw [h1];omega) (by rw [h2];omega) (by rw [h3];omega) (by omega) (by rw [h5];simp) (refs_4 hk (by show _ = (2,e.r);rw [h1];exact hT)) (fun hk2=>by have : e.k = 2:=hk2;omega) (fun hk2=>by have : e.k = 7 ∨ e.k = 12 ∨ e.k = 17:=hk2;omega)
 refine h.next ho he hl (by omega) (by rw [hmp];exact h.mp_plain ho he (.inl (by omega))) (.inl ⟨htk,?_⟩) (by omega) htn hls hnn hid (fun x k i w hx=>h.ids x k i w (by rw [← hmp];exact hx))
 rw [task_snoc h.g he,if_neg (by omega),if_neg (by omega),if_pos hk]
theorem turn_wrap {s : FSt} (h : FInv s) (hf : s.l.length ≤ 40000) : wrap64 (s.turn + 1) = s.turn + 1:=by have:=h.tn;rw [wrap64];omega
theorem missed_inv {s : FSt} (h : FInv s) (ho : statusK s.l = 1) (ht : s.task = 2) {n : Nat} {now : Int} (hr : rightP s.l n now) (hf : s.l.length ≤ 40000) : FInv (missed s now) ∧ statusK (missed s now).l = 1:=by
 have htn:=h.tn
 exact over_inv (e:=⟨5,now,s.bg,0,0,0,[]⟩) h ho ht hr hf (.inr (.inl rfl)) rfl rfl rfl rfl ⟨by dsimp only;first | done | omega,by dsimp only;first | done | omega⟩ rfl rfl rfl rfl rfl (by show 0 ≤ wrap64 (s.turn + 1) ∧ wrap64 (s.turn + 1) ≤ _;rw [turn_wrap h hf];omega) rfl rfl rfl
theorem faulted_inv {s : FSt} (h : FInv s) (ho : statusK s.l = 1) (ht : s.task = 2) {n : Nat} {now : Int} (hr : rightP s.l n now) (hf : s.l.length ≤ 40000) (m : Int) (hm : 0 ≤ m ∧ m ≤ 2) : FInv (faulted s now m) ∧ statusK (faulted s now m).l = 1:=by
 have htn:=h.tn
 exact over_inv (e:=⟨6,now,s.bg,0,0,m,[]⟩) h ho ht hr hf (.inr (.inr rfl)) rfl rfl rfl rfl hm rfl rfl rfl rfl rfl (by show 0 ≤ wrap64 (s.turn + 1) ∧ wrap64 (s.turn + 1) ≤ _;rw [turn_wrap h hf];omega) rfl rfl rfl
theorem decided_inv {s : FSt} (h : FInv s) (ho : statusK s.l = 1) (ht : s.task = 2) {n : Nat} {now : Int} (hr : rightP s.l n now) (hf : s.l.length ≤ 40000) : FInv (decided s now) ∧ statusK (decided s now).l = 1:=
 over_inv (e:=⟨4,now,s.bg,0,0,0,[]⟩) h ho ht hr hf (.inl rfl) rfl rfl rfl rfl ⟨by dsimp only;first | done | omega,by dsimp only;first | done | omega⟩ rfl rfl rfl rfl rfl (by show (0 : Int) ≤ 0 ∧ (0 : Int) ≤ _;omega) rfl rfl rfl
/-- a run closed -/
theorem shut_inv {s : FSt} (h : FInv s) (ho : statusK s.l = 1) {now : Int} (ds : List Value) (hr : rightP s.l ds.length now) {k : Int} (hk : 19 ≤ k ∧ k ≤ 23) : FInv (shut s k now ds) ∧ statusK (shut s k now ds).l = stOf k:=by
 have he : Fits (Gs s.l) (ge ⟨k,now,0,0,0,0,ds⟩):=h.g.next h.ne ho (right0 hr) _ rfl (by show 2 ≤ k ∧ k ≤ 23;omega) ⟨by dsimp only;first | done | omega,by dsimp only;first | done | omega⟩ ⟨by dsimp only;first | done | omega,by dsimp only;first | done | omega⟩ ⟨by dsimp only;first | done | omega,by dsimp only;first | done | omega⟩ ⟨by dsimp only;first | done | omega,by dsimp only;first | done | omega⟩ hr.1 (refs_plain (by show k ≠ 3 ∧ k ≠ 4 ∧ k ≠ 5 ∧ k ≠ 6 ∧ k ≠ 8 ∧ k ≠ 9 ∧ k ≠ 10 ∧ k ≠ 11 ∧ k ≠ 13 ∧ k ≠ 14 ∧ k ≠ 18;omega) rfl) (fun hk2=>by have : k = 2:=hk2;omega) (fun hk2=>by have : k = 7 ∨ k = 12 ∨ k = 17:=hk2;omega)
 have hs : statusK (shut s k now ds).l = stOf k:=status_snoc s.l _
 have hn : statusK (shut s k now ds).l ≠ 1:=by rw [hs];exact stOf_ne hk
 have htn:=h.tn
 exact ⟨⟨h.g.snoc (fits_iff.2 he),by simp [shut],fun hh=>absurd hh hn,fun hh=>absurd hh hn,fun _=>⟨rfl,rfl⟩,Nat.zero_le _,by show 0 ≤ s.turn ∧ s.turn ≤ ((s.l ++ _).length : Nat);rw [List.length_append];simp;omega,h.ls,h.nn,fun x k i w hx=>(by cases hx),h.io⟩,hs⟩
theorem evAt_some {l : List Rv} {x : Int} (h1 : 1 ≤ x) (h2 : x ≤ l.length) : ∃ e,l[(x - 1).toNat]? = some e ∧ evAt (Gs l) x = some (ge e):=by
 obtain ⟨e,he⟩ : ∃ e,l[(x - 1).toNat]? = some e:=⟨_,List.getElem?_eq_getElem (by omega)⟩
 refine ⟨e,he,?_⟩
 unfold evAt
 rw [if_neg (by omega)]
 exact Gs_at he
/-- an activity that begins -/
theorem worksS_inv {s : FSt} (h : FInv s) (ho : statusK s.l = 1) {n : Nat} {now : Int} (hr : rightP s.l n now) (hf : s.l.length ≤ 40000) {ref i : Int} (hop : s.mp ref = some (opv 7 i 0)) : FInv (worksS s ref now i) ∧ statusK (worksS s ref now i).l = 1:=by
 have hop':=hop
 rw [h.mp ho] at hop'
 obtain ⟨a,b,c,d⟩:=opR_of hop'
 rw [if_pos rfl] at d
 have hin:=open_in a
 rw [Gs_len] at hin
 have hi:=(h.ids _ _ _ _ hop).1
 have he : Fits (Gs s.l) (ge ⟨8,now,ref,i,0,0,[]⟩):=h.g.next h.ne ho (right0 hr) _ rfl ⟨by dsimp only;first | done | omega,by dsimp only;first | done | omega⟩ (by show 0 ≤ ref ∧ ref ≤ _;omega) (by show 0 ≤ i ∧ i ≤ _;omega) ⟨by dsimp only;first | done | omega,by dsimp only;first | done | omega⟩ ⟨by dsimp only;first | done | omega,by dsimp only;first | done | omega⟩ (by simp) (by
  unfold rRefs
  rw [if_neg (by show ¬ (8 : Int) = 3;decide),if_neg (by dsimp only [ge];first | done | omega),if_pos (by show (8 : Int) = 8;rfl)]
  show (rKind (Gs s.l) ref == 7 && rWorks (Gs s.l) ref == 0) = true
  rw [b,← d];rfl) (fun hk=>by exfalso;revert hk;dsimp only [ge];first | done | omega | (intro h;omega)) (fun hk=>by exfalso;revert hk;dsimp only [ge];first | done | omega | (intro h;omega))
 have hw:=(opR_works h.g.refsIn he rfl).1
 have hmp : (worksS s ref now i).mp = opR (Gs (s.l ++ [⟨8,now,ref,i,0,0,[]⟩])):=by
  rw [Gs_snoc,hw,← h.mp ho,Gs_len]
  show upd s.mp ref (some (opv 7 i ((s.l.length : Int) + 1))) = upd s.mp ref (some (opv 7 (idAt (Gs s.l) ref) ((s.l.length : Int) + 1)))
  rw [c]
 refine mid_inv h ho he rfl (by dsimp only [ge];first | done | omega) hmp rfl rfl rfl rfl (cup_le _ _ _) rfl rfl rfl (fun x k j w hx=>?_)
 change upd s.mp ref _ x = _ at hx
 unfold upd at hx
 split at hx
 ·obtain ⟨e1,e2,_⟩:=opv_inj (Option.some.inj hx)
  subst e1 e2
  exact ⟨hi,.inl rfl⟩
 ·exact h.ids _ _ _ _ hx
theorem ids_drop {s : FSt} (h : FInv s) {s' : FSt} {x0 : Int} (hmp : s'.mp = upd s.mp x0 none) : IdOk s':=fun x k i w hx=>by
 rw [hmp] at hx
 unfold upd at hx
 split at hx
 ·cases hx
 ·exact h.ids _ _ _ _ hx
/-- an activity that ends -/
theorem endedS_inv {s : FSt} (h : FInv s) (ho : statusK s.l = 1) {now : Int} (ds : List Value) (hr : rightP s.l ds.length now) (hf : s.l.length ≤ 40000) {k ref i w : Int} (hk : k = 9 ∨ k = 10 ∨ k = 11) (hop : s.mp ref = some (opv 7 i w)) (hw0 : w ≠ 0) : (FInv (endedS s ref k now w i ds) ∧ statusK (endedS s ref k now w i ds).l = 1) ∧ ∀ x j,s.mp x = some (opv 7 j w) → x = ref:=by
 have hop':=hop
 rw [h.mp ho] at hop'
 obtain ⟨a,b,c,d⟩:=opR_of hop'
 rw [if_pos rfl] at d
 have hin:=open_in a
 rw [Gs_len] at hin
 have hi:=(h.ids _ _ _ _ hop).1
 obtain ⟨y,hy,hy8,hyr,hw1,hw2⟩:=rWorks_spec (Gs s.l) ref (by rw [← d];exact hw0)
 rw [← d] at hy hw1 hw2
 rw [Gs_len] at hw2
 have hk8 : rKind (Gs s.l) w = 8:=by rw [rKind_ev,hy];exact hy8
 have hrw : refAt (Gs s.l) w = ref:=by rw [refAt_ev hw1,hy];exact hyr
 have he : Fits (Gs s.l) (ge ⟨k,now,w,i,0,0,ds⟩):=h.g.next h.ne ho (right0 hr) _ rfl (by show 2 ≤ k ∧ k ≤ 23;omega) (by show 0 ≤ w ∧ w ≤ _;omega) (by show 0 ≤ i ∧ i ≤ _;omega) ⟨by dsimp only;first | done | omega,by dsimp only;first | done | omega⟩ ⟨by dsimp only;first | done | omega,by dsimp only;first | done | omega⟩ hr.1 (by
  unfold rRefs
  rw [if_neg (by show ¬ k = 3;omega),if_neg (by show ¬ (k = 4 ∨ k = 5 ∨ k = 6);omega),if_neg (by show ¬ k = 8;omega),if_pos (by show k = 9 ∨ k = 10 ∨ k = 11;omega)]
  show (rKind (Gs s.l) w == 8 && rOpen (Gs s.l) (refAt (Gs s.l) w)) = true
  rw [hk8,hrw,a];rfl) (fun hk2=>by have : k = 2:=hk2;omega) (fun hk2=>by have : k = 7 ∨ k = 12 ∨ k = 17:=hk2;omega)
 refine ⟨?_,fun x j hx=>?_⟩
 ·refine mid_inv h ho he rfl (by show k < 19 ∧ ¬ (2 ≤ k ∧ k ≤ 6);omega) ?_ rfl rfl rfl rfl (by show cdn _ _ _ ≤ _;have:=cdn_le s.mp ref s.mc;omega) rfl rfl rfl (ids_drop h rfl)
  rw [Gs_snoc,opR_end h.g.refsIn he (by show k = 9 ∨ k = 10 ∨ k = 11 ∨ _;omega) ref a (fun x _=>dead_9 (by show k = 9 ∨ k = 10 ∨ k = 11;omega) b (by rw [← d];rfl) (by show w ≠ 0;exact hw0) x),← h.mp ho]
  rfl
 ·rw [h.mp ho] at hx
  obtain ⟨a2,b2,c2,d2⟩:=opR_of hx
  rw [if_pos rfl] at d2
  obtain ⟨z,hz,_,hzr,_⟩:=rWorks_spec (Gs s.l) x (by rw [← d2];exact hw0)
  rw [← d2,hy] at hz
  cases hz
  rw [← hzr,hyr]
/-- a child that ends;a timer that fired or was unset -/
theorem endedK_inv {s s' : FSt} (h : FInv s) (ho : statusK s.l = 1) {now : Int} (ds : List Value) (hr : rightP s.l ds.length now) (hf : s.l.length ≤ 40000) {k K key i w m : Int} (hk : (K = 12 ∧ (k = 13 ∨ k = 14)) ∨ (K = 17 ∧ k = 18)) (hop : s.mp key = some (opv K i w)) (hm : 0 ≤ m ∧ m ≤ 6) (hl : s'.l = s.l ++ [⟨k,now,key,i,0,m,ds⟩]) (hmp : s'.mp = upd s.mp key none) (hmc : s'.mc = cdn s.mp key s.mc) (h1 : s'.task = s.task) (h2 : s'.at_ = s.at_) (h3 : s'.bg = s.bg) (h4 : s'.turn = s.turn) (hls : s'.list = s.list) (hnn : s'.n = s.n) (hid : s'.id = s.id) : FInv s' ∧ statusK s'.l = 1:=by
 have hop':=hop
 rw [h.mp ho] at hop'
 obtain ⟨a,b,c,d⟩:=opR_of hop'
 have hin:=open_in a
 rw [Gs_len] at hin
 have hi:=(h.ids _ _ _ _ hop).1
 have he : Fits (Gs s.l) (ge ⟨k,now,key,i,0,m,ds⟩):=h.g.next h.ne ho (right0 hr) _ rfl (by show 2 ≤ k ∧ k ≤ 23;omega) (by show 0 ≤ key ∧ key ≤ _;omega) (by show 0 ≤ i ∧ i ≤ _;omega) ⟨by dsimp only;first | done | omega,by dsimp only;first | done | omega⟩ (by show 0 ≤ m ∧ m ≤ _;omega) hr.1 (by
  unfold rRefs
  rw [if_neg (by show ¬ k = 3;omega),if_neg (by show ¬ (k = 4 ∨ k = 5 ∨ k = 6);omega),if_neg (by show ¬ k = 8;omega),if_neg (by show ¬ (k = 9 ∨ k = 10 ∨ k = 11);omega)]
  rcases hk with ⟨rfl,hk⟩ | ⟨rfl,hk⟩
  ·rw [if_pos (by show k = 13 ∨ k = 14;omega)]
   show (rKind (Gs s.l) key == 12 && rOpen (Gs s.l) key) = true
   rw [b,a];rfl
  ·rw [if_neg (by show ¬ (k = 13 ∨ k = 14);omega),if_pos (by show k = 18;omega)]
   show (rKind (Gs s.l) key == 17 && rOpen (Gs s.l) key) = true
   rw [b,a];rfl) (fun hk2=>by have : k = 2:=hk2;omega) (fun hk2=>by have : k = 7 ∨ k = 12 ∨ k = 17:=hk2;omega)
 refine mid_inv h ho he hl (by show k < 19 ∧ ¬ (2 ≤ k ∧ k ≤ 6);omega) ?_ h1 h2 h3 h4 (by rw [hmc];have:=cdn_le s.mp key s.mc;omega) hls hnn hid (ids_drop h hmp)
 rw [hmp,Gs_snoc,opR_end h.g.refsIn he (by show k = 9 ∨ k = 10 ∨ k = 11 ∨ k = 13 ∨ k = 14 ∨ k = 18;omega) key a (fun x _=>?_),← h.mp ho]
 rcases hk with ⟨rfl,hk⟩ | ⟨rfl,hk⟩
 ·exact dead_13 (by show k = 13 ∨ k = 14;omega) (by show rKind (Gs s.l) key = 12;exact b) x
 ·exact dead_18 (by show k = 18;omega) (by show rKind (Gs s.l) key = 17;exact b) x
/-- what is opened -/
theorem openedS_inv {s : FSt} (h : FInv s) (ho : statusK s.l = 1) {now : Int} (ds : List Value) (hr : rightP s.l ds.length now) {k i li m : Int} (hk : k = 7 ∨ k = 12 ∨ k = 17) (hi : 0 ≤ i ∧ i ≤ 1048576) (hli : 0 ≤ li ∧ li ≤ 1048576) (hm : 0 ≤ m ∧ m ≤ 1048576) (hno : openM s (k,i) = false) : FInv (openedS s k now i li m ds) ∧ statusK (openedS s k now i li m ds).l = 1:=by
 have hu : rUsed (Gs s.l) (ge ⟨k,now,0,i,li,m,ds⟩) = false:=by
  rw [Bool.eq_false_iff]
  intro hh
  obtain ⟨x,a,b,c⟩:=used_iff.1 hh
  have : openM s (k,i) = true:=(openM_iff s (k,i)).2 ⟨x,if rKind (Gs s.l) x = 7 then rWorks (Gs s.l) x else 0,by
   rw [h.mp ho]
   unfold opR
   rw [if_pos a,b,c]
   rfl⟩
  rw [hno] at this
  cases this
 have he : Fits (Gs s.l) (ge ⟨k,now,0,i,li,m,ds⟩):=h.g.next h.ne ho (right0 hr) _ rfl (by show 2 ≤ k ∧ k ≤ 23;omega) ⟨by dsimp only;first | done | omega,by dsimp only;first | done | omega⟩ (by show 0 ≤ i ∧ i ≤ _;omega) (by show 0 ≤ li ∧ li ≤ _;omega) (by show 0 ≤ m ∧ m ≤ _;omega) hr.1 (refs_plain (by show k ≠ 3 ∧ k ≠ 4 ∧ k ≠ 5 ∧ k ≠ 6 ∧ k ≠ 8 ∧ k ≠ 9 ∧ k ≠ 10 ∧ k ≠ 11 ∧ k ≠ 13 ∧ k ≠ 14 ∧ k ≠ 18;omega) rfl) (fun hk2=>by have : k = 2:=hk2;omega) (fun _=>hu)
 refine mid_inv h ho he rfl (by show k < 19 ∧ ¬ (2 ≤ k ∧ k ≤ 6);omega) ?_ rfl rfl rfl rfl (cup_le _ _ _) rfl rfl rfl (opened_inv (now:=now) (l:=li) (n:=m) (d:=ds) h.openOk h.uniq h.ids hk hi hno).2.2.1
 rw [Gs_snoc,opR_open h.g.refsIn he hk,← h.mp ho,Gs_len]
 rfl
/-- a new run -/
theorem begun1_inv {id run list n now : Int} {ds : List Value} (hid : 0 ≤ id ∧ id ≤ 1048576) (hls : 0 ≤ list ∧ list ≤ 1048576) (hn : 0 ≤ n ∧ n ≤ 1048576) (hr : rightP [] ds.length now) : FInv (begun1 id run list n now ds) ∧ statusK (begun1 id run list n now ds).l = 1:=by
 have h1 : rRefs (Gs []) (ge ⟨1,now,0,0,list,n,ds⟩) = true:=refs_plain (by dsimp only [ge];first | done | omega) rfl
 have he : Fits (Gs []) (ge ⟨1,now,0,0,list,n,ds⟩):=by
  refine ⟨?_,fun hh=>absurd hh (by simp [Gs]),⟨fun _=>rfl,fun _=>rfl⟩,rfl,h1,fun hk=>?_,fun hk=>?_⟩
  ·unfold Ev.rightB
   have b : ∀ v : Int,0 ≤ v ∧ v ≤ 1099511627776 → betB v = true:=fun v hv=>(betB_iff v).2 hv
   show (decide ((1 : Int) ≤ 1) && (decide ((1 : Int) ≤ 23) && (betB now && (betB 0 && (betB 0 && (betB list && (betB n && decide (ds.length ≤ 4096)))))))) = true
   rw [b now ⟨hr.2.1,hr.2.2.1⟩,b 0 (by omega),b list (by omega),b n (by omega),decide_eq_true hr.1]
   rfl
  ·exfalso;revert hk;show ¬ ((1 : Int) = 2);decide
  ·exfalso;revert hk;dsimp only [ge];first | done | omega | (intro h;omega)
 have hg : Gd ([] ++ [⟨1,now,0,0,list,n,ds⟩]):=Gd.nil.snoc (fits_iff.2 he)
 have hs : statusK [(⟨1,now,0,0,list,n,ds⟩ : Rv)] = 1:=by unfold statusK;rfl
 have hF : FInv { start id run with list:=list,n:=n,l:=[⟨1,now,0,0,list,n,ds⟩] }:=by
  refine ⟨hg,by simp,fun _=>?_,fun _=>.inl ⟨rfl,?_⟩,fun hn=>absurd hs hn,Nat.zero_le _,⟨Int.le_refl _,by simp [start]⟩,hls,hn,fun x k i w hx=>(by cases hx),hid⟩
  ·show (fun _=>none) = opR (Gs ([] ++ [⟨1,now,0,0,list,n,ds⟩]))
   rw [Gs_snoc,opR_plain Gd.nil.refsIn he (by dsimp only [ge];first | done | omega)]
   funext x
   by_cases hx : x < 1
   ·exact (opR_out (.inl hx)).symm
   ·exact (opR_out (.inr (by simp [Gs];omega))).symm
  ·have:=task_snoc Gd.nil he
   rw [if_neg (by show ¬ (1 : Int) = 2;decide),if_neg (by show ¬ (1 : Int) = 3;decide),if_neg (by dsimp only [ge];first | done | omega)] at this
   exact this
 exact sched_inv hF hs rfl (right_snoc (l:=[]) hr rfl) (by simp)
end Go.Proofs.YtnkelaohcbdjnaaGreat
set_option linter.unusedVariables false
set_option linter.unusedSimpArgs false
namespace Go.Proofs.YtnkelaohcbdjnaaGreat
open Go.RowKit Go.Maps Ev
/-- the event at a place -/
def evO (l : List Rv) (x : Int) : Rv:=(l[(x - 1).toNat]?).getD ⟨0,0,0,0,0,0,[]⟩
theorem idAt_evO {l : List Rv} {x : Int} (h1 : 1 ≤ x) (h2 : x ≤ l.length) : idAt (Gs l) x = (evO l x).i:=by
 obtain ⟨e,he,hv⟩:=evAt_some h1 h2
 unfold idAt evO
 rw [hv,he]
 rfl
theorem works_some {s : FSt} (h : FInv s) (ho : statusK s.l = 1) {ref i w : Int} (hm : s.mp ref = some (opv 7 i w)) : worksR s.l ref = (w,true) ∧ (evO s.l ref).i = i ∧ 1 ≤ ref ∧ ref ≤ s.l.length ∧ 0 ≤ w:=by
 rw [h.mp ho] at hm
 obtain ⟨a,b,c,d⟩:=opR_of hm
 rw [if_pos rfl] at d
 have hin:=open_in a
 rw [Gs_len] at hin
 rw [works_law _ _ rfl h.g,if_pos ⟨b,a⟩,← idAt_evO hin.1 hin.2,d]
 exact ⟨rfl,c,hin.1,hin.2,rWorks_nn _ _⟩
theorem works_back {s : FSt} (h : FInv s) (ho : statusK s.l = 1) {ref : Int} (hw : (worksR s.l ref).2 = true) : s.mp ref = some (opv 7 (evO s.l ref).i (worksR s.l ref).1):=by
 rw [works_law _ _ rfl h.g] at hw ⊢
 split at hw
 ·rename_i hc
  have hin:=open_in hc.2
  rw [Gs_len] at hin
  rw [if_pos hc,h.mp ho,← idAt_evO hin.1 hin.2]
  unfold opR
  rw [if_pos hc.2,hc.1,if_pos rfl]
 ·cases hw
theorem timer_some {s : FSt} (h : FInv s) (ho : statusK s.l = 1) {ref i w : Int} (hm : s.mp ref = some (opv 12 i w)) : timerR s.l ref = true ∧ (evO s.l ref).i = i ∧ w = 0:=by
 rw [h.mp ho] at hm
 obtain ⟨a,b,c,d⟩:=opR_of hm
 rw [if_neg (by decide)] at d
 have hin:=open_in a
 rw [Gs_len] at hin
 rw [timer_law _ _ rfl h.g,a,b,← idAt_evO hin.1 hin.2]
 exact ⟨rfl,c,d⟩
theorem timer_back {s : FSt} (h : FInv s) (ho : statusK s.l = 1) {ref : Int} (hw : timerR s.l ref = true) : s.mp ref = some (opv 12 (evO s.l ref).i 0):=by
 rw [timer_law _ _ rfl h.g,Bool.and_eq_true,beq_iff_eq] at hw
 have hin:=open_in hw.2
 rw [Gs_len] at hin
 rw [h.mp ho,← idAt_evO hin.1 hin.2]
 unfold opR
 rw [if_pos hw.2,hw.1,if_neg (by decide)]
/-- what is open,told both ways -/
theorem open_same {s : FSt} (h : FInv s) (ho : statusK s.l = 1) : openM s = openR s.l:=by
 funext y
 rw [Bool.eq_iff_iff,openM_iff,openR_iff]
 constructor
 ·rintro ⟨x,w,hx⟩
  rw [h.mp ho] at hx
  obtain ⟨a,b,c,_⟩:=opR_of hx
  exact ⟨x,a,b,c⟩
 ·rintro ⟨x,a,b,c⟩
  refine ⟨x,(if rKind (Gs s.l) x = 7 then rWorks (Gs s.l) x else 0),?_⟩
  rw [h.mp ho]
  unfold opR
  rw [if_pos a,b,c]
theorem bad_same {s : FSt} (h : FInv s) (ho : statusK s.l = 1) (l : List Dv) : badS s l = rbadS s l:=by
 unfold badS rbadS
 rw [open_same h ho]
theorem began_some {s : FSt} (h : FInv s) (ho : statusK s.l = 1) {key k i w : Int} (hm : s.mp key = some (opv k i w)) : beganR s.l k i = key:=by
 rw [h.mp ho] at hm
 obtain ⟨a,b,c,_⟩:=opR_of hm
 rw [← b,← c]
 exact began_law _ _ rfl h.g key a
theorem key_same {s : FSt} (h : FInv s) (ho : statusK s.l = 1) {k i : Int} (hm : openM s (k,i) = true) : keyAt s k i = beganR s.l k i ∧ ∃ w,s.mp (beganR s.l k i) = some (opv k i w):=by
 obtain ⟨x,w,hx⟩:=(openM_iff s (k,i)).1 hm
 have e1:=began_some h ho hx
 exact ⟨by rw [keyAt_of h.uniq hx,e1],w,by rw [e1];exact hx⟩
def worksC (s : FSt) (ref now : Int) : FSt × List Ov × Int:=if worksR s.l ref = (0,true) then (worksS s ref now (evO s.l ref).i,[⟨4,0,ref,0,wrap64 (now + (evO s.l ref).n),0,0,[]⟩],0) else (s,[],21)
def endsC (s : FSt) (k ref : Int) (ds : List Value) (now : Int) : FSt × List Ov × Int:=if (worksR s.l ref).2 = true ∧ (worksR s.l ref).1 ≠ 0 then (wakeS (endedS s ref k now (worksR s.l ref).1 (evO s.l ref).i ds) now,wakeO (endedS s ref k now (worksR s.l ref).1 (evO s.l ref).i ds) now,0) else (s,[],21)
def lapsedC (s : FSt) (ref turn now : Int) : FSt × List Ov × Int:=if turn = 0 then endsC s 11 ref [] now else (s,[],21)
def firedC (s : FSt) (ref turn now : Int) : FSt × List Ov × Int:=if turn = 0 ∧ timerR s.l ref = true then (wakeS (firedS s ref now (evO s.l ref).i) now,wakeO (firedS s ref now (evO s.l ref).i) now,0) else (s,[],21)
def fireC (s : FSt) (k ref turn now : Int) : FSt × List Ov × Int:=if k = 3 then missedC s ref turn now else if k = 4 then lapsedC s ref turn now else firedC s ref turn now
def childC (s : FSt) (idn st : Int) (ds : List Value) (now : Int) : FSt × List Ov × Int:=if openR s.l (17,idn) = true then (if 0 ≤ st ∧ st ≤ 6 then (wakeS (childS s (beganR s.l 17 idn) now idn st ds) now,wakeO (childS s (beganR s.l 17 idn) now idn st ds) now,0) else (s,[],1)) else (s,[],21)
def rdoneS (s : FSt) (x : Dv) (now : Int) : FSt:=
 if x.k = 1 then openedS s 7 now x.i x.l x.n x.d else if x.k = 2 then openedS s 12 now x.i x.l x.n x.d else if x.k = 4 then openedS s 17 now x.i x.l x.n x.d
 else if x.k = 3 then { s with mc:=cdn s.mp (beganR s.l 12 x.i) s.mc,mp:=upd s.mp (beganR s.l 12 x.i) none,l:=s.l ++ [⟨14,now,beganR s.l 12 x.i,x.i,x.l,x.n,x.d⟩] }
 else shut s (if x.k = 8 then 19 else x.k + 15) now x.d
def rdecFold (now : Int) : FSt → List Dv → FSt × List Ov
 | s,[]=>(s,[])
 | s,x :: l=>((rdecFold now (rdoneS s x now) l).1,doneO s x now ++ (rdecFold now (rdoneS s x now) l).2)
def rfineC (s : FSt) (l : List Dv) (now : Int) : FSt × List Ov × Int:=
 if s.late = true ∧ statusK (rdecFold now (decided s now) l).1.l = 1 then (sched (rdecFold now (decided s now) l).1 now,(rdecFold now (decided s now) l).2 ++ [⟨1,(rdecFold now (decided s now) l).1.list,((rdecFold now (decided s now) l).1.l.length : Int) + 1,(rdecFold now (decided s now) l).1.turn,0,0,0,[]⟩],0) else ((rdecFold now (decided s now) l).1,(rdecFold now (decided s now) l).2,0)
def rdecideC (s : FSt) (ref turn : Int) (l : List Dv) (now : Int) : FSt × List Ov × Int:=
 if s.task = 2 ∧ s.at_ = ref ∧ s.turn = turn then (if rbadS s l = true then YtnkelaohcbdjnaaGreat.faultC s 1 now 22 else if s.late = true ∧ endsB l = true then YtnkelaohcbdjnaaGreat.faultC s 2 now 23 else rfineC s l now) else (s,[],21)
theorem fnum_iff {v : Int} : fnum v = true ↔ 0 ≤ v ∧ v ≤ 1048576:=by unfold fnum;simp
theorem tick_iff {v : Int} : tick v = true ↔ 1 ≤ v ∧ v ≤ 1048576:=by unfold tick;simp
theorem mayF_all {hi hl hn hd : Bool} {i l n : Int} {dl : Nat} (h : mayF hi hl hn hd i l n dl = true) : (0 ≤ i ∧ i ≤ 1048576) ∧ (0 ≤ l ∧ l ≤ 1048576) ∧ (0 ≤ n ∧ n ≤ 1048576) ∧ dl ≤ 4096 ∧ (hl = false → l = 0) ∧ (hn = false → n = 0) ∧ (hd = false → dl = 0):=by
 unfold mayF at h
 split at h
 ·cases h
 rename_i hc
 simp only [Bool.or_eq_true,Bool.and_eq_true,Bool.not_eq_true',bne_iff_ne,ne_eq,not_or,not_and,Classical.not_not] at hc
 obtain ⟨⟨⟨_,c2⟩,c3⟩,c4⟩:=hc
 simp only [Bool.and_eq_true,fnum_iff,Bool.or_eq_true,Bool.not_eq_true',tick_iff,decide_eq_true_eq] at h
 obtain ⟨h1,h2,h3,h4⟩:=h
 refine ⟨h1,h2,?_,h4,c2,c3,c4⟩
 rcases h3 with h3 | h3
 ·have:=c3 h3;omega
 ·omega
theorem mayD_all {x : Dv} (h : mayD x = true) : (0 ≤ x.i ∧ x.i ≤ 1048576) ∧ (0 ≤ x.l ∧ x.l ≤ 1048576) ∧ (0 ≤ x.n ∧ x.n ≤ 1048576) ∧ x.d.length ≤ 4096 ∧ (x.k = 2 → x.l = 0 ∧ x.d = []) ∧ (x.k = 3 → x.l = 0 ∧ x.n = 0 ∧ x.d = []) ∧ (x.k = 7 → x.d = []):=by
 have nil : ∀ {d : List Value},d.length = 0 → d = []:=fun h=>List.eq_nil_of_length_eq_zero h
 have hk:=mayD_k h
 unfold mayD mayB at h
 split at h
 ·obtain ⟨a,b,c,d,e,f,g⟩:=mayF_all h
  exact ⟨a,b,c,d,fun _=>by omega,fun _=>by omega,fun _=>by omega⟩
 split at h
 ·obtain ⟨a,b,c,d,e,f,g⟩:=mayF_all h
  exact ⟨a,b,c,d,fun _=>⟨e rfl,nil (g rfl)⟩,fun _=>by omega,fun _=>by omega⟩
 split at h
 ·obtain ⟨a,b,c,d,e,f,g⟩:=mayF_all h
  exact ⟨a,b,c,d,fun _=>by omega,fun _=>⟨e rfl,f rfl,nil (g rfl)⟩,fun _=>by omega⟩
 split at h
 ·obtain ⟨a,b,c,d,e,f,g⟩:=mayF_all h
  exact ⟨a,b,c,d,fun _=>by omega,fun _=>by omega,fun _=>by omega⟩
 split at h
 ·obtain ⟨a,b,c,d,e,f,g⟩:=mayF_all h
  exact ⟨a,b,c,d,fun _=>by omega,fun _=>by omega,fun _=>by omega⟩
 split at h
 ·obtain ⟨a,b,c,d,e,f,g⟩:=mayF_all h
  exact ⟨a,b,c,d,fun _=>by omega,fun _=>by omega,fun _=>by omega⟩
 split at h
 ·obtain ⟨a,b,c,d,e,f,g⟩:=mayF_all h
  exact ⟨a,b,c,d,fun _=>by omega,fun _=>by omega,fun _=>by omega⟩
 split at h
 ·obtain ⟨a,b,c,d,e,f,g⟩:=mayF_all h
  exact ⟨a,b,c,d,fun _=>by omega,fun _=>by omega,fun _=>nil (g rfl)⟩
 ·cases h
/-- what one decision keeps -/
theorem done_keep {s : FSt} (h : FInv s) (ho : statusK s.l = 1) {n : Nat} {now : Int} (hr : rightP s.l n now) (hf : s.l.length ≤ 40000) {x : Dv} {more : Bool} (hw : wrongD s.id s.asked (openM s) x more = false) :
 rdoneS s x now = doneS s x now ∧ FInv (doneS s x now) ∧ (more = true → statusK (doneS s x now).l = 1) ∧ rightP (doneS s x now).l 0 now ∧ (statusK (doneS s x now).l = 1 → (doneS s x now).task = s.task) ∧ (doneS s x now).late = s.late:=by
 obtain ⟨hm,h5,ht⟩:=wrongD_of hw
 obtain ⟨hk1,hk8⟩:=mayD_k hm
 obtain ⟨b1,b2,b3,b4,b5,b6,b7⟩:=mayD_all hm
 have hrd : rightP s.l x.d.length now:=⟨b4,hr.2⟩
 have hop : ∀ K,(K = 7 ∨ K = 12 ∨ K = 17) → (openM s (K,x.i) = false) → doneS s x now = openedS s K now x.i x.l x.n x.d → rdoneS s x now = openedS s K now x.i x.l x.n x.d → rdoneS s x now = doneS s x now ∧ FInv (doneS s x now) ∧ (more = true → statusK (doneS s x now).l = 1) ∧ rightP (doneS s x now).l 0 now ∧ (statusK (doneS s x now).l = 1 → (doneS s x now).task = s.task) ∧ (doneS s x now).late = s.late:=by
  intro K hK hn e1 e2
  rw [e1,e2]
  have:=openedS_inv h ho x.d hrd (li:=x.l) (m:=x.n) hK b1 b2 b3 hn
  exact ⟨rfl,this.1,fun _=>this.2,right_snoc hr rfl,fun _=>rfl,rfl⟩
 by_cases k1 : x.k = 1
 ·refine hop 7 (.inl rfl) ?_ (by unfold doneS;rw [if_pos k1]) (by unfold rdoneS;rw [if_pos k1])
  unfold takeM at ht
  rw [if_neg (by omega),if_pos k1] at ht
  simpa using ht
 by_cases k2 : x.k = 2
 ·refine hop 12 (.inr (.inl rfl)) ?_ (by unfold doneS;rw [if_neg k1,if_pos k2]) (by unfold rdoneS;rw [if_neg k1,if_pos k2])
  unfold takeM at ht
  rw [if_neg (by omega),if_neg k1,if_pos k2] at ht
  simpa using ht
 by_cases k4 : x.k = 4
 ·refine hop 17 (.inr (.inr rfl)) ?_ (by unfold doneS;rw [if_neg k1,if_neg k2,if_pos k4]) (by unfold rdoneS;rw [if_neg k1,if_neg k2,if_pos k4])
  unfold takeM at ht
  rw [if_neg (by omega),if_neg k1,if_neg k2,if_pos k4] at ht
  simpa using ht
 by_cases k3 : x.k = 3
 ·have hopn : openM s (12,x.i) = true:=by
   unfold takeM at ht
   rw [if_pos k3] at ht
   exact ht
  obtain ⟨ek,w,hw2⟩:=key_same h ho hopn
  have e1 : doneS s x now = { s with mc:=cdn s.mp (beganR s.l 12 x.i) s.mc,mp:=upd s.mp (beganR s.l 12 x.i) none,l:=s.l ++ [⟨14,now,beganR s.l 12 x.i,x.i,x.l,x.n,x.d⟩] }:=by
   unfold doneS
   rw [if_neg k1,if_neg k2,if_neg k4,if_pos k3,ek]
  have e2 : rdoneS s x now = { s with mc:=cdn s.mp (beganR s.l 12 x.i) s.mc,mp:=upd s.mp (beganR s.l 12 x.i) none,l:=s.l ++ [⟨14,now,beganR s.l 12 x.i,x.i,x.l,x.n,x.d⟩] }:=by
   unfold rdoneS
   rw [if_neg k1,if_neg k2,if_neg k4,if_pos k3]
  obtain ⟨c1,c2,c3⟩:=b6 k3
  have:=endedK_inv (s':=doneS s x now) h ho x.d hrd hf (k:=14) (key:=beganR s.l 12 x.i) (m:=0) (.inl ⟨rfl,.inr rfl⟩) hw2 ⟨by decide,by decide⟩ (by rw [e1,c1,c2]) (by rw [e1]) (by rw [e1]) (by rw [e1]) (by rw [e1]) (by rw [e1]) (by rw [e1]) (by rw [e1]) (by rw [e1]) (by rw [e1])
  refine ⟨by rw [e1,e2],this.1,fun _=>this.2,by rw [e1];exact right_snoc hr rfl,fun _=>by rw [e1],by rw [e1]⟩
 ·have e1 : doneS s x now = shut s (if x.k = 8 then 19 else x.k + 15) now x.d:=by
   unfold doneS
   rw [if_neg k1,if_neg k2,if_neg k4,if_neg k3]
  have e2 : rdoneS s x now = shut s (if x.k = 8 then 19 else x.k + 15) now x.d:=by
   unfold rdoneS
   rw [if_neg k1,if_neg k2,if_neg k4,if_neg k3]
  have hkk : 19 ≤ (if x.k = 8 then (19 : Int) else x.k + 15) ∧ (if x.k = 8 then (19 : Int) else x.k + 15) ≤ 23:=by split <;> omega
  have:=shut_inv h ho x.d hrd hkk
  rw [e1,e2]
  exact ⟨rfl,this.1,fun hm2=>absurd (h5 hm2) (by omega),right_snoc hr rfl,fun hh=>by rw [this.2] at hh;exact absurd hh (stOf_ne hkk),rfl⟩
theorem fold_keep : ∀ (l : List Dv) {s : FSt} {now : Int} (n : Nat),FInv s → (l ≠ [] → statusK s.l = 1) → rightP s.l n now → s.l.length + l.length ≤ 40000 → badL s.id s.asked (openM s) l = false → s.task = 0 →
 rdecFold now s l = decFold now s l ∧ FInv (decFold now s l).1 ∧ rightP (decFold now s l).1.l 0 now ∧ (decFold now s l).1.task = 0 ∧ (decFold now s l).1.l.length = s.l.length + l.length ∧ (decFold now s l).1.late = s.late
 | [],s,now,n,h,_,hr,_,_,ht=>by
   rw [rdecFold,decFold_nil]
   exact ⟨rfl,h,right0 hr,ht,rfl,rfl⟩
 | x :: l,s,now,n,h,ho,hr,hf,hb,ht=>by
   have ho:=ho (by simp)
   rw [List.length_cons] at hf
   have hb':=hb
   unfold badL at hb'
   rw [Bool.or_eq_false_iff] at hb'
   obtain ⟨e1,e2,e3,e4,e5,e6⟩:=done_keep (now:=now) h ho hr (by omega) hb'.1
   obtain ⟨m1,m2,m3,_,_⟩:=Mid.step (now:=now) (Mid.mk h.openOk h.uniq h.ids hb)
   have ht' : (doneS s x now).task = 0:=by
    by_cases hs : statusK (doneS s x now).l = 1
    ·rw [e5 hs];exact ht
    ·exact (e2.cl hs).2
   obtain ⟨f1,f2,f3,f4,f5,f6⟩:=fold_keep l (s:=doneS s x now) (now:=now) 0 e2 (fun hl=>e3 (by cases l with | nil=>exact absurd rfl hl | cons y l=>rfl)) e4 (by omega) m1.bad ht'
   rw [rdecFold,decFold_cons,e1,f1]
   exact ⟨rfl,f2,f3,f4,by rw [f5,m3,List.length_cons];omega,by rw [f6,e6]⟩
/-- WHAT EACH ACT KEEPS: c is what it leaves of s -/
structure Kept (s : FSt) (now : Int) (c : FSt × List Ov × Int) : Prop where
 inv : FInv c.1
 at_ : rightP c.1.l 0 now
 len : c.1.l.length ≤ s.l.length + 34
 err : c.2.2 ≠ 0 → c.1.l.length = s.l.length → c = (s,[],c.2.2)
 grow : s.l <+: c.1.l
theorem Kept.no {s : FSt} (h : FInv s) {now : Int} (hr : rightP s.l 0 now) (er : Int) : Kept s now (s,[],er):=⟨h,hr,Nat.le_add_right _ _,fun _ _=>rfl,List.prefix_refl _⟩
theorem wakeS_l (s : FSt) (now : Int) : (wakeS s now).l = s.l ∨ ∃ e,(wakeS s now).l = s.l ++ [e] ∧ e.a = now:=by
 unfold wakeS
 split
 ·exact .inr ⟨_,rfl,rfl⟩
 ·exact .inl rfl
/-- an event and what wakes -/
theorem Kept.wake {s s1 : FSt} {now : Int} {e : Rv} (h1 : FInv s1) (ho : statusK s1.l = 1) (hl : s1.l = s.l ++ [e]) (ha : e.a = now) {n : Nat} (hr : rightP s.l n now) (hf : s.l.length ≤ 30000) : Kept s now (wakeS s1 now,wakeO s1 now,0):=by
 have hr1 : rightP s1.l 0 now:=by rw [hl];exact right_snoc hr ha
 have hlen : s1.l.length = s.l.length + 1:=by rw [hl];simp
 have:=wakeS_len s1 now
 refine ⟨(wakeS_inv h1 ho hr1 (by omega)).1,?_,by show (wakeS s1 now).l.length ≤ _;omega,fun hh=>absurd rfl hh,?_⟩
 ·show rightP (wakeS s1 now).l 0 now
  rcases wakeS_l s1 now with e1 | ⟨e',e1,e2⟩
  ·rw [e1];exact hr1
  ·rw [e1];exact right_snoc hr1 e2
 ·show s.l <+: (wakeS s1 now).l
  rcases wakeS_l s1 now with e1 | ⟨e',e1,e2⟩
  ·rw [e1,hl];exact List.prefix_append _ _
  ·rw [e1,hl,List.append_assoc];exact List.prefix_append _ _
theorem signal_kept {s : FSt} (h : FInv s) (ho : statusK s.l = 1) {now : Int} (ds : List Value) (hr : rightP s.l ds.length now) (hf : s.l.length ≤ 30000) : Kept s now (signalC s ds now):=by
 obtain ⟨a,b⟩:=signaled_inv h ho ds hr
 exact Kept.wake (e:=⟨15,now,0,0,0,0,ds⟩) a b rfl rfl hr hf
theorem cancel_kept {s : FSt} (h : FInv s) (ho : statusK s.l = 1) {n : Nat} {now : Int} (hr : rightP s.l n now) (hf : s.l.length ≤ 30000) : Kept s now (cancelC s now):=by
 unfold cancelC
 split
 ·exact Kept.no h (right0 hr) 3
 ·obtain ⟨a,b⟩:=canceled_inv h ho hr
  exact Kept.wake (e:=⟨16,now,0,0,0,0,[]⟩) a b rfl rfl hr hf
theorem terminate_kept {s : FSt} (h : FInv s) (ho : statusK s.l = 1) {now : Int} (ds : List Value) (hr : rightP s.l ds.length now) (hf : s.l.length ≤ 30000) : Kept s now (terminateC s ds now):=
 ⟨(shut_inv h ho ds hr ⟨by decide,by decide⟩).1,right_snoc hr rfl,by show (s.l ++ _).length ≤ _;rw [List.length_append];simp,fun hh=>absurd rfl hh,List.prefix_append _ _⟩
theorem decides_kept {s : FSt} (h : FInv s) (ho : statusK s.l = 1) {n : Nat} {now : Int} (ref turn : Int) (hr : rightP s.l n now) (hf : s.l.length ≤ 30000) : Kept s now (decidesC s ref turn now):=by
 unfold decidesC
 split
 ·rename_i hc
  obtain ⟨_,h1,rfl,h3⟩:=hc
  exact ⟨(began_inv h ho h1 hr (by omega)).1,right_snoc hr rfl,by show (s.l ++ _).length ≤ _;rw [List.length_append];simp,fun hh=>absurd rfl hh,List.prefix_append _ _⟩
 ·exact Kept.no h (right0 hr) 21
theorem missed_kept {s : FSt} (h : FInv s) (ho : statusK s.l = 1) {n : Nat} {now : Int} (ref turn : Int) (hr : rightP s.l n now) (hf : s.l.length ≤ 30000) : Kept s now (missedC s ref turn now):=by
 unfold missedC
 split
 ·rename_i hc
  obtain ⟨a,b⟩:=missed_inv h ho hc.1 hr (by omega)
  have hr1 : rightP (missed s now).l 0 now:=right_snoc hr rfl
  have hl : (missed s now).l.length = s.l.length + 1:=by simp [missed]
  exact ⟨(sched_inv a b rfl hr1 (by omega)).1,right_snoc hr1 rfl,by show ((missed s now).l ++ _).length ≤ _;rw [List.length_append,hl];simp,fun hh=>absurd rfl hh,by show s.l <+: (s.l ++ _) ++ _;rw [List.append_assoc];exact List.prefix_append _ _⟩
 ·exact Kept.no h (right0 hr) 21
theorem fault_kept {s : FSt} (h : FInv s) (ho : statusK s.l = 1) (ht : s.task = 2) {n : Nat} {now : Int} (hr : rightP s.l n now) (hf : s.l.length ≤ 30000) (m er : Int) (hm : 0 ≤ m ∧ m ≤ 2) : Kept s now (YtnkelaohcbdjnaaGreat.faultC s m now er):=by
 obtain ⟨a,b⟩:=faulted_inv h ho ht hr (by omega) m hm
 have hr1 : rightP (faulted s now m).l 0 now:=right_snoc hr rfl
 have hl : (faulted s now m).l.length = s.l.length + 1:=by simp [faulted]
 have hl2 : (sched (faulted s now m) now).l.length = s.l.length + 2:=by show ((faulted s now m).l ++ _).length = _;rw [List.length_append,hl];simp
 exact ⟨(sched_inv a b rfl hr1 (by omega)).1,right_snoc hr1 rfl,by show (sched (faulted s now m) now).l.length ≤ _;omega,fun _ hh=>by have : (sched (faulted s now m) now).l.length = s.l.length:=hh;omega,by show s.l <+: (s.l ++ _) ++ _;rw [List.append_assoc];exact List.prefix_append _ _⟩
theorem works_kept {s : FSt} (h : FInv s) (ho : statusK s.l = 1) {n : Nat} {now : Int} (ref : Int) (hr : rightP s.l n now) (hf : s.l.length ≤ 30000) : Kept s now (worksC s ref now):=by
 unfold worksC
 split
 ·rename_i hc
  have hm:=works_back h ho (by rw [hc])
  rw [hc] at hm
  obtain ⟨a,b⟩:=worksS_inv h ho hr (by omega) hm
  exact ⟨a,right_snoc hr rfl,by show (s.l ++ _).length ≤ _;rw [List.length_append];simp,fun hh=>absurd rfl hh,List.prefix_append _ _⟩
 ·exact Kept.no h (right0 hr) 21
theorem ends_kept {s : FSt} (h : FInv s) (ho : statusK s.l = 1) {now : Int} (ds : List Value) (k ref : Int) (hk : k = 9 ∨ k = 10 ∨ k = 11) (hr : rightP s.l ds.length now) (hf : s.l.length ≤ 30000) : Kept s now (endsC s k ref ds now):=by
 unfold endsC
 split
 ·rename_i hc
  obtain ⟨⟨a,b⟩,_⟩:=endedS_inv h ho ds hr (by omega) hk (works_back h ho hc.1) hc.2
  exact Kept.wake a b rfl rfl hr hf
 ·exact Kept.no h (right0 hr) 21
theorem lapsed_kept {s : FSt} (h : FInv s) (ho : statusK s.l = 1) {n : Nat} {now : Int} (ref turn : Int) (hr : rightP s.l n now) (hf : s.l.length ≤ 30000) : Kept s now (lapsedC s ref turn now):=by
 unfold lapsedC
 split
 ·exact ends_kept h ho [] 11 ref (.inr (.inr rfl)) (right0 hr) hf
 ·exact Kept.no h (right0 hr) 21
theorem fired_kept {s : FSt} (h : FInv s) (ho : statusK s.l = 1) {n : Nat} {now : Int} (ref turn : Int) (hr : rightP s.l n now) (hf : s.l.length ≤ 30000) : Kept s now (firedC s ref turn now):=by
 unfold firedC
 split
 ·rename_i hc
  have hm:=timer_back h ho hc.2
  obtain ⟨a,b⟩:=endedK_inv (s':=firedS s ref now (evO s.l ref).i) h ho [] (right0 hr) (by omega) (k:=13) (m:=0) (.inl ⟨rfl,.inl rfl⟩) hm ⟨by decide,by decide⟩ rfl rfl rfl rfl rfl rfl rfl rfl rfl rfl
  exact Kept.wake a b rfl rfl hr hf
 ·exact Kept.no h (right0 hr) 21
theorem fire_kept {s : FSt} (h : FInv s) (ho : statusK s.l = 1) {n : Nat} {now : Int} (k ref turn : Int) (hr : rightP s.l n now) (hf : s.l.length ≤ 30000) : Kept s now (fireC s k ref turn now):=by
 unfold fireC
 split
 ·exact missed_kept h ho ref turn hr hf
 split
 ·exact lapsed_kept h ho ref turn hr hf
 ·exact fired_kept h ho ref turn hr hf
theorem child_kept {s : FSt} (h : FInv s) (ho : statusK s.l = 1) {now : Int} (ds : List Value) (idn st : Int) (hr : rightP s.l ds.length now) (hf : s.l.length ≤ 30000) : Kept s now (childC s idn st ds now):=by
 unfold childC
 split
 ·rename_i hc
  split
  ·rename_i hst
   obtain ⟨ek,w,hw⟩:=key_same h ho (by rw [open_same h ho];exact hc)
   obtain ⟨a,b⟩:=endedK_inv (s':=childS s (beganR s.l 17 idn) now idn st ds) h ho ds hr (by omega) (k:=18) (m:=st) (.inr ⟨rfl,rfl⟩) hw hst rfl rfl rfl rfl rfl rfl rfl rfl rfl rfl
   exact Kept.wake a b rfl rfl hr hf
  ·exact Kept.no h (right0 hr) 1
 ·exact Kept.no h (right0 hr) 21
theorem fold_pre : ∀ (l : List Dv) (s : FSt) (now : Int),s.l <+: (decFold now s l).1.l
 | [],s,now=>by rw [decFold_nil];exact List.prefix_refl _
 | x :: l,s,now=>by
   rw [decFold_cons]
   refine List.IsPrefix.trans ?_ (fold_pre l (doneS s x now) now)
   unfold doneS openedS shut
   repeat' split
   all_goals exact List.prefix_append _ _
/-- Decide,told both ways;what it keeps -/
theorem decide_same {s : FSt} (h : FInv s) (ho : statusK s.l = 1) {n : Nat} {now : Int} (ref turn : Int) (l : List Dv) (hr : rightP s.l n now) (hf : s.l.length ≤ 30000) : rdecideC s ref turn l now = decideC s ref turn l now ∧ Kept s now (rdecideC s ref turn l now):=by
 have hkey : rdecideC s ref turn l now = decideC s ref turn l now ∧ Kept s now (decideC s ref turn l now):=by
  unfold rdecideC decideC
  rw [bad_same h ho]
  by_cases hc : s.task = 2 ∧ s.at_ = ref ∧ s.turn = turn
  rotate_left
  ·rw [if_neg hc,if_neg hc]
   exact ⟨rfl,Kept.no h (right0 hr) 21⟩
  rw [if_pos hc,if_pos hc]
  by_cases hb : rbadS s l = true
  ·rw [if_pos hb,if_pos hb]
   exact ⟨rfl,fault_kept h ho hc.1 hr hf 1 22 ⟨by decide,by decide⟩⟩
  rw [if_neg hb,if_neg hb]
  by_cases hl : s.late = true ∧ endsB l = true
  ·rw [if_pos hl,if_pos hl]
   exact ⟨rfl,fault_kept h ho hc.1 hr hf 2 23 ⟨by decide,by decide⟩⟩
  rw [if_neg hl,if_neg hl]
  have hb' : badS s l = false:=by rw [bad_same h ho];simpa using hb
  obtain ⟨hm,h32⟩:=decided_mid (now:=now) h.openOk h.uniq h.ids hb'
  obtain ⟨d1,d2⟩:=decided_inv h ho hc.1 hr (by omega)
  have hdl : (decided s now).l.length = s.l.length + 1:=by simp [decided]
  obtain ⟨f1,f2,f3,f4,f5,f6⟩:=fold_keep l (s:=decided s now) (now:=now) 0 d1 (fun _=>d2) (right_snoc hr rfl) (by omega) hm.bad rfl
  have hpre : s.l <+: (decFold now (decided s now) l).1.l:=List.IsPrefix.trans (List.prefix_append _ _) (fold_pre l (decided s now) now)
  unfold rfineC fineC
  rw [f1]
  refine ⟨rfl,?_⟩
  dsimp only
  by_cases hs : s.late = true ∧ statusK (decFold now (decided s now) l).1.l = 1
  ·rw [if_pos hs]
   obtain ⟨a,b⟩:=sched_inv f2 hs.2 f4 f3 (by omega)
   exact ⟨a,right_snoc f3 rfl,by show ((decFold now (decided s now) l).1.l ++ _).length ≤ _;rw [List.length_append];simp;omega,fun hh=>absurd rfl hh,List.IsPrefix.trans hpre (List.prefix_append _ _)⟩
  ·rw [if_neg hs]
   exact ⟨f2,f3,by show (decFold now (decided s now) l).1.l.length ≤ _;omega,fun hh=>absurd rfl hh,hpre⟩
 exact ⟨hkey.1,by rw [hkey.1];exact hkey.2⟩
/-- the frame of the program's acts and of the document's -/
theorem Kept.tries {s : FSt} (h : FInv s) {n : Nat} {now : Int} (hnow : rightP s.l 0 now) {c : FSt × List Ov × Int} (hc : rightP s.l n now → statusK s.l = 1 → Kept s now c) : Kept s now (tryC s n now c) ∧ tryC s n now c = rtryC s n now c:=by
 unfold tryC rtryC readyE
 by_cases h1 : rightB s.l n now = true
 ·rw [if_pos h1,if_pos h1]
  by_cases h2 : statusK s.l = 1
  ·rw [if_pos h2,if_pos h2,if_pos rfl]
   have hk:=hc (rightB_iff.1 h1) h2
   split
   ·rename_i h3
    have:=hk.err h3.1 h3.2
    exact ⟨Kept.no h hnow _,by rw [this]⟩
   ·exact ⟨hk,rfl⟩
  ·rw [if_neg h2,if_neg h2]
   exact ⟨Kept.no h hnow 20,rfl⟩
 ·rw [if_neg h1,if_neg h1]
  exact ⟨Kept.no h hnow 1,rfl⟩
end Go.Proofs.YtnkelaohcbdjnaaGreat
