/- Decisions carried out: plain words. -/
import Derived.Test.YtnkelaohcbdjnaaGreatDn
set_option linter.unusedVariables false
set_option linter.unusedSimpArgs false
namespace Go.Proofs.YtnkelaohcbdjnaaGreat
open Go.RowKit Go.Maps
def IdOk (s : FSt) : Prop:=∀ x k i w,s.mp x = some (opv k i w) → (0 ≤ i ∧ i ≤ 1048576) ∧ (k = 7 ∨ k = 12 ∨ k = 17)
theorem IdOk.key {s : FSt} (h : IdOk s) : ∀ x k i w,s.mp x = some (opv k i w) → kKE.ok (k,i):=fun x k i w hx=>by
 obtain ⟨h1,h2⟩:=h x k i w hx
 exact ⟨WalkArith.wf_i64 ⟨by show _ ≤ k;omega,by show k ≤ _;omega⟩,WalkArith.wf_i64 ⟨by show _ ≤ i;omega,by show i ≤ _;omega⟩⟩
theorem opv_inj {k i w k' i' w' : Int} (h : opv k i w = opv k' i' w') : k = k' ∧ i = i' ∧ w = w':=by
 unfold opv at h
 simp at h
 exact h
theorem wrongD_of {id : Int} {asked : Bool} {M : Int × Int → Bool} {x : Dv} {more : Bool} (h : wrongD id asked M x more = false) : mayD x = true ∧ (more = true → x.k < 5) ∧ (takeM M x.k x.i).2 = true:=by
 unfold wrongD at h
 simp only [Bool.or_eq_false_iff,Bool.not_eq_false',Bool.and_eq_false_imp,decide_eq_true_eq] at h
 refine ⟨h.1,fun hm=>?_,h.2.2.1⟩
 have:=h.2.1
 apply Classical.byContradiction
 intro hn
 have:=this (by omega)
 rw [hm] at this
 cases this
theorem mayD_k {x : Dv} (h : mayD x = true) : 1 ≤ x.k ∧ x.k ≤ 8:=by
 unfold mayD mayB at h
 repeat' (split at h)
 all_goals first
  | omega
  | cases h
theorem opened_inv {s : FSt} {K now i l n : Int} {d : List Value} (ho : OpenOk s) (hu : UniqO s) (hi : IdOk s) (hK : K = 7 ∨ K = 12 ∨ K = 17) (hid : 0 ≤ i ∧ i ≤ 1048576) (hn : openM s (K,i) = false) :
 OpenOk (openedS s K now i l n d) ∧ UniqO (openedS s K now i l n d) ∧ IdOk (openedS s K now i l n d) ∧ openM (openedS s K now i l n d) = sput (openM s) (K,i) true:=by
 have hno : ∀ x w,s.mp x ≠ some (opv K i w):=fun x w e=>by
  have:=(openM_iff s (K,i)).2 ⟨x,w,e⟩
  rw [hn] at this
  cases this
 have hmp : ∀ x v,(openedS s K now i l n d).mp x = some v → (x = (s.l.length : Int) + 1 ∧ v = opv K i 0) ∨ (x ≠ (s.l.length : Int) + 1 ∧ s.mp x = some v):=fun x v h=>by
  change upd s.mp ((s.l.length : Int) + 1) (some (opv K i 0)) x = some v at h
  unfold upd at h
  split at h
  ·rename_i e
   exact .inl ⟨e,(Option.some.inj h).symm⟩
  ·rename_i e
   exact .inr ⟨e,h⟩
 refine ⟨fun x v h=>?_,fun x y k i' w w' h1 h2=>?_,fun x k i' w h=>?_,?_⟩
 ·have hlen : (openedS s K now i l n d).l.length = s.l.length + 1:=by simp [openedS]
  rw [hlen]
  rcases hmp x v h with ⟨rfl,rfl⟩ | ⟨hne,h⟩
  ·exact ⟨by omega,by omega,K,i,0,rfl⟩
  ·obtain ⟨h1,h2,h3⟩:=ho x v h
   exact ⟨h1,by omega,h3⟩
 ·rcases hmp x _ h1 with ⟨rfl,e1⟩ | ⟨hne1,g1⟩ <;> rcases hmp y _ h2 with ⟨rfl,e2⟩ | ⟨hne2,g2⟩
  ·rfl
  ·obtain ⟨rfl,rfl,rfl⟩:=opv_inj e1
   exact absurd g2 (hno _ _)
  ·obtain ⟨rfl,rfl,rfl⟩:=opv_inj e2
   exact absurd g1 (hno _ _)
  ·exact hu _ _ _ _ _ _ g1 g2
 ·rcases hmp x _ h with ⟨rfl,e⟩ | ⟨_,h⟩
  ·obtain ⟨rfl,rfl,rfl⟩:=opv_inj e
   exact ⟨hid,hK⟩
  ·exact hi _ _ _ _ h
 ·funext y
  rw [Bool.eq_iff_iff,openM_iff]
  unfold sput
  split
  ·rename_i e
   subst e
   refine ⟨fun _=>rfl,fun _=>⟨(s.l.length : Int) + 1,0,?_⟩⟩
   show upd _ _ _ _ = _
   unfold upd
   simp
  ·rename_i e
   rw [openM_iff]
   constructor
   ·rintro ⟨x,w,h⟩
    rcases hmp x _ h with ⟨rfl,e'⟩ | ⟨_,h⟩
    ·obtain ⟨h1,h2,_⟩:=opv_inj e'
     exact absurd (Prod.ext h1 h2) e
    ·exact ⟨x,w,h⟩
   ·rintro ⟨x,w,h⟩
    refine ⟨x,w,?_⟩
    have:=(ho _ _ h).2.1
    show upd _ _ _ _ = _
    unfold upd
    rw [if_neg (by omega)]
    exact h
theorem dropped_inv {s : FSt} {K i : Int} (s' : FSt) (hmp : s'.mp = upd s.mp (keyAt s K i) none) (hl : s.l.length ≤ s'.l.length) (ho : OpenOk s) (hu : UniqO s) (hi : IdOk s) (hk : ∃ x w,s.mp x = some (opv K i w)) :
 OpenOk s' ∧ UniqO s' ∧ IdOk s' ∧ openM s' = sput (openM s) (K,i) false:=by
 have hsub : ∀ x v,s'.mp x = some v → x ≠ keyAt s K i ∧ s.mp x = some v:=fun x v h=>by
  rw [hmp] at h
  unfold upd at h
  split at h
  ·cases h
  ·rename_i e
   exact ⟨e,h⟩
 refine ⟨fun x v h=>?_,fun x y k i' w w' h1 h2=>hu _ _ _ _ _ _ (hsub _ _ h1).2 (hsub _ _ h2).2,fun x k i' w h=>hi _ _ _ _ (hsub _ _ h).2,?_⟩
 ·obtain ⟨h1,h2,h3⟩:=ho x v (hsub _ _ h).2
  exact ⟨h1,by omega,h3⟩
 ·obtain ⟨x0,w0,hx0⟩:=hk
  have e0:=keyAt_of hu hx0
  funext y
  rw [Bool.eq_iff_iff,openM_iff]
  unfold sput
  split
  ·rename_i e
   subst e
   refine ⟨fun ⟨x,w,h⟩=>?_,fun h=>by cases h⟩
   have:=hu _ _ _ _ _ _ (hsub _ _ h).2 hx0
   exact absurd (this.trans e0.symm) (hsub _ _ h).1
  ·rename_i e
   rw [openM_iff]
   constructor
   ·rintro ⟨x,w,h⟩
    exact ⟨x,w,(hsub _ _ h).2⟩
   ·rintro ⟨x,w,h⟩
    refine ⟨x,w,?_⟩
    rw [hmp]
    unfold upd
    rw [if_neg]
    ·exact h
    ·rintro rfl
     rw [e0,hx0] at h
     obtain ⟨h1,h2,_⟩:=opv_inj (Option.some.inj h)
     exact e (Prod.ext h1.symm h2.symm)
theorem closed_inv (s' : FSt) (h : s'.mp = fun _=>none) : OpenOk s' ∧ UniqO s' ∧ IdOk s':=by
 refine ⟨fun x v hx=>?_,fun x y k i w w' hx=>?_,fun x k i w hx=>?_⟩ <;> (rw [h] at hx;cases hx)
/-- one decision keeps what is open in order -/
theorem done_inv {s : FSt} {x : Dv} {now : Int} {more : Bool} (ho : OpenOk s) (hu : UniqO s) (hi : IdOk s) (hw : wrongD s.id s.asked (openM s) x more = false) :
 (OpenOk (doneS s x now) ∧ UniqO (doneS s x now) ∧ IdOk (doneS s x now)) ∧ (more = true → openM (doneS s x now) = (takeM (openM s) x.k x.i).1) ∧ (doneS s x now).id = s.id ∧ (doneS s x now).asked = s.asked ∧ (doneS s x now).mc ≤ s.mc + 1 ∧ (doneS s x now).l.length = s.l.length + 1:=by
 obtain ⟨hm,h5,ht⟩:=wrongD_of hw
 obtain ⟨hk1,hk8⟩:=mayD_k hm
 have hid:=mayD_id hm
 have hop : ∀ K,(K = 7 ∨ K = 12 ∨ K = 17) → (openM s (K,x.i) = false) → doneS s x now = openedS s K now x.i x.l x.n x.d → (takeM (openM s) x.k x.i).1 = sput (openM s) (K,x.i) true →
  (OpenOk (doneS s x now) ∧ UniqO (doneS s x now) ∧ IdOk (doneS s x now)) ∧ (more = true → openM (doneS s x now) = (takeM (openM s) x.k x.i).1) ∧ (doneS s x now).id = s.id ∧ (doneS s x now).asked = s.asked ∧ (doneS s x now).mc ≤ s.mc + 1 ∧ (doneS s x now).l.length = s.l.length + 1:=by
  intro K hK hn he ht
  obtain ⟨h1,h2,h3,h4⟩:=opened_inv (now:=now) (l:=x.l) (n:=x.n) (d:=x.d) ho hu hi hK hid hn
  rw [he]
  refine ⟨⟨h1,h2,h3⟩,fun _=>by rw [h4,ht],rfl,rfl,?_,?_⟩
  ·show cup _ _ _ ≤ _
   unfold cup
   split <;> omega
  ·simp [openedS]
 by_cases k1 : x.k = 1
 ·refine hop 7 (.inl rfl) ?_ (by unfold doneS;rw [if_pos k1]) ?_
  ·unfold takeM at ht
   rw [if_neg (by omega),if_pos k1] at ht
   simpa using ht
  ·unfold takeM
   rw [if_neg (by omega),if_pos k1]
 by_cases k2 : x.k = 2
 ·refine hop 12 (.inr (.inl rfl)) ?_ (by unfold doneS;rw [if_neg k1,if_pos k2]) ?_
  ·unfold takeM at ht
   rw [if_neg (by omega),if_neg k1,if_pos k2] at ht
   simpa using ht
  ·unfold takeM
   rw [if_neg (by omega),if_neg k1,if_pos k2]
 by_cases k4 : x.k = 4
 ·refine hop 17 (.inr (.inr rfl)) ?_ (by unfold doneS;rw [if_neg k1,if_neg k2,if_pos k4]) ?_
  ·unfold takeM at ht
   rw [if_neg (by omega),if_neg k1,if_neg k2,if_pos k4] at ht
   simpa using ht
  ·unfold takeM
   rw [if_neg (by omega),if_neg k1,if_neg k2,if_pos k4]
 by_cases k3 : x.k = 3
 ·have hopn : ∃ z w,s.mp z = some (opv 12 x.i w):=by
   unfold takeM at ht
   rw [if_pos k3] at ht
   exact (openM_iff s (12,x.i)).1 ht
  have he : doneS s x now = { s with mc:=cdn s.mp (keyAt s 12 x.i) s.mc,mp:=upd s.mp (keyAt s 12 x.i) none,l:=s.l ++ [⟨14,now,keyAt s 12 x.i,x.i,x.l,x.n,x.d⟩] }:=by
   unfold doneS
   rw [if_neg k1,if_neg k2,if_neg k4,if_pos k3]
  obtain ⟨h1,h2,h3,h4⟩:=dropped_inv (doneS s x now) (by rw [he]) (by rw [he];simp) ho hu hi hopn
  refine ⟨⟨h1,h2,h3⟩,fun _=>?_,by rw [he],by rw [he],?_,by rw [he];simp⟩
  ·rw [h4]
   unfold takeM
   rw [if_pos k3]
  ·rw [he]
   show cdn _ _ _ ≤ _
   unfold cdn
   split <;> omega
 ·have he : doneS s x now = shut s (if x.k = 8 then 19 else x.k + 15) now x.d:=by
   unfold doneS
   rw [if_neg k1,if_neg k2,if_neg k4,if_neg k3]
  rw [he]
  refine ⟨closed_inv _ rfl,fun hm=>absurd (h5 hm) (by omega),rfl,rfl,Nat.zero_le _,by simp [shut]⟩
/-- decisions one behind the other -/
noncomputable def decFold (now : Int) : FSt → List Dv → FSt × List Ov
 | s,[]=>(s,[])
 | s,x :: l=>((decFold now (doneS s x now) l).1,doneO s x now ++ (decFold now (doneS s x now) l).2)
theorem doneO_len (s : FSt) (x : Dv) (now : Int) : (doneO s x now).length ≤ 1:=by
 unfold doneO closeO
 repeat' split
 all_goals simp
/-- what stands between decisions -/
structure Mid (s : FSt) (l : List Dv) : Prop where
 ok : OpenOk s
 uniq : UniqO s
 ids : IdOk s
 bad : badL s.id s.asked (openM s) l = false
theorem Mid.step {s : FSt} {x : Dv} {l : List Dv} {now : Int} (h : Mid s (x :: l)) : Mid (doneS s x now) l ∧ (doneS s x now).mc ≤ s.mc + 1 ∧ (doneS s x now).l.length = s.l.length + 1 ∧ 1 ≤ x.k ∧ x.k ≤ 8:=by
 have hb:=h.bad
 unfold badL at hb
 rw [Bool.or_eq_false_iff] at hb
 obtain ⟨⟨h1,h2,h3⟩,h4,h5,h6,h7,h8⟩:=done_inv (now:=now) h.ok h.uniq h.ids hb.1
 refine ⟨⟨h1,h2,h3,?_⟩,h7,h8,mayD_k (wrongD_of hb.1).1⟩
 cases l with
 | nil=>rfl
 | cons y l=>
   rw [h5,h6,h4 rfl]
   exact hb.2
/-- what Decide does -/
noncomputable def fineC (s : FSt) (l : List Dv) (now : Int) : FSt × List Ov × Int:=
 let r:=decFold now (decided s now) l
 if s.late = true ∧ statusK r.1.l = 1 then (sched r.1 now,r.2 ++ [⟨1,r.1.list,(r.1.l.length : Int) + 1,r.1.turn,0,0,0,[]⟩],0) else (r.1,r.2,0)
def faultC (s : FSt) (n now er : Int) : FSt × List Ov × Int:=(sched (faulted s now n) now,[⟨1,s.list,(s.l.length : Int) + 2,wrap64 (s.turn + 1),0,0,0,[]⟩],er)
def endsB (l : List Dv) : Bool:=match l.getLast? with | some x=>decide (5 ≤ x.k) | none=>false
noncomputable def decideC (s : FSt) (ref turn : Int) (l : List Dv) (now : Int) : FSt × List Ov × Int:=
 if s.task = 2 ∧ s.at_ = ref ∧ s.turn = turn then (if badS s l = true then faultC s 1 now 22 else if s.late = true ∧ endsB l = true then faultC s 2 now 23 else fineC s l now) else (s,[],21)
theorem decided_mid {s : FSt} {now : Int} {l : List Dv} (ho : OpenOk s) (hu : UniqO s) (hi : IdOk s) (hb : badS s l = false) : Mid (decided s now) l ∧ l.length ≤ 32:=by
 unfold badS at hb
 rw [Bool.or_eq_false_iff,decide_eq_false_iff_not] at hb
 exact ⟨⟨fun x v h=>by
  obtain ⟨h1,h2,h3⟩:=ho x v h
  exact ⟨h1,by simp [decided];omega,h3⟩,hu,hi,hb.2⟩,by omega⟩
end Go.Proofs.YtnkelaohcbdjnaaGreat
