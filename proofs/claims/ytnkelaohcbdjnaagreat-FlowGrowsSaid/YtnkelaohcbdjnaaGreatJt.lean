/- The program's acts,told as the document tells them. -/
import Derived.Test.YtnkelaohcbdjnaaGreatAo
import Derived.Test.YtnkelaohcbdjnaaGreatCn
import Derived.Test.YtnkelaohcbdjnaaGreatRk
import Derived.Test.YtnkelaohcbdjnaaGreatRe
import Derived.Deep.QuietTactic
import Derived.BigQuiet
set_option linter.unusedVariables false
set_option linter.unusedSimpArgs false
namespace Go.Proofs.YtnkelaohcbdjnaaGreat
open Go.RowKit Go.Maps
theorem tries_eq {s : FSt} {n : Nat} {now : Int} {c : FSt × List Ov × Int} (hc : rightP s.l n now → statusK s.l = 1 → Kept s now c) : tryC s n now c = rtryC s n now c:=by
 unfold tryC rtryC readyE
 by_cases h1 : rightB s.l n now = true
 ·rw [if_pos h1,if_pos h1]
  by_cases h2 : statusK s.l = 1
  ·rw [if_pos h2,if_pos h2,if_pos rfl]
   have hk:=hc (rightB_iff.1 h1) h2
   split
   ·rename_i h3
    exact (hk.err h3.1 h3.2).symm
   ·rfl
  ·rw [if_neg h2,if_neg h2]
   rfl
 ·rw [if_neg h1,if_neg h1]
  rfl
theorem FInv.mcs {s : FSt} (h : FInv s) (hl : s.l.length ≤ 4000) : s.mc ≤ 40000:=by have:=h.mc;omega
/-- what is open and has begun: the program's look -/
theorem ends_look {s : FSt} (hi : FInv s) (ho : statusK s.l = 1) (ref : Int) : ((worksR s.l ref).2 = true ∧ (worksR s.l ref).1 ≠ 0 → s.mp ref = some (opv 7 (evO s.l ref).i (worksR s.l ref).1) ∧ ∀ x j,s.mp x = some (opv 7 j (worksR s.l ref).1) → x = ref) ∧ (¬ ((worksR s.l ref).2 = true ∧ (worksR s.l ref).1 ≠ 0) → ∀ i w,w ≠ 0 → s.mp ref ≠ some (opv 7 i w)):=by
 refine ⟨fun hc=>?_,fun hc i w hw hm=>?_⟩
 ·have hm:=works_back hi ho hc.1
  refine ⟨hm,fun x j hx=>?_⟩
  have a:=(works_some hi ho hx)
  have b:=(works_some hi ho hm)
  rw [hi.mp ho] at hx hm
  obtain ⟨a1,a2,_,a4⟩:=opR_of hx
  obtain ⟨b1,b2,_,b4⟩:=opR_of hm
  rw [if_pos rfl] at a4 b4
  obtain ⟨y,hy,_,hy2,_⟩:=Ev.rWorks_spec (Gs s.l) x (by rw [← a4];exact hc.2)
  obtain ⟨z,hz,_,hz2,_⟩:=Ev.rWorks_spec (Gs s.l) ref (by rw [← b4];exact hc.2)
  rw [← a4] at hy
  rw [← b4,hy] at hz
  cases hz
  rw [← hy2,hz2]
 ·have:=(works_some hi ho hm).1
  rw [this] at hc
  exact hc ⟨rfl,hw⟩
section
variable (S : Nat → Prop) (W : World) (fb mb : Nat) (s : FSt) (h : PF S W fb mb s) (hi : FInv s) (hl : s.l.length ≤ 4000) (now : Int)
include h hi hl
theorem p_signal (ao : Option Addr) (dl cp : Nat) (ds : List Value) (hd : RowB S W (.slice ao dl cp) ds) (hd1 : ∀ u ∈ ds,u.oneCell' = true) :
 Calls Tryz.prog 29 #[.pointer (some ⟨fb,0,none⟩),.slice ao dl cp,.int .i64 now] W fun e W'=>ActX S W fb (rtryC s dl now (signalC s ds now)) e W':=by
 have hn:=hd.len
 have hk : rightP s.l dl now → statusK s.l = 1 → Kept s now (signalC s ds now):=fun hr ho=>signal_kept hi ho ds (by rw [hn];exact hr) (by omega)
 rw [← tries_eq hk]
 exact signal_f S W fb mb s h ao dl cp now _ (fun hr hs=>⟨by have:=(hk hr hs).len;omega,fun T w xb xm bdata bnow hT hf hTS hb1 n1 hb2 n2=>signal_c T w xb xm s hT (by have:=hi.mcs hl;omega) (by omega) now ao dl cp ds bnow bdata hb2 n2 hb1 n1 ((hd.to hTS).fr (hf.mono fun _ e=>e.elim)) (by have:=hr.1;omega) hd1⟩)
theorem p_cancel : Calls Tryz.prog 31 #[.pointer (some ⟨fb,0,none⟩),.int .i64 now] W fun e W'=>ActX S W fb (rtryC s 0 now (cancelC s now)) e W':=by
 have hk : rightP s.l 0 now → statusK s.l = 1 → Kept s now (cancelC s now):=fun hr ho=>cancel_kept hi ho hr (by omega)
 rw [← tries_eq hk]
 exact cancel_f S W fb mb s h now _ (fun hr hs=>⟨by have:=(hk hr hs).len;omega,fun T w xb xm bnow hT hf hTS hb1 n1=>cancel_c T w xb xm s hT (by have:=hi.mcs hl;omega) (by omega) now bnow hb1 n1⟩)
theorem p_terminate (ao : Option Addr) (dl cp : Nat) (ds : List Value) (hd : RowB S W (.slice ao dl cp) ds) (hd1 : ∀ u ∈ ds,u.oneCell' = true) :
 Calls Tryz.prog 33 #[.pointer (some ⟨fb,0,none⟩),.slice ao dl cp,.int .i64 now] W fun e W'=>ActX S W fb (rtryC s dl now (terminateC s ds now)) e W':=by
 have hn:=hd.len
 have hk : rightP s.l dl now → statusK s.l = 1 → Kept s now (terminateC s ds now):=fun hr ho=>terminate_kept hi ho ds (by rw [hn];exact hr) (by omega)
 rw [← tries_eq hk]
 exact terminate_f S W fb mb s h ao dl cp now _ (fun hr hs=>⟨by have:=(hk hr hs).len;omega,fun T w xb xm bdata bnow hT hf hTS hb1 n1 hb2 n2=>terminate_c T w xb xm s hT (by have:=hi.mcs hl;omega) (by omega) now ao dl cp ds bdata bnow hb1 n1 hb2 n2 ((hd.to hTS).fr (hf.mono fun _ e=>e.elim)) (by have:=hr.1;omega) hd1⟩)
theorem p_decides (ref turn : Int) : Calls Tryz.prog 13 #[.pointer (some ⟨fb,0,none⟩),.int .i64 ref,.int .i64 turn,.int .i64 now] W fun e W'=>ActX S W fb (rtryC s 0 now (rdecidesC s ref turn now)) e W':=by
 have hk : rightP s.l 0 now → statusK s.l = 1 → Kept s now (decidesC s ref turn now):=fun hr ho=>decides_kept hi ho ref turn hr (by omega)
 rw [← rdecidesC_eq hi.tn.1,← tries_eq hk]
 exact decides_f S W fb mb s h ref turn now _ (fun hr hs=>⟨by have:=(hk hr hs).len;omega,fun T w xb xm bref bturn bnow hT hf hTS hb1 n1 hb2 n2 hb3 n3=>decides_c T w xb xm s hT (by have:=hi.mcs hl;omega) (by omega) ref turn now bturn bref bnow hb2 n2 hb1 n1 hb3 n3⟩)
theorem p_decide (ref turn : Int) (ao : Option Addr) (cp : Nat) (l : List Dv) (hrow : RowD S W ao l) (hcp : l.length ≤ cp) (hdd : ∀ x ∈ l,∀ u ∈ x.d,u.oneCell' = true) :
 Calls Tryz.prog 14 #[.pointer (some ⟨fb,0,none⟩),.int .i64 ref,.int .i64 turn,.slice ao l.length cp,.int .i64 now] W fun e W'=>ActX S W fb (rtryC s 0 now (rdecideC s ref turn l now)) e W':=by
 have hk : rightP s.l 0 now → statusK s.l = 1 → Kept s now (rdecideC s ref turn l now):=fun hr ho=>(decide_same hi ho ref turn l hr (by omega)).2
 rw [← tries_eq hk]
 exact decide_f S W fb mb s h ref turn ao l.length cp now _ (fun hr hs=>⟨by have:=(hk hr hs).len;omega,fun T w xb xm bref bturn bl bnow hT hf hTS hb1 n1 hb2 n2 hb3 n3 hb4 n4=>by
  rw [(decide_same hi hs ref turn l hr (by omega)).1]
  exact decide_c T w xb xm s hT (hi.mcs hl) (by omega) ref turn now ao cp l bref bturn bl bnow hb2 n2 hb1 n1 hb4 n4 hb3 n3 ((hrow.to hTS).fr (hf.mono fun _ e=>e.elim) (fun _ e=>e)) hcp hdd hi.openOk hi.uniq hi.ids⟩)
theorem p_works (ref : Int) (wref : wfI ref) : Calls Tryz.prog 37 #[.pointer (some ⟨fb,0,none⟩),.int .i64 ref,.int .i64 now] W fun e W'=>ActX S W fb (rtryC s 0 now (worksC s ref now)) e W':=by
 have hk : rightP s.l 0 now → statusK s.l = 1 → Kept s now (worksC s ref now):=fun hr ho=>works_kept hi ho ref hr (by omega)
 rw [← tries_eq hk]
 refine works_f S W fb mb s h ref now _ (fun hr hs=>⟨by have:=(hk hr hs).len;omega,fun T w xb xm bref bnow hT hf hTS hb1 n1 hb2 n2=>?_⟩)
 unfold worksC
 by_cases hw : worksR s.l ref = (0,true)
 ·rw [if_pos hw]
  have hm:=works_back hi hs (by rw [hw] : (worksR s.l ref).2 = true)
  rw [hw] at hm
  obtain ⟨_,_,r1,r2,_⟩:=works_some hi hs hm
  obtain ⟨q,rfl⟩ : ∃ q : Nat,ref = (q : Int) + 1:=⟨(ref - 1).toNat,by omega⟩
  obtain ⟨e0,he0⟩ : ∃ e,s.l[q]? = some e:=⟨_,List.getElem?_eq_getElem (by omega)⟩
  have heo : evO s.l ((q : Int) + 1) = e0:=by
   unfold evO
   rw [show ((q : Int) + 1 - 1).toNat = q by omega,he0]
   rfl
  rw [heo] at hm ⊢
  exact works_ok T w xb xm s hT (by have:=hi.mcs hl;omega) (by omega) q now bref bnow hb1 n1 hb2 n2 _ hm e0 he0
 ·rw [if_neg hw]
  exact works_stale T w xb xm s hT (by have:=hi.mcs hl;omega) (by omega) ref now bref bnow hb1 n1 hb2 n2 wref hi.openOk (fun i hm=>hw (works_some hi hs hm).1)
theorem p_worked (ref : Int) (good : Bool) (wref : wfI ref) (ao : Option Addr) (dl cp : Nat) (ds : List Value) (hd : RowB S W (.slice ao dl cp) ds) (hd1 : ∀ u ∈ ds,u.oneCell' = true) :
 Calls Tryz.prog 39 #[.pointer (some ⟨fb,0,none⟩),.int .i64 ref,.slice ao dl cp,.bool good,.int .i64 now] W fun e W'=>ActX S W fb (rtryC s dl now (endsC s (if good = true then 9 else 10) ref ds now)) e W':=by
 have hn:=hd.len
 have hkd : (if good = true then (9 : Int) else 10) = 9 ∨ (if good = true then (9 : Int) else 10) = 10:=by cases good <;> simp
 have hk : rightP s.l dl now → statusK s.l = 1 → Kept s now (endsC s (if good = true then 9 else 10) ref ds now):=fun hr ho=>ends_kept hi ho ds _ ref (by omega) (by rw [hn];exact hr) (by omega)
 rw [← tries_eq hk]
 have key : ∀ (kd : Int),(kd = 9 ∨ kd = 10) → rightP s.l dl now → statusK s.l = 1 → ∀ (T : Nat → Prop) w xb xm bref bdata bnow bkind,PF T w xb xm s → Fr (fun _=>False) W w → (∀ k,k < W.heap.size → T k → S k) → Blk w bref 3 #[.int .i64 ref] → ¬ T bref → Blk w bdata 36 #[.slice ao dl cp] → ¬ T bdata → Blk w bnow 3 #[.int .i64 now] → ¬ T bnow → Blk w bkind 3 #[.int .i64 kd] → ¬ T bkind → Calls Tryz.prog 76 #[.pointer (some ⟨xb,0,none⟩),.pointer (some ⟨bkind,0,none⟩),.pointer (some ⟨bref,0,none⟩),.pointer (some ⟨bdata,0,none⟩),.pointer (some ⟨bnow,0,none⟩)] w fun e w'=>ClX T w xb xm (endsC s kd ref ds now) e w':=by
  intro kd hkd hr ho T w xb xm bref bdata bnow bkind hT hf hTS hb1 n1 hb2 n2 hb3 n3 hb4 n4
  obtain ⟨l1,l2⟩:=ends_look hi ho ref
  unfold endsC
  by_cases hc : (worksR s.l ref).2 = true ∧ (worksR s.l ref).1 ≠ 0
  ·rw [if_pos hc]
   exact worked_ok T w xb xm s hT (by have:=hi.mcs hl;omega) (by omega) kd ref now hkd ao dl cp ds bkind bref bdata bnow hb4 n4 hb1 n1 hb2 n2 hb3 n3 wref hi.openOk _ _ (l1 hc).1 hc.2 (l1 hc).2 ((hd.to hTS).fr (hf.mono fun _ e=>e.elim)) (by have:=hr.1;omega) hd1
  ·rw [if_neg hc]
   exact worked_stale T w xb xm s hT (by have:=hi.mcs hl;omega) (by omega) kd ref now ao dl cp bkind bref bdata bnow hb4 n4 hb1 n1 hb2 n2 hb3 n3 wref hi.openOk (l2 hc)
 cases good with
 | true=>exact worked_f9 S W fb mb s h ref ao dl cp now _ (fun hr hs=>⟨by have:=(hk hr hs).len;omega,key 9 (.inl rfl) hr hs⟩)
 | false=>exact worked_f10 S W fb mb s h ref ao dl cp now _ (fun hr hs=>⟨by have:=(hk hr hs).len;omega,key 10 (.inr rfl) hr hs⟩)
theorem p_fire (k ref turn : Int) (wref : wfI ref) : Calls Tryz.prog 41 #[.pointer (some ⟨fb,0,none⟩),.int .i64 k,.int .i64 ref,.int .i64 turn,.int .i64 now] W fun e W'=>ActX S W fb (if k = 3 ∨ k = 4 ∨ k = 5 then rtryC s 0 now (fireC s k ref turn now) else (s,[],1)) e W':=by
 have hk : rightP s.l 0 now → statusK s.l = 1 → Kept s now (fireC s k ref turn now):=fun hr ho=>fire_kept hi ho k ref turn hr (by omega)
 by_cases h3 : k = 3
 ·subst h3
  rw [if_pos (.inl rfl),← tries_eq hk]
  refine fire_3 S W fb ref turn now _ (missed_f S W fb mb s h ref turn now _ (fun hr hs=>⟨by have:=(hk hr hs).len;omega,fun T w xb xm bref bturn bnow hT hf hTS hb1 n1 hb2 n2 hb3 n3=>?_⟩))
  exact missed_c T w xb xm s hT (by have:=hi.mcs hl;omega) (by omega) ref turn now bref bturn bnow hb1 n1 hb2 n2 hb3 n3
 by_cases h4 : k = 4
 ·subst h4
  rw [if_pos (.inr (.inl rfl)),← tries_eq hk]
  refine fire_4 S W fb ref turn now _ (lapsed_f S W fb mb s h ref turn now _ (fun hr hs=>⟨by have:=(hk hr hs).len;omega,fun T w xb xm bref bturn bnow hT hf hTS hb1 n1 hb2 n2 hb3 n3=>?_⟩))
  have e1 : fireC s 4 ref turn now = lapsedC s ref turn now:=rfl
  obtain ⟨l1,l2⟩:=ends_look hi hs ref
  rw [e1]
  unfold lapsedC endsC
  by_cases ht : turn = 0
  ·subst ht
   rw [if_pos rfl]
   by_cases hc : (worksR s.l ref).2 = true ∧ (worksR s.l ref).1 ≠ 0
   ·rw [if_pos hc]
    exact lapsed_ok T w xb xm s hT (by have:=hi.mcs hl;omega) (by omega) ref now bturn bref bnow hb2 n2 hb1 n1 hb3 n3 wref hi.openOk _ _ (l1 hc).1 hc.2 (l1 hc).2
   ·rw [if_neg hc]
    exact lapsed_stale T w xb xm s hT (by have:=hi.mcs hl;omega) (by omega) ref 0 now bturn bref bnow hb2 n2 hb1 n1 hb3 n3 wref hi.openOk (.inr (l2 hc))
  ·rw [if_neg ht]
   exact lapsed_stale T w xb xm s hT (by have:=hi.mcs hl;omega) (by omega) ref turn now bturn bref bnow hb2 n2 hb1 n1 hb3 n3 wref hi.openOk (.inl ht)
 by_cases h5 : k = 5
 ·subst h5
  rw [if_pos (.inr (.inr rfl)),← tries_eq hk]
  refine fire_5 S W fb ref turn now _ (fired_f S W fb mb s h ref turn now _ (fun hr hs=>⟨by have:=(hk hr hs).len;omega,fun T w xb xm bref bturn bnow hT hf hTS hb1 n1 hb2 n2 hb3 n3=>?_⟩))
  have e1 : fireC s 5 ref turn now = firedC s ref turn now:=rfl
  rw [e1]
  refine fired_any T w xb xm s hT (by have:=hi.mcs hl;omega) (by omega) ref turn now _ bref bturn bnow hb1 n1 hb2 n2 hb3 n3 wref hi.openOk ?_
  unfold firedC
  by_cases hc : turn = 0 ∧ timerR s.l ref = true
  ·rw [if_pos hc]
   exact .inl ⟨hc.1,_,timer_back hi hs hc.2,rfl⟩
  ·rw [if_neg hc]
   refine .inr ⟨?_,rfl⟩
   by_cases ht : turn = 0
   ·exact .inr (fun i w hm=>hc ⟨ht,(timer_some hi hs hm).1⟩)
   ·exact .inl ht
 rw [if_neg (by omega)]
 exact fire_no S W fb mb s h k ref turn now h3 h4 h5
theorem p_child (idn st : Int) (ao : Option Addr) (dl cp : Nat) (ds : List Value) (hd : RowB S W (.slice ao dl cp) ds) (hd1 : ∀ u ∈ ds,u.oneCell' = true) :
 Calls Tryz.prog 43 #[.pointer (some ⟨fb,0,none⟩),.int .i64 idn,.int .i64 st,.slice ao dl cp,.int .i64 now] W fun e W'=>ActX S W fb (if 0 ≤ idn ∧ idn ≤ 1048576 then rtryC s dl now (childC s idn st ds now) else (s,[],1)) e W':=by
 have hn:=hd.len
 by_cases hid : 0 ≤ idn ∧ idn ≤ 1048576
 rotate_left
 ·rw [if_neg hid]
  exact child_none S W fb mb s h idn st ao dl cp now hid
 have hk : rightP s.l dl now → statusK s.l = 1 → Kept s now (childC s idn st ds now):=fun hr ho=>child_kept hi ho ds idn st (by rw [hn];exact hr) (by omega)
 rw [if_pos hid,← tries_eq hk]
 refine child_f S W fb mb s h idn st ao dl cp now _ hid (fun hr hs=>⟨by have:=(hk hr hs).len;omega,fun T w xb xm bid bst bdata bnow hT hf hTS hb1 n1 hb2 n2 hb3 n3 hb4 n4=>?_⟩)
 unfold childC
 by_cases ho : openR s.l (17,idn) = true
 rotate_left
 ·rw [if_neg ho]
  exact child_stale T w xb xm s hT (by have:=hi.mcs hl;omega) (by omega) idn st now ao dl cp ds bid bst bnow bdata hb1 n1 hb2 n2 hb4 n4 hb3 n3 hi.openOk (fun x w hm=>ho (by rw [← open_same hi hs];exact (openM_iff s (17,idn)).2 ⟨x,w,hm⟩))
 rw [if_pos ho]
 obtain ⟨ek,w0,hw0⟩:=key_same hi hs (by rw [open_same hi hs];exact ho)
 have huq : ∀ x w,s.mp x = some (opv 17 idn w) → x = beganR s.l 17 idn:=fun x w hx=>hi.uniq _ _ _ _ _ _ hx hw0
 by_cases hst : 0 ≤ st ∧ st ≤ 6
 ·rw [if_pos hst]
  exact child_ok T w xb xm s hT (by have:=hi.mcs hl;omega) (by omega) idn st now ao dl cp ds bid bst bnow bdata hb1 n1 hb2 n2 hb4 n4 hb3 n3 hi.openOk _ w0 hw0 huq hst ((hd.to hTS).fr (hf.mono fun _ e=>e.elim)) (by have:=hr.1;omega) hd1
 ·rw [if_neg hst]
  exact child_arg T w xb xm s hT (by have:=hi.mcs hl;omega) (by omega) idn st now ao dl cp ds bid bst bnow bdata hb1 n1 hb2 n2 hb4 n4 hb3 n3 hi.openOk _ w0 hw0 huq hst
end
end Go.Proofs.YtnkelaohcbdjnaaGreat
set_option linter.unusedVariables false
set_option linter.unusedSimpArgs false
namespace Go.Proofs.YtnkelaohcbdjnaaGreat
open Go.RowKit Go.Maps
/-- both runs in memory,of one state -/
structure JS (S R : Nat → Prop) (W : World) (fb mb rb : Nat) (s : FSt) : Prop where
 p : PF S W fb mb s
 r : RF S R W rb s
theorem JS.fr0 {S R : Nat → Prop} {W W' : World} {fb mb rb : Nat} {s : FSt} (h : JS S R W fb mb rb s) (hf : Fr (fun _=>False) W W') : JS S R W' fb mb rb s:=⟨h.p.fr0 hf,h.r.fr0 hf⟩
theorem RF.least {S R : Nat → Prop} {W : World} {rb : Nat} {s : FSt} (h : RF S R W rb s) : ∃ R1 : Nat → Prop,(∀ k,R1 k → R k) ∧ RF S R1 W rb s ∧ ∀ k,R1 k → k = rb ∨ ∃ cs,W.heap[k]? = some (.cells cs 62 (0,0)):=by
 obtain ⟨⟨v,L,hb,ho,hl,ht,hk⟩,h3,h4,h5,h6,h7⟩:=h
 exact ⟨fun k=>k = rb ∨ v.ownBlock = some k,fun k e=>e.elim (fun e=>e ▸ h3) (hk k),⟨⟨v,L,hb,ho,hl,ht,fun k e=>.inr e⟩,.inl rfl,fun k e=>h4 k (e.elim (fun e=>e ▸ h3) (hk k)),h5,h6,h7⟩,fun k e=>e.elim .inl (fun e=>.inr (ho.ob e).2.2)⟩
/-- behind an act on both: nothing but what S names was turned -/
def JOut (S : Nat → Prop) (W : World) (fb rb : Nat) (s' : FSt) (W' : World) : Prop:=∃ (S' R' : Nat → Prop) (mb' : Nat),JS S' R' W' fb mb' rb s' ∧ (∀ k,k < W.heap.size → (S' k ↔ S k)) ∧ Fr S W W'
theorem JOut.more {S : Nat → Prop} {W W1 W2 : World} {fb rb : Nat} {s : FSt} (h : JOut S W fb rb s W1) (hf : Fr (fun _=>False) W1 W2) : JOut S W fb rb s W2:=by
 obtain ⟨S',R',mb',h1,h2,h3⟩:=h
 exact ⟨S',R',mb',h1.fr0 hf,h2,h3.trans (hf.mono fun _ e=>e.elim)⟩
theorem JOut.behind {S : Nat → Prop} {W W1 W2 : World} {fb rb : Nat} {s : FSt} (hf : Fr (fun _=>False) W W1) (h : JOut S W1 fb rb s W2) : JOut S W fb rb s W2:=by
 obtain ⟨S',R',mb',h1,h2,h3⟩:=h
 exact ⟨S',R',mb',h1,fun k hk=>h2 k (Nat.lt_of_lt_of_le hk hf.size),(hf.mono fun _ e=>e.elim).trans h3⟩
theorem JS.out {S R : Nat → Prop} {W W' : World} {fb mb rb : Nat} {s : FSt} (h : JS S R W fb mb rb s) (hf : Fr (fun _=>False) W W') : JOut S W fb rb s W':=⟨S,R,mb,h.fr0 hf,fun k _=>Iff.rfl,hf.mono fun _ e=>e.elim⟩
/-- the program's act is done -/
theorem JS.mid {S R : Nat → Prop} {W W1 : World} {fb mb rb : Nat} {s : FSt} {c : FSt × List Ov × Int} {e : Ending} (h : JS S R W fb mb rb s) (hA : ActX S W fb c e W1) : ∃ (v : Value) (S1 R1 : Nat → Prop) (xm : Nat),e = .returned (.tuple #[v,.int .i64 c.2.2]) ∧ Outs W.heap.size W1 v c.2.1 ∧ PF S1 W1 fb xm c.1 ∧ RF S1 R1 W1 rb s ∧ (∀ k,R1 k → R k) ∧ (¬ R1 fb ∧ ¬ R1 xm) ∧ Fr (fun k=>k = fb) W W1 ∧ ∀ k,k < W.heap.size → (S1 k ↔ S k):=by
 obtain ⟨v,S1,xm,rfl,ho,hp,hf,hs⟩:=hA
 obtain ⟨⟨vv,L,hb,hov,hl,ht,hk⟩,h3,h4,h5,h6,h7⟩:=h.r
 obtain ⟨ao,cp,hfb⟩:=h.p.blk
 have hne : rb ≠ fb:=fun e=>by
  subst e
  have:=hb.symm.trans hfb
  simp at this
 have hr : RF S1 R W1 rb s:=⟨⟨vv,L,hb.fr hf hne,hov.fr hf (fun k hk e=>by
  obtain ⟨_,_,cs,hc⟩:=hov.ob hk
  rw [e,show W.heap[fb]? = _ from hfb] at hc
  simp at hc),hl,(ht.to (S':=S1) (fun k hk e=>(hs k hk).1 e)).fr hf (fun k e=>e ▸ hp.f),hk⟩,h3,fun k e=>(hs k (h5 k (h4 k e))).2 (h4 k e),hp.lt,h6,h7⟩
 obtain ⟨R1,hR,hr1,hty⟩:=hr.least
 refine ⟨v,S1,R1,xm,rfl,ho,hp,hr1,hR,⟨fun e=>?_,fun e=>?_⟩,hf,hs⟩
 ·obtain ⟨ao2,cp2,hfb2⟩:=hp.blk
  rcases hty _ e with e | ⟨cs,hc⟩
  ·exact hne e.symm
  ·rw [show W1.heap[fb]? = _ from hfb2] at hc
   simp at hc
 ·rcases hty _ e with e | ⟨cs,hc⟩
  ·obtain ⟨vr,hbr⟩:=hr1.blk
   exact mp_ne hp.fl.m hbr e.symm
  ·exact mp_ne hp.fl.m (show Blk W1 xm 62 cs from hc) rfl
/-- and so is the document's -/
theorem JS.fin {S R S1 R1 : Nat → Prop} {W W1 W2 : World} {fb mb rb xm : Nat} {s : FSt} {c : FSt × List Ov × Int} {e : Ending} {v : Value} (h : JS S R W fb mb rb s) (ho : Outs W.heap.size W1 v c.2.1) (hp : PF S1 W1 fb xm c.1) (hr : RF S1 R1 W1 rb s) (hR : ∀ k,R1 k → R k) (hn : ¬ R1 fb ∧ ¬ R1 xm) (hf : Fr (fun k=>k = fb) W W1) (hs : ∀ k,k < W.heap.size → (S1 k ↔ S k)) (hA : RActX S1 R1 W1 rb c e W2) :
 ∃ v2,e = .returned (.tuple #[v2,.int .i64 c.2.2]) ∧ Outs W1.heap.size W2 v2 c.2.1 ∧ Outs W.heap.size W2 v c.2.1 ∧ JOut S W fb rb c.1 W2:=by
 obtain ⟨v2,rfl,ho2,S2,R2,hs2,hrf,hf2⟩:=hA
 have hlt : ∀ k,R1 k → S k ∧ k < W.heap.size:=fun k e=>⟨h.r.rs k (hR k e),h.r.lt k (h.r.rs k (hR k e))⟩
 have hR12 : ∀ k,R1 k → S2 k:=fun k e=>(hs2 k (hr.lt k (hr.rs k e))).1.2 (hr.rs k e)
 refine ⟨v2,rfl,ho2,ho.fr hf2 (fun k e=>(hlt k e).2),S2,R2,xm,⟨⟨(hp.fl.to (fun k hk e=>(hs2 k hk).1.1 e)).fr hf2 hR12 hn.1 hn.2,(hs2 fb (hp.lt fb hp.f)).1.2 hp.f,(hs2 xm (hp.lt xm hp.m)).1.2 hp.m,hrf.lt⟩,hrf⟩,fun k hk=>(hs2 k (Nat.lt_of_lt_of_le hk hf.size)).1.trans (hs k hk),Fr.step (hf.mono fun k e=>e ▸ h.p.f) hf2 (fun k hk e=>(hlt k e).1)⟩
/-- one act,as the document tells it -/
def stepC (s : FSt) (a : ActV) (now : Int) : FSt × List Ov × Int:=
 if a.op = 1 then rtryC s a.d.length now (signalC s a.d now)
 else if a.op = 2 then rtryC s 0 now (cancelC s now)
 else if a.op = 3 then rtryC s a.d.length now (terminateC s a.d now)
 else if a.op = 4 then rtryC s 0 now (rdecidesC s a.ref a.turn now)
 else if a.op = 5 then rtryC s 0 now (rdecideC s a.ref a.turn a.l now)
 else if a.op = 6 then rtryC s 0 now (worksC s a.ref now)
 else if a.op = 7 then rtryC s a.d.length now (endsC s (if a.good = true then 9 else 10) a.ref a.d now)
 else if a.op = 8 then (if a.kind = 3 ∨ a.kind = 4 ∨ a.kind = 5 then rtryC s 0 now (fireC s a.kind a.ref a.turn now) else (s,[],1))
 else if a.op = 9 then (if 0 ≤ a.id ∧ a.id ≤ 1048576 then rtryC s a.d.length now (childC s a.id a.kind a.d now) else (s,[],1))
 else (s,[],0)
theorem Kept.rtries {s : FSt} (h : FInv s) {n : Nat} {now : Int} (hnow : rightP s.l 0 now) {c : FSt × List Ov × Int} (hc : rightP s.l n now → statusK s.l = 1 → Kept s now c) : Kept s now (rtryC s n now c):=by
 obtain ⟨a,b⟩:=Kept.tries h hnow hc
 rw [← b]
 exact a
/-- WHAT A STEP KEEPS -/
theorem step_kept {s : FSt} (h : FInv s) {now : Int} (hnow : rightP s.l 0 now) (hl : s.l.length ≤ 4000) (a : ActV) : Kept s now (stepC s a now):=by
 unfold stepC
 split
 ·exact Kept.rtries h hnow (fun hr ho=>signal_kept h ho a.d hr (by omega))
 split
 ·exact Kept.rtries h hnow (fun hr ho=>cancel_kept h ho hr (by omega))
 split
 ·exact Kept.rtries h hnow (fun hr ho=>terminate_kept h ho a.d hr (by omega))
 split
 ·exact Kept.rtries h hnow (fun hr ho=>by rw [← rdecidesC_eq h.tn.1];exact decides_kept h ho a.ref a.turn hr (by omega))
 split
 ·exact Kept.rtries h hnow (fun hr ho=>(decide_same h ho a.ref a.turn a.l hr (by omega)).2)
 split
 ·exact Kept.rtries h hnow (fun hr ho=>works_kept h ho a.ref hr (by omega))
 split
 ·exact Kept.rtries h hnow (fun hr ho=>ends_kept h ho a.d _ a.ref (by split <;> omega) hr (by omega))
 split
 ·split
  ·exact Kept.rtries h hnow (fun hr ho=>fire_kept h ho a.kind a.ref a.turn hr (by omega))
  ·exact Kept.no h hnow 1
 split
 ·split
  ·exact Kept.rtries h hnow (fun hr ho=>child_kept h ho a.d a.id a.kind hr (by omega))
  ·exact Kept.no h hnow 1
 ·exact Kept.no h hnow 0
/-- what comes out: bytes,and not too much -/
def OutB (os : List Ov) : Prop:=(∀ o ∈ os,Byt o.d) ∧ os.length ≤ 1000
theorem OutB.nil : OutB []:=⟨fun o ho=>(by cases ho),Nat.zero_le _⟩
theorem OutB.one {o : Ov} (h : Byt o.d) : OutB [o]:=⟨fun x hx=>by simp only [List.mem_singleton] at hx;rw [hx];exact h,by show 1 ≤ 1000;decide⟩
theorem OutB.wake (s : FSt) (now : Int) : OutB (wakeO s now):=by
 unfold wakeO
 split
 ·exact OutB.one Byt.nil
 ·exact OutB.nil
theorem OutB.tries {s : FSt} {n : Nat} {now : Int} {c : FSt × List Ov × Int} (h : OutB c.2.1) : OutB (rtryC s n now c).2.1:=by
 unfold rtryC
 split
 ·exact h
 ·exact OutB.nil
theorem OutB.done (s : FSt) (x : Dv) (now : Int) (h : Byt x.d) : ∀ o ∈ doneO s x now,Byt o.d:=by
 unfold doneO closeO
 intro o ho
 repeat' (split at ho)
 all_goals (simp at ho;try rw [ho])
 all_goals first
  | exact Byt.nil
  | exact h
theorem fold_outs (now : Int) : ∀ (l : List Dv) (s : FSt),(∀ x ∈ l,Byt x.d) → (∀ o ∈ (rdecFold now s l).2,Byt o.d) ∧ (rdecFold now s l).2.length ≤ l.length
 | [],s,_=>⟨fun o ho=>(by cases ho),Nat.le_refl _⟩
 | x :: l,s,h=>by
   have ih:=fold_outs now l (rdoneS s x now) (fun y hy=>h y (List.mem_cons_of_mem _ hy))
   rw [rdecFold]
   refine ⟨fun o ho=>?_,?_⟩
   ·rcases List.mem_append.1 ho with ho | ho
    ·exact OutB.done s x now (h x List.mem_cons_self) o ho
    ·exact ih.1 o ho
   ·have:=doneO_len s x now
    rw [List.length_append,List.length_cons]
    omega
theorem OutB.decide {s : FSt} {ref turn now : Int} {l : List Dv} (h : ∀ x ∈ l,Byt x.d) : OutB (rdecideC s ref turn l now).2.1:=by
 unfold rdecideC
 split
 rotate_left
 ·exact OutB.nil
 split
 ·exact OutB.one Byt.nil
 rename_i hb
 have h32:=(rbad_may (by simpa using hb)).1
 split
 ·exact OutB.one Byt.nil
 have hf:=fold_outs now l (decided s now) h
 unfold rfineC
 split
 ·refine ⟨fun o ho=>?_,?_⟩
  ·rcases List.mem_append.1 ho with ho | ho
   ·exact hf.1 o ho
   ·simp only [List.mem_singleton] at ho;rw [ho];exact Byt.nil
  ·show ((rdecFold now (decided s now) l).2 ++ _).length ≤ _
   rw [List.length_append]
   simp only [List.length_cons,List.length_nil]
   omega
 ·exact ⟨hf.1,by show (rdecFold now (decided s now) l).2.length ≤ _;omega⟩
theorem step_outs (s : FSt) (a : ActV) (now : Int) (h1 : Byt a.d) (h2 : ∀ x ∈ a.l,Byt x.d) : OutB (stepC s a now).2.1:=by
 have hw : ∀ s1 : FSt,OutB (wakeO s1 now):=fun s1=>OutB.wake s1 now
 unfold stepC
 split
 ·exact OutB.tries (hw _)
 split
 ·refine OutB.tries ?_
  unfold cancelC
  split
  ·exact OutB.nil
  ·exact hw _
 split
 ·exact OutB.tries (OutB.one h1)
 split
 ·refine OutB.tries ?_
  unfold rdecidesC
  split
  ·exact OutB.one Byt.nil
  ·exact OutB.nil
 split
 ·exact OutB.tries (OutB.decide h2)
 split
 ·refine OutB.tries ?_
  unfold worksC
  split
  ·exact OutB.one Byt.nil
  ·exact OutB.nil
 have he : ∀ k ref ds,OutB (endsC s k ref ds now).2.1:=fun k ref ds=>by
  unfold endsC
  split
  ·exact hw _
  ·exact OutB.nil
 split
 ·exact OutB.tries (he _ _ _)
 split
 ·split
  ·refine OutB.tries ?_
   unfold fireC missedC lapsedC firedC
   split
   ·split
    ·exact OutB.one Byt.nil
    ·exact OutB.nil
   split
   ·split
    ·exact he _ _ _
    ·exact OutB.nil
   ·split
    ·exact hw _
    ·exact OutB.nil
  ·exact OutB.nil
 split
 ·split
  ·refine OutB.tries ?_
   unfold childC
   split
   ·split
    ·exact hw _
    ·exact OutB.nil
   ·exact OutB.nil
  ·exact OutB.nil
 ·exact OutB.nil
theorem rchild_x (S R : Nat → Prop) (W : World) (rb : Nat) (s : FSt) (h : RF S R W rb s) (hl : s.l.length ≤ 4000) (idn st now : Int) (ao : Option Addr) (dl cp : Nat) (ds : List Value) (hd : RowB S W (.slice ao dl cp) ds) (hd1 : ∀ u ∈ ds,u.oneCell' = true) :
 Calls Tryz.prog 44 #[.pointer (some ⟨rb,0,none⟩),.int .i64 idn,.int .i64 st,.slice ao dl cp,.int .i64 now] W fun e W'=>RActX S R W rb (if 0 ≤ idn ∧ idn ≤ 1048576 then rtryC s dl now (childC s idn st ds now) else (s,[],1)) e W':=by
 by_cases hid : 0 ≤ idn ∧ idn ≤ 1048576
 ·rw [if_pos hid]
  exact rchild0 S R W rb s h hl idn st now ao dl cp ds hd hd1 hid
 ·rw [if_neg hid]
  exact rchild_none S R W rb s h idn st _ now hid
set_option maxRecDepth 100000 in
set_option maxHeartbeats 16000000 in
theorem step_any (S R : Nat → Prop) (W : World) (fb mb rb : Nat) (s : FSt) (hj : JS S R W fb mb rb s) (hi : FInv s) (hl : s.l.length ≤ 4000) (op : Int) (own : Bool) (ref turn : Int) (ds : List Value) (l : List Dv) (good : Bool) (kind id wait : Int) (ao : Option Addr) (dl cp : Nat) (ao2 : Option Addr) (dn cp2 : Nat) (hok : ActOk S W ⟨op,own,ref,turn,ds,l,good,kind,id,wait⟩ ao dl cp ao2 dn cp2) (now : Int) :
 Calls Tryz.prog 10 #[.pointer (some ⟨fb,0,none⟩),.pointer (some ⟨rb,0,none⟩),.agg #[.int .i64 op,.bool own,.int .i64 ref,.int .i64 turn,.slice ao dl cp,.slice ao2 dn cp2,.bool good,.int .i64 kind,.int .i64 id,.int .i64 wait],.int .i64 now] W fun e W'=>e = .returned (.bool true) ∧ JOut S W fb rb (stepC s ⟨op,own,ref,turn,ds,l,good,kind,id,wait⟩ now).1 W':=by
 have hP0:=Blk.new W 39 #[.int .i64 op,.bool own,.int .i64 ref,.int .i64 turn,.slice ao dl cp,.slice ao2 dn cp2,.bool good,.int .i64 kind,.int .i64 id,.int .i64 wait]
 have hf0 : Fr (fun _=>False) W (W.alloc (.cells #[.int .i64 op,.bool own,.int .i64 ref,.int .i64 turn,.slice ao dl cp,.slice ao2 dn cp2,.bool good,.int .i64 kind,.int .i64 id,.int .i64 wait] 39)):=Fr.alloc _ _ _
 have HI:=Lib.hid hi
 have HL:=Lib.hid hl
 obtain ⟨c,hc⟩ : ∃ c,stepC s ⟨op,own,ref,turn,ds,l,good,kind,id,wait⟩ now = c:=⟨_,rfl⟩
 have HOB : Hid (OutB c.2.1):=Lib.hid (by rw [← hc];exact step_outs s _ now hok.2.1 hok.2.2.2.2.2.1)
 rw [hc]
 obtain ⟨s',os,er⟩:=c
 have HC:=Lib.hid hc
 have per : (er == er) = true:=by simp
 go_enter Tryz.func10,Tryz.ntmps10
 go_upto_region 5 with (fail)
 obtain ⟨w0,hw0⟩ : ∃ w,W.alloc (.cells #[.int .i64 op,.bool own,.int .i64 ref,.int .i64 turn,.slice ao dl cp,.slice ao2 dn cp2,.bool good,.int .i64 kind,.int .i64 id,.int .i64 wait] 39) = w:=⟨_,rfl⟩
 rw [hw0] at hP0 hf0 ⊢
 obtain ⟨pb,hpb⟩ : ∃ b,W.heap.size = b:=⟨_,rfl⟩
 rw [hpb] at hP0 ⊢
 have HF0:=Lib.hid hf0
 have HJ:=Lib.hid (hj.fr0 hf0)
 have HP0:=Lib.hid hP0
 have NPB : Hid (pb ≠ fb):=Lib.hid (fun e=>by have:=hj.p.lt fb hj.p.f;omega)
 have HOK:=Lib.hid (hok.fr hf0 (fun _ e=>e.elim))
 have d0:=HP0.out.cell 0
 have d1:=HP0.out.cell 1
 have d2:=HP0.out.cell 2
 have d3:=HP0.out.cell 3
 have d4:=HP0.out.cell 4
 have d5:=HP0.out.cell 5
 have d6:=HP0.out.cell 6
 have d7:=HP0.out.cell 7
 have d8:=HP0.out.cell 8
 have d9:=HP0.out.cell 9
 simp only [lA,lB,lC] at d0 d1 d2 d3 d4 d5 d6 d7 d8 d9
 clear hw0 hpb hP0 hf0 hj hok hi hl hc
 by_cases h1 : op = 1
 ·subst h1
  have HDL:=Lib.hid HOK.out.1.len
  have HCE : Hid (stepC s ⟨1,own,ref,turn,ds,l,good,kind,id,wait⟩ now = (s',os,er)):=HC
  have hcc:=HCE.out
  unfold stepC at hcc
  rw [if_pos (by show (1 : Int) = 1;rfl)] at hcc
  try dsimp only at hcc
  rw [HDL.out] at hcc
  have HB1 : ∀ u ∈ ds,u.oneCell' = true:=HOK.out.2.1.one
  have HB2 : ∀ x ∈ l,∀ u ∈ x.d,u.oneCell' = true:=fun x hx=>(HOK.out.2.2.2.2.2.1 x hx).one
  have HD0:=HOK.out.1
  have HRD0:=HOK.out.2.2.2.2.1
  have HW:=HOK.out.2.2.2.2.2.2
  have HNN:=HOK.out.2.2.1
  dsimp only at HD0 HRD0 HW HNN HB1 HB2
  have HPA:=Lib.hid (p_signal S w0 fb mb s HJ.out.p HI.out HL.out now ao dl cp ds HD0 HB1)
  rw [hcc] at HPA
  have HRA : Hid (∀ (S1 R1 : Nat → Prop) (w1 : World),RF S1 R1 w1 rb s → (∀ k,k < w0.heap.size → (S1 k ↔ S k)) → Fr (fun k=>k = fb) w0 w1 → Calls Tryz.prog 30 #[.pointer (some ⟨rb,0,none⟩),.slice ao dl cp,.int .i64 now] w1 fun e W'=>RActX S1 R1 w1 rb (s',os,er) e W'):=Lib.hid (fun S1 R1 w1 hr hs1 hf1=>by
   have hS1 : ∀ k,k = fb → S1 k:=fun k e=>(hs1 k (by rw [e];exact HJ.out.p.lt fb HJ.out.p.f)).2 (e ▸ HJ.out.p.f)
   have HD1:=(HD0.to (S':=S1) (fun k hk e=>(hs1 k hk).1 e)).fr (hf1.mono hS1)
   have HRD1:=(HRD0.to (S':=S1) (fun k hk e=>(hs1 k hk).1 e)).fr hf1 hS1
   have:=rsignal_any S1 R1 w1 rb s hr HL.out now ao dl cp ds HD1 HB1
   rwa [hcc] at this)
  clear hcc HB1 HB2 HD0 HRD0 HW HNN
  go_upto_region 8 with (first | (go_at_call 29;refine HPA.out.mono ?_;intro e w1 hA;obtain ⟨v,S1,R1,xm,rfl,ho,hp,hr,hR,hn,hf1,hs1⟩:=HJ.out.mid hA;have HO1:=Lib.hid ho;have HP1:=Lib.hid hp;have HR1:=Lib.hid hr;have HM1:=Lib.hid (And.intro hR (And.intro hn (And.intro hf1 hs1)));have HPB1:=Lib.hid (HP0.out.fr hf1 NPB.out);clear hA ho hp hr hR hn hf1 hs1 d0 d1 d2 d3 d4 d5 d6 d7 d8 d9) | go_in)
  have d4:=HPB1.out.cell 4
  simp only [lA,lB,lC] at d4
  go_upto_region 33 with (first | (go_at_call 30;refine (HRA.out S1 R1 w1 HR1.out HM1.out.2.2.2 HM1.out.2.2.1).mono ?_;intro e w2 hA;obtain ⟨v2,rfl,ho2,ho1,hjo⟩:=HJ.out.fin HO1.out HP1.out HR1.out HM1.out.1 HM1.out.2.1 HM1.out.2.2.1 HM1.out.2.2.2 hA;have HO2:=Lib.hid ho2;have HO1':=Lib.hid ho1;have HJO:=Lib.hid hjo;clear hA ho2 ho1 hjo d4) | go_in)
  go_wp2_with (first | (go_at_call 45;refine (outs_any w2 _ _ _ _ os HO1'.out HO2.out HOB.out.1 HOB.out.2).mono ?_;rintro e w3 ⟨rfl,hf3⟩;have HF3:=Lib.hid hf3;clear hf3) | go_in)
  go_ret
  exact ⟨rfl,JOut.behind HF0.out (HJO.out.more HF3.out)⟩
 have q1 : (op == 1) = false:=by simp [h1]
 by_cases h2 : op = 2
 ·subst h2
  have HDL:=Lib.hid HOK.out.1.len
  have HCE : Hid (stepC s ⟨2,own,ref,turn,ds,l,good,kind,id,wait⟩ now = (s',os,er)):=HC
  have hcc:=HCE.out
  unfold stepC at hcc
  rw [if_neg (by show ¬ (2 : Int) = 1;decide),if_pos (by show (2 : Int) = 2;rfl)] at hcc
  try dsimp only at hcc
  have HB1 : ∀ u ∈ ds,u.oneCell' = true:=HOK.out.2.1.one
  have HB2 : ∀ x ∈ l,∀ u ∈ x.d,u.oneCell' = true:=fun x hx=>(HOK.out.2.2.2.2.2.1 x hx).one
  have HD0:=HOK.out.1
  have HRD0:=HOK.out.2.2.2.2.1
  have HW:=HOK.out.2.2.2.2.2.2
  have HNN:=HOK.out.2.2.1
  dsimp only at HD0 HRD0 HW HNN HB1 HB2
  have HPA:=Lib.hid (p_cancel S w0 fb mb s HJ.out.p HI.out HL.out now)
  rw [hcc] at HPA
  have HRA : Hid (∀ (S1 R1 : Nat → Prop) (w1 : World),RF S1 R1 w1 rb s → (∀ k,k < w0.heap.size → (S1 k ↔ S k)) → Fr (fun k=>k = fb) w0 w1 → Calls Tryz.prog 32 #[.pointer (some ⟨rb,0,none⟩),.int .i64 now] w1 fun e W'=>RActX S1 R1 w1 rb (s',os,er) e W'):=Lib.hid (fun S1 R1 w1 hr hs1 hf1=>by
   have hS1 : ∀ k,k = fb → S1 k:=fun k e=>(hs1 k (by rw [e];exact HJ.out.p.lt fb HJ.out.p.f)).2 (e ▸ HJ.out.p.f)
   have HD1:=(HD0.to (S':=S1) (fun k hk e=>(hs1 k hk).1 e)).fr (hf1.mono hS1)
   have HRD1:=(HRD0.to (S':=S1) (fun k hk e=>(hs1 k hk).1 e)).fr hf1 hS1
   have:=rcancel_any S1 R1 w1 rb s hr HL.out now
   rwa [hcc] at this)
  clear hcc HB1 HB2 HD0 HRD0 HW HNN
  go_upto_region 11 with (first | (go_at_call 31;refine HPA.out.mono ?_;intro e w1 hA;obtain ⟨v,S1,R1,xm,rfl,ho,hp,hr,hR,hn,hf1,hs1⟩:=HJ.out.mid hA;have HO1:=Lib.hid ho;have HP1:=Lib.hid hp;have HR1:=Lib.hid hr;have HM1:=Lib.hid (And.intro hR (And.intro hn (And.intro hf1 hs1)));have HPB1:=Lib.hid (HP0.out.fr hf1 NPB.out);clear hA ho hp hr hR hn hf1 hs1 d0 d1 d2 d3 d4 d5 d6 d7 d8 d9) | go_in)
  go_upto_region 33 with (first | (go_at_call 32;refine (HRA.out S1 R1 w1 HR1.out HM1.out.2.2.2 HM1.out.2.2.1).mono ?_;intro e w2 hA;obtain ⟨v2,rfl,ho2,ho1,hjo⟩:=HJ.out.fin HO1.out HP1.out HR1.out HM1.out.1 HM1.out.2.1 HM1.out.2.2.1 HM1.out.2.2.2 hA;have HO2:=Lib.hid ho2;have HO1':=Lib.hid ho1;have HJO:=Lib.hid hjo;clear hA ho2 ho1 hjo) | go_in)
  go_wp2_with (first | (go_at_call 45;refine (outs_any w2 _ _ _ _ os HO1'.out HO2.out HOB.out.1 HOB.out.2).mono ?_;rintro e w3 ⟨rfl,hf3⟩;have HF3:=Lib.hid hf3;clear hf3) | go_in)
  go_ret
  exact ⟨rfl,JOut.behind HF0.out (HJO.out.more HF3.out)⟩
 have q2 : (op == 2) = false:=by simp [h2]
 by_cases h3 : op = 3
 ·subst h3
  have HDL:=Lib.hid HOK.out.1.len
  have HCE : Hid (stepC s ⟨3,own,ref,turn,ds,l,good,kind,id,wait⟩ now = (s',os,er)):=HC
  have hcc:=HCE.out
  unfold stepC at hcc
  rw [if_neg (by show ¬ (3 : Int) = 1;decide),if_neg (by show ¬ (3 : Int) = 2;decide),if_pos (by show (3 : Int) = 3;rfl)] at hcc
  try dsimp only at hcc
  rw [HDL.out] at hcc
  have HB1 : ∀ u ∈ ds,u.oneCell' = true:=HOK.out.2.1.one
  have HB2 : ∀ x ∈ l,∀ u ∈ x.d,u.oneCell' = true:=fun x hx=>(HOK.out.2.2.2.2.2.1 x hx).one
  have HD0:=HOK.out.1
  have HRD0:=HOK.out.2.2.2.2.1
  have HW:=HOK.out.2.2.2.2.2.2
  have HNN:=HOK.out.2.2.1
  dsimp only at HD0 HRD0 HW HNN HB1 HB2
  have HPA:=Lib.hid (p_terminate S w0 fb mb s HJ.out.p HI.out HL.out now ao dl cp ds HD0 HB1)
  rw [hcc] at HPA
  have HRA : Hid (∀ (S1 R1 : Nat → Prop) (w1 : World),RF S1 R1 w1 rb s → (∀ k,k < w0.heap.size → (S1 k ↔ S k)) → Fr (fun k=>k = fb) w0 w1 → Calls Tryz.prog 34 #[.pointer (some ⟨rb,0,none⟩),.slice ao dl cp,.int .i64 now] w1 fun e W'=>RActX S1 R1 w1 rb (s',os,er) e W'):=Lib.hid (fun S1 R1 w1 hr hs1 hf1=>by
   have hS1 : ∀ k,k = fb → S1 k:=fun k e=>(hs1 k (by rw [e];exact HJ.out.p.lt fb HJ.out.p.f)).2 (e ▸ HJ.out.p.f)
   have HD1:=(HD0.to (S':=S1) (fun k hk e=>(hs1 k hk).1 e)).fr (hf1.mono hS1)
   have HRD1:=(HRD0.to (S':=S1) (fun k hk e=>(hs1 k hk).1 e)).fr hf1 hS1
   have:=rterminate_any S1 R1 w1 rb s hr HL.out now ao dl cp ds HD1 HB1
   rwa [hcc] at this)
  clear hcc HB1 HB2 HD0 HRD0 HW HNN
  go_upto_region 14 with (first | (go_at_call 33;refine HPA.out.mono ?_;intro e w1 hA;obtain ⟨v,S1,R1,xm,rfl,ho,hp,hr,hR,hn,hf1,hs1⟩:=HJ.out.mid hA;have HO1:=Lib.hid ho;have HP1:=Lib.hid hp;have HR1:=Lib.hid hr;have HM1:=Lib.hid (And.intro hR (And.intro hn (And.intro hf1 hs1)));have HPB1:=Lib.hid (HP0.out.fr hf1 NPB.out);clear hA ho hp hr hR hn hf1 hs1 d0 d1 d2 d3 d4 d5 d6 d7 d8 d9) | go_in)
  have d4:=HPB1.out.cell 4
  simp only [lA,lB,lC] at d4
  go_upto_region 33 with (first | (go_at_call 34;refine (HRA.out S1 R1 w1 HR1.out HM1.out.2.2.2 HM1.out.2.2.1).mono ?_;intro e w2 hA;obtain ⟨v2,rfl,ho2,ho1,hjo⟩:=HJ.out.fin HO1.out HP1.out HR1.out HM1.out.1 HM1.out.2.1 HM1.out.2.2.1 HM1.out.2.2.2 hA;have HO2:=Lib.hid ho2;have HO1':=Lib.hid ho1;have HJO:=Lib.hid hjo;clear hA ho2 ho1 hjo d4) | go_in)
  go_wp2_with (first | (go_at_call 45;refine (outs_any w2 _ _ _ _ os HO1'.out HO2.out HOB.out.1 HOB.out.2).mono ?_;rintro e w3 ⟨rfl,hf3⟩;have HF3:=Lib.hid hf3;clear hf3) | go_in)
  go_ret
  exact ⟨rfl,JOut.behind HF0.out (HJO.out.more HF3.out)⟩
 have q3 : (op == 3) = false:=by simp [h3]
 by_cases h4 : op = 4
 ·subst h4
  have HDL:=Lib.hid HOK.out.1.len
  have HCE : Hid (stepC s ⟨4,own,ref,turn,ds,l,good,kind,id,wait⟩ now = (s',os,er)):=HC
  have hcc:=HCE.out
  unfold stepC at hcc
  rw [if_neg (by show ¬ (4 : Int) = 1;decide),if_neg (by show ¬ (4 : Int) = 2;decide),if_neg (by show ¬ (4 : Int) = 3;decide),if_pos (by show (4 : Int) = 4;rfl)] at hcc
  try dsimp only at hcc
  have HB1 : ∀ u ∈ ds,u.oneCell' = true:=HOK.out.2.1.one
  have HB2 : ∀ x ∈ l,∀ u ∈ x.d,u.oneCell' = true:=fun x hx=>(HOK.out.2.2.2.2.2.1 x hx).one
  have HD0:=HOK.out.1
  have HRD0:=HOK.out.2.2.2.2.1
  have HW:=HOK.out.2.2.2.2.2.2
  have HNN:=HOK.out.2.2.1
  dsimp only at HD0 HRD0 HW HNN HB1 HB2
  have HPA:=Lib.hid (p_decides S w0 fb mb s HJ.out.p HI.out HL.out now ref turn)
  rw [hcc] at HPA
  have HRA : Hid (∀ (S1 R1 : Nat → Prop) (w1 : World),RF S1 R1 w1 rb s → (∀ k,k < w0.heap.size → (S1 k ↔ S k)) → Fr (fun k=>k = fb) w0 w1 → Calls Tryz.prog 35 #[.pointer (some ⟨rb,0,none⟩),.int .i64 ref,.int .i64 turn,.int .i64 now] w1 fun e W'=>RActX S1 R1 w1 rb (s',os,er) e W'):=Lib.hid (fun S1 R1 w1 hr hs1 hf1=>by
   have hS1 : ∀ k,k = fb → S1 k:=fun k e=>(hs1 k (by rw [e];exact HJ.out.p.lt fb HJ.out.p.f)).2 (e ▸ HJ.out.p.f)
   have HD1:=(HD0.to (S':=S1) (fun k hk e=>(hs1 k hk).1 e)).fr (hf1.mono hS1)
   have HRD1:=(HRD0.to (S':=S1) (fun k hk e=>(hs1 k hk).1 e)).fr hf1 hS1
   have:=rdecides_any S1 R1 w1 rb s hr HL.out ref turn now
   rwa [hcc] at this)
  clear hcc HB1 HB2 HD0 HRD0 HW HNN
  go_upto_region 17 with (first | (go_at_call 13;refine HPA.out.mono ?_;intro e w1 hA;obtain ⟨v,S1,R1,xm,rfl,ho,hp,hr,hR,hn,hf1,hs1⟩:=HJ.out.mid hA;have HO1:=Lib.hid ho;have HP1:=Lib.hid hp;have HR1:=Lib.hid hr;have HM1:=Lib.hid (And.intro hR (And.intro hn (And.intro hf1 hs1)));have HPB1:=Lib.hid (HP0.out.fr hf1 NPB.out);clear hA ho hp hr hR hn hf1 hs1 d0 d1 d2 d3 d4 d5 d6 d7 d8 d9) | go_in)
  have d2:=HPB1.out.cell 2
  have d3:=HPB1.out.cell 3
  simp only [lA,lB,lC] at d2 d3
  go_upto_region 33 with (first | (go_at_call 35;refine (HRA.out S1 R1 w1 HR1.out HM1.out.2.2.2 HM1.out.2.2.1).mono ?_;intro e w2 hA;obtain ⟨v2,rfl,ho2,ho1,hjo⟩:=HJ.out.fin HO1.out HP1.out HR1.out HM1.out.1 HM1.out.2.1 HM1.out.2.2.1 HM1.out.2.2.2 hA;have HO2:=Lib.hid ho2;have HO1':=Lib.hid ho1;have HJO:=Lib.hid hjo;clear hA ho2 ho1 hjo d2 d3) | go_in)
  go_wp2_with (first | (go_at_call 45;refine (outs_any w2 _ _ _ _ os HO1'.out HO2.out HOB.out.1 HOB.out.2).mono ?_;rintro e w3 ⟨rfl,hf3⟩;have HF3:=Lib.hid hf3;clear hf3) | go_in)
  go_ret
  exact ⟨rfl,JOut.behind HF0.out (HJO.out.more HF3.out)⟩
 have q4 : (op == 4) = false:=by simp [h4]
 by_cases h5 : op = 5
 ·subst h5
  have HDL:=Lib.hid HOK.out.1.len
  have HCE : Hid (stepC s ⟨5,own,ref,turn,ds,l,good,kind,id,wait⟩ now = (s',os,er)):=HC
  have hcc:=HCE.out
  unfold stepC at hcc
  rw [if_neg (by show ¬ (5 : Int) = 1;decide),if_neg (by show ¬ (5 : Int) = 2;decide),if_neg (by show ¬ (5 : Int) = 3;decide),if_neg (by show ¬ (5 : Int) = 4;decide),if_pos (by show (5 : Int) = 5;rfl)] at hcc
  try dsimp only at hcc
  have HB1 : ∀ u ∈ ds,u.oneCell' = true:=HOK.out.2.1.one
  have HB2 : ∀ x ∈ l,∀ u ∈ x.d,u.oneCell' = true:=fun x hx=>(HOK.out.2.2.2.2.2.1 x hx).one
  have HD0:=HOK.out.1
  have HRD0:=HOK.out.2.2.2.2.1
  have HW:=HOK.out.2.2.2.2.2.2
  have HNN:=HOK.out.2.2.1
  dsimp only at HD0 HRD0 HW HNN HB1 HB2
  subst HNN
  have HCP2 : l.length ≤ cp2:=HOK.out.2.2.2.1.1
  have HPA:=Lib.hid (p_decide S w0 fb mb s HJ.out.p HI.out HL.out now ref turn ao2 cp2 l HRD0 HCP2 HB2)
  rw [hcc] at HPA
  have HRA : Hid (∀ (S1 R1 : Nat → Prop) (w1 : World),RF S1 R1 w1 rb s → (∀ k,k < w0.heap.size → (S1 k ↔ S k)) → Fr (fun k=>k = fb) w0 w1 → Calls Tryz.prog 36 #[.pointer (some ⟨rb,0,none⟩),.int .i64 ref,.int .i64 turn,.slice ao2 l.length cp2,.int .i64 now] w1 fun e W'=>RActX S1 R1 w1 rb (s',os,er) e W'):=Lib.hid (fun S1 R1 w1 hr hs1 hf1=>by
   have hS1 : ∀ k,k = fb → S1 k:=fun k e=>(hs1 k (by rw [e];exact HJ.out.p.lt fb HJ.out.p.f)).2 (e ▸ HJ.out.p.f)
   have HD1:=(HD0.to (S':=S1) (fun k hk e=>(hs1 k hk).1 e)).fr (hf1.mono hS1)
   have HRD1:=(HRD0.to (S':=S1) (fun k hk e=>(hs1 k hk).1 e)).fr hf1 hS1
   have:=rdecide_any S1 R1 w1 rb s hr HL.out ref turn now ao2 cp2 l HRD1 HCP2 HB2
   rwa [hcc] at this)
  clear hcc HB1 HB2 HD0 HRD0 HW HCP2
  go_upto_region 20 with (first | (go_at_call 14;refine HPA.out.mono ?_;intro e w1 hA;obtain ⟨v,S1,R1,xm,rfl,ho,hp,hr,hR,hn,hf1,hs1⟩:=HJ.out.mid hA;have HO1:=Lib.hid ho;have HP1:=Lib.hid hp;have HR1:=Lib.hid hr;have HM1:=Lib.hid (And.intro hR (And.intro hn (And.intro hf1 hs1)));have HPB1:=Lib.hid (HP0.out.fr hf1 NPB.out);clear hA ho hp hr hR hn hf1 hs1 d0 d1 d2 d3 d4 d5 d6 d7 d8 d9) | go_in)
  have d2:=HPB1.out.cell 2
  have d3:=HPB1.out.cell 3
  have d5:=HPB1.out.cell 5
  simp only [lA,lB,lC] at d2 d3 d5
  go_upto_region 33 with (first | (go_at_call 36;refine (HRA.out S1 R1 w1 HR1.out HM1.out.2.2.2 HM1.out.2.2.1).mono ?_;intro e w2 hA;obtain ⟨v2,rfl,ho2,ho1,hjo⟩:=HJ.out.fin HO1.out HP1.out HR1.out HM1.out.1 HM1.out.2.1 HM1.out.2.2.1 HM1.out.2.2.2 hA;have HO2:=Lib.hid ho2;have HO1':=Lib.hid ho1;have HJO:=Lib.hid hjo;clear hA ho2 ho1 hjo d2 d3 d5) | go_in)
  go_wp2_with (first | (go_at_call 45;refine (outs_any w2 _ _ _ _ os HO1'.out HO2.out HOB.out.1 HOB.out.2).mono ?_;rintro e w3 ⟨rfl,hf3⟩;have HF3:=Lib.hid hf3;clear hf3) | go_in)
  go_ret
  exact ⟨rfl,JOut.behind HF0.out (HJO.out.more HF3.out)⟩
 have q5 : (op == 5) = false:=by simp [h5]
 by_cases h6 : op = 6
 ·subst h6
  have HDL:=Lib.hid HOK.out.1.len
  have HCE : Hid (stepC s ⟨6,own,ref,turn,ds,l,good,kind,id,wait⟩ now = (s',os,er)):=HC
  have hcc:=HCE.out
  unfold stepC at hcc
  rw [if_neg (by show ¬ (6 : Int) = 1;decide),if_neg (by show ¬ (6 : Int) = 2;decide),if_neg (by show ¬ (6 : Int) = 3;decide),if_neg (by show ¬ (6 : Int) = 4;decide),if_neg (by show ¬ (6 : Int) = 5;decide),if_pos (by show (6 : Int) = 6;rfl)] at hcc
  try dsimp only at hcc
  have HB1 : ∀ u ∈ ds,u.oneCell' = true:=HOK.out.2.1.one
  have HB2 : ∀ x ∈ l,∀ u ∈ x.d,u.oneCell' = true:=fun x hx=>(HOK.out.2.2.2.2.2.1 x hx).one
  have HD0:=HOK.out.1
  have HRD0:=HOK.out.2.2.2.2.1
  have HW:=HOK.out.2.2.2.2.2.2
  have HNN:=HOK.out.2.2.1
  dsimp only at HD0 HRD0 HW HNN HB1 HB2
  have HPA:=Lib.hid (p_works S w0 fb mb s HJ.out.p HI.out HL.out now ref HW)
  rw [hcc] at HPA
  have HRA : Hid (∀ (S1 R1 : Nat → Prop) (w1 : World),RF S1 R1 w1 rb s → (∀ k,k < w0.heap.size → (S1 k ↔ S k)) → Fr (fun k=>k = fb) w0 w1 → Calls Tryz.prog 38 #[.pointer (some ⟨rb,0,none⟩),.int .i64 ref,.int .i64 now] w1 fun e W'=>RActX S1 R1 w1 rb (s',os,er) e W'):=Lib.hid (fun S1 R1 w1 hr hs1 hf1=>by
   have hS1 : ∀ k,k = fb → S1 k:=fun k e=>(hs1 k (by rw [e];exact HJ.out.p.lt fb HJ.out.p.f)).2 (e ▸ HJ.out.p.f)
   have HD1:=(HD0.to (S':=S1) (fun k hk e=>(hs1 k hk).1 e)).fr (hf1.mono hS1)
   have HRD1:=(HRD0.to (S':=S1) (fun k hk e=>(hs1 k hk).1 e)).fr hf1 hS1
   have:=rworks57_any S1 R1 w1 rb s hr HL.out ref now
   rwa [hcc] at this)
  clear hcc HB1 HB2 HD0 HRD0 HW HNN
  go_upto_region 23 with (first | (go_at_call 37;refine HPA.out.mono ?_;intro e w1 hA;obtain ⟨v,S1,R1,xm,rfl,ho,hp,hr,hR,hn,hf1,hs1⟩:=HJ.out.mid hA;have HO1:=Lib.hid ho;have HP1:=Lib.hid hp;have HR1:=Lib.hid hr;have HM1:=Lib.hid (And.intro hR (And.intro hn (And.intro hf1 hs1)));have HPB1:=Lib.hid (HP0.out.fr hf1 NPB.out);clear hA ho hp hr hR hn hf1 hs1 d0 d1 d2 d3 d4 d5 d6 d7 d8 d9) | go_in)
  have d2:=HPB1.out.cell 2
  simp only [lA,lB,lC] at d2
  go_upto_region 33 with (first | (go_at_call 38;refine (HRA.out S1 R1 w1 HR1.out HM1.out.2.2.2 HM1.out.2.2.1).mono ?_;intro e w2 hA;obtain ⟨v2,rfl,ho2,ho1,hjo⟩:=HJ.out.fin HO1.out HP1.out HR1.out HM1.out.1 HM1.out.2.1 HM1.out.2.2.1 HM1.out.2.2.2 hA;have HO2:=Lib.hid ho2;have HO1':=Lib.hid ho1;have HJO:=Lib.hid hjo;clear hA ho2 ho1 hjo d2) | go_in)
  go_wp2_with (first | (go_at_call 45;refine (outs_any w2 _ _ _ _ os HO1'.out HO2.out HOB.out.1 HOB.out.2).mono ?_;rintro e w3 ⟨rfl,hf3⟩;have HF3:=Lib.hid hf3;clear hf3) | go_in)
  go_ret
  exact ⟨rfl,JOut.behind HF0.out (HJO.out.more HF3.out)⟩
 have q6 : (op == 6) = false:=by simp [h6]
 by_cases h7 : op = 7
 ·subst h7
  have HDL:=Lib.hid HOK.out.1.len
  have HCE : Hid (stepC s ⟨7,own,ref,turn,ds,l,good,kind,id,wait⟩ now = (s',os,er)):=HC
  have hcc:=HCE.out
  unfold stepC at hcc
  rw [if_neg (by show ¬ (7 : Int) = 1;decide),if_neg (by show ¬ (7 : Int) = 2;decide),if_neg (by show ¬ (7 : Int) = 3;decide),if_neg (by show ¬ (7 : Int) = 4;decide),if_neg (by show ¬ (7 : Int) = 5;decide),if_neg (by show ¬ (7 : Int) = 6;decide),if_pos (by show (7 : Int) = 7;rfl)] at hcc
  try dsimp only at hcc
  rw [HDL.out] at hcc
  have HB1 : ∀ u ∈ ds,u.oneCell' = true:=HOK.out.2.1.one
  have HB2 : ∀ x ∈ l,∀ u ∈ x.d,u.oneCell' = true:=fun x hx=>(HOK.out.2.2.2.2.2.1 x hx).one
  have HD0:=HOK.out.1
  have HRD0:=HOK.out.2.2.2.2.1
  have HW:=HOK.out.2.2.2.2.2.2
  have HNN:=HOK.out.2.2.1
  dsimp only at HD0 HRD0 HW HNN HB1 HB2
  have HPA:=Lib.hid (p_worked S w0 fb mb s HJ.out.p HI.out HL.out now ref good HW ao dl cp ds HD0 HB1)
  rw [hcc] at HPA
  have HRA : Hid (∀ (S1 R1 : Nat → Prop) (w1 : World),RF S1 R1 w1 rb s → (∀ k,k < w0.heap.size → (S1 k ↔ S k)) → Fr (fun k=>k = fb) w0 w1 → Calls Tryz.prog 40 #[.pointer (some ⟨rb,0,none⟩),.int .i64 ref,.slice ao dl cp,.bool good,.int .i64 now] w1 fun e W'=>RActX S1 R1 w1 rb (s',os,er) e W'):=Lib.hid (fun S1 R1 w1 hr hs1 hf1=>by
   have hS1 : ∀ k,k = fb → S1 k:=fun k e=>(hs1 k (by rw [e];exact HJ.out.p.lt fb HJ.out.p.f)).2 (e ▸ HJ.out.p.f)
   have HD1:=(HD0.to (S':=S1) (fun k hk e=>(hs1 k hk).1 e)).fr (hf1.mono hS1)
   have HRD1:=(HRD0.to (S':=S1) (fun k hk e=>(hs1 k hk).1 e)).fr hf1 hS1
   have:=rworked58_any S1 R1 w1 rb s hr HL.out ref good now ao dl cp ds HD1 HB1
   rwa [hcc] at this)
  clear hcc HB1 HB2 HD0 HRD0 HW HNN
  go_upto_region 26 with (first | (go_at_call 39;refine HPA.out.mono ?_;intro e w1 hA;obtain ⟨v,S1,R1,xm,rfl,ho,hp,hr,hR,hn,hf1,hs1⟩:=HJ.out.mid hA;have HO1:=Lib.hid ho;have HP1:=Lib.hid hp;have HR1:=Lib.hid hr;have HM1:=Lib.hid (And.intro hR (And.intro hn (And.intro hf1 hs1)));have HPB1:=Lib.hid (HP0.out.fr hf1 NPB.out);clear hA ho hp hr hR hn hf1 hs1 d0 d1 d2 d3 d4 d5 d6 d7 d8 d9) | go_in)
  have d2:=HPB1.out.cell 2
  have d4:=HPB1.out.cell 4
  have d6:=HPB1.out.cell 6
  simp only [lA,lB,lC] at d2 d4 d6
  go_upto_region 33 with (first | (go_at_call 40;refine (HRA.out S1 R1 w1 HR1.out HM1.out.2.2.2 HM1.out.2.2.1).mono ?_;intro e w2 hA;obtain ⟨v2,rfl,ho2,ho1,hjo⟩:=HJ.out.fin HO1.out HP1.out HR1.out HM1.out.1 HM1.out.2.1 HM1.out.2.2.1 HM1.out.2.2.2 hA;have HO2:=Lib.hid ho2;have HO1':=Lib.hid ho1;have HJO:=Lib.hid hjo;clear hA ho2 ho1 hjo d2 d4 d6) | go_in)
  go_wp2_with (first | (go_at_call 45;refine (outs_any w2 _ _ _ _ os HO1'.out HO2.out HOB.out.1 HOB.out.2).mono ?_;rintro e w3 ⟨rfl,hf3⟩;have HF3:=Lib.hid hf3;clear hf3) | go_in)
  go_ret
  exact ⟨rfl,JOut.behind HF0.out (HJO.out.more HF3.out)⟩
 have q7 : (op == 7) = false:=by simp [h7]
 by_cases h8 : op = 8
 ·subst h8
  have HDL:=Lib.hid HOK.out.1.len
  have HCE : Hid (stepC s ⟨8,own,ref,turn,ds,l,good,kind,id,wait⟩ now = (s',os,er)):=HC
  have hcc:=HCE.out
  unfold stepC at hcc
  rw [if_neg (by show ¬ (8 : Int) = 1;decide),if_neg (by show ¬ (8 : Int) = 2;decide),if_neg (by show ¬ (8 : Int) = 3;decide),if_neg (by show ¬ (8 : Int) = 4;decide),if_neg (by show ¬ (8 : Int) = 5;decide),if_neg (by show ¬ (8 : Int) = 6;decide),if_neg (by show ¬ (8 : Int) = 7;decide),if_pos (by show (8 : Int) = 8;rfl)] at hcc
  try dsimp only at hcc
  have HB1 : ∀ u ∈ ds,u.oneCell' = true:=HOK.out.2.1.one
  have HB2 : ∀ x ∈ l,∀ u ∈ x.d,u.oneCell' = true:=fun x hx=>(HOK.out.2.2.2.2.2.1 x hx).one
  have HD0:=HOK.out.1
  have HRD0:=HOK.out.2.2.2.2.1
  have HW:=HOK.out.2.2.2.2.2.2
  have HNN:=HOK.out.2.2.1
  dsimp only at HD0 HRD0 HW HNN HB1 HB2
  have HPA:=Lib.hid (p_fire S w0 fb mb s HJ.out.p HI.out HL.out now kind ref turn HW)
  rw [hcc] at HPA
  have HRA : Hid (∀ (S1 R1 : Nat → Prop) (w1 : World),RF S1 R1 w1 rb s → (∀ k,k < w0.heap.size → (S1 k ↔ S k)) → Fr (fun k=>k = fb) w0 w1 → Calls Tryz.prog 42 #[.pointer (some ⟨rb,0,none⟩),.int .i64 kind,.int .i64 ref,.int .i64 turn,.int .i64 now] w1 fun e W'=>RActX S1 R1 w1 rb (s',os,er) e W'):=Lib.hid (fun S1 R1 w1 hr hs1 hf1=>by
   have hS1 : ∀ k,k = fb → S1 k:=fun k e=>(hs1 k (by rw [e];exact HJ.out.p.lt fb HJ.out.p.f)).2 (e ▸ HJ.out.p.f)
   have HD1:=(HD0.to (S':=S1) (fun k hk e=>(hs1 k hk).1 e)).fr (hf1.mono hS1)
   have HRD1:=(HRD0.to (S':=S1) (fun k hk e=>(hs1 k hk).1 e)).fr hf1 hS1
   have:=rfire_any S1 R1 w1 rb s hr HL.out kind ref turn now
   rwa [hcc] at this)
  clear hcc HB1 HB2 HD0 HRD0 HW HNN
  go_upto_region 29 with (first | (go_at_call 41;refine HPA.out.mono ?_;intro e w1 hA;obtain ⟨v,S1,R1,xm,rfl,ho,hp,hr,hR,hn,hf1,hs1⟩:=HJ.out.mid hA;have HO1:=Lib.hid ho;have HP1:=Lib.hid hp;have HR1:=Lib.hid hr;have HM1:=Lib.hid (And.intro hR (And.intro hn (And.intro hf1 hs1)));have HPB1:=Lib.hid (HP0.out.fr hf1 NPB.out);clear hA ho hp hr hR hn hf1 hs1 d0 d1 d2 d3 d4 d5 d6 d7 d8 d9) | go_in)
  have d7:=HPB1.out.cell 7
  have d2:=HPB1.out.cell 2
  have d3:=HPB1.out.cell 3
  simp only [lA,lB,lC] at d7 d2 d3
  go_upto_region 33 with (first | (go_at_call 42;refine (HRA.out S1 R1 w1 HR1.out HM1.out.2.2.2 HM1.out.2.2.1).mono ?_;intro e w2 hA;obtain ⟨v2,rfl,ho2,ho1,hjo⟩:=HJ.out.fin HO1.out HP1.out HR1.out HM1.out.1 HM1.out.2.1 HM1.out.2.2.1 HM1.out.2.2.2 hA;have HO2:=Lib.hid ho2;have HO1':=Lib.hid ho1;have HJO:=Lib.hid hjo;clear hA ho2 ho1 hjo d7 d2 d3) | go_in)
  go_wp2_with (first | (go_at_call 45;refine (outs_any w2 _ _ _ _ os HO1'.out HO2.out HOB.out.1 HOB.out.2).mono ?_;rintro e w3 ⟨rfl,hf3⟩;have HF3:=Lib.hid hf3;clear hf3) | go_in)
  go_ret
  exact ⟨rfl,JOut.behind HF0.out (HJO.out.more HF3.out)⟩
 have q8 : (op == 8) = false:=by simp [h8]
 by_cases h9 : op = 9
 ·subst h9
  have HDL:=Lib.hid HOK.out.1.len
  have HCE : Hid (stepC s ⟨9,own,ref,turn,ds,l,good,kind,id,wait⟩ now = (s',os,er)):=HC
  have hcc:=HCE.out
  unfold stepC at hcc
  rw [if_neg (by show ¬ (9 : Int) = 1;decide),if_neg (by show ¬ (9 : Int) = 2;decide),if_neg (by show ¬ (9 : Int) = 3;decide),if_neg (by show ¬ (9 : Int) = 4;decide),if_neg (by show ¬ (9 : Int) = 5;decide),if_neg (by show ¬ (9 : Int) = 6;decide),if_neg (by show ¬ (9 : Int) = 7;decide),if_neg (by show ¬ (9 : Int) = 8;decide),if_pos (by show (9 : Int) = 9;rfl)] at hcc
  try dsimp only at hcc
  rw [HDL.out] at hcc
  have HB1 : ∀ u ∈ ds,u.oneCell' = true:=HOK.out.2.1.one
  have HB2 : ∀ x ∈ l,∀ u ∈ x.d,u.oneCell' = true:=fun x hx=>(HOK.out.2.2.2.2.2.1 x hx).one
  have HD0:=HOK.out.1
  have HRD0:=HOK.out.2.2.2.2.1
  have HW:=HOK.out.2.2.2.2.2.2
  have HNN:=HOK.out.2.2.1
  dsimp only at HD0 HRD0 HW HNN HB1 HB2
  have HPA:=Lib.hid (p_child S w0 fb mb s HJ.out.p HI.out HL.out now id kind ao dl cp ds HD0 HB1)
  rw [hcc] at HPA
  have HRA : Hid (∀ (S1 R1 : Nat → Prop) (w1 : World),RF S1 R1 w1 rb s → (∀ k,k < w0.heap.size → (S1 k ↔ S k)) → Fr (fun k=>k = fb) w0 w1 → Calls Tryz.prog 44 #[.pointer (some ⟨rb,0,none⟩),.int .i64 id,.int .i64 kind,.slice ao dl cp,.int .i64 now] w1 fun e W'=>RActX S1 R1 w1 rb (s',os,er) e W'):=Lib.hid (fun S1 R1 w1 hr hs1 hf1=>by
   have hS1 : ∀ k,k = fb → S1 k:=fun k e=>(hs1 k (by rw [e];exact HJ.out.p.lt fb HJ.out.p.f)).2 (e ▸ HJ.out.p.f)
   have HD1:=(HD0.to (S':=S1) (fun k hk e=>(hs1 k hk).1 e)).fr (hf1.mono hS1)
   have HRD1:=(HRD0.to (S':=S1) (fun k hk e=>(hs1 k hk).1 e)).fr hf1 hS1
   have:=rchild_x S1 R1 w1 rb s hr HL.out id kind now ao dl cp ds HD1 HB1
   rwa [hcc] at this)
  clear hcc HB1 HB2 HD0 HRD0 HW HNN
  go_upto_region 32 with (first | (go_at_call 43;refine HPA.out.mono ?_;intro e w1 hA;obtain ⟨v,S1,R1,xm,rfl,ho,hp,hr,hR,hn,hf1,hs1⟩:=HJ.out.mid hA;have HO1:=Lib.hid ho;have HP1:=Lib.hid hp;have HR1:=Lib.hid hr;have HM1:=Lib.hid (And.intro hR (And.intro hn (And.intro hf1 hs1)));have HPB1:=Lib.hid (HP0.out.fr hf1 NPB.out);clear hA ho hp hr hR hn hf1 hs1 d0 d1 d2 d3 d4 d5 d6 d7 d8 d9) | go_in)
  have d8:=HPB1.out.cell 8
  have d7:=HPB1.out.cell 7
  have d4:=HPB1.out.cell 4
  simp only [lA,lB,lC] at d8 d7 d4
  go_upto_region 33 with (first | (go_at_call 44;refine (HRA.out S1 R1 w1 HR1.out HM1.out.2.2.2 HM1.out.2.2.1).mono ?_;intro e w2 hA;obtain ⟨v2,rfl,ho2,ho1,hjo⟩:=HJ.out.fin HO1.out HP1.out HR1.out HM1.out.1 HM1.out.2.1 HM1.out.2.2.1 HM1.out.2.2.2 hA;have HO2:=Lib.hid ho2;have HO1':=Lib.hid ho1;have HJO:=Lib.hid hjo;clear hA ho2 ho1 hjo d8 d7 d4) | go_in)
  go_wp2_with (first | (go_at_call 45;refine (outs_any w2 _ _ _ _ os HO1'.out HO2.out HOB.out.1 HOB.out.2).mono ?_;rintro e w3 ⟨rfl,hf3⟩;have HF3:=Lib.hid hf3;clear hf3) | go_in)
  go_ret
  exact ⟨rfl,JOut.behind HF0.out (HJO.out.more HF3.out)⟩
 have q9 : (op == 9) = false:=by simp [h9]
 have hcc:=HC.out
 unfold stepC at hcc
 rw [if_neg (by show ¬ op = 1;exact h1),if_neg (by show ¬ op = 2;exact h2),if_neg (by show ¬ op = 3;exact h3),if_neg (by show ¬ op = 4;exact h4),if_neg (by show ¬ op = 5;exact h5),if_neg (by show ¬ op = 6;exact h6),if_neg (by show ¬ op = 7;exact h7),if_neg (by show ¬ op = 8;exact h8),if_neg (by show ¬ op = 9;exact h9)] at hcc
 cases hcc
 clear h1 h2 h3 h4 h5 h6 h7 h8 h9 d1 d2 d3 d4 d5 d6 d7 d8 d9
 go_wp2_with (first | (go_at_call 45;refine (outs_any w0 0 0 _ _ [] (Outs.nil _ _) (Outs.nil _ _) (fun o ho=>by cases ho) (by decide)).mono ?_;rintro e w3 ⟨rfl,hf3⟩;have HF3:=Lib.hid hf3;clear hf3) | go_in)
 go_ret
 exact ⟨rfl,JOut.behind HF0.out (HJ.out.out HF3.out)⟩
end Go.Proofs.YtnkelaohcbdjnaaGreat
