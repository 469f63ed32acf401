/- The law of FlowGrows: its walk. -/
import Derived.Test.YtnkelaohcbdjnaaGreatOl
import Derived.Test.YtnkelaohcbdjnaaGreatYz
import Derived.Test.YtnkelaohcbdjnaaGreatGd
import Derived.Test.YtnkelaohcbdjnaaGreatPg
set_option linter.unusedVariables false
set_option linter.unusedSimpArgs false
namespace Go.Proofs.YtnkelaohcbdjnaaGreat
open Go.RowKit Go.Maps Ev
theorem own_row {W : World} {B : Nat} {v : Value} {L : List Ev.Ev} (h : OwnV W B v L) : ∃ ao cp,v = .slice ao L.length cp ∧ L.length ≤ cp ∧ RowV W ao L:=by
 rcases h.form with ⟨rfl,h1⟩ | ⟨g,cp,rfl,h1,h2,h3,h4,h5,h6⟩
 ·exact ⟨none,0,by rw [h1];rfl,by rw [h1];exact Nat.le_refl _,.inl h1⟩
 ·exact ⟨_,cp,rfl,h3,.inr ⟨g,0,rfl,h2,fun i e he j u hj=>by rw [Nat.zero_add];exact h6 i e he j u hj⟩⟩
/-- a history that was told,beside the runs -/
structure Was (S : Nat → Prop) (W : World) (v : Value) (l : List Rv) (L : List Ev.Ev) : Prop where
 own : ∃ B,OwnV W B v L
 len : L.length = l.length
 tells : Tells S W l L
 off : ∀ k,v.ownBlock = some k → ¬ S k
theorem Was.step {S S' : Nat → Prop} {W W' : World} {v : Value} {l : List Rv} {L : List Ev.Ev} (h : Was S W v l L) (hf : Fr S W W') (hs : ∀ k,k < W.heap.size → (S' k ↔ S k)) : Was S' W' v l L:=by
 obtain ⟨B,hB⟩:=h.own
 exact ⟨⟨B,hB.fr hf h.off⟩,h.len,((h.tells.to (S':=fun k=>S k ∨ S' k) (fun k hk e=>e.elim id (hs k hk).1)).fr hf (fun k e=>.inl e)).to (S':=S') (fun k _ e=>.inr e),fun k hk e=>h.off k hk ((hs k (hB.ob hk).2.1).1 e)⟩
theorem Was.fr0 {S : Nat → Prop} {W W' : World} {v : Value} {l : List Rv} {L : List Ev.Ev} (h : Was S W v l L) (hf : Fr (fun _=>False) W W') : Was S W' v l L:=h.step (hf.mono fun _ e=>e.elim) (fun _ _=>Iff.rfl)
theorem Was.new {S : Nat → Prop} {W W' : World} {v : Value} {l : List Rv} {L : List Ev.Ev} (h1 : OwnV W' W.heap.size v L) (h2 : L.length = l.length) (h3 : Tells (fun k=>v.ownBlock = some k ∨ k < W.heap.size) W' l L) (hlt : ∀ k,S k → k < W.heap.size) : Was S W' v l L:=
 ⟨⟨_,h1⟩,h2,h3.to (fun k _ e=>.inr (hlt k e)),fun k hk e=>by have:=(h1.ob hk).1;have:=hlt k e;omega⟩
theorem prefix_was {S T : Nat → Prop} {W : World} {v v2 : Value} {l l2 : List Rv} {L L2 : List Ev.Ev} (h : Was S W v l L) (k : Was T W v2 l2 L2) (hp : l <+: l2) (hb : BytL l2) (hn : l2.length ≤ 100000) : Calls Tryz.prog 11 #[v,v2] W fun r W'=>r = .returned (.bool true) ∧ Fr (fun _=>False) W W':=by
 obtain ⟨B,hB⟩:=h.own
 obtain ⟨B2,hB2⟩:=k.own
 obtain ⟨ao,cp,rfl,_,h1⟩:=own_row hB
 obtain ⟨ap,cq,rfl,h4,h2⟩:=own_row hB2
 obtain ⟨t,rfl⟩:=hp
 refine prefix_any W ao ap cp cq _ _ L L2 h1 h2 rfl rfl ?_ h4 (by rw [k.len];exact hn) (fun i x y hx hy=>?_)
 ·rw [h.len,k.len,List.length_append]
  omega
 ·have hi : i < l.length:=by rw [← h.len];exact (List.getElem?_eq_some_iff.1 hx).1
  obtain ⟨e,he⟩ : ∃ e,l[i]? = some e:=⟨_,List.getElem?_eq_getElem hi⟩
  have he2 : (l ++ t)[i]? = some e:=by rw [List.getElem?_append_left hi];exact he
  obtain ⟨a1,a2,a3,a4,a5,a6,a7,a8⟩:=h.tells i e x he hx
  obtain ⟨b1,b2,b3,b4,b5,b6,b7,b8⟩:=k.tells i e y he2 hy
  obtain ⟨q,hq⟩:=hb e (List.mem_of_getElem? he2)
  rw [hq] at a8 b8
  exact ⟨⟨by rw [a1,b1],by rw [a2,b2],by rw [a3,b3],by rw [a4,b4],by rw [a5,b5],by rw [a6,b6],by rw [a7,b7]⟩,q,a8.to (fun _ _ e=>e.elim),b8.to (fun _ _ e=>e.elim)⟩
theorem check_was {S : Nat → Prop} {W : World} {v : Value} {l : List Rv} {L : List Ev.Ev} (h : Was S W v l L) (hg : Gd l) (hn : l.length ≤ 100000) : Calls Tryz.prog 12 #[v] W fun r W'=>r = .returned .nilIface ∧ Fr (fun _=>False) W W':=by
 obtain ⟨B,hB⟩:=h.own
 obtain ⟨ao,cp,rfl,_,h1⟩:=own_row hB
 have hgd:=good_tells h.tells h.len hg
 refine (Ev.check_any W ao cp L h1 (by rw [h.len];exact hn)).mono ?_
 rintro r w1 ⟨hf,⟨rfl,_⟩ | ⟨i,e,b,h7,h8,h9,_⟩⟩
 ·exact ⟨rfl,hf⟩
 ·exact absurd (hgd i e (List.getElem?_eq_some_iff.1 h7).1 h7) h9
/-- behind a step: what was told is still told -/
theorem Run.stepW {B : Nat} {S R : Nat → Prop} {W W' : World} {fb mb rb : Nat} {s : FSt} {q : Nat} (h : Run B S R W fb mb rb s q) (hq : q ≤ 120) (hB : B ≤ W.heap.size) (a : ActV) (hjo : JOut S W fb rb (stepC s a (q : Int)).1 W') : Fr (fun k=>B ≤ k) W W' ∧ s.l <+: (stepC s a (q : Int)).1.l ∧ ∃ S' R' mb',Run B S' R' W' fb mb' rb (stepC s a (q : Int)).1 (q + 1) ∧ Fr S W W' ∧ ∀ k,k < W.heap.size → (S' k ↔ S k):=by
 obtain ⟨S',R',mb',h1,h2,h3⟩:=hjo
 have hl:=h.len hq
 have hk:=step_kept h.i h.at_ (by omega) a
 have hs:=step_small h.i (q : Int) (by omega) a
 exact ⟨h3.mono h.S,hk.grow,S',R',mb',⟨h1,hk.inv,right_up hk.at_ (by omega),by have:=h.pot;have:=hs.pot;omega,hs.at_ h.wf,fun k e=>by
  rcases Nat.lt_or_ge k W.heap.size with hlt | hge
  ·exact h.S k ((h2 k hlt).1 e)
  ·omega⟩,h3,h2⟩
theorem ne_len {l : List Rv} (h : l ≠ []) : 1 ≤ l.length:=by
 cases l with
 | nil=>exact absurd rfl h
 | cons a l=>simp
set_option maxRecDepth 100000 in
set_option maxHeartbeats 16000000 in
theorem grows_walk (W : World) (a : Option Addr) (len cap : Nat) (L : List ActV) (hlen : L.length = len) (hcap : len ≤ cap) (hmax : cap ≤ maxLen) (hrow : RowAc (fun k=>W.heap.size ≤ k) W a L) :
 Calls Tryz.prog 3 #[.slice a len cap] W fun e W'=>e = .returned (.bool true) ∧ Fr (fun _=>False) W W':=by
 obtain ⟨B,hB⟩ : ∃ B,W.heap.size = B:=⟨_,rfl⟩
 rw [hB] at hrow
 have HB:=Lib.hid hB
 have HW:=Lib.hid (known_any W)
 have HROW0:=Lib.hid hrow
 have HLEN:=Lib.hid (And.intro hlen (And.intro hcap hmax))
 clear hlen hcap hmax hrow hB
 go_enter Tryz.func3,Tryz.ntmps3
 go_upto_region 3 with (first | (go_at_call 4;refine HW.out.mono ?_;rintro e w1 ⟨rfl,hf1⟩;have HF1:=Lib.hid hf1;clear hf1) | go_in)
 have HFEW:=Lib.hid (few_any _ w1 a len cap L HLEN.out.1 HLEN.out.2.1 HLEN.out.2.2 (HROW0.out.fr (HF1.out.mono fun _ e=>e.elim) (fun k e=>e)))
 go_wp2_with fail
 refine HFEW.out.mono ?_
 rintro e w2 ⟨bf,rfl,hbf,hf2⟩
 have HF2:=Lib.hid (HF1.out.trans hf2)
 have HBF:=Lib.hid hbf
 clear hf2 hbf HFEW
 cases bf with
 | false=>
   go_wp2
   go_ret
   exact ⟨rfl,HF2.out⟩
 | true=>
   have H120 : Hid (len ≤ 120):=Lib.hid (HBF.out rfl)
   clear HBF
   have HN1 : Hid (Calls Tryz.prog 6 #[.int .i64 3,.int .i64 1,.int .i64 0,.int .i64 7,.slice none 0 0,.int .i64 0] w2 fun e W'=>∃ (v : Value) (fb mb : Nat),e = .returned (.tuple #[.pointer (some ⟨fb,0,none⟩),v,.int .i64 0]) ∧ w2.heap.size ≤ fb ∧ w2.heap.size ≤ mb ∧ PF (fun k=>k = fb ∨ k = mb) W' fb mb (begun1 3 1 0 7 0 []) ∧ Outs w2.heap.size W' v [⟨1,0,2,0,0,0,0,[]⟩] ∧ Fr (fun _=>False) w2 W'):=Lib.hid (new_any w2 3 1 0 7 0 (by omega) (by omega) (by omega) (by omega) (by omega) none 0 0 [] (RowB.nil _ _) (by omega) (by simp))
   go_upto_region 9 with (first | (go_at_call 6;refine HN1.out.mono ?_;rintro e w3 ⟨v3,fb,mb,rfl,hfb,hmb,hpf,_,hf3⟩;have HPF:=Lib.hid hpf;have HFB:=Lib.hid (And.intro hfb hmb);have HF3:=Lib.hid (HF2.out.trans hf3);have HN2:=Lib.hid (rnew_any (fun k=>k = fb ∨ k = mb) w3 hpf.lt);clear hpf hfb hmb hf3 HN1) | (go_at_call 7;refine HN2.out.mono ?_;rintro e w4 ⟨v4,rb,S0,R0,rfl,_,hs4,hrf,hf4⟩;have HR0 : Hid (Run B S0 R0 w4 fb mb rb (begun1 3 1 0 7 0 []) 0):=Lib.hid (Run.start HB.out HPF.out (by have:=HFB.out;have:=HF2.out.size;have:=HB.out;omega) (by have:=HFB.out;have:=HF2.out.size;have:=HB.out;omega) HF3.out.size hs4 hrf hf4);have HF4:=Lib.hid (HF3.out.trans hf4);clear hs4 hrf hf4 HN2) | go_in)
   clear HPF HFB HF3
   have HE0:=Lib.hid (events_any S0 w4 fb mb _ HR0.out.j.p.fl (ne_len HR0.out.i.ne) (by have:=HR0.out.len (by omega);omega))
   go_upto_region 10 with (first | (go_at_call 8;refine HE0.out.mono ?_;rintro e w5 ⟨v5,L5,rfl,ho5,hl5,ht5,hf5⟩;have HWAS0 : Hid (Was S0 w5 v5 (begun1 3 1 0 7 0 []).l L5):=Lib.hid (Was.new ho5 hl5 ht5 HR0.out.j.p.lt);have HR5:=Lib.hid (HR0.out.fr0 hf5);have HF5:=Lib.hid (HF4.out.trans hf5);clear ho5 hl5 ht5 hf5 HE0) | go_in)
   go_wp2_with fail
   go_loopw [9,10] (fun wv iv wz=>∃ (q : Nat) (sq : FSt) (S R : Nat → Prop) (mq : Nat) (v : Value) (LE : List Ev.Ev),v = wv ∧ iv = .int .i64 q ∧ q ≤ len ∧ Run B S R wz fb mq rb sq q ∧ Was S wz v sq.l LE ∧ BytL sq.l ∧ Fr (fun _=>False) W wz) (fun _ iv _=>len - (intOf iv).toNat)
   case atStart=>exact ⟨0,_,S0,R0,mb,_,L5,rfl,rfl,Nat.zero_le _,HR5.out,HWAS0.out,BytL.start,HF5.out⟩
   case round=>
    obtain ⟨q,sq,S,R,mq,v,LE,rfl,rfl,hq,hrun,hwas,hbyt,hfz⟩:=hrel
    have HRUN:=Lib.hid hrun
    have HWAS:=Lib.hid hwas
    have HBYT:=Lib.hid hbyt
    have HFZ:=Lib.hid hfz
    have HQ : Hid (q ≤ 120):=Lib.hid (by have:=H120.out;omega)
    clear hrun hfz hwas hbyt HR5 HWAS0 HF5 HR0 HF4
    by_cases hlt : q < len
    rotate_left
    ·have p1 : decide ((q : Int) < (len : Int)) = false:=decide_eq_false (by omega)
     have p1' : decide (q < len) = false:=decide_eq_false (by omega)
     clear hlt hq
     go_wp2
     go_ret
     exact ⟨rfl,HFZ.out⟩
    have HQ2 : Hid (q + 1 ≤ 120):=Lib.hid (by have:=H120.out;omega)
    obtain ⟨x,hx⟩ : ∃ x,L[q]? = some x:=⟨_,List.getElem?_eq_getElem (by rw [HLEN.out.1];exact hlt)⟩
    obtain ⟨b,o,ad,dl,cp,al,dn,cp2,hao,hok,hcell⟩:=(HROW0.out.fr (HFZ.out.mono fun _ e=>e.elim) (fun k e=>e)).at_ hx
    have HOK:=Lib.hid hok
    subst hao
    have y0 : wr.cell? ⟨b,o + q * 10,none⟩ = some (.int .i64 x.op):=hcell 0 _ rfl
    have y1 : wr.cell? ⟨b,o + q * 10 + 1,none⟩ = some (.bool x.own):=hcell 1 _ rfl
    have y2 : wr.cell? ⟨b,o + q * 10 + 2,none⟩ = some (.int .i64 x.ref):=hcell 2 _ rfl
    have y3 : wr.cell? ⟨b,o + q * 10 + 3,none⟩ = some (.int .i64 x.turn):=hcell 3 _ rfl
    have y4 : wr.cell? ⟨b,o + q * 10 + 4,none⟩ = some (.slice ad dl cp):=hcell 4 _ rfl
    have y5 : wr.cell? ⟨b,o + q * 10 + 5,none⟩ = some (.slice al dn cp2):=hcell 5 _ rfl
    have y6 : wr.cell? ⟨b,o + q * 10 + 6,none⟩ = some (.bool x.good):=hcell 6 _ rfl
    have y7 : wr.cell? ⟨b,o + q * 10 + 7,none⟩ = some (.int .i64 x.kind):=hcell 7 _ rfl
    have y8 : wr.cell? ⟨b,o + q * 10 + 8,none⟩ = some (.int .i64 x.id):=hcell 8 _ rfl
    have y9 : wr.cell? ⟨b,o + q * 10 + 9,none⟩ = some (.int .i64 x.wait):=hcell 9 _ rfl
    have p1 : decide ((q : Int) < (len : Int)) = true:=decide_eq_true (by omega)
    have p1' : decide (q < len) = true:=decide_eq_true (by omega)
    have hq0 : (0 : Int) ≤ (q : Int) ∧ (q : Int) < (len : Int):=by omega
    have HLT:=Lib.hid hlt
    have HWQ : Hid (wrap64 ((q : Int) + 1) = ((q + 1 : Nat) : Int)):=Lib.hid (by have:=HQ.out;rw [wrap64];omega)
    have HOWN : Hid (Calls Tryz.prog 9 #[.pointer (some ⟨rb,0,none⟩),.agg #[.int .i64 x.op,.bool x.own,.int .i64 x.ref,.int .i64 x.turn,.slice ad dl cp,.slice al dn cp2,.bool x.good,.int .i64 x.kind,.int .i64 x.id,.int .i64 x.wait]] wr fun e W'=>∃ ref' turn',wfI ref' ∧ e = .returned (.agg #[.int .i64 x.op,.bool x.own,.int .i64 ref',.int .i64 turn',.slice ad dl cp,.slice al dn cp2,.bool x.good,.int .i64 x.kind,.int .i64 x.id,.int .i64 x.wait]) ∧ Fr (fun _=>False) wr W'):=Lib.hid (own_any S R wr rb sq HRUN.out.j.r (by have:=HRUN.out.len HQ.out;omega) x.op x.own x.ref x.turn ad dl cp al dn cp2 x.good x.kind x.id x.wait HOK.out.2.2.2.2.2.2 (wfI.of (by have:=HRUN.out.wf;have:=HRUN.out.len HQ.out;omega)))
    clear hx hok hcell hlt hq
    go_upto_region 14 with (first | (go_at_call 9;refine HOWN.out.mono ?_;rintro e w5b ⟨ref',turn',hwf,rfl,hf5⟩;have HWF:=Lib.hid hwf;have HF5:=Lib.hid hf5;clear hwf hf5 y0 y1 y2 y3 y4 y5 y6 y7 y8 y9) | go_in)
    have hXB:=Blk.new w5b 39 #[.int .i64 x.op,.bool x.own,.int .i64 ref',.int .i64 turn',.slice ad dl cp,.slice al dn cp2,.bool x.good,.int .i64 x.kind,.int .i64 x.id,.int .i64 x.wait]
    have hf6 : Fr (fun _=>False) w5b (w5b.alloc (.cells #[.int .i64 x.op,.bool x.own,.int .i64 ref',.int .i64 turn',.slice ad dl cp,.slice al dn cp2,.bool x.good,.int .i64 x.kind,.int .i64 x.id,.int .i64 x.wait] 39)):=Fr.alloc _ _ _
    obtain ⟨w6,hw6⟩ : ∃ w,w5b.alloc (.cells #[.int .i64 x.op,.bool x.own,.int .i64 ref',.int .i64 turn',.slice ad dl cp,.slice al dn cp2,.bool x.good,.int .i64 x.kind,.int .i64 x.id,.int .i64 x.wait] 39) = w:=⟨_,rfl⟩
    rw [hw6] at hXB hf6 ⊢
    obtain ⟨xb,hxb⟩ : ∃ b,w5b.heap.size = b:=⟨_,rfl⟩
    rw [hxb] at hXB ⊢
    have HF6 : Hid (Fr (fun _=>False) wr w6):=Lib.hid (HF5.out.trans hf6)
    have HXB:=Lib.hid hXB
    have NXB : Hid (B ≤ w6.heap.size):=Lib.hid (by have:=HFZ.out.size;have:=HF6.out.size;have:=HB.out;omega)
    have HRUN6:=Lib.hid (HRUN.out.fr0 HF6.out)
    obtain ⟨A,hA⟩ : ∃ A : ActV,A = ⟨x.op,x.own,ref',turn',x.d,x.l,x.good,x.kind,x.id,x.wait⟩:=⟨_,rfl⟩
    have HAOK : Hid (ActOk S w6 A ad dl cp al dn cp2):=Lib.hid (by
     have h1:=(HOK.out.fr (HF6.out.mono fun _ e=>e.elim) (fun k e=>e)).to (S':=S) (fun k hk e=>HRUN.out.S k e)
     obtain ⟨a1,a2,a3,a4,a5,a6,a7⟩:=h1
     rw [hA]
     exact ⟨a1,a2,a3,a4,a5,a6,HWF.out⟩)
    have HSTEP : Hid (Calls Tryz.prog 10 #[.pointer (some ⟨fb,0,none⟩),.pointer (some ⟨rb,0,none⟩),.agg #[.int .i64 x.op,.bool x.own,.int .i64 ref',.int .i64 turn',.slice ad dl cp,.slice al dn cp2,.bool x.good,.int .i64 x.kind,.int .i64 x.id,.int .i64 x.wait],.int .i64 (q : Int)] w6 fun e W'=>e = .returned (.bool true) ∧ JOut S w6 fb rb (stepC sq A (q : Int)).1 W'):=Lib.hid (by
     have:=HAOK.out
     rw [hA] at this ⊢
     exact step_any S R w6 fb mq rb sq HRUN6.out.j HRUN6.out.i (by have:=HRUN.out.len HQ.out;omega) x.op x.own ref' turn' x.d x.l x.good x.kind x.id x.wait ad dl cp al dn cp2 this (q : Int))
    have z0:=hXB.cell 0
    have z1:=HXB.out.cell 1
    have z2:=HXB.out.cell 2
    have z3:=HXB.out.cell 3
    have z4:=HXB.out.cell 4
    have z5:=HXB.out.cell 5
    have z6:=HXB.out.cell 6
    have z7:=HXB.out.cell 7
    have z8:=HXB.out.cell 8
    have z9:=HXB.out.cell 9
    simp only [lA,lB,lC] at z0 z1 z2 z3 z4 z5 z6 z7 z8 z9
    clear hw6 hxb hXB hf6 hA
    go_upto_region 16 with (first | (go_at_call 10;refine HSTEP.out.mono ?_;rintro e w7 ⟨rfl,hjo⟩;have HJO:=Lib.hid hjo;clear hjo z0 z1 z2 z3 z4 z5 z6 z7 z8 z9) | go_in)
    obtain ⟨hf7,hpre,S7,R7,mb7,hr7,hfs,hss⟩:=HRUN6.out.stepW HQ.out NXB.out A HJO.out
    have HF7 : Hid (Fr (fun _=>False) W w7):=Lib.hid (fr_above (HFZ.out.trans HF6.out) HB.out hf7)
    have HW7 : Hid (Was S7 w7 v sq.l LE):=Lib.hid ((HWAS.out.fr0 HF6.out).step hfs hss)
    have HB7 : Hid (BytL (stepC sq A (q : Int)).1.l):=Lib.hid (step_bytes HBYT.out A _ HAOK.out.2.1 HAOK.out.2.2.2.2.2.1)
    obtain ⟨s7,hs7⟩ : ∃ s7,(stepC sq A (q : Int)).1 = s7:=⟨_,rfl⟩
    rw [hs7] at hr7 hpre HB7
    have HR7:=Lib.hid hr7
    have HPRE:=Lib.hid hpre
    have HL7 : Hid (s7.l.length ≤ 2162):=Lib.hid (hr7.len HQ2.out)
    have HE7:=Lib.hid (events_any S7 w7 fb mb7 s7 hr7.j.p.fl (ne_len hr7.i.ne) (by have:=HL7.out;omega))
    clear hf7 hpre hr7 hfs hss hs7 HJO HSTEP HOWN HAOK HWAS HBYT HRUN6 HRUN HXB
    go_upto_region 17 with (first | (go_at_call 8;refine HE7.out.mono ?_;rintro e w8 ⟨v8,L8,rfl,ho8,hl8,ht8,hf8⟩;have HW8 : Hid (Was S7 w8 v8 s7.l L8):=Lib.hid (Was.new ho8 hl8 ht8 HR7.out.j.p.lt);have HF8:=Lib.hid hf8;clear ho8 hl8 ht8 hf8 HE7) | go_in)
    have HPX:=Lib.hid (prefix_was (HW7.out.fr0 HF8.out) HW8.out HPRE.out HB7.out (by have:=HL7.out;omega))
    go_wp2_with (first | (go_at_call 11;refine HPX.out.mono ?_;rintro e w9 ⟨rfl,hf9⟩;have HF9:=Lib.hid (HF8.out.trans hf9);have HCK:=Lib.hid (check_was (HW8.out.fr0 hf9) HR7.out.i.g (by have:=HL7.out;omega));have HW9:=Lib.hid (HW8.out.fr0 hf9);clear hf9) | (go_at_call 12;refine HCK.out.mono ?_;rintro e w10 ⟨rfl,hf10⟩;have HF10:=Lib.hid (HF9.out.trans hf10);have HW10:=Lib.hid (HW9.out.fr0 hf10);clear hf10) | go_in)
    go_roundw
    case rel=>exact ⟨q + 1,s7,S7,R7,mb7,v8,L8,rfl,congrArg (Value.int .i64) HWQ.out,HLT.out,HR7.out.fr0 HF10.out,HW10.out,HB7.out,HF7.out.trans HF10.out⟩
    case measure=>rw [HWQ.out];simp only [intOf];have:=HLT.out;omega
theorem grows_law2 (W : World) (a : Option Addr) (len cap : Nat) (h : ∃ L : List ActV,L.length = len ∧ len ≤ cap ∧ cap ≤ maxLen ∧ RowAc (fun k=>W.heap.size ≤ k) W a L) :
 Calls Tryz.prog 3 #[.slice a len cap] W fun e W'=>e = .returned (.bool true) ∧ Below W.heap.size W W':=by
 obtain ⟨L,h1,h2,h3,h4⟩:=h
 exact (grows_walk W a len cap L h1 h2 h3 h4).mono fun e W' hh=>⟨hh.1,hh.2.below (Nat.le_refl _) (fun _ e=>e.elim)⟩
end Go.Proofs.YtnkelaohcbdjnaaGreat
