/- The document's Decide. -/
import Derived.Test.YtnkelaohcbdjnaaGreatRj
import Derived.Test.YtnkelaohcbdjnaaGreatRk
import Derived.Deep.QuietTactic
import Derived.BigQuiet
set_option linter.unusedVariables false
set_option linter.unusedSimpArgs false
namespace Go.Proofs.YtnkelaohcbdjnaaGreat
open Go.RowKit Go.Maps Ev
theorem badL_may {id : Int} {asked : Bool} : ∀ (l : List Dv) (M : Int × Int → Bool),badL id asked M l = false → ∀ (q : Nat) (x : Dv),l[q]? = some x → mayD x = true ∧ (q + 1 < l.length → x.k < 5)
 | [],M,_,q,x,hx=>by simp at hx
 | y :: l,M,h,0,x,hx=>by
   obtain rfl : y = x:=by simpa using hx
   unfold badL at h
   rw [Bool.or_eq_false_iff] at h
   obtain ⟨a,b,_⟩:=wrongD_of h.1
   refine ⟨a,fun hq=>b ?_⟩
   cases l with
   | nil=>simp at hq
   | cons z l=>rfl
 | y :: l,M,h,q + 1,x,hx=>by
   unfold badL at h
   rw [Bool.or_eq_false_iff] at h
   have:=badL_may l _ h.2 q x (by simpa using hx)
   exact ⟨this.1,fun hq=>this.2 (by simpa using hq)⟩
theorem rbad_may {s : FSt} {l : List Dv} (h : rbadS s l = false) : l.length ≤ 32 ∧ ∀ (q : Nat) (x : Dv),l[q]? = some x → mayD x = true ∧ (q + 1 < l.length → x.k < 5):=by
 unfold rbadS at h
 rw [Bool.or_eq_false_iff,decide_eq_false_iff_not] at h
 exact ⟨by omega,badL_may l _ h.2⟩
theorem rdone_stat (s : FSt) (x : Dv) (now : Int) (hk : 1 ≤ x.k ∧ x.k ≤ 8) : statusK (rdoneS s x now).l = 1 ↔ x.k < 5:=by
 unfold rdoneS
 by_cases k1 : x.k = 1
 ·rw [if_pos k1]
  exact ⟨fun _=>by omega,fun _=>(status_snoc s.l _).trans (stOf_1 (.inl (by show (7 : Int) < 19;decide)))⟩
 rw [if_neg k1]
 by_cases k2 : x.k = 2
 ·rw [if_pos k2]
  exact ⟨fun _=>by omega,fun _=>(status_snoc s.l _).trans (stOf_1 (.inl (by show (12 : Int) < 19;decide)))⟩
 rw [if_neg k2]
 by_cases k4 : x.k = 4
 ·rw [if_pos k4]
  exact ⟨fun _=>by omega,fun _=>(status_snoc s.l _).trans (stOf_1 (.inl (by show (17 : Int) < 19;decide)))⟩
 rw [if_neg k4]
 by_cases k3 : x.k = 3
 ·rw [if_pos k3]
  exact ⟨fun _=>by omega,fun _=>(status_snoc s.l _).trans (stOf_1 (.inl (by show (14 : Int) < 19;decide)))⟩
 rw [if_neg k3]
 refine ⟨fun hs=>?_,fun hk5=>by omega⟩
 exfalso
 have e : statusK (shut s (if x.k = 8 then 19 else x.k + 15) now x.d).l = stOf (if x.k = 8 then 19 else x.k + 15):=status_snoc s.l _
 rw [e] at hs
 exact stOf_ne (by split <;> omega) hs
theorem rdone_late (s : FSt) (x : Dv) (now : Int) : (rdoneS s x now).late = s.late:=by
 unfold rdoneS
 repeat' split
 all_goals rfl
theorem rdone_len (s : FSt) (x : Dv) (now : Int) : (rdoneS s x now).l.length = s.l.length + 1:=by
 unfold rdoneS openedS shut
 repeat' split
 all_goals simp
/-- the row of outs behind a decision of the document's -/
theorem own_step {B : Nat} {P0 P : Prop} {W W' : World} {S R S2 R2 : Nat → Prop} {v : Value} {os : List Ov} (h : OwnX 104 (fun k=>k < B ∨ (P0 ∧ R k)) W B v os) (h0 : P0) (hs : Same2 W S R S2 R2) (hf : Fr R W W') (hB : B ≤ W.heap.size) (hn : ∀ k,v.ownBlock = some k → ¬ R k) : OwnX 104 (fun k=>k < B ∨ (P ∧ R2 k)) W' B v os:=by
 have h1:=h.to (X':=fun k=>(k < B ∨ (P0 ∧ R k)) ∨ (k < B ∨ (P ∧ R2 k))) (fun k hk e=>by
  rcases e with e | e | e
  ·exact e
  ·exact .inl e
  ·exact .inr ⟨h0,(hs k hk).2.1 e.2⟩)
 exact (h1.fr hf (fun k e=>.inl (.inr ⟨h0,e⟩)) hn).to (fun k _ e=>.inr e)
theorem outs_step {B : Nat} {P b : Prop} {W W' : World} {R2 : Nat → Prop} {v u : Value} {os : List Ov} (h : Outs W.heap.size W' v os) (hx : b → OutsX (fun q=>q < W.heap.size ∨ R2 q) W' v os) (hB : B ≤ W.heap.size) (hu : ∀ k,u.ownBlock = some k → k < W.heap.size) (hb : P → b) : OutsX (fun k=>(k < B ∨ (P ∧ R2 k)) ∨ u.ownBlock = some k) W' v os:=by
 by_cases hp : P
 ·refine (hx (hb hp)).to (fun k _ e=>?_)
  rcases e with (e | e) | e
  ·exact .inl (by omega)
  ·exact .inr e.2
  ·exact .inl (hu k e)
 ·refine h.toX (fun k _ e=>?_)
  rcases e with (e | e) | e
  ·omega
  ·exact absurd e.1 hp
  ·exact hu k e
/-- a decision's bytes,in no block that may be turned -/
theorem rowd_at {S R Sz Rz : Nat → Prop} {W W' : World} {ao : Option Addr} {l : List Dv} {q : Nat} {x : Dv} {b of : Nat} {va : Option Addr} {vc : Nat} (h : RowD S W ao l) (hf : Fr R W W') (hs : Same2 W S R Sz Rz) (hRS : ∀ k,R k → S k) (hx : l[q]? = some x) (hao : ao = some ⟨b,of,none⟩) (hcell : ∀ w',Fr (fun _=>False) W' w' → ∀ (j : Nat) (u : Value),(dvc x (.slice va x.d.length vc))[j]? = some u → w'.cell? ⟨b,of + q * 5 + j,none⟩ = some u) : RowB Sz W' (.slice va x.d.length vc) x.d:=by
 obtain ⟨b2,o2,va2,vc2,e,hr,hc⟩:=((h.to (S':=fun k=>Sz k ∨ R k) (fun k hk e=>e.elim (fun e=>(hs k hk).1.1 e) (hRS k))).fr hf (fun k e=>.inr e)).at_ hx
 rw [hao] at e
 cases e
 have h1:=hcell W' (Fr.refl _ _) 4 _ rfl
 have h2:=hc W' (Fr.refl _ _) 4 _ rfl
 rw [h1] at h2
 have:=Option.some.inj h2
 rw [this]
 exact hr.to (fun k _ e=>.inl e)
set_option maxRecDepth 100000 in
set_option maxHeartbeats 2000000 in
theorem rdecide_stale (S R : Nat → Prop) (W : World) (rb : Nat) (s : FSt) (h : RF S R W rb s) (hl : s.l.length ≤ 4000) (ref turn now : Int) (ao : Option Addr) (cp : Nat) (l : List Dv) (hrow : RowD S W ao l) (hcp : l.length ≤ cp) (hdd : ∀ x ∈ l,∀ u ∈ x.d,u.oneCell' = true) (hs : ¬ (s.task = 2 ∧ s.at_ = ref ∧ s.turn = turn)) :
 Calls Tryz.prog 36 #[.pointer (some ⟨rb,0,none⟩),.int .i64 ref,.int .i64 turn,.slice ao l.length cp,.int .i64 now] W fun e W'=>RActX S R W rb (rtryC s 0 now (rdecideC s ref turn l now)) e W':=by
 have HRDY:=Lib.hid (rready_any S R W rb s h none 0 0 now)
 have HRF:=Lib.hid h
 have HL:=Lib.hid hl
 unfold rtryC
 obtain ⟨er,her⟩ : ∃ x,readyE s 0 now = x:=⟨_,rfl⟩
 rw [her] at HRDY ⊢
 by_cases h0 : er = 0
 rotate_left
 ·rw [if_neg h0]
  have p0 : (er != 0) = true:=by simp [h0]
  clear h h0 her hl hrow hcp hdd hs
  go_enter Tryz.func36,Tryz.ntmps36
  go_wp2_with (first | (go_at_call 62;refine HRDY.out.mono ?_;rintro e w1 ⟨rfl,hf1⟩) | go_in)
  go_ret2
  exact ⟨_,rfl,Outs.nil _ _,ROut.refl HRF.out hf1⟩
 subst h0
 rw [if_pos rfl]
 skip
 clear h her hl
 obtain ⟨v0,hb⟩:=HRF.out.blk
 have HROW:=Lib.hid (And.intro hrow (And.intro hcp hdd))
 obtain ⟨n,hn⟩ : ∃ n,l.length = n:=⟨_,rfl⟩
 have HN:=Lib.hid hn
 obtain ⟨ta,hta⟩ : ∃ x,s.task = x:=⟨_,rfl⟩
 obtain ⟨aa,haa⟩ : ∃ x,s.at_ = x:=⟨_,rfl⟩
 obtain ⟨tu,htu⟩ : ∃ x,s.turn = x:=⟨_,rfl⟩
 obtain ⟨la,hla⟩ : ∃ x,s.late = x:=⟨_,rfl⟩
 have FX : Hid (∀ w',Fr (fun _=>False) W w' → w'.cell? ⟨rb,5,none⟩ = some (.int .i64 ta) ∧ w'.cell? ⟨rb,6,none⟩ = some (.int .i64 aa) ∧ w'.cell? ⟨rb,8,none⟩ = some (.int .i64 tu) ∧ w'.cell? ⟨rb,7,none⟩ = some (.int .i64 s.bg) ∧ w'.cell? ⟨rb,9,none⟩ = some (.bool la)):=Lib.hid (fun w' hf=>by
  have h:=hb.fr hf id
  have h5:=h.cell 5
  have h6:=h.cell 6
  have h7:=h.cell 7
  have h8:=h.cell 8
  have h9:=h.cell 9
  simp only [rcells,lA,lB,lC] at h5 h6 h7 h8 h9
  rw [hta] at h5
  rw [haa] at h6
  rw [htu] at h8
  rw [hla] at h9
  exact ⟨h5,h6,h8,h7,h9⟩)
 rw [hn]
 unfold rdecideC
 rw [if_neg hs]
 rw [hta,haa,htu] at hs
 clear hb hta haa htu hla hrow hcp hdd hn
 by_cases h1 : ta = 2
 rotate_left
 ·have p1 : (ta != 2) = true:=by simp [h1]
  clear h1 hs
  go_enter Tryz.func36,Tryz.ntmps36
  go_wp2_with (first | (go_at_call 62;refine HRDY.out.mono ?_;rintro e w1 ⟨rfl,hf1⟩;have HF1:=Lib.hid hf1;obtain ⟨x5,x6,x8,_⟩:=FX.out _ hf1;clear hf1) | go_in)
  go_ret2
  exact ⟨_,rfl,Outs.nil _ _,ROut.refl HRF.out HF1.out⟩
 subst h1
 by_cases h2 : aa = ref
 rotate_left
 ·have p2 : (aa != ref) = true:=by simp [h2]
  clear h2 hs
  go_enter Tryz.func36,Tryz.ntmps36
  go_wp2_with (first | (go_at_call 62;refine HRDY.out.mono ?_;rintro e w1 ⟨rfl,hf1⟩;have HF1:=Lib.hid hf1;obtain ⟨x5,x6,x8,_⟩:=FX.out _ hf1;clear hf1) | go_in)
  go_ret2
  exact ⟨_,rfl,Outs.nil _ _,ROut.refl HRF.out HF1.out⟩
 have p2 : (aa != ref) = false:=by simp [h2]
 have h3 : tu ≠ turn:=fun h3=>hs ⟨rfl,h2,h3⟩
 have p3 : (tu != turn) = true:=by simp [h3]
 clear h2 h3 hs
 go_enter Tryz.func36,Tryz.ntmps36
 go_wp2_with (first | (go_at_call 62;refine HRDY.out.mono ?_;rintro e w1 ⟨rfl,hf1⟩;have HF1:=Lib.hid hf1;obtain ⟨x5,x6,x8,_⟩:=FX.out _ hf1;clear hf1) | go_in)
 go_ret2
 exact ⟨_,rfl,Outs.nil _ _,ROut.refl HRF.out HF1.out⟩
set_option maxRecDepth 100000 in
set_option maxHeartbeats 2000000 in
theorem rdecide_bad (S R : Nat → Prop) (W : World) (rb : Nat) (s : FSt) (h : RF S R W rb s) (hl : s.l.length ≤ 4000) (ref turn now : Int) (ao : Option Addr) (cp : Nat) (l : List Dv) (hrow : RowD S W ao l) (hcp : l.length ≤ cp) (hdd : ∀ x ∈ l,∀ u ∈ x.d,u.oneCell' = true) (hs : s.task = 2 ∧ s.at_ = ref ∧ s.turn = turn) (hbv : rbadS s l = true) :
 Calls Tryz.prog 36 #[.pointer (some ⟨rb,0,none⟩),.int .i64 ref,.int .i64 turn,.slice ao l.length cp,.int .i64 now] W fun e W'=>RActX S R W rb (rtryC s 0 now (rdecideC s ref turn l now)) e W':=by
 have HRDY:=Lib.hid (rready_any S R W rb s h none 0 0 now)
 have HRF:=Lib.hid h
 have HL:=Lib.hid hl
 unfold rtryC
 obtain ⟨er,her⟩ : ∃ x,readyE s 0 now = x:=⟨_,rfl⟩
 rw [her] at HRDY ⊢
 by_cases h0 : er = 0
 rotate_left
 ·rw [if_neg h0]
  have p0 : (er != 0) = true:=by simp [h0]
  clear h h0 her hl hrow hcp hdd hs hbv
  go_enter Tryz.func36,Tryz.ntmps36
  go_wp2_with (first | (go_at_call 62;refine HRDY.out.mono ?_;rintro e w1 ⟨rfl,hf1⟩) | go_in)
  go_ret2
  exact ⟨_,rfl,Outs.nil _ _,ROut.refl HRF.out hf1⟩
 subst h0
 rw [if_pos rfl]
 skip
 clear h her hl
 obtain ⟨v0,hb⟩:=HRF.out.blk
 have HROW:=Lib.hid (And.intro hrow (And.intro hcp hdd))
 obtain ⟨n,hn⟩ : ∃ n,l.length = n:=⟨_,rfl⟩
 have HN:=Lib.hid hn
 obtain ⟨ta,hta⟩ : ∃ x,s.task = x:=⟨_,rfl⟩
 obtain ⟨aa,haa⟩ : ∃ x,s.at_ = x:=⟨_,rfl⟩
 obtain ⟨tu,htu⟩ : ∃ x,s.turn = x:=⟨_,rfl⟩
 obtain ⟨la,hla⟩ : ∃ x,s.late = x:=⟨_,rfl⟩
 have FX : Hid (∀ w',Fr (fun _=>False) W w' → w'.cell? ⟨rb,5,none⟩ = some (.int .i64 ta) ∧ w'.cell? ⟨rb,6,none⟩ = some (.int .i64 aa) ∧ w'.cell? ⟨rb,8,none⟩ = some (.int .i64 tu) ∧ w'.cell? ⟨rb,7,none⟩ = some (.int .i64 s.bg) ∧ w'.cell? ⟨rb,9,none⟩ = some (.bool la)):=Lib.hid (fun w' hf=>by
  have h:=hb.fr hf id
  have h5:=h.cell 5
  have h6:=h.cell 6
  have h7:=h.cell 7
  have h8:=h.cell 8
  have h9:=h.cell 9
  simp only [rcells,lA,lB,lC] at h5 h6 h7 h8 h9
  rw [hta] at h5
  rw [haa] at h6
  rw [htu] at h8
  rw [hla] at h9
  exact ⟨h5,h6,h8,h7,h9⟩)
 rw [hn]
 have HBV:=Lib.hid hbv
 unfold rdecideC
 rw [if_pos hs]
 rw [if_pos hbv]
 obtain ⟨q1,q2,q3⟩:=hs
 rw [hta] at q1
 rw [haa] at q2
 rw [htu] at q3
 subst q1
 have p2 : (aa != ref) = false:=by simp [q2]
 have p3 : (tu != turn) = false:=by simp [q3]
 have HBAD : Hid (∀ w,Fr (fun _=>False) W w → Calls Tryz.prog 70 #[.pointer (some ⟨rb,0,none⟩),.slice ao n cp] w fun e W'=>e = .returned (.bool true) ∧ Fr (fun _=>False) w W'):=Lib.hid (fun w hf=>by
  have:=rbad_any S R w rb s (HRF.out.fr0 hf) (by have:=HL.out;omega) _ cp l (HROW.out.1.fr (hf.mono fun _ e=>e.elim) (fun _ e=>e)) HROW.out.2.1
  rw [HN.out,HBV.out] at this
  exact this)
 clear hb hta haa htu hla hrow hcp hdd hn hbv q2 q3
 go_enter Tryz.func36,Tryz.ntmps36
 go_upto_region 8 with (first | (go_at_call 62;refine HRDY.out.mono ?_;rintro e w1 ⟨rfl,hf1⟩;have HF1:=Lib.hid hf1;obtain ⟨x5,x6,x8,_⟩:=FX.out _ hf1;clear hf1) | (go_at_call 63;refine (rtwin_any S R w1 rb s (HRF.out.fr0 HF1.out)).mono ?_;rintro e w2 ⟨⟨tb,rfl⟩,hf2⟩;have HF2:=Lib.hid (HF1.out.trans hf2);clear hf2 x5 x6 x8) | (go_at_call 70;refine (HBAD.out w2 HF2.out).mono ?_;rintro e w3 ⟨rfl,hf3⟩;have HF3:=Lib.hid (HF2.out.trans hf3);obtain ⟨_,_,_,x7,x9⟩:=FX.out _ HF3.out;clear hf3) | go_in)
 go_wp2_with (first | (go_at_call 71;refine (rfaulty_any S R w3 rb s (HRF.out.fr0 HF3.out) (by have:=HL.out;omega) 1 now).mono ?_;rintro e w4 ⟨v,rfl,ho,S2,R2,hs2,hrf,hfr⟩;have HO:=Lib.hid ho;have HX2:=Lib.hid hrf;have HS2:=Lib.hid hs2;have HF4:=Lib.hid hfr;clear ho hs2 hrf hfr x7 x9) | (go_at_call 64;refine (rsettle_any S2 R2 w4 rb _ HX2.out (by show (sched _ now).l.length ≤ _;unfold sched faulted;simp only [List.length_append,List.length_cons,List.length_nil];have:=HL.out;omega) _ v 22).mono ?_;rintro e w5 ⟨rfl,rfl⟩) | go_in)
 go_ret2
 exact ⟨v,rfl,HO.out.weak HF3.out.size,ROut.behind HF3.out ⟨S2,R2,HS2.out,HX2.out,HF4.out⟩⟩
set_option maxRecDepth 100000 in
set_option maxHeartbeats 2000000 in
theorem rdecide_late (S R : Nat → Prop) (W : World) (rb : Nat) (s : FSt) (h : RF S R W rb s) (hl : s.l.length ≤ 4000) (ref turn now : Int) (ao : Option Addr) (cp : Nat) (l : List Dv) (hrow : RowD S W ao l) (hcp : l.length ≤ cp) (hdd : ∀ x ∈ l,∀ u ∈ x.d,u.oneCell' = true) (hs : s.task = 2 ∧ s.at_ = ref ∧ s.turn = turn) (hbv : rbadS s l = false) (hlate : s.late = true) (hn0 : 0 < l.length) (he5 : endsB l = true) :
 Calls Tryz.prog 36 #[.pointer (some ⟨rb,0,none⟩),.int .i64 ref,.int .i64 turn,.slice ao l.length cp,.int .i64 now] W fun e W'=>RActX S R W rb (rtryC s 0 now (rdecideC s ref turn l now)) e W':=by
 have HRDY:=Lib.hid (rready_any S R W rb s h none 0 0 now)
 have HRF:=Lib.hid h
 have HL:=Lib.hid hl
 unfold rtryC
 obtain ⟨er,her⟩ : ∃ x,readyE s 0 now = x:=⟨_,rfl⟩
 rw [her] at HRDY ⊢
 by_cases h0 : er = 0
 rotate_left
 ·rw [if_neg h0]
  have p0 : (er != 0) = true:=by simp [h0]
  clear h h0 her hl hrow hcp hdd hs hbv hlate hn0 he5
  go_enter Tryz.func36,Tryz.ntmps36
  go_wp2_with (first | (go_at_call 62;refine HRDY.out.mono ?_;rintro e w1 ⟨rfl,hf1⟩) | go_in)
  go_ret2
  exact ⟨_,rfl,Outs.nil _ _,ROut.refl HRF.out hf1⟩
 subst h0
 rw [if_pos rfl]
 skip
 clear h her hl
 obtain ⟨v0,hb⟩:=HRF.out.blk
 have HROW:=Lib.hid (And.intro hrow (And.intro hcp hdd))
 obtain ⟨n,hn⟩ : ∃ n,l.length = n:=⟨_,rfl⟩
 have HN:=Lib.hid hn
 obtain ⟨ta,hta⟩ : ∃ x,s.task = x:=⟨_,rfl⟩
 obtain ⟨aa,haa⟩ : ∃ x,s.at_ = x:=⟨_,rfl⟩
 obtain ⟨tu,htu⟩ : ∃ x,s.turn = x:=⟨_,rfl⟩
 obtain ⟨la,hla⟩ : ∃ x,s.late = x:=⟨_,rfl⟩
 have FX : Hid (∀ w',Fr (fun _=>False) W w' → w'.cell? ⟨rb,5,none⟩ = some (.int .i64 ta) ∧ w'.cell? ⟨rb,6,none⟩ = some (.int .i64 aa) ∧ w'.cell? ⟨rb,8,none⟩ = some (.int .i64 tu) ∧ w'.cell? ⟨rb,7,none⟩ = some (.int .i64 s.bg) ∧ w'.cell? ⟨rb,9,none⟩ = some (.bool la)):=Lib.hid (fun w' hf=>by
  have h:=hb.fr hf id
  have h5:=h.cell 5
  have h6:=h.cell 6
  have h7:=h.cell 7
  have h8:=h.cell 8
  have h9:=h.cell 9
  simp only [rcells,lA,lB,lC] at h5 h6 h7 h8 h9
  rw [hta] at h5
  rw [haa] at h6
  rw [htu] at h8
  rw [hla] at h9
  exact ⟨h5,h6,h8,h7,h9⟩)
 rw [hn]
 have HBV:=Lib.hid hbv
 unfold rdecideC
 rw [if_pos hs]
 rw [if_neg (by rw [hbv];decide),if_pos ⟨hlate,he5⟩]
 have HE5:=Lib.hid he5
 rw [hn] at hn0
 rw [hlate] at hla
 subst hla
 obtain ⟨q1,q2,q3⟩:=hs
 rw [hta] at q1
 rw [haa] at q2
 rw [htu] at q3
 subst q1
 have p2 : (aa != ref) = false:=by simp [q2]
 have p3 : (tu != turn) = false:=by simp [q3]
 clear hb hta haa htu hrow hcp hdd hn hbv hlate he5 q2 q3
 obtain ⟨x,hx⟩ : ∃ x,l[n - 1]? = some x:=⟨_,List.getElem?_eq_getElem (by have:=HN.out;omega)⟩
 have hex : endsB l = decide (5 ≤ x.k):=by
  unfold endsB
  rw [List.getLast?_eq_getElem?,HN.out,hx]
 obtain ⟨b,of,va,vc,hao,_,hcell⟩:=HROW.out.1.at_ hx
 obtain ⟨m,hm⟩ : ∃ m,n - 1 = m:=⟨_,rfl⟩
 have hn32 : n ≤ 32:=by have:=(rbad_may HBV.out).1;rw [HN.out] at this;exact this
 obtain ⟨kk,hkk⟩ : ∃ k,x.k = k:=⟨_,rfl⟩
 rw [hkk] at hex
 have HK5:=Lib.hid hex
 have HMN : Hid (n = m + 1):=Lib.hid (by omega)
 have hwm : wrap64 ((n : Int) - 1) = (m : Int):=by have:=HMN.out;clear hx hcell hao;rw [wrap64];omega
 have hm0 : (0 : Int) ≤ (m : Int) ∧ (m : Int) < (n : Int):=by have:=HMN.out;omega
 have hng : decide ((n : Int) > 0) = true:=decide_eq_true (by omega)
 have hng2 : decide (0 < n) = true:=decide_eq_true (by omega)
 have FL : Hid (∀ w',Fr (fun _=>False) W w' → w'.cell? ⟨b,of + m * 5,none⟩ = some (.int .i64 kk)):=Lib.hid (fun w' hf=>by
  have:=hcell w' hf 0 _ rfl
  rw [hm,hkk] at this
  exact this)
 subst hao
 clear hx hcell hm hkk hex hn0 hn32
 have HBAD : Hid (∀ w,Fr (fun _=>False) W w → Calls Tryz.prog 70 #[.pointer (some ⟨rb,0,none⟩),.slice (some ⟨b,of,none⟩) n cp] w fun e W'=>e = .returned (.bool false) ∧ Fr (fun _=>False) w W'):=Lib.hid (fun w hf=>by
  have:=rbad_any S R w rb s (HRF.out.fr0 hf) (by have:=HL.out;omega) _ cp l (HROW.out.1.fr (hf.mono fun _ e=>e.elim) (fun _ e=>e)) HROW.out.2.1
  rw [HN.out,HBV.out] at this
  exact this)
 have p5 : decide (kk ≥ 5) = true:=by rw [← HE5.out,HK5.out]
 have p6 : decide (5 ≤ kk) = true:=p5
 go_enter Tryz.func36,Tryz.ntmps36
 go_upto_region 10 with (first | (go_at_call 62;refine HRDY.out.mono ?_;rintro e w1 ⟨rfl,hf1⟩;have HF1:=Lib.hid hf1;obtain ⟨x5,x6,x8,_⟩:=FX.out _ hf1;clear hf1) | (go_at_call 63;refine (rtwin_any S R w1 rb s (HRF.out.fr0 HF1.out)).mono ?_;rintro e w2 ⟨⟨tb,rfl⟩,hf2⟩;have HF2:=Lib.hid (HF1.out.trans hf2);clear hf2 x5 x6 x8) | (go_at_call 70;refine (HBAD.out w2 HF2.out).mono ?_;rintro e w3 ⟨rfl,hf3⟩;have HF3:=Lib.hid (HF2.out.trans hf3);obtain ⟨_,_,_,x7,x9⟩:=FX.out _ HF3.out;clear hf3;have f9:=FL.out _ HF3.out) | go_in)
 go_wp2_with (first | (go_at_call 71;refine (rfaulty_any S R w3 rb s (HRF.out.fr0 HF3.out) (by have:=HL.out;omega) 2 now).mono ?_;rintro e w4 ⟨v,rfl,ho,S2,R2,hs2,hrf,hfr⟩;have HO:=Lib.hid ho;have HX2:=Lib.hid hrf;have HS2:=Lib.hid hs2;have HF4:=Lib.hid hfr;clear ho hs2 hrf hfr x7 x9 f9) | (go_at_call 64;refine (rsettle_any S2 R2 w4 rb _ HX2.out (by show (sched _ now).l.length ≤ _;unfold sched faulted;simp only [List.length_append,List.length_cons,List.length_nil];have:=HL.out;omega) _ v 23).mono ?_;rintro e w5 ⟨rfl,rfl⟩) | go_in)
 go_ret2
 exact ⟨v,rfl,HO.out.weak HF3.out.size,ROut.behind HF3.out ⟨S2,R2,HS2.out,HX2.out,HF4.out⟩⟩
set_option maxRecDepth 100000 in
set_option maxHeartbeats 2000000 in
theorem rdecide_fine_a (S R : Nat → Prop) (W : World) (rb : Nat) (s : FSt) (h : RF S R W rb s) (hl : s.l.length ≤ 4000) (ref turn now : Int) (ao : Option Addr) (cp : Nat) (l : List Dv) (hrow : RowD S W ao l) (hcp : l.length ≤ cp) (hdd : ∀ x ∈ l,∀ u ∈ x.d,u.oneCell' = true) (hs : s.task = 2 ∧ s.at_ = ref ∧ s.turn = turn) (hbv : rbadS s l = false) (hlate : s.late = false) :
 Calls Tryz.prog 36 #[.pointer (some ⟨rb,0,none⟩),.int .i64 ref,.int .i64 turn,.slice ao l.length cp,.int .i64 now] W fun e W'=>RActX S R W rb (rtryC s 0 now (rdecideC s ref turn l now)) e W':=by
 have HRDY:=Lib.hid (rready_any S R W rb s h none 0 0 now)
 have HRF:=Lib.hid h
 have HL:=Lib.hid hl
 unfold rtryC
 obtain ⟨er,her⟩ : ∃ x,readyE s 0 now = x:=⟨_,rfl⟩
 rw [her] at HRDY ⊢
 by_cases h0 : er = 0
 rotate_left
 ·rw [if_neg h0]
  have p0 : (er != 0) = true:=by simp [h0]
  clear h h0 her hl hrow hcp hdd hs hbv hlate
  go_enter Tryz.func36,Tryz.ntmps36
  go_wp2_with (first | (go_at_call 62;refine HRDY.out.mono ?_;rintro e w1 ⟨rfl,hf1⟩) | go_in)
  go_ret2
  exact ⟨_,rfl,Outs.nil _ _,ROut.refl HRF.out hf1⟩
 subst h0
 rw [if_pos rfl]
 skip
 clear h her hl
 obtain ⟨v0,hb⟩:=HRF.out.blk
 have HROW:=Lib.hid (And.intro hrow (And.intro hcp hdd))
 obtain ⟨n,hn⟩ : ∃ n,l.length = n:=⟨_,rfl⟩
 have HN:=Lib.hid hn
 obtain ⟨ta,hta⟩ : ∃ x,s.task = x:=⟨_,rfl⟩
 obtain ⟨aa,haa⟩ : ∃ x,s.at_ = x:=⟨_,rfl⟩
 obtain ⟨tu,htu⟩ : ∃ x,s.turn = x:=⟨_,rfl⟩
 obtain ⟨la,hla⟩ : ∃ x,s.late = x:=⟨_,rfl⟩
 have FX : Hid (∀ w',Fr (fun _=>False) W w' → w'.cell? ⟨rb,5,none⟩ = some (.int .i64 ta) ∧ w'.cell? ⟨rb,6,none⟩ = some (.int .i64 aa) ∧ w'.cell? ⟨rb,8,none⟩ = some (.int .i64 tu) ∧ w'.cell? ⟨rb,7,none⟩ = some (.int .i64 s.bg) ∧ w'.cell? ⟨rb,9,none⟩ = some (.bool la)):=Lib.hid (fun w' hf=>by
  have h:=hb.fr hf id
  have h5:=h.cell 5
  have h6:=h.cell 6
  have h7:=h.cell 7
  have h8:=h.cell 8
  have h9:=h.cell 9
  simp only [rcells,lA,lB,lC] at h5 h6 h7 h8 h9
  rw [hta] at h5
  rw [haa] at h6
  rw [htu] at h8
  rw [hla] at h9
  exact ⟨h5,h6,h8,h7,h9⟩)
 rw [hn]
 have HBV:=Lib.hid hbv
 unfold rdecideC
 rw [if_pos hs]
 rw [if_neg (by rw [hbv];decide),if_neg (by rw [hlate];rintro ⟨e,_⟩;cases e)]
 have HLT:=Lib.hid hlate
 rw [hlate] at hla
 subst hla
 obtain ⟨q1,q2,q3⟩:=hs
 rw [hta] at q1
 rw [haa] at q2
 rw [htu] at q3
 subst q1
 have p2 : (aa != ref) = false:=by simp [q2]
 have p3 : (tu != turn) = false:=by simp [q3]
 clear hb hta haa htu hrow hcp hdd hn hbv hlate q2 q3
 have HBAD : Hid (∀ w,Fr (fun _=>False) W w → Calls Tryz.prog 70 #[.pointer (some ⟨rb,0,none⟩),.slice ao n cp] w fun e W'=>e = .returned (.bool false) ∧ Fr (fun _=>False) w W'):=Lib.hid (fun w hf=>by
  have:=rbad_any S R w rb s (HRF.out.fr0 hf) (by have:=HL.out;omega) _ cp l (HROW.out.1.fr (hf.mono fun _ e=>e.elim) (fun _ e=>e)) HROW.out.2.1
  rw [HN.out,HBV.out] at this
  exact this)
 go_enter Tryz.func36,Tryz.ntmps36
 go_upto_region 11 with (first | (go_at_call 62;refine HRDY.out.mono ?_;rintro e w1 ⟨rfl,hf1⟩;have HF1:=Lib.hid hf1;obtain ⟨x5,x6,x8,_⟩:=FX.out _ hf1;clear hf1) | (go_at_call 63;refine (rtwin_any S R w1 rb s (HRF.out.fr0 HF1.out)).mono ?_;rintro e w2 ⟨⟨tb,rfl⟩,hf2⟩;have HF2:=Lib.hid (HF1.out.trans hf2);clear hf2 x5 x6 x8) | (go_at_call 70;refine (HBAD.out w2 HF2.out).mono ?_;rintro e w3 ⟨rfl,hf3⟩;have HF3:=Lib.hid (HF2.out.trans hf3);obtain ⟨_,_,_,x7,x9⟩:=FX.out _ HF3.out;clear hf3) | go_in)
 go_upto_region 12 with (first | (go_at_call 26;refine (rput_any S R w3 rb s (HRF.out.fr0 HF3.out) (by have:=HL.out;omega) 4 now s.bg 0 0 0 none 0 0 [] (RowB.nil _ _) (by simp) (by simp)).mono ?_;rintro e w4 ⟨rfl,S1,R1,hs1,hrf,hfr⟩;have HS1:=Lib.hid hs1;have HX1:=Lib.hid hrf;have HF4:=Lib.hid hfr;clear hs1 hrf hfr x7 x9) | go_in)
 obtain ⟨v4,hb4⟩:=HX1.out.blk
 have x5:=hb4.cell 5
 have xz5:=hb4.frozen 5
 simp only [rcells,lA,lB,lC] at x5
 clear hb4
 go_upto_region 13 with (fail)
 have hf5 : Fr (fun k=>k = rb) w4 (w4.setCell ⟨rb,5,none⟩ (.int .i64 0)):=Fr.setCell (S:=fun k=>k = rb) w4 ⟨rb,5,none⟩ _ rfl
 have hx5:=HX1.out.cells (s':={ s with task:=0,l:=s.l ++ [⟨4,now,s.bg,0,0,0,[]⟩] }) hf5 rfl (fun v hb=>by
  have:=hb.set 5 (.int .i64 0)
  simpa only [rcells,lG,lH,lI] using this)
 obtain ⟨w5,hw5⟩ : ∃ w,w4.setCell ⟨rb,5,none⟩ (.int .i64 0) = w:=⟨_,rfl⟩
 rw [hw5] at hf5 hx5 ⊢
 have HX5:=Lib.hid hx5
 have HFC5:=Lib.hid hf5
 clear hw5 hf5 hx5 x5 xz5
 obtain ⟨v5,hb5⟩:=HX5.out.blk
 have x8:=hb5.cell 8
 have xz8:=hb5.frozen 8
 simp only [rcells,lA,lB,lC] at x8
 clear hb5
 go_upto_region 14 with (fail)
 have hf6 : Fr (fun k=>k = rb) w5 (w5.setCell ⟨rb,8,none⟩ (.int .i64 0)):=Fr.setCell (S:=fun k=>k = rb) w5 ⟨rb,8,none⟩ _ rfl
 have hx6:=HX5.out.cells (s':=decided s now) hf6 rfl (fun v hb=>by
  have:=hb.set 8 (.int .i64 0)
  simpa only [rcells,decided,lG,lH,lI] using this)
 obtain ⟨w6,hw6⟩ : ∃ w,w5.setCell ⟨rb,8,none⟩ (.int .i64 0) = w:=⟨_,rfl⟩
 rw [hw6] at hf6 hx6 ⊢
 have HX6:=Lib.hid hx6
 have HFC6:=Lib.hid hf6
 clear hw6 hf6 hx6 x8 xz8
 have HF6 : Hid (Fr R W w6):=Lib.hid (Fr.step ((HF3.out.mono fun _ e=>e.elim).trans HF4.out) (HFC5.out.trans HFC6.out) (fun k hk e=>e ▸ HRF.out.r))
 have HS6 : Hid (Same2 W S R S1 R1):=Lib.hid (fun k hk=>HS1.out k (Nat.lt_of_lt_of_le hk HF3.out.size))
 have HMAY:=Lib.hid (rbad_may HBV.out)
 obtain ⟨B,hB⟩ : ∃ B,W.heap.size = B:=⟨_,rfl⟩
 have HB:=Lib.hid hB
 clear hB HX1 HX5 HFC5 HFC6 HF4 FX HBAD HS1
 go_upto_region 15 with (fail)
 go_wp2_with fail
 go_loopw [14,15] (fun u14 kv wz=>∃ (q : Nat) (sq : FSt) (oq : List Ov) (Sz Rz : Nat → Prop),q ≤ n ∧ kv = .int .i64 q ∧ OwnX 104 (fun k=>k < B ∨ (statusK sq.l = 1 ∧ Rz k)) wz B u14 oq ∧ RF Sz Rz wz rb sq ∧ Same2 W S R Sz Rz ∧ (∀ k,u14.ownBlock = some k → Sz k ∧ ¬ Rz k) ∧ (q < n → statusK sq.l = 1) ∧ rdecFold now (decided s now) l = ((rdecFold now sq (l.drop q)).1,oq ++ (rdecFold now sq (l.drop q)).2) ∧ sq.late = s.late ∧ sq.l.length = s.l.length + 1 + q ∧ oq.length ≤ q ∧ Fr R W wz) (fun u14 kv _=>n - (intOf kv).toNat)
 case atStart=>exact ⟨0,_,[],S1,R1,Nat.zero_le _,rfl,OwnX.nil _ _ _ _,HX6.out,HS6.out,fun k e=>(nomatch e),fun _=>status_snoc s.l _,by rw [List.drop_zero,List.nil_append],rfl,by simp [decided],Nat.le_refl _,HF6.out⟩
 case round=>
  obtain ⟨q,sq,oq,Sz,Rz,hq,rfl,hown,hrf,hsm,hob,hop,hfold,hlt9,hlen,hol,hfz⟩:=hrel
  have HQ:=Lib.hid hq
  have HOWN:=Lib.hid hown
  have HPQ:=Lib.hid hrf
  have HSM:=Lib.hid hsm
  have HOBQ:=Lib.hid hob
  have HOP:=Lib.hid hop
  have HFO:=Lib.hid hfold
  have HLA9:=Lib.hid hlt9
  have HCQ:=Lib.hid (And.intro hlen hol)
  have HFQ:=Lib.hid hfz
  have HQ32 : Hid (q ≤ 32):=Lib.hid (by have:=HMAY.out.1;have:=HN.out;omega)
  clear hq hown hrf hsm hob hop hfold hlt9 hlen hol hfz
  by_cases hlt : q < n
  rotate_left
  ·have hqn : q = n:=by have:=HQ.out;omega
   have p0 : decide ((q : Int) < (n : Int)) = false:=decide_eq_false (by omega)
   have p0' : decide (q < n) = false:=decide_eq_false (by omega)
   have hdr : l.drop q = []:=List.drop_eq_nil_of_le (by rw [HN.out];omega)
   have HFE : Hid (rdecFold now (decided s now) l = (sq,oq)):=Lib.hid (by
    have:=HFO.out
    rw [hdr,rdecFold,List.append_nil] at this
    exact this)
   have HST:=Lib.hid (rstatus_any Sz Rz wr rb sq HPQ.out)
   obtain ⟨v9,hb9⟩:=HPQ.out.blk
   have F9 : Hid (∀ w',Fr (fun _=>False) wr w' → w'.cell? ⟨rb,9,none⟩ = some (.bool false)):=Lib.hid (fun w' hf=>by
    have:=(hb9.fr hf id).cell 9
    simp only [rcells,lA,lB,lC] at this
    rw [HLA9.out,HLT.out] at this
    exact this)
   subst hqn
   clear hlt hdr hb9
   obtain ⟨z,hz⟩ : ∃ z,statusK sq.l = z:=⟨_,rfl⟩
   rw [hz] at HST
   have HSTA:=HST
   clear HST
   have e1 : Hid (rfineC s l now = (sq,oq,0)):=Lib.hid (by
    unfold rfineC
    rw [HFE.out,if_neg (by rw [HLT.out];rintro ⟨e,_⟩;cases e)])
   by_cases hst : z = 1
   ·subst hst
    clear hz
    go_wp2_with (first | (go_at_call 73;refine HSTA.out.mono ?_;rintro e w9 ⟨rfl,hf9⟩;have HF9:=Lib.hid hf9;have x9:=F9.out _ hf9;clear hf9) | (go_at_call 64;refine (rsettle_any Sz Rz _ rb sq (HPQ.out.fr0 HF9.out) (by have:=HCQ.out;have:=HL.out;have:=HQ32.out;omega) _ _ 0).mono ?_;rintro e w10 ⟨rfl,rfl⟩) | go_in)
    go_ret2
    rw [e1.out]
    exact ⟨u14,rfl,by rw [HB.out];exact (HOWN.out.outs (fun k e=>.inl e)).fr HF9.out (fun _ e=>e.elim),Sz,Rz,HSM.out,HPQ.out.fr0 HF9.out,HFQ.out.trans (HF9.out.mono fun _ e=>e.elim)⟩
   have p7 : (z == 1) = false:=by simp [hst]
   clear hst hz
   go_wp2_with (first | (go_at_call 73;refine HSTA.out.mono ?_;rintro e w9 ⟨rfl,hf9⟩;have HF9:=Lib.hid hf9;have x9:=F9.out _ hf9;clear hf9) | (go_at_call 64;refine (rsettle_any Sz Rz _ rb sq (HPQ.out.fr0 HF9.out) (by have:=HCQ.out;have:=HL.out;have:=HQ32.out;omega) _ _ 0).mono ?_;rintro e w10 ⟨rfl,rfl⟩) | go_in)
   go_ret2
   rw [e1.out]
   exact ⟨u14,rfl,by rw [HB.out];exact (HOWN.out.outs (fun k e=>.inl e)).fr HF9.out (fun _ e=>e.elim),Sz,Rz,HSM.out,HPQ.out.fr0 HF9.out,HFQ.out.trans (HF9.out.mono fun _ e=>e.elim)⟩
  obtain ⟨x,hx⟩ : ∃ x,l[q]? = some x:=⟨_,List.getElem?_eq_getElem (by rw [HN.out];exact hlt)⟩
  have HDR : Hid (l.drop q = x :: l.drop (q + 1)):=Lib.hid (by
   rw [List.drop_eq_getElem_cons (by rw [HN.out];exact hlt)]
   have:=(List.getElem?_eq_some_iff.1 hx).2
   rw [this])
  have hmem : x ∈ l:=List.mem_of_getElem? hx
  have hopq:=HOP.out hlt
  have HOPQ:=Lib.hid hopq
  have HXM : Hid (mayD x = true ∧ (q + 1 < n → x.k < 5)):=Lib.hid (by have:=HMAY.out.2 q x hx;rw [HN.out] at this;exact this)
  obtain ⟨b,of,va,vc,hao,hdr,hcell⟩:=((HROW.out.1.to (S':=fun k=>R k) (fun k hk e=>HRF.out.rs _ e)).fr HFQ.out (fun k e=>e)).at_ hx
  have HXD : Hid (x.d.length ≤ 100000 ∧ ∀ u ∈ x.d,u.oneCell' = true):=Lib.hid ⟨by have:=(mayD_all HXM.out.1).2.2.2.1;omega,HROW.out.2.2 x hmem⟩
  obtain ⟨dl,hdl⟩ : ∃ m,x.d.length = m:=⟨_,rfl⟩
  have HRB : Hid (RowB Sz wr (.slice va x.d.length vc) x.d):=Lib.hid (rowd_at HROW.out.1 HFQ.out HSM.out (fun k e=>HRF.out.rs _ e) hx hao hcell)
  rw [hdl] at HRB hcell
  have HDO : Hid (∀ w,Fr (fun _=>False) wr w → Calls Tryz.prog 72 #[.pointer (some ⟨rb,0,none⟩),.agg #[.int .i64 x.k,.int .i64 x.i,.int .i64 x.l,.int .i64 x.n,.slice va dl vc],.int .i64 now] w fun e W'=>RMethX Sz Rz w rb (rdoneS sq x now) (doneO sq x now) (x.k < 5) e W'):=Lib.hid (fun w hf=>rdoneX_any Sz Rz w rb sq (HPQ.out.fr0 hf) (by have:=HCQ.out;have:=HL.out;have:=HQ32.out;omega) x.k x.i x.l x.n now va dl vc x.d (HRB.out.fr (hf.mono fun _ e=>e.elim)) HXD.out.1 HXD.out.2 HXM.out.1)
  have hq0 : (0 : Int) ≤ (q : Int) ∧ (q : Int) < (n : Int):=by omega
  have p0 : decide ((q : Int) < (n : Int)) = true:=decide_eq_true (by omega)
  have p0' : decide (q < n) = true:=decide_eq_true (by omega)
  have HQW : Hid (wrap64 ((q : Int) + 1) = ((q + 1 : Nat) : Int)):=Lib.hid (by have:=HQ32.out;rw [wrap64];omega)
  have HLT2:=Lib.hid hlt
  obtain rfl : ao = some ⟨b,of,none⟩:=hao
  have c0 : wr.cell? ⟨b,of + q * 5,none⟩ = some (.int .i64 x.k):=hcell wr (Fr.refl _ _) 0 _ rfl
  have c1 : wr.cell? ⟨b,of + q * 5 + 1,none⟩ = some (.int .i64 x.i):=hcell wr (Fr.refl _ _) 1 _ rfl
  have c2 : wr.cell? ⟨b,of + q * 5 + 2,none⟩ = some (.int .i64 x.l):=hcell wr (Fr.refl _ _) 2 _ rfl
  have c3 : wr.cell? ⟨b,of + q * 5 + 3,none⟩ = some (.int .i64 x.n):=hcell wr (Fr.refl _ _) 3 _ rfl
  have c4 : wr.cell? ⟨b,of + q * 5 + 4,none⟩ = some (.slice va dl vc):=hcell wr (Fr.refl _ _) 4 _ rfl
  clear hlt hx hmem hdr hcell hdl hopq
  go_wp2_with (first
   | (go_at_call 72;refine (HDO.out _ (Fr.refl _ _)).mono ?_;rintro e w6' ⟨vo,S2,R2,rfl,ho,hs2,hrf2,hf6,hox⟩
      have HMK:=Lib.hid (mayD_k HXM.out.1)
      obtain ⟨v',W',hrun,hown',hfa,hob⟩:=app_oX infoO45 45 (fun k=>k < B ∨ (statusK (rdoneS sq x now).l = 1 ∧ R2 k)) w6' B u14 vo oq (doneO sq x now) (by have:=HFQ.out.size;have:=hf6.size;have:=HB.out;omega) (own_step HOWN.out HOPQ.out hs2 hf6 (by have:=HFQ.out.size;have:=HB.out;omega) (fun k e=>(HOBQ.out k e).2)) (outs_step ho hox (by have:=HFQ.out.size;have:=HB.out;omega) (fun k e=>(HOWN.out.ob e).2.1) (fun h=>(rdone_stat sq x now HMK.out).1 h)) (by have:=HCQ.out;have:=HQ32.out;have:=doneO_len sq x now;omega)
      obtain ⟨S3,hs3,hrf3,hob3⟩:=RF.app hrf2 (own_step HOWN.out HOPQ.out hs2 hf6 (by have:=HFQ.out.size;have:=HB.out;omega) (fun k e=>(HOBQ.out k e).2) (P:=statusK (rdoneS sq x now).l = 1)) (by decide) hfa (fun k e=>⟨(hs2 k (HOWN.out.ob e).2.1).1.2 (HOBQ.out k e).1,fun e2=>(HOBQ.out k e).2 ((hs2 k (HOWN.out.ob e).2.1).2.1 e2)⟩) hob (fun k e=>(hown'.ob e).2.1)
      have HOWN':=Lib.hid hown'
      have HRF3:=Lib.hid hrf3
      have HOB3:=Lib.hid hob3
      have HS3 : Hid (Same2 W S R S3 R2):=Lib.hid (fun k hk=>by
       have h1:=HSM.out k hk
       have h2:=hs2 k (Nat.lt_of_lt_of_le hk HFQ.out.size)
       have h3:=hs3 k (Nat.lt_of_lt_of_le hk (Nat.le_trans HFQ.out.size hf6.size))
       exact ⟨h3.1.trans (h2.1.trans h1.1),h3.2.trans (h2.2.trans h1.2)⟩)
      have HF3' : Hid (Fr R W W'):=Lib.hid (Fr.step (Fr.step HFQ.out hf6 (fun k hk e=>(HSM.out k hk).2.1 e)) hfa (fun k hk e=>by have:=(HOWN.out.ob e).1;have:=HB.out;omega))
      clear ho hs2 hrf2 hf6 hox hown' hfa hob hs3 hrf3 hob3 HDO c0 c1 c2 c3 c4)
   | (at_builtin;refine wpList_appRunV rfl _ _ _ rfl _ _ _ rfl rfl hrun ?_)
   | go_in)
  go_roundw
  case rel=>
   refine ⟨q + 1,rdoneS sq x now,oq ++ doneO sq x now,S3,R2,HLT2.out,congrArg (Value.int .i64) HQW.out,HOWN'.out,HRF3.out,HS3.out,HOB3.out,fun h=>(rdone_stat sq x now HMK.out).2 (HXM.out.2 h),?_,by rw [rdone_late];exact HLA9.out,by rw [rdone_len];have:=HCQ.out;omega,by have:=HCQ.out;have:=doneO_len sq x now;rw [List.length_append];omega,HF3'.out⟩
   rw [HFO.out,HDR.out,rdecFold,List.append_assoc]
  case measure=>rw [HQW.out];simp only [intOf];have:=HLT2.out;omega
set_option maxRecDepth 100000 in
set_option maxHeartbeats 2000000 in
theorem rdecide_fine_b (S R : Nat → Prop) (W : World) (rb : Nat) (s : FSt) (h : RF S R W rb s) (hl : s.l.length ≤ 4000) (ref turn now : Int) (ao : Option Addr) (cp : Nat) (l : List Dv) (hrow : RowD S W ao l) (hcp : l.length ≤ cp) (hdd : ∀ x ∈ l,∀ u ∈ x.d,u.oneCell' = true) (hs : s.task = 2 ∧ s.at_ = ref ∧ s.turn = turn) (hbv : rbadS s l = false) (hlate : s.late = true) (hn0 : l.length = 0) :
 Calls Tryz.prog 36 #[.pointer (some ⟨rb,0,none⟩),.int .i64 ref,.int .i64 turn,.slice ao l.length cp,.int .i64 now] W fun e W'=>RActX S R W rb (rtryC s 0 now (rdecideC s ref turn l now)) e W':=by
 have HRDY:=Lib.hid (rready_any S R W rb s h none 0 0 now)
 have HRF:=Lib.hid h
 have HL:=Lib.hid hl
 unfold rtryC
 obtain ⟨er,her⟩ : ∃ x,readyE s 0 now = x:=⟨_,rfl⟩
 rw [her] at HRDY ⊢
 by_cases h0 : er = 0
 rotate_left
 ·rw [if_neg h0]
  have p0 : (er != 0) = true:=by simp [h0]
  clear h h0 her hl hrow hcp hdd hs hbv hlate hn0
  go_enter Tryz.func36,Tryz.ntmps36
  go_wp2_with (first | (go_at_call 62;refine HRDY.out.mono ?_;rintro e w1 ⟨rfl,hf1⟩) | go_in)
  go_ret2
  exact ⟨_,rfl,Outs.nil _ _,ROut.refl HRF.out hf1⟩
 subst h0
 rw [if_pos rfl]
 skip
 clear h her hl
 obtain ⟨v0,hb⟩:=HRF.out.blk
 have HROW:=Lib.hid (And.intro hrow (And.intro hcp hdd))
 obtain ⟨n,hn⟩ : ∃ n,l.length = n:=⟨_,rfl⟩
 have HN:=Lib.hid hn
 obtain ⟨ta,hta⟩ : ∃ x,s.task = x:=⟨_,rfl⟩
 obtain ⟨aa,haa⟩ : ∃ x,s.at_ = x:=⟨_,rfl⟩
 obtain ⟨tu,htu⟩ : ∃ x,s.turn = x:=⟨_,rfl⟩
 obtain ⟨la,hla⟩ : ∃ x,s.late = x:=⟨_,rfl⟩
 have FX : Hid (∀ w',Fr (fun _=>False) W w' → w'.cell? ⟨rb,5,none⟩ = some (.int .i64 ta) ∧ w'.cell? ⟨rb,6,none⟩ = some (.int .i64 aa) ∧ w'.cell? ⟨rb,8,none⟩ = some (.int .i64 tu) ∧ w'.cell? ⟨rb,7,none⟩ = some (.int .i64 s.bg) ∧ w'.cell? ⟨rb,9,none⟩ = some (.bool la)):=Lib.hid (fun w' hf=>by
  have h:=hb.fr hf id
  have h5:=h.cell 5
  have h6:=h.cell 6
  have h7:=h.cell 7
  have h8:=h.cell 8
  have h9:=h.cell 9
  simp only [rcells,lA,lB,lC] at h5 h6 h7 h8 h9
  rw [hta] at h5
  rw [haa] at h6
  rw [htu] at h8
  rw [hla] at h9
  exact ⟨h5,h6,h8,h7,h9⟩)
 rw [hn]
 have HBV:=Lib.hid hbv
 unfold rdecideC
 rw [if_pos hs]
 rw [if_neg (by rw [hbv];decide),if_neg (by rintro ⟨_,e⟩;unfold endsB at e;rw [List.length_eq_zero_iff.1 hn0] at e;cases e)]
 have HLT:=Lib.hid hlate
 rw [hlate] at hla
 subst hla
 rw [hn] at hn0
 obtain ⟨q1,q2,q3⟩:=hs
 rw [hta] at q1
 rw [haa] at q2
 rw [htu] at q3
 subst q1
 have p2 : (aa != ref) = false:=by simp [q2]
 have p3 : (tu != turn) = false:=by simp [q3]
 clear hb hta haa htu hrow hcp hdd hn hbv hlate q2 q3
 have hng : decide ((n : Int) > 0) = false:=decide_eq_false (by omega)
 have hng2 : decide (0 < n) = false:=decide_eq_false (by omega)
 have HN0:=Lib.hid hn0
 clear hn0
 have HBAD : Hid (∀ w,Fr (fun _=>False) W w → Calls Tryz.prog 70 #[.pointer (some ⟨rb,0,none⟩),.slice ao n cp] w fun e W'=>e = .returned (.bool false) ∧ Fr (fun _=>False) w W'):=Lib.hid (fun w hf=>by
  have:=rbad_any S R w rb s (HRF.out.fr0 hf) (by have:=HL.out;omega) _ cp l (HROW.out.1.fr (hf.mono fun _ e=>e.elim) (fun _ e=>e)) HROW.out.2.1
  rw [HN.out,HBV.out] at this
  exact this)
 go_enter Tryz.func36,Tryz.ntmps36
 go_upto_region 11 with (first | (go_at_call 62;refine HRDY.out.mono ?_;rintro e w1 ⟨rfl,hf1⟩;have HF1:=Lib.hid hf1;obtain ⟨x5,x6,x8,_⟩:=FX.out _ hf1;clear hf1) | (go_at_call 63;refine (rtwin_any S R w1 rb s (HRF.out.fr0 HF1.out)).mono ?_;rintro e w2 ⟨⟨tb,rfl⟩,hf2⟩;have HF2:=Lib.hid (HF1.out.trans hf2);clear hf2 x5 x6 x8) | (go_at_call 70;refine (HBAD.out w2 HF2.out).mono ?_;rintro e w3 ⟨rfl,hf3⟩;have HF3:=Lib.hid (HF2.out.trans hf3);obtain ⟨_,_,_,x7,x9⟩:=FX.out _ HF3.out;clear hf3) | go_in)
 go_upto_region 12 with (first | (go_at_call 26;refine (rput_any S R w3 rb s (HRF.out.fr0 HF3.out) (by have:=HL.out;omega) 4 now s.bg 0 0 0 none 0 0 [] (RowB.nil _ _) (by simp) (by simp)).mono ?_;rintro e w4 ⟨rfl,S1,R1,hs1,hrf,hfr⟩;have HS1:=Lib.hid hs1;have HX1:=Lib.hid hrf;have HF4:=Lib.hid hfr;clear hs1 hrf hfr x7 x9) | go_in)
 obtain ⟨v4,hb4⟩:=HX1.out.blk
 have x5:=hb4.cell 5
 have xz5:=hb4.frozen 5
 simp only [rcells,lA,lB,lC] at x5
 clear hb4
 go_upto_region 13 with (fail)
 have hf5 : Fr (fun k=>k = rb) w4 (w4.setCell ⟨rb,5,none⟩ (.int .i64 0)):=Fr.setCell (S:=fun k=>k = rb) w4 ⟨rb,5,none⟩ _ rfl
 have hx5:=HX1.out.cells (s':={ s with task:=0,l:=s.l ++ [⟨4,now,s.bg,0,0,0,[]⟩] }) hf5 rfl (fun v hb=>by
  have:=hb.set 5 (.int .i64 0)
  simpa only [rcells,lG,lH,lI] using this)
 obtain ⟨w5,hw5⟩ : ∃ w,w4.setCell ⟨rb,5,none⟩ (.int .i64 0) = w:=⟨_,rfl⟩
 rw [hw5] at hf5 hx5 ⊢
 have HX5:=Lib.hid hx5
 have HFC5:=Lib.hid hf5
 clear hw5 hf5 hx5 x5 xz5
 obtain ⟨v5,hb5⟩:=HX5.out.blk
 have x8:=hb5.cell 8
 have xz8:=hb5.frozen 8
 simp only [rcells,lA,lB,lC] at x8
 clear hb5
 go_upto_region 14 with (fail)
 have hf6 : Fr (fun k=>k = rb) w5 (w5.setCell ⟨rb,8,none⟩ (.int .i64 0)):=Fr.setCell (S:=fun k=>k = rb) w5 ⟨rb,8,none⟩ _ rfl
 have hx6:=HX5.out.cells (s':=decided s now) hf6 rfl (fun v hb=>by
  have:=hb.set 8 (.int .i64 0)
  simpa only [rcells,decided,lG,lH,lI] using this)
 obtain ⟨w6,hw6⟩ : ∃ w,w5.setCell ⟨rb,8,none⟩ (.int .i64 0) = w:=⟨_,rfl⟩
 rw [hw6] at hf6 hx6 ⊢
 have HX6:=Lib.hid hx6
 have HFC6:=Lib.hid hf6
 clear hw6 hf6 hx6 x8 xz8
 have HF6 : Hid (Fr R W w6):=Lib.hid (Fr.step ((HF3.out.mono fun _ e=>e.elim).trans HF4.out) (HFC5.out.trans HFC6.out) (fun k hk e=>e ▸ HRF.out.r))
 have HS6 : Hid (Same2 W S R S1 R1):=Lib.hid (fun k hk=>HS1.out k (Nat.lt_of_lt_of_le hk HF3.out.size))
 have HMAY:=Lib.hid (rbad_may HBV.out)
 obtain ⟨B,hB⟩ : ∃ B,W.heap.size = B:=⟨_,rfl⟩
 have HB:=Lib.hid hB
 clear hB HX1 HX5 HFC5 HFC6 HF4 FX HBAD HS1
 go_upto_region 15 with (fail)
 go_wp2_with fail
 go_loopw [14,15] (fun u14 kv wz=>∃ (q : Nat) (sq : FSt) (oq : List Ov) (Sz Rz : Nat → Prop),q ≤ n ∧ kv = .int .i64 q ∧ OwnX 104 (fun k=>k < B ∨ (statusK sq.l = 1 ∧ Rz k)) wz B u14 oq ∧ RF Sz Rz wz rb sq ∧ Same2 W S R Sz Rz ∧ (∀ k,u14.ownBlock = some k → Sz k ∧ ¬ Rz k) ∧ (q < n → statusK sq.l = 1) ∧ rdecFold now (decided s now) l = ((rdecFold now sq (l.drop q)).1,oq ++ (rdecFold now sq (l.drop q)).2) ∧ sq.late = s.late ∧ sq.l.length = s.l.length + 1 + q ∧ oq.length ≤ q ∧ Fr R W wz) (fun u14 kv _=>n - (intOf kv).toNat)
 case atStart=>exact ⟨0,_,[],S1,R1,Nat.zero_le _,rfl,OwnX.nil _ _ _ _,HX6.out,HS6.out,fun k e=>(nomatch e),fun _=>status_snoc s.l _,by rw [List.drop_zero,List.nil_append],rfl,by simp [decided],Nat.le_refl _,HF6.out⟩
 case round=>
  obtain ⟨q,sq,oq,Sz,Rz,hq,rfl,hown,hrf,hsm,hob,hop,hfold,hlt9,hlen,hol,hfz⟩:=hrel
  have HQ:=Lib.hid hq
  have HOWN:=Lib.hid hown
  have HPQ:=Lib.hid hrf
  have HSM:=Lib.hid hsm
  have HOBQ:=Lib.hid hob
  have HOP:=Lib.hid hop
  have HFO:=Lib.hid hfold
  have HLA9:=Lib.hid hlt9
  have HCQ:=Lib.hid (And.intro hlen hol)
  have HFQ:=Lib.hid hfz
  have HQ32 : Hid (q ≤ 32):=Lib.hid (by have:=HMAY.out.1;have:=HN.out;omega)
  clear hq hown hrf hsm hob hop hfold hlt9 hlen hol hfz
  by_cases hlt : q < n
  rotate_left
  ·have hqn : q = n:=by have:=HQ.out;omega
   have p0 : decide ((q : Int) < (n : Int)) = false:=decide_eq_false (by omega)
   have p0' : decide (q < n) = false:=decide_eq_false (by omega)
   have hdr : l.drop q = []:=List.drop_eq_nil_of_le (by rw [HN.out];omega)
   have HFE : Hid (rdecFold now (decided s now) l = (sq,oq)):=Lib.hid (by
    have:=HFO.out
    rw [hdr,rdecFold,List.append_nil] at this
    exact this)
   have HST:=Lib.hid (rstatus_any Sz Rz wr rb sq HPQ.out)
   obtain ⟨v9,hb9⟩:=HPQ.out.blk
   have F9 : Hid (∀ w',Fr (fun _=>False) wr w' → w'.cell? ⟨rb,9,none⟩ = some (.bool true)):=Lib.hid (fun w' hf=>by
    have:=(hb9.fr hf id).cell 9
    simp only [rcells,lA,lB,lC] at this
    rw [HLA9.out,HLT.out] at this
    exact this)
   subst hqn
   clear hlt hdr hb9
   obtain ⟨z,hz⟩ : ∃ z,statusK sq.l = z:=⟨_,rfl⟩
   rw [hz] at HST
   have HSTA:=HST
   clear HST
   by_cases hst : z = 1
   rotate_left
   ·have p7 : (z == 1) = false:=by simp [hst]
    have e1 : Hid (rfineC s l now = (sq,oq,0)):=Lib.hid (by
     unfold rfineC
     rw [HFE.out,if_neg]
     rintro ⟨_,e⟩
     exact hst (hz.symm.trans e))
    clear hst hz
    go_wp2_with (first | (go_at_call 73;refine HSTA.out.mono ?_;rintro e w9 ⟨rfl,hf9⟩;have HF9:=Lib.hid hf9;have x9:=F9.out _ hf9;clear hf9) | (go_at_call 64;refine (rsettle_any Sz Rz _ rb sq (HPQ.out.fr0 HF9.out) (by have:=HCQ.out;have:=HL.out;have:=HQ32.out;omega) _ _ 0).mono ?_;rintro e w10 ⟨rfl,rfl⟩) | go_in)
    go_ret2
    rw [e1.out]
    exact ⟨u14,rfl,by rw [HB.out];exact (HOWN.out.outs (fun k e=>.inl e)).fr HF9.out (fun _ e=>e.elim),Sz,Rz,HSM.out,HPQ.out.fr0 HF9.out,HFQ.out.trans (HF9.out.mono fun _ e=>e.elim)⟩
   subst hst
   have HZ:=Lib.hid hz
   have e1 : Hid (rfineC s l now = (sched sq now,oq ++ [⟨1,sq.list,(sq.l.length : Int) + 1,sq.turn,0,0,0,[]⟩],0)):=Lib.hid (by
    unfold rfineC
    rw [HFE.out,if_pos ⟨HLT.out,hz⟩])
   clear hz
   go_wp2_with (first
    | (go_at_call 73;refine HSTA.out.mono ?_;rintro e w9 ⟨rfl,hf9⟩;have HF9:=Lib.hid hf9;have x9:=F9.out _ hf9;clear hf9)
    | (go_at_call 27;refine (rsched_any Sz Rz w9 rb sq (HPQ.out.fr0 HF9.out) (by have:=HCQ.out;have:=HL.out;have:=HQ32.out;omega) now).mono ?_;intro e w10 hsm0
       obtain ⟨vo,S2,R2,rfl,ho,hs2,hrf2,hf6,hox⟩:=RMeth.x (b:=True) hsm0 (fun _ o hoo=>by simp only [List.mem_singleton] at hoo;rw [hoo])
       have hown9:=HOWN.out.fr HF9.out (fun _ e=>e.elim) (fun _ _ e=>e)
       have HB9 : Hid (B ≤ w9.heap.size):=Lib.hid (by have:=HFQ.out.size;have:=HF9.out.size;have:=HB.out;omega)
       obtain ⟨v',W',hrun,hown',hfa,hob⟩:=app_oX infoO45 45 (fun k=>k < B ∨ (True ∧ R2 k)) w10 B u14 vo oq [⟨1,sq.list,(sq.l.length : Int) + 1,sq.turn,0,0,0,[]⟩] (by have:=hf6.size;have:=HB9.out;omega) (own_step hown9 HZ.out hs2 hf6 HB9.out (fun k e=>(HOBQ.out k e).2)) (outs_step ho hox HB9.out (fun k e=>(hown9.ob e).2.1) id) (by have:=HCQ.out;have:=HQ32.out;simp only [List.length_cons,List.length_nil];omega)
       obtain ⟨S3,hs3,hrf3,hob3⟩:=RF.app hrf2 (own_step hown9 HZ.out hs2 hf6 HB9.out (fun k e=>(HOBQ.out k e).2) (P:=True)) (by decide) hfa (fun k e=>⟨(hs2 k (hown9.ob e).2.1).1.2 (HOBQ.out k e).1,fun e2=>(HOBQ.out k e).2 ((hs2 k (hown9.ob e).2.1).2.1 e2)⟩) hob (fun k e=>(hown'.ob e).2.1)
       have HOWN':=Lib.hid hown'
       have HRF3:=Lib.hid hrf3
       have HS3 : Hid (Same2 W S R S3 R2):=Lib.hid (fun k hk=>by
        have hk9 : k < w9.heap.size:=Nat.lt_of_lt_of_le hk (Nat.le_trans HFQ.out.size HF9.out.size)
        have h1:=HSM.out k hk
        have h2:=hs2 k hk9
        have h3:=hs3 k (Nat.lt_of_lt_of_le hk9 hf6.size)
        exact ⟨h3.1.trans (h2.1.trans h1.1),h3.2.trans (h2.2.trans h1.2)⟩)
       have HF3' : Hid (Fr R W W'):=Lib.hid (Fr.step (Fr.step (HFQ.out.trans (HF9.out.mono fun _ e=>e.elim)) hf6 (fun k hk e=>(HSM.out k hk).2.1 e)) hfa (fun k hk e=>by have:=(HOWN.out.ob e).1;have:=HB.out;omega))
       clear hsm0 ho hs2 hrf2 hf6 hox hown' hfa hob hs3 hrf3 hob3 hown9 x9)
    | (at_builtin;refine wpList_appRunV rfl _ _ _ rfl _ _ _ rfl rfl hrun ?_)
    | (go_at_call 64;refine (rsettle_any S3 R2 _ rb (sched sq now) HRF3.out (by show (sched sq now).l.length ≤ _;unfold sched;simp only [List.length_append,List.length_cons,List.length_nil];have:=HCQ.out;have:=HL.out;have:=HQ32.out;omega) _ _ 0).mono ?_;rintro e w11 ⟨rfl,rfl⟩)
    | go_in)
   go_ret2
   rw [e1.out]
   exact ⟨v',rfl,by rw [HB.out];exact HOWN'.out.outs (fun k e=>.inl e),S3,R2,HS3.out,HRF3.out,HF3'.out⟩
  exact absurd hlt (by have:=HN0.out;omega)
set_option maxRecDepth 100000 in
set_option maxHeartbeats 2000000 in
theorem rdecide_fine_c (S R : Nat → Prop) (W : World) (rb : Nat) (s : FSt) (h : RF S R W rb s) (hl : s.l.length ≤ 4000) (ref turn now : Int) (ao : Option Addr) (cp : Nat) (l : List Dv) (hrow : RowD S W ao l) (hcp : l.length ≤ cp) (hdd : ∀ x ∈ l,∀ u ∈ x.d,u.oneCell' = true) (hs : s.task = 2 ∧ s.at_ = ref ∧ s.turn = turn) (hbv : rbadS s l = false) (hlate : s.late = true) (hn0 : 0 < l.length) (he5 : endsB l = false) :
 Calls Tryz.prog 36 #[.pointer (some ⟨rb,0,none⟩),.int .i64 ref,.int .i64 turn,.slice ao l.length cp,.int .i64 now] W fun e W'=>RActX S R W rb (rtryC s 0 now (rdecideC s ref turn l now)) e W':=by
 have HRDY:=Lib.hid (rready_any S R W rb s h none 0 0 now)
 have HRF:=Lib.hid h
 have HL:=Lib.hid hl
 unfold rtryC
 obtain ⟨er,her⟩ : ∃ x,readyE s 0 now = x:=⟨_,rfl⟩
 rw [her] at HRDY ⊢
 by_cases h0 : er = 0
 rotate_left
 ·rw [if_neg h0]
  have p0 : (er != 0) = true:=by simp [h0]
  clear h h0 her hl hrow hcp hdd hs hbv hlate hn0 he5
  go_enter Tryz.func36,Tryz.ntmps36
  go_wp2_with (first | (go_at_call 62;refine HRDY.out.mono ?_;rintro e w1 ⟨rfl,hf1⟩) | go_in)
  go_ret2
  exact ⟨_,rfl,Outs.nil _ _,ROut.refl HRF.out hf1⟩
 subst h0
 rw [if_pos rfl]
 skip
 clear h her hl
 obtain ⟨v0,hb⟩:=HRF.out.blk
 have HROW:=Lib.hid (And.intro hrow (And.intro hcp hdd))
 obtain ⟨n,hn⟩ : ∃ n,l.length = n:=⟨_,rfl⟩
 have HN:=Lib.hid hn
 obtain ⟨ta,hta⟩ : ∃ x,s.task = x:=⟨_,rfl⟩
 obtain ⟨aa,haa⟩ : ∃ x,s.at_ = x:=⟨_,rfl⟩
 obtain ⟨tu,htu⟩ : ∃ x,s.turn = x:=⟨_,rfl⟩
 obtain ⟨la,hla⟩ : ∃ x,s.late = x:=⟨_,rfl⟩
 have FX : Hid (∀ w',Fr (fun _=>False) W w' → w'.cell? ⟨rb,5,none⟩ = some (.int .i64 ta) ∧ w'.cell? ⟨rb,6,none⟩ = some (.int .i64 aa) ∧ w'.cell? ⟨rb,8,none⟩ = some (.int .i64 tu) ∧ w'.cell? ⟨rb,7,none⟩ = some (.int .i64 s.bg) ∧ w'.cell? ⟨rb,9,none⟩ = some (.bool la)):=Lib.hid (fun w' hf=>by
  have h:=hb.fr hf id
  have h5:=h.cell 5
  have h6:=h.cell 6
  have h7:=h.cell 7
  have h8:=h.cell 8
  have h9:=h.cell 9
  simp only [rcells,lA,lB,lC] at h5 h6 h7 h8 h9
  rw [hta] at h5
  rw [haa] at h6
  rw [htu] at h8
  rw [hla] at h9
  exact ⟨h5,h6,h8,h7,h9⟩)
 rw [hn]
 have HBV:=Lib.hid hbv
 unfold rdecideC
 rw [if_pos hs]
 rw [if_neg (by rw [hbv];decide),if_neg (by rw [he5];rintro ⟨_,e⟩;cases e)]
 have HLT:=Lib.hid hlate
 rw [hlate] at hla
 subst hla
 have HE5:=Lib.hid he5
 rw [hn] at hn0
 obtain ⟨q1,q2,q3⟩:=hs
 rw [hta] at q1
 rw [haa] at q2
 rw [htu] at q3
 subst q1
 have p2 : (aa != ref) = false:=by simp [q2]
 have p3 : (tu != turn) = false:=by simp [q3]
 clear hb hta haa htu hrow hcp hdd hn hbv hlate he5 q2 q3
 obtain ⟨x,hx⟩ : ∃ x,l[n - 1]? = some x:=⟨_,List.getElem?_eq_getElem (by have:=HN.out;omega)⟩
 have hex : endsB l = decide (5 ≤ x.k):=by
  unfold endsB
  rw [List.getLast?_eq_getElem?,HN.out,hx]
 obtain ⟨b,of,va,vc,hao,_,hcell⟩:=HROW.out.1.at_ hx
 obtain ⟨m,hm⟩ : ∃ m,n - 1 = m:=⟨_,rfl⟩
 have hn32 : n ≤ 32:=by have:=(rbad_may HBV.out).1;rw [HN.out] at this;exact this
 obtain ⟨kk,hkk⟩ : ∃ k,x.k = k:=⟨_,rfl⟩
 rw [hkk] at hex
 have HK5:=Lib.hid hex
 have HMN : Hid (n = m + 1):=Lib.hid (by omega)
 have hwm : wrap64 ((n : Int) - 1) = (m : Int):=by have:=HMN.out;clear hx hcell hao;rw [wrap64];omega
 have hm0 : (0 : Int) ≤ (m : Int) ∧ (m : Int) < (n : Int):=by have:=HMN.out;omega
 have hng : decide ((n : Int) > 0) = true:=decide_eq_true (by omega)
 have hng2 : decide (0 < n) = true:=decide_eq_true (by omega)
 have FL : Hid (∀ w',Fr (fun _=>False) W w' → w'.cell? ⟨b,of + m * 5,none⟩ = some (.int .i64 kk)):=Lib.hid (fun w' hf=>by
  have:=hcell w' hf 0 _ rfl
  rw [hm,hkk] at this
  exact this)
 subst hao
 clear hx hcell hm hkk hex hn0 hn32
 have p5 : decide (kk ≥ 5) = false:=by rw [← HE5.out,HK5.out]
 have p6 : decide (5 ≤ kk) = false:=p5
 have HBAD : Hid (∀ w,Fr (fun _=>False) W w → Calls Tryz.prog 70 #[.pointer (some ⟨rb,0,none⟩),.slice (some ⟨b,of,none⟩) n cp] w fun e W'=>e = .returned (.bool false) ∧ Fr (fun _=>False) w W'):=Lib.hid (fun w hf=>by
  have:=rbad_any S R w rb s (HRF.out.fr0 hf) (by have:=HL.out;omega) _ cp l (HROW.out.1.fr (hf.mono fun _ e=>e.elim) (fun _ e=>e)) HROW.out.2.1
  rw [HN.out,HBV.out] at this
  exact this)
 go_enter Tryz.func36,Tryz.ntmps36
 go_upto_region 11 with (first | (go_at_call 62;refine HRDY.out.mono ?_;rintro e w1 ⟨rfl,hf1⟩;have HF1:=Lib.hid hf1;obtain ⟨x5,x6,x8,_⟩:=FX.out _ hf1;clear hf1) | (go_at_call 63;refine (rtwin_any S R w1 rb s (HRF.out.fr0 HF1.out)).mono ?_;rintro e w2 ⟨⟨tb,rfl⟩,hf2⟩;have HF2:=Lib.hid (HF1.out.trans hf2);clear hf2 x5 x6 x8) | (go_at_call 70;refine (HBAD.out w2 HF2.out).mono ?_;rintro e w3 ⟨rfl,hf3⟩;have HF3:=Lib.hid (HF2.out.trans hf3);obtain ⟨_,_,_,x7,x9⟩:=FX.out _ HF3.out;clear hf3;have f9:=FL.out _ HF3.out) | go_in)
 go_upto_region 12 with (first | (go_at_call 26;refine (rput_any S R w3 rb s (HRF.out.fr0 HF3.out) (by have:=HL.out;omega) 4 now s.bg 0 0 0 none 0 0 [] (RowB.nil _ _) (by simp) (by simp)).mono ?_;rintro e w4 ⟨rfl,S1,R1,hs1,hrf,hfr⟩;have HS1:=Lib.hid hs1;have HX1:=Lib.hid hrf;have HF4:=Lib.hid hfr;clear hs1 hrf hfr x7 x9 f9) | go_in)
 obtain ⟨v4,hb4⟩:=HX1.out.blk
 have x5:=hb4.cell 5
 have xz5:=hb4.frozen 5
 simp only [rcells,lA,lB,lC] at x5
 clear hb4
 go_upto_region 13 with (fail)
 have hf5 : Fr (fun k=>k = rb) w4 (w4.setCell ⟨rb,5,none⟩ (.int .i64 0)):=Fr.setCell (S:=fun k=>k = rb) w4 ⟨rb,5,none⟩ _ rfl
 have hx5:=HX1.out.cells (s':={ s with task:=0,l:=s.l ++ [⟨4,now,s.bg,0,0,0,[]⟩] }) hf5 rfl (fun v hb=>by
  have:=hb.set 5 (.int .i64 0)
  simpa only [rcells,lG,lH,lI] using this)
 obtain ⟨w5,hw5⟩ : ∃ w,w4.setCell ⟨rb,5,none⟩ (.int .i64 0) = w:=⟨_,rfl⟩
 rw [hw5] at hf5 hx5 ⊢
 have HX5:=Lib.hid hx5
 have HFC5:=Lib.hid hf5
 clear hw5 hf5 hx5 x5 xz5
 obtain ⟨v5,hb5⟩:=HX5.out.blk
 have x8:=hb5.cell 8
 have xz8:=hb5.frozen 8
 simp only [rcells,lA,lB,lC] at x8
 clear hb5
 go_upto_region 14 with (fail)
 have hf6 : Fr (fun k=>k = rb) w5 (w5.setCell ⟨rb,8,none⟩ (.int .i64 0)):=Fr.setCell (S:=fun k=>k = rb) w5 ⟨rb,8,none⟩ _ rfl
 have hx6:=HX5.out.cells (s':=decided s now) hf6 rfl (fun v hb=>by
  have:=hb.set 8 (.int .i64 0)
  simpa only [rcells,decided,lG,lH,lI] using this)
 obtain ⟨w6,hw6⟩ : ∃ w,w5.setCell ⟨rb,8,none⟩ (.int .i64 0) = w:=⟨_,rfl⟩
 rw [hw6] at hf6 hx6 ⊢
 have HX6:=Lib.hid hx6
 have HFC6:=Lib.hid hf6
 clear hw6 hf6 hx6 x8 xz8
 have HF6 : Hid (Fr R W w6):=Lib.hid (Fr.step ((HF3.out.mono fun _ e=>e.elim).trans HF4.out) (HFC5.out.trans HFC6.out) (fun k hk e=>e ▸ HRF.out.r))
 have HS6 : Hid (Same2 W S R S1 R1):=Lib.hid (fun k hk=>HS1.out k (Nat.lt_of_lt_of_le hk HF3.out.size))
 have HMAY:=Lib.hid (rbad_may HBV.out)
 obtain ⟨B,hB⟩ : ∃ B,W.heap.size = B:=⟨_,rfl⟩
 have HB:=Lib.hid hB
 clear hB HX1 HX5 HFC5 HFC6 HF4 FX HBAD HS1
 go_upto_region 15 with (fail)
 go_wp2_with fail
 go_loopw [14,15] (fun u14 kv wz=>∃ (q : Nat) (sq : FSt) (oq : List Ov) (Sz Rz : Nat → Prop),q ≤ n ∧ kv = .int .i64 q ∧ OwnX 104 (fun k=>k < B ∨ (statusK sq.l = 1 ∧ Rz k)) wz B u14 oq ∧ RF Sz Rz wz rb sq ∧ Same2 W S R Sz Rz ∧ (∀ k,u14.ownBlock = some k → Sz k ∧ ¬ Rz k) ∧ (q < n → statusK sq.l = 1) ∧ rdecFold now (decided s now) l = ((rdecFold now sq (l.drop q)).1,oq ++ (rdecFold now sq (l.drop q)).2) ∧ sq.late = s.late ∧ sq.l.length = s.l.length + 1 + q ∧ oq.length ≤ q ∧ Fr R W wz) (fun u14 kv _=>n - (intOf kv).toNat)
 case atStart=>exact ⟨0,_,[],S1,R1,Nat.zero_le _,rfl,OwnX.nil _ _ _ _,HX6.out,HS6.out,fun k e=>(nomatch e),fun _=>status_snoc s.l _,by rw [List.drop_zero,List.nil_append],rfl,by simp [decided],Nat.le_refl _,HF6.out⟩
 case round=>
  obtain ⟨q,sq,oq,Sz,Rz,hq,rfl,hown,hrf,hsm,hob,hop,hfold,hlt9,hlen,hol,hfz⟩:=hrel
  have HQ:=Lib.hid hq
  have HOWN:=Lib.hid hown
  have HPQ:=Lib.hid hrf
  have HSM:=Lib.hid hsm
  have HOBQ:=Lib.hid hob
  have HOP:=Lib.hid hop
  have HFO:=Lib.hid hfold
  have HLA9:=Lib.hid hlt9
  have HCQ:=Lib.hid (And.intro hlen hol)
  have HFQ:=Lib.hid hfz
  have HQ32 : Hid (q ≤ 32):=Lib.hid (by have:=HMAY.out.1;have:=HN.out;omega)
  clear hq hown hrf hsm hob hop hfold hlt9 hlen hol hfz
  by_cases hlt : q < n
  rotate_left
  ·have hqn : q = n:=by have:=HQ.out;omega
   have p0 : decide ((q : Int) < (n : Int)) = false:=decide_eq_false (by omega)
   have p0' : decide (q < n) = false:=decide_eq_false (by omega)
   have hdr : l.drop q = []:=List.drop_eq_nil_of_le (by rw [HN.out];omega)
   have HFE : Hid (rdecFold now (decided s now) l = (sq,oq)):=Lib.hid (by
    have:=HFO.out
    rw [hdr,rdecFold,List.append_nil] at this
    exact this)
   have HST:=Lib.hid (rstatus_any Sz Rz wr rb sq HPQ.out)
   obtain ⟨v9,hb9⟩:=HPQ.out.blk
   have F9 : Hid (∀ w',Fr (fun _=>False) wr w' → w'.cell? ⟨rb,9,none⟩ = some (.bool true)):=Lib.hid (fun w' hf=>by
    have:=(hb9.fr hf id).cell 9
    simp only [rcells,lA,lB,lC] at this
    rw [HLA9.out,HLT.out] at this
    exact this)
   subst hqn
   clear hlt hdr hb9
   obtain ⟨z,hz⟩ : ∃ z,statusK sq.l = z:=⟨_,rfl⟩
   rw [hz] at HST
   have HSTA:=HST
   clear HST
   by_cases hst : z = 1
   rotate_left
   ·have p7 : (z == 1) = false:=by simp [hst]
    have e1 : Hid (rfineC s l now = (sq,oq,0)):=Lib.hid (by
     unfold rfineC
     rw [HFE.out,if_neg]
     rintro ⟨_,e⟩
     exact hst (hz.symm.trans e))
    clear hst hz
    go_wp2_with (first | (go_at_call 73;refine HSTA.out.mono ?_;rintro e w9 ⟨rfl,hf9⟩;have HF9:=Lib.hid hf9;have x9:=F9.out _ hf9;clear hf9) | (go_at_call 64;refine (rsettle_any Sz Rz _ rb sq (HPQ.out.fr0 HF9.out) (by have:=HCQ.out;have:=HL.out;have:=HQ32.out;omega) _ _ 0).mono ?_;rintro e w10 ⟨rfl,rfl⟩) | go_in)
    go_ret2
    rw [e1.out]
    exact ⟨u14,rfl,by rw [HB.out];exact (HOWN.out.outs (fun k e=>.inl e)).fr HF9.out (fun _ e=>e.elim),Sz,Rz,HSM.out,HPQ.out.fr0 HF9.out,HFQ.out.trans (HF9.out.mono fun _ e=>e.elim)⟩
   subst hst
   have HZ:=Lib.hid hz
   have e1 : Hid (rfineC s l now = (sched sq now,oq ++ [⟨1,sq.list,(sq.l.length : Int) + 1,sq.turn,0,0,0,[]⟩],0)):=Lib.hid (by
    unfold rfineC
    rw [HFE.out,if_pos ⟨HLT.out,hz⟩])
   clear hz
   go_wp2_with (first
    | (go_at_call 73;refine HSTA.out.mono ?_;rintro e w9 ⟨rfl,hf9⟩;have HF9:=Lib.hid hf9;have x9:=F9.out _ hf9;clear hf9)
    | (go_at_call 27;refine (rsched_any Sz Rz w9 rb sq (HPQ.out.fr0 HF9.out) (by have:=HCQ.out;have:=HL.out;have:=HQ32.out;omega) now).mono ?_;intro e w10 hsm0
       obtain ⟨vo,S2,R2,rfl,ho,hs2,hrf2,hf6,hox⟩:=RMeth.x (b:=True) hsm0 (fun _ o hoo=>by simp only [List.mem_singleton] at hoo;rw [hoo])
       have hown9:=HOWN.out.fr HF9.out (fun _ e=>e.elim) (fun _ _ e=>e)
       have HB9 : Hid (B ≤ w9.heap.size):=Lib.hid (by have:=HFQ.out.size;have:=HF9.out.size;have:=HB.out;omega)
       obtain ⟨v',W',hrun,hown',hfa,hob⟩:=app_oX infoO45 45 (fun k=>k < B ∨ (True ∧ R2 k)) w10 B u14 vo oq [⟨1,sq.list,(sq.l.length : Int) + 1,sq.turn,0,0,0,[]⟩] (by have:=hf6.size;have:=HB9.out;omega) (own_step hown9 HZ.out hs2 hf6 HB9.out (fun k e=>(HOBQ.out k e).2)) (outs_step ho hox HB9.out (fun k e=>(hown9.ob e).2.1) id) (by have:=HCQ.out;have:=HQ32.out;simp only [List.length_cons,List.length_nil];omega)
       obtain ⟨S3,hs3,hrf3,hob3⟩:=RF.app hrf2 (own_step hown9 HZ.out hs2 hf6 HB9.out (fun k e=>(HOBQ.out k e).2) (P:=True)) (by decide) hfa (fun k e=>⟨(hs2 k (hown9.ob e).2.1).1.2 (HOBQ.out k e).1,fun e2=>(HOBQ.out k e).2 ((hs2 k (hown9.ob e).2.1).2.1 e2)⟩) hob (fun k e=>(hown'.ob e).2.1)
       have HOWN':=Lib.hid hown'
       have HRF3:=Lib.hid hrf3
       have HS3 : Hid (Same2 W S R S3 R2):=Lib.hid (fun k hk=>by
        have hk9 : k < w9.heap.size:=Nat.lt_of_lt_of_le hk (Nat.le_trans HFQ.out.size HF9.out.size)
        have h1:=HSM.out k hk
        have h2:=hs2 k hk9
        have h3:=hs3 k (Nat.lt_of_lt_of_le hk9 hf6.size)
        exact ⟨h3.1.trans (h2.1.trans h1.1),h3.2.trans (h2.2.trans h1.2)⟩)
       have HF3' : Hid (Fr R W W'):=Lib.hid (Fr.step (Fr.step (HFQ.out.trans (HF9.out.mono fun _ e=>e.elim)) hf6 (fun k hk e=>(HSM.out k hk).2.1 e)) hfa (fun k hk e=>by have:=(HOWN.out.ob e).1;have:=HB.out;omega))
       clear hsm0 ho hs2 hrf2 hf6 hox hown' hfa hob hs3 hrf3 hob3 hown9 x9)
    | (at_builtin;refine wpList_appRunV rfl _ _ _ rfl _ _ _ rfl rfl hrun ?_)
    | (go_at_call 64;refine (rsettle_any S3 R2 _ rb (sched sq now) HRF3.out (by show (sched sq now).l.length ≤ _;unfold sched;simp only [List.length_append,List.length_cons,List.length_nil];have:=HCQ.out;have:=HL.out;have:=HQ32.out;omega) _ _ 0).mono ?_;rintro e w11 ⟨rfl,rfl⟩)
    | go_in)
   go_ret2
   rw [e1.out]
   exact ⟨v',rfl,by rw [HB.out];exact HOWN'.out.outs (fun k e=>.inl e),S3,R2,HS3.out,HRF3.out,HF3'.out⟩
  obtain ⟨x,hx⟩ : ∃ x,l[q]? = some x:=⟨_,List.getElem?_eq_getElem (by rw [HN.out];exact hlt)⟩
  have HDR : Hid (l.drop q = x :: l.drop (q + 1)):=Lib.hid (by
   rw [List.drop_eq_getElem_cons (by rw [HN.out];exact hlt)]
   have:=(List.getElem?_eq_some_iff.1 hx).2
   rw [this])
  have hmem : x ∈ l:=List.mem_of_getElem? hx
  have hopq:=HOP.out hlt
  have HOPQ:=Lib.hid hopq
  have HXM : Hid (mayD x = true ∧ (q + 1 < n → x.k < 5)):=Lib.hid (by have:=HMAY.out.2 q x hx;rw [HN.out] at this;exact this)
  obtain ⟨b',of',va,vc,hao,hdr,hcell⟩:=((HROW.out.1.to (S':=fun k=>R k) (fun k hk e=>HRF.out.rs _ e)).fr HFQ.out (fun k e=>e)).at_ hx
  have HXD : Hid (x.d.length ≤ 100000 ∧ ∀ u ∈ x.d,u.oneCell' = true):=Lib.hid ⟨by have:=(mayD_all HXM.out.1).2.2.2.1;omega,HROW.out.2.2 x hmem⟩
  obtain ⟨dl,hdl⟩ : ∃ m,x.d.length = m:=⟨_,rfl⟩
  have HRB : Hid (RowB Sz wr (.slice va x.d.length vc) x.d):=Lib.hid (rowd_at HROW.out.1 HFQ.out HSM.out (fun k e=>HRF.out.rs _ e) hx hao hcell)
  rw [hdl] at HRB hcell
  have HDO : Hid (∀ w,Fr (fun _=>False) wr w → Calls Tryz.prog 72 #[.pointer (some ⟨rb,0,none⟩),.agg #[.int .i64 x.k,.int .i64 x.i,.int .i64 x.l,.int .i64 x.n,.slice va dl vc],.int .i64 now] w fun e W'=>RMethX Sz Rz w rb (rdoneS sq x now) (doneO sq x now) (x.k < 5) e W'):=Lib.hid (fun w hf=>rdoneX_any Sz Rz w rb sq (HPQ.out.fr0 hf) (by have:=HCQ.out;have:=HL.out;have:=HQ32.out;omega) x.k x.i x.l x.n now va dl vc x.d (HRB.out.fr (hf.mono fun _ e=>e.elim)) HXD.out.1 HXD.out.2 HXM.out.1)
  have hq0 : (0 : Int) ≤ (q : Int) ∧ (q : Int) < (n : Int):=by omega
  have p0 : decide ((q : Int) < (n : Int)) = true:=decide_eq_true (by omega)
  have p0' : decide (q < n) = true:=decide_eq_true (by omega)
  have HQW : Hid (wrap64 ((q : Int) + 1) = ((q + 1 : Nat) : Int)):=Lib.hid (by have:=HQ32.out;rw [wrap64];omega)
  have HLT2:=Lib.hid hlt
  obtain ⟨rfl,rfl⟩ : b = b' ∧ of = of':=by cases hao;exact ⟨rfl,rfl⟩
  have c0 : wr.cell? ⟨b,of + q * 5,none⟩ = some (.int .i64 x.k):=hcell wr (Fr.refl _ _) 0 _ rfl
  have c1 : wr.cell? ⟨b,of + q * 5 + 1,none⟩ = some (.int .i64 x.i):=hcell wr (Fr.refl _ _) 1 _ rfl
  have c2 : wr.cell? ⟨b,of + q * 5 + 2,none⟩ = some (.int .i64 x.l):=hcell wr (Fr.refl _ _) 2 _ rfl
  have c3 : wr.cell? ⟨b,of + q * 5 + 3,none⟩ = some (.int .i64 x.n):=hcell wr (Fr.refl _ _) 3 _ rfl
  have c4 : wr.cell? ⟨b,of + q * 5 + 4,none⟩ = some (.slice va dl vc):=hcell wr (Fr.refl _ _) 4 _ rfl
  clear hlt hx hmem hdr hcell hdl hopq
  go_wp2_with (first
   | (go_at_call 72;refine (HDO.out _ (Fr.refl _ _)).mono ?_;rintro e w6' ⟨vo,S2,R2,rfl,ho,hs2,hrf2,hf6,hox⟩
      have HMK:=Lib.hid (mayD_k HXM.out.1)
      obtain ⟨v',W',hrun,hown',hfa,hob⟩:=app_oX infoO45 45 (fun k=>k < B ∨ (statusK (rdoneS sq x now).l = 1 ∧ R2 k)) w6' B u14 vo oq (doneO sq x now) (by have:=HFQ.out.size;have:=hf6.size;have:=HB.out;omega) (own_step HOWN.out HOPQ.out hs2 hf6 (by have:=HFQ.out.size;have:=HB.out;omega) (fun k e=>(HOBQ.out k e).2)) (outs_step ho hox (by have:=HFQ.out.size;have:=HB.out;omega) (fun k e=>(HOWN.out.ob e).2.1) (fun h=>(rdone_stat sq x now HMK.out).1 h)) (by have:=HCQ.out;have:=HQ32.out;have:=doneO_len sq x now;omega)
      obtain ⟨S3,hs3,hrf3,hob3⟩:=RF.app hrf2 (own_step HOWN.out HOPQ.out hs2 hf6 (by have:=HFQ.out.size;have:=HB.out;omega) (fun k e=>(HOBQ.out k e).2) (P:=statusK (rdoneS sq x now).l = 1)) (by decide) hfa (fun k e=>⟨(hs2 k (HOWN.out.ob e).2.1).1.2 (HOBQ.out k e).1,fun e2=>(HOBQ.out k e).2 ((hs2 k (HOWN.out.ob e).2.1).2.1 e2)⟩) hob (fun k e=>(hown'.ob e).2.1)
      have HOWN':=Lib.hid hown'
      have HRF3:=Lib.hid hrf3
      have HOB3:=Lib.hid hob3
      have HS3 : Hid (Same2 W S R S3 R2):=Lib.hid (fun k hk=>by
       have h1:=HSM.out k hk
       have h2:=hs2 k (Nat.lt_of_lt_of_le hk HFQ.out.size)
       have h3:=hs3 k (Nat.lt_of_lt_of_le hk (Nat.le_trans HFQ.out.size hf6.size))
       exact ⟨h3.1.trans (h2.1.trans h1.1),h3.2.trans (h2.2.trans h1.2)⟩)
      have HF3' : Hid (Fr R W W'):=Lib.hid (Fr.step (Fr.step HFQ.out hf6 (fun k hk e=>(HSM.out k hk).2.1 e)) hfa (fun k hk e=>by have:=(HOWN.out.ob e).1;have:=HB.out;omega))
      clear ho hs2 hrf2 hf6 hox hown' hfa hob hs3 hrf3 hob3 HDO c0 c1 c2 c3 c4)
   | (at_builtin;refine wpList_appRunV rfl _ _ _ rfl _ _ _ rfl rfl hrun ?_)
   | go_in)
  go_roundw
  case rel=>
   refine ⟨q + 1,rdoneS sq x now,oq ++ doneO sq x now,S3,R2,HLT2.out,congrArg (Value.int .i64) HQW.out,HOWN'.out,HRF3.out,HS3.out,HOB3.out,fun h=>(rdone_stat sq x now HMK.out).2 (HXM.out.2 h),?_,by rw [rdone_late];exact HLA9.out,by rw [rdone_len];have:=HCQ.out;omega,by have:=HCQ.out;have:=doneO_len sq x now;rw [List.length_append];omega,HF3'.out⟩
   rw [HFO.out,HDR.out,rdecFold,List.append_assoc]
  case measure=>rw [HQW.out];simp only [intOf];have:=HLT2.out;omega
set_option maxRecDepth 100000 in
set_option maxHeartbeats 2000000 in
theorem rdecide_any (S R : Nat → Prop) (W : World) (rb : Nat) (s : FSt) (h : RF S R W rb s) (hl : s.l.length ≤ 4000) (ref turn now : Int) (ao : Option Addr) (cp : Nat) (l : List Dv) (hrow : RowD S W ao l) (hcp : l.length ≤ cp) (hdd : ∀ x ∈ l,∀ u ∈ x.d,u.oneCell' = true)  :
 Calls Tryz.prog 36 #[.pointer (some ⟨rb,0,none⟩),.int .i64 ref,.int .i64 turn,.slice ao l.length cp,.int .i64 now] W fun e W'=>RActX S R W rb (rtryC s 0 now (rdecideC s ref turn l now)) e W':=by
 by_cases hs : s.task = 2 ∧ s.at_ = ref ∧ s.turn = turn
 rotate_left
 ·exact rdecide_stale S R W rb s h hl ref turn now ao cp l hrow hcp hdd hs
 cases hb : rbadS s l with
 | true=>exact rdecide_bad S R W rb s h hl ref turn now ao cp l hrow hcp hdd hs hb
 | false=>
   cases hla : s.late with
   | false=>exact rdecide_fine_a S R W rb s h hl ref turn now ao cp l hrow hcp hdd hs hb hla
   | true=>
     by_cases hn : l.length = 0
     ·exact rdecide_fine_b S R W rb s h hl ref turn now ao cp l hrow hcp hdd hs hb hla hn
     cases he : endsB l with
     | false=>exact rdecide_fine_c S R W rb s h hl ref turn now ao cp l hrow hcp hdd hs hb hla (by omega) he
     | true=>exact rdecide_late S R W rb s h hl ref turn now ao cp l hrow hcp hdd hs hb hla (by omega) he
end Go.Proofs.YtnkelaohcbdjnaaGreat
