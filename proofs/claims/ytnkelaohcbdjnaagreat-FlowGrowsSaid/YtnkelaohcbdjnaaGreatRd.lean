/- The document's schedule,wake,close,settle,Twin. -/
import Derived.Test.YtnkelaohcbdjnaaGreatRa
import Derived.Test.YtnkelaohcbdjnaaGreatOw
import Derived.Test.YtnkelaohcbdjnaaGreatCl
import Derived.Deep.QuietTactic
import Derived.BigQuiet
set_option linter.unusedVariables false
set_option linter.unusedSimpArgs false
namespace Go.Proofs.YtnkelaohcbdjnaaGreat
open Go.RowKit Go.Maps Ev
/-- what the document's run shows of a state -/
def core (s : FSt) : FSt:={ s with mc:=0,mp:=fun _=>none }
theorem RF.core {S R : Nat → Prop} {W : World} {rb : Nat} {s s' : FSt} (h : RF S R W rb s) (he : YtnkelaohcbdjnaaGreat.core s' = YtnkelaohcbdjnaaGreat.core s) : RF S R W rb s':=by
 have e1 : s'.l = s.l:=(congrArg FSt.l he : (YtnkelaohcbdjnaaGreat.core s').l = (YtnkelaohcbdjnaaGreat.core s).l)
 have e2 : ∀ v,rcells s' v = rcells s v:=fun v=>by
  have h1:=congrArg FSt.id he
  have h2:=congrArg FSt.run he
  have h3:=congrArg FSt.list he
  have h4:=congrArg FSt.n he
  have h5:=congrArg FSt.task he
  have h6:=congrArg FSt.at_ he
  have h7:=congrArg FSt.bg he
  have h8:=congrArg FSt.turn he
  have h9:=congrArg FSt.late he
  have h10:=congrArg FSt.asked he
  simp only [YtnkelaohcbdjnaaGreat.core] at h1 h2 h3 h4 h5 h6 h7 h8 h9 h10
  unfold rcells
  rw [h1,h2,h3,h4,h5,h6,h7,h8,h9,h10]
 obtain ⟨⟨v,L,a,b,c,d,e⟩,h3,h4,h5,h6,h7⟩:=h
 exact ⟨⟨v,L,by rw [e2];exact a,b,by rw [e1];exact c,by rw [e1];exact d,e⟩,h3,h4,h5,by rw [e1];exact h6,by rw [e1];exact h7⟩
theorem ROut.core {S R : Nat → Prop} {W W' : World} {rb : Nat} {s s' : FSt} (h : ROut S R W rb s W') (he : YtnkelaohcbdjnaaGreat.core s' = YtnkelaohcbdjnaaGreat.core s) : ROut S R W rb s' W':=by
 obtain ⟨S',R',h1,h2,h3⟩:=h
 exact ⟨S',R',h1,h2.core he,h3⟩
theorem RF.blk {S R : Nat → Prop} {W : World} {rb : Nat} {s : FSt} (h : RF S R W rb s) : ∃ v,Blk W rb 65 (rcells s v):=by
 obtain ⟨v,L,hb,_⟩:=h.f
 exact ⟨v,hb⟩
def RMeth (S R : Nat → Prop) (W : World) (rb : Nat) (s' : FSt) (os : List Ov) (e : Ending) (W' : World) : Prop:=∃ v,e = .returned v ∧ Outs W.heap.size W' v os ∧ ROut S R W rb s' W'
theorem RMeth.core {S R : Nat → Prop} {W W' : World} {rb : Nat} {s s' : FSt} {os : List Ov} {e : Ending} (h : RMeth S R W rb s os e W') (he : YtnkelaohcbdjnaaGreat.core s' = YtnkelaohcbdjnaaGreat.core s) : RMeth S R W rb s' os e W':=by
 obtain ⟨v,h1,h2,h3⟩:=h
 exact ⟨v,h1,h2,h3.core he⟩
set_option maxRecDepth 100000 in
set_option maxHeartbeats 2000000 in
theorem rsched_any (S R : Nat → Prop) (W : World) (rb : Nat) (s : FSt) (h : RF S R W rb s) (hl : s.l.length ≤ 50000) (now : Int) :
 Calls Tryz.prog 27 #[.pointer (some ⟨rb,0,none⟩),.int .i64 now] W fun e W'=>RMeth S R W rb (sched s now) [⟨1,s.list,(s.l.length : Int) + 1,s.turn,0,0,0,[]⟩] e W':=by
 have HRF:=Lib.hid h
 obtain ⟨v0,hb⟩:=h.blk
 have FX : Hid (∀ w',Fr (fun _=>False) W w' → w'.cell? ⟨rb,2,none⟩ = some (.int .i64 s.list) ∧ w'.cell? ⟨rb,8,none⟩ = some (.int .i64 s.turn)):=Lib.hid (fun w' hf=>⟨(hb.fr hf id).cell 2,(hb.fr hf id).cell 8⟩)
 have HP : Hid (∀ w,Fr (fun _=>False) W w → Calls Tryz.prog 26 #[.pointer (some ⟨rb,0,none⟩),.agg #[.int .i64 2,.int .i64 now,.int .i64 0,.int .i64 0,.int .i64 s.list,.int .i64 s.turn,.slice none 0 0]] w fun e W'=>e = .returned (.int .i64 ((s.l.length : Int) + 1)) ∧ ROut S R w rb { s with l:=s.l ++ [⟨2,now,0,0,s.list,s.turn,[]⟩] } W'):=Lib.hid (fun w hf=>rput_any S R w rb s (HRF.out.fr0 hf) hl 2 now 0 0 s.list s.turn none 0 0 [] (RowB.nil _ _) (by simp) (by simp))
 clear h hb
 go_enter Tryz.func27,Tryz.ntmps27
 go_upto_region 1 with (fail)
 refine region_Z (fun w'=>w'.cell? ⟨rb,2,none⟩ = some (.int .i64 s.list) ∧ w'.cell? ⟨rb,8,none⟩ = some (.int .i64 s.turn)) 15 (FX.out _ (Fr.drewN _ W 1)) (fun hH=>?_)
 refine takes (b:=?_) [0,1,2,3,4,5,6,7,8,9,10,11] hH ?_ ?_
 rotate_left
 iterate 12 ((refine Sq.yes (v:=?_) rfl (by rfl) ?_ ?_;rotate_left;· (intro w' hw';obtain ⟨f0,f1⟩:=hw';go_simp;try with_reducible rfl));try simp only [lD,lE,lF,Act.put,lG,lH,lI])
 exact Sq.nil
 refine any_op 12 rfl (fun K hK=>?_)
 go_simp
 refine (HP.out _ (Fr.drewN _ W 1)).mono ?_
 rintro e w1 ⟨rfl,S1,R1,hs1,hrf,hfr⟩
 obtain ⟨v1,hb1⟩:=hrf.blk
 have HB1:=Lib.hid hb1
 have HRF1:=Lib.hid hrf
 have HS1 : Hid (Same2 W S R S1 R1):=Lib.hid hs1
 have HF1 : Hid (Fr R W w1):=Lib.hid (((Fr.drewN (fun _=>False) W 1).mono fun _ e=>e.elim).trans hfr)
 refine hK.out _ _ ⟨hb1.cell 2,hb1.cell 8⟩ (fun hH2=>?_)
 clear hK K hb1 hrf hfr hs1
 try simp only [lD,lE,lF,Act.put,lG,lH,lI]
 refine takes (b:=?_) [13,14] hH2 ?_ ?_
 rotate_left
 iterate 2 ((refine Sq.yes (v:=?_) rfl (by rfl) ?_ ?_;rotate_left;· (intro w' hw';obtain ⟨f0,f1⟩:=hw';go_simp;try with_reducible rfl));try simp only [lD,lE,lF,Act.put,lG,lH,lI])
 exact Sq.nil
 have z6:=HB1.out.frozen 6
 have x6:=HB1.out.cell 6
 simp only [rcells,lA,lB,lC] at x6
 refine any_last rfl (fun K hK=>?_)
 go_simp
 refine hK.out _ _ ?_
 clear hK K 
 try simp only [lD,lE,lF,Act.put,lG,lH,lI]
 refine any_done ?_
 clear hH hH2 HP FX x6 z6
 have hb2 : Blk (w1.setCell ⟨rb,6,none⟩ (.int .i64 ((s.l.length : Int) + 1))) rb 65 #[.int .i64 s.id,.int .i64 s.run,.int .i64 s.list,.int .i64 s.n,v1,.int .i64 s.task,.int .i64 ((s.l.length : Int) + 1),.int .i64 s.bg,.int .i64 s.turn,.bool s.late,.bool s.asked]:=by
  have:=HB1.out.set 6 (.int .i64 ((s.l.length : Int) + 1))
  simpa only [rcells,lG,lH,lI] using this
 have hf2 : Fr (fun k=>k = rb) w1 (w1.setCell ⟨rb,6,none⟩ (.int .i64 ((s.l.length : Int) + 1))):=Fr.setCell (S:=fun k=>k = rb) w1 ⟨rb,6,none⟩ _ rfl
 have hx2 : RF S1 R1 (w1.setCell ⟨rb,6,none⟩ (.int .i64 ((s.l.length : Int) + 1))) rb { s with at_:=(s.l.length : Int) + 1,l:=s.l ++ [⟨2,now,0,0,s.list,s.turn,[]⟩] }:=HRF1.out.cells hf2 rfl (fun v hb=>by
  have:=hb.set 6 (.int .i64 ((s.l.length : Int) + 1))
  simpa only [rcells,lG,lH,lI] using this)
 obtain ⟨w2,hw2⟩ : ∃ w2,w1.setCell ⟨rb,6,none⟩ (.int .i64 ((s.l.length : Int) + 1)) = w2:=⟨_,rfl⟩
 rw [hw2] at hb2 hf2 hx2 ⊢
 have HX2:=Lib.hid hx2
 have HB2:=Lib.hid hb2
 have HF2 : Hid (Fr R W w2):=Lib.hid (HF1.out.step hf2 (fun k hk e=>(HS1.out k hk).2.1 (e ▸ HRF1.out.r)))
 clear hw2 hf2 hx2 hb2
 have x5:=HB2.out.cell 5
 have x7:=HB2.out.cell 7
 have x9:=HB2.out.cell 9
 have xz5:=HB2.out.frozen 5
 have xz7:=HB2.out.frozen 7
 have xz9:=HB2.out.frozen 9
 simp only [rcells,lA,lB,lC] at x5 x7 x9
 go_upto_region 5 with (fail)
 have hf3 : Fr (fun k=>k = rb) w2 (((w2.setCell ⟨rb,5,none⟩ (.int .i64 1)).setCell ⟨rb,7,none⟩ (.int .i64 0)).setCell ⟨rb,9,none⟩ (.bool false)):=((Fr.setCell (S:=fun k=>k = rb) w2 ⟨rb,5,none⟩ _ rfl).trans (Fr.setCell (S:=fun k=>k = rb) _ ⟨rb,7,none⟩ _ rfl)).trans (Fr.setCell (S:=fun k=>k = rb) _ ⟨rb,9,none⟩ _ rfl)
 have hx3:=HX2.out.cells (s':=sched s now) hf3 rfl (fun v hb=>by
  have:=((hb.set 5 (.int .i64 1)).set 7 (.int .i64 0)).set 9 (.bool false)
  simpa only [rcells,sched,lG,lH,lI] using this)
 obtain ⟨w3,hw3⟩ : ∃ w3,((w2.setCell ⟨rb,5,none⟩ (.int .i64 1)).setCell ⟨rb,7,none⟩ (.int .i64 0)).setCell ⟨rb,9,none⟩ (.bool false) = w3:=⟨_,rfl⟩
 rw [hw3] at hf3 hx3 ⊢
 have HX3:=Lib.hid hx3
 have HF3 : Hid (Fr R W w3):=Lib.hid (HF2.out.step hf3 (fun k hk e=>(HS1.out k hk).2.1 (e ▸ HRF1.out.r)))
 obtain ⟨v3,hb3⟩:=hx3.blk
 have FX3 : Hid (∀ w',Fr (fun _=>False) w3 w' → w'.cell? ⟨rb,2,none⟩ = some (.int .i64 s.list) ∧ w'.cell? ⟨rb,6,none⟩ = some (.int .i64 ((s.l.length : Int) + 1)) ∧ w'.cell? ⟨rb,8,none⟩ = some (.int .i64 s.turn)):=Lib.hid (fun w' hf=>⟨(hb3.fr hf id).cell 2,(hb3.fr hf id).cell 6,(hb3.fr hf id).cell 8⟩)
 clear hw3 hf3 hx3 hb3 x5 x7 x9 xz5 xz7 xz9
 refine region_Z (fun w'=>Fr (fun _=>False) w3 w') 99 (Fr.drewN _ w3 1) (fun hH=>?_)
 refine takes (b:=?_) [0,1,2,3,4,5,6,7,8,9,10,11,12] hH ?_ ?_
 rotate_left
 iterate 13 ((refine Sq.yes (v:=?_) rfl (by rfl) ?_ ?_;rotate_left;· (intro w' hw';obtain ⟨f0,f1,f2⟩:=FX3.out w' hw';go_simp;try with_reducible rfl));try simp only [lD,lE,lF,Act.put,lG,lH,lI])
 exact Sq.nil
 refine any_op 13 rfl (fun K hK=>?_)
 go_simp
 refine hK.out _ _ ((Fr.alloc _ _ _).trans (Fr.drewN _ _ 1)) (fun hH2=>?_)
 clear hK K 
 try simp only [lD,lE,lF,Act.put,lG,lH,lI]
 refine takes (b:=?_) [14] hH2 ?_ ?_
 rotate_left
 (refine Sq.yes (v:=?_) rfl (by rfl) ?_ ?_;rotate_left;· (intro w' hw';go_simp;try with_reducible rfl))
 try simp only [lD,lE,lF,Act.put,lG,lH,lI]
 exact Sq.nil
 refine any_done ?_
 have hB : Blk (w3.alloc (.cells #[.int .i64 1,.int .i64 s.list,.int .i64 ((s.l.length : Int) + 1),.int .i64 s.turn,.int .i64 0,.int .i64 0,.int .i64 0,.slice none 0 0] 104)).drew w3.heap.size 104 #[.int .i64 1,.int .i64 s.list,.int .i64 ((s.l.length : Int) + 1),.int .i64 s.turn,.int .i64 0,.int .i64 0,.int .i64 0,.slice none 0 0]:=Blk.new w3.drew 104 #[.int .i64 1,.int .i64 s.list,.int .i64 ((s.l.length : Int) + 1),.int .i64 s.turn,.int .i64 0,.int .i64 0,.int .i64 0,.slice none 0 0]
 have HB:=Lib.hid hB
 have HH:=Lib.hid hH2
 clear hB hH2
 go_wp2
 go_ret
 exact ⟨_,rfl,Outs.one HF3.out.size _ (.slice none 0 0) (RowB.nil _ _) HB.out,⟨S1,R1,HS1.out,HX3.out.fr0 HH.out,HF3.out.trans (HH.out.mono fun _ e=>e.elim)⟩⟩
/-- the run behind the document's wake -/
def rwakeS (s : FSt) (now : Int) : FSt:=if s.task = 0 then sched s now else if s.task = 2 then { s with late:=true } else s
set_option maxRecDepth 100000 in
theorem rwake_any (S R : Nat → Prop) (W : World) (rb : Nat) (s : FSt) (h : RF S R W rb s) (hl : s.l.length ≤ 50000) (now : Int) :
 Calls Tryz.prog 65 #[.pointer (some ⟨rb,0,none⟩),.int .i64 now] W fun e W'=>RMeth S R W rb (rwakeS s now) (wakeO s now) e W':=by
 unfold wakeO rwakeS
 obtain ⟨v,hb⟩:=h.blk
 have x5:=hb.cell 5
 have x9:=hb.cell 9
 have xz9:=hb.frozen 9
 simp only [rcells,lA,lB,lC] at x5 x9
 by_cases ht : s.task = 0
 ·rw [if_pos ht,if_pos ht]
  have HSC:=Lib.hid (rsched_any S R W rb s h hl now)
  rw [ht] at x5
  clear h hb ht x9 xz9
  go_enter Tryz.func65,Tryz.ntmps65
  go_wp2_with (first | (go_at_call 27;refine HSC.out.mono ?_;rintro e w2 ⟨v,rfl,h1,h3⟩) | go_in)
  go_ret
  exact ⟨v,rfl,h1,h3⟩
 rw [if_neg ht,if_neg ht]
 have HRF:=Lib.hid h
 have HB:=Lib.hid hb
 by_cases h2 : s.task = 2
 ·rw [if_pos h2]
  rw [h2] at x5
  clear h hb ht
  go_enter Tryz.func65,Tryz.ntmps65
  go_wp2
  go_ret
  have hf3 : Fr (fun k=>k = rb) W (W.setCell ⟨rb,9,none⟩ (.bool true)):=Fr.setCell (S:=fun k=>k = rb) W ⟨rb,9,none⟩ _ rfl
  have hx3:=HRF.out.cells (s':={ s with late:=true }) hf3 rfl (fun v hb=>by
   have:=hb.set 9 (.bool true)
   simpa only [rcells,lG,lH,lI] using this)
  exact ⟨_,rfl,Outs.nil _ _,S,R,fun k _=>⟨Iff.rfl,Iff.rfl⟩,hx3,hf3.mono fun k e=>e ▸ HRF.out.r⟩
 ·rw [if_neg h2]
  obtain ⟨t,htt⟩ : ∃ x,s.task = x:=⟨_,rfl⟩
  rw [htt] at ht h2 x5
  have p1 : (t == 0) = false:=by simp [ht]
  have p2 : (t == 2) = false:=by simp [h2]
  clear h hb ht htt h2 x9 xz9
  go_enter Tryz.func65,Tryz.ntmps65
  go_wp2
  go_ret
  exact ⟨_,rfl,Outs.nil _ _,ROut.refl HRF.out (Fr.refl _ _)⟩
set_option maxRecDepth 100000 in
theorem rsettle_any (S R : Nat → Prop) (W : World) (rb : Nat) (s : FSt) (h : RF S R W rb s) (hl : s.l.length ≤ 4096) (p v : Value) (er : Int) :
 Calls Tryz.prog 64 #[.pointer (some ⟨rb,0,none⟩),p,v,.int .i64 er] W fun e W'=>e = .returned (.tuple #[v,.int .i64 er]) ∧ W = W':=by
 obtain ⟨ao,cp,L,hb,_⟩:=h.rows
 have x4:=hb.cell 4
 simp only [rcells,lA,lB,lC] at x4
 obtain ⟨n,hn⟩ : ∃ n,s.l.length = n:=⟨_,rfl⟩
 rw [hn] at x4 hl
 have p1 : decide ((n : Int) > 4096) = false:=decide_eq_false (by omega)
 clear h hb hl hn
 go_enter Tryz.func64,Tryz.ntmps64
 go_wp2
 go_ret2
 exact ⟨rfl,rfl⟩
theorem flatV_idx : ∀ (l : List Ev.Ev) (j : Nat) (u : Value),(flatV l)[j]? = some u → ∃ e,l[j / 7]? = some e ∧ (evc e)[j % 7]? = some u:=fun l j u hj=>by
 have hk : j < l.length * 7:=by rw [← flatV_len l];exact (List.getElem?_eq_some_iff.1 hj).1
 obtain ⟨e,he⟩ : ∃ e,l[j / 7]? = some e:=⟨_,List.getElem?_eq_getElem (by omega)⟩
 obtain ⟨y,hy⟩ : ∃ y,(evc e)[j % 7]? = some y:=⟨_,Array.getElem?_eq_getElem (by simp [evc];omega)⟩
 have:=flatV_at l _ e _ y he hy
 rw [show j / 7 * 7 + j % 7 = j by omega,hj] at this
 cases this
 exact ⟨e,he,hy⟩
theorem app_evs (ty : TypeId) (W : World) (ao : Option Addr) (cp : Nat) (L : List Ev.Ev) (h : RowV W ao L) (hle : L.length ≤ 100000) :
 ∃ va vc W',(Builtin.append_ #[34,34] ty #[.slice (some ⟨W.heap.size,0,none⟩) 0 0,.slice ao L.length cp]).run Tryz.prog (W.alloc (.cells #[] 62)) = .ok (.slice va L.length vc) W' ∧ Fr (fun _=>False) W W':=by
 obtain ⟨i0,z,hi,hz0,hz1,hz2,hz3⟩:=infoV
 have hown : (W.alloc (.cells #[] 62)).ownsRow W.heap.size 62 7 (.slice (some ⟨W.heap.size,0,none⟩) 0 0) 0 []:=⟨rfl,.inr ⟨_,0,#[],rfl,Nat.le_refl _,World.alloc_heap_new _ _,Nat.le_refl _,by decide,rfl,rfl⟩⟩
 by_cases hl : L = []
 ·subst hl
  have hsrc : Go.Src Tryz.prog i0.size 34 (.slice ao 0 cp) 0 [] (W.alloc (.cells #[] 62)):=by
   cases ao with
   | none=>exact Go.Src.ofNil _ Tryz.underlying34 cp
   | some a=>exact Go.Src.ofSlice _ Tryz.underlying34 a 0 cp [] (by simp) (by simp) (by simp)
  exact ⟨_,0,_,Go.run_append_nothing (W.alloc (.cells #[] 62)) 34 34 ty 62 i0 Tryz.underlying34 hi _ _ 0 (Nat.le_refl _) _ hsrc,Fr.alloc _ _ _⟩
 ·rcases h with h | ⟨b,of,rfl,hb,hc⟩
  ·exact absurd h hl
  have hpos : 0 < L.length:=List.length_pos_iff.2 hl
  obtain ⟨g,cap,W',h1,h2,h3,h4,h5⟩:=Go.run_append_lies (P:=Tryz.prog) (W.alloc (.cells #[] 62)) 34 ty W.heap.size 62 i0 z 7 72 Tryz.underlying34 hi hz0 hz1 hz2 hz3 (by omega) (.slice (some ⟨W.heap.size,0,none⟩) 0 0) 0 [] hown ⟨b,of,none⟩ L.length cp (flatV L) (flatV_len L) (fun j u hj=>by
   obtain ⟨e,he,hu⟩:=flatV_idx L j u hj
   have:=hc _ e he _ u hu
   rw [off_add,← this,show of + j / 7 * 7 + j % 7 = of + j by omega]
   unfold World.cell?
   rw [Below.heap_alloc W _ _ hb]) (fun u hu=>by
   obtain ⟨j,hj⟩:=List.getElem?_of_mem hu
   obtain ⟨e,he,hx⟩:=flatV_idx L j u hj
   exact evc_one e u (by rw [← Array.getElem?_toList] at hx;exact List.mem_of_getElem? hx)) hpos (by unfold maxLen;omega) (by omega) (by simp) _ rfl
  rw [Nat.zero_add] at h1
  exact ⟨_,cap,W',h1,⟨h3.os,h3.tape,h3.output,Nat.le_trans (by simp) h3.size,fun k hk _=>(h3.block k (by simp;omega) (fun e=>by have:=Option.some.inj e;simp at this;omega)).trans (Below.heap_alloc W _ k hk)⟩⟩
set_option maxRecDepth 100000 in
set_option maxHeartbeats 2000000 in
theorem rtwin_any (S R : Nat → Prop) (W : World) (rb : Nat) (s : FSt) (h : RF S R W rb s) :
 Calls Tryz.prog 63 #[.pointer (some ⟨rb,0,none⟩)] W fun e W'=>(∃ tb : Nat,e = .returned (.pointer (some ⟨tb,0,none⟩))) ∧ Fr (fun _=>False) W W':=by
 obtain ⟨ao,cp,L,hb,hL,_,hrow,_⟩:=h.rows
 have hfew:=h.few
 have x0:=hb.cell 0
 have x1:=hb.cell 1
 have x2:=hb.cell 2
 have x3:=hb.cell 3
 have x4:=hb.cell 4
 have x5:=hb.cell 5
 have x6:=hb.cell 6
 have x7:=hb.cell 7
 have x8:=hb.cell 8
 have x9:=hb.cell 9
 have x10:=hb.cell 10
 simp only [rcells,lA,lB,lC] at x0 x1 x2 x3 x4 x5 x6 x7 x8 x9 x10
 have hTB:=Blk.new W 65 #[.int .i64 s.id,.int .i64 s.run,.int .i64 s.list,.int .i64 s.n,.slice ao s.l.length cp,.int .i64 s.task,.int .i64 s.at_,.int .i64 s.bg,.int .i64 s.turn,.bool s.late,.bool s.asked]
 have hf1 : Fr (fun _=>False) W (W.alloc (.cells #[.int .i64 s.id,.int .i64 s.run,.int .i64 s.list,.int .i64 s.n,.slice ao s.l.length cp,.int .i64 s.task,.int .i64 s.at_,.int .i64 s.bg,.int .i64 s.turn,.bool s.late,.bool s.asked] 65)):=Fr.alloc _ _ _
 obtain ⟨w1,hw1⟩ : ∃ w1,W.alloc (.cells #[.int .i64 s.id,.int .i64 s.run,.int .i64 s.list,.int .i64 s.n,.slice ao s.l.length cp,.int .i64 s.task,.int .i64 s.at_,.int .i64 s.bg,.int .i64 s.turn,.bool s.late,.bool s.asked] 65) = w1:=⟨_,rfl⟩
 obtain ⟨tb,htb⟩ : ∃ b,W.heap.size = b:=⟨_,rfl⟩
 rw [hw1] at hTB hf1
 rw [htb] at hTB
 obtain ⟨va,vc,w2,hrun,hf2⟩:=app_evs 34 w1 ao cp L (hrow.fr hf1 (fun _ e=>e.elim)) (by omega)
 rw [hL] at hrun
 have y4:=((hb.fr hf1 id).fr (Fr.alloc (fun _=>False) w1 (.cells #[] 62)) id).cell 4
 have z4:=(hTB.fr hf2 id).cell 4
 have zz4:=(hTB.fr hf2 id).frozen 4
 simp only [rcells,lA,lB,lC] at y4 z4
 have HF:=Lib.hid (hf1.trans hf2)
 have HTB : Hid (W.heap.size ≤ tb):=Lib.hid (by omega)
 clear h hb hL hrow hTB hf1 hf2 hfew
 go_enter Tryz.func63,Tryz.ntmps63
 go_upto_region 2 with (fail)
 try rw [hw1]
 try rw [htb]
 clear hw1 htb x0 x1 x2 x3 x4 x5 x6 x7 x8 x9 x10
 go_wp2_with (first | (at_builtin;refine wpList_appRunV rfl _ _ _ rfl _ _ _ rfl rfl hrun ?_) | go_in)
 go_ret
 refine ⟨⟨tb,rfl⟩,?_⟩
 have hf3:=Fr.setCell (S:=fun k=>k = tb) w2 ⟨tb,4,none⟩ (.slice va s.l.length vc) rfl
 have h1:=HF.out
 exact ⟨hf3.os.trans h1.os,hf3.tape.trans h1.tape,hf3.output.trans h1.output,Nat.le_trans h1.size hf3.size,fun k hk _=>(hf3.block k (Nat.lt_of_lt_of_le hk h1.size) (fun e=>by have:=HTB.out;omega)).trans (h1.block k hk id)⟩
/-- the document's run is closed -/
def rshut (s : FSt) (k now : Int) (ds : List Value) : FSt:={ s with task:=0,l:=s.l ++ [⟨k,now,0,0,0,0,ds⟩] }
set_option maxRecDepth 100000 in
set_option maxHeartbeats 2000000 in
theorem rclose_any (S R : Nat → Prop) (W : World) (rb : Nat) (s : FSt) (h : RF S R W rb s) (hl : s.l.length ≤ 50000) (k : Int) (now : Int) (ao : Option Addr) (dl cp : Nat) (ds : List Value) (hd : RowB S W (.slice ao dl cp) ds) (hdl : ds.length ≤ 100000) (hd1 : ∀ u ∈ ds,u.oneCell' = true) :
 Calls Tryz.prog 69 #[.pointer (some ⟨rb,0,none⟩),.int .i64 k,.slice ao dl cp,.int .i64 now] W fun e W'=>RMeth S R W rb (shut s k now ds) [⟨7,0,0,0,0,0,stOf k,ds⟩] e W':=by
 have HRF:=Lib.hid h
 have HPUT:=Lib.hid (rput_any S R W rb s h hl k now 0 0 0 0 ao dl cp ds (hd.to (S':=fun _=>False) fun k _ e=>e.elim) hdl hd1)
 have HD:=Lib.hid (And.intro hdl hd1)
 have HR:=Lib.hid hd
 have HDL:=Lib.hid hd.len
 clear h hd hd1 hdl
 go_enter Tryz.func69,Tryz.ntmps69
 go_upto_region 2 with (first | (go_at_call 26;refine HPUT.out.mono ?_;rintro e w1 ⟨rfl,S1,R1,hs1,hrf,hfr⟩) | go_in)
 obtain ⟨v1,hb1⟩:=hrf.blk
 have HRF1:=Lib.hid hrf
 have HS1:=Lib.hid hs1
 have HF1:=Lib.hid hfr
 have x5:=hb1.cell 5
 have xz5:=hb1.frozen 5
 simp only [rcells,lA,lB,lC] at x5
 clear hrf hs1 hfr HPUT hb1
 go_upto_region 3 with (fail)
 have hf2 : Fr (fun k=>k = rb) w1 (w1.setCell ⟨rb,5,none⟩ (.int .i64 0)):=Fr.setCell (S:=fun k=>k = rb) w1 ⟨rb,5,none⟩ _ rfl
 have hx2:=(HRF1.out.cells (s':=rshut s k now ds) hf2 rfl (fun v hb=>by
  have:=hb.set 5 (.int .i64 0)
  simpa only [rcells,rshut,lG,lH,lI] using this)).core (s':=shut s k now ds) rfl
 obtain ⟨w2,hw2⟩ : ∃ w2,w1.setCell ⟨rb,5,none⟩ (.int .i64 0) = w2:=⟨_,rfl⟩
 rw [hw2] at hf2 hx2 ⊢
 have HX2:=Lib.hid hx2
 have HF2 : Hid (Fr R W w2):=Lib.hid (HF1.out.step hf2 (fun k hk e=>(HS1.out k hk).2.1 (e ▸ HRF1.out.r)))
 have HST : Hid (Calls Tryz.prog 73 #[.pointer (some ⟨rb,0,none⟩)] w2 fun e W'=>e = .returned (.int .i64 (stOf k)) ∧ Fr (fun _=>False) w2 W'):=Lib.hid (by
  have:=rstatus_any S1 R1 w2 rb _ hx2
  have e : statusK (shut s k now ds).l = stOf k:=statusK_snoc s _ _
  rwa [e] at this)
 have HAP : Hid (∀ w3,Fr (fun _=>False) w2 w3 → ∃ va vc W',(Builtin.append_ #[36,36] 36 #[.slice (some ⟨w3.heap.size,0,none⟩) 0 0,.slice ao dl cp]).run Tryz.prog (w3.alloc (.cells #[] 5)) = .ok (.slice va dl vc) W' ∧ RowB (fun q=>q < W.heap.size) W' (.slice va dl vc) ds ∧ Fr (fun _=>False) w3 W'):=Lib.hid (fun w3 hf=>by
  have h1:=HF2.out.size
  have h2:=hf.size
  exact app_bytes 36 S (fun q=>q < W.heap.size) w3 ao dl cp ds ((HR.out.fr (HF2.out.mono fun k e=>HRF.out.rs k e)).fr (hf.mono fun _ e=>e.elim)) (by have:=HD.out.1;omega) HD.out.2 (fun q e=>by omega))
 clear hw2 hf2 hx2 x5 xz5
 go_wp2_with (first
  | (go_at_call 73;refine HST.out.mono ?_;rintro e w3 ⟨rfl,hf3⟩;have HF3:=Lib.hid hf3;obtain ⟨va,vc,w4,hrun,hrow,hf4⟩:=HAP.out w3 hf3;have HR4:=Lib.hid hrow;have HF4:=Lib.hid hf4;clear hf3 hrow hf4 HAP)
  | (at_builtin;refine wpList_appRunV rfl _ _ _ rfl _ _ _ rfl rfl hrun ?_)
  | go_in)
 go_ret
 have hf24:=HF3.out.trans HF4.out
 exact ⟨_,rfl,Outs.one (Nat.le_trans HF2.out.size (Nat.le_trans HF3.out.size HF4.out.size)) ⟨7,0,0,0,0,0,stOf k,ds⟩ (.slice va dl vc) (HR4.out.fr (Fr.alloc _ _ _)) (Blk.new _ _ _),S1,R1,HS1.out,HX2.out.fr0 (hf24.trans (Fr.alloc _ _ _)),(HF2.out.trans (hf24.mono fun _ e=>e.elim)).trans (Fr.alloc _ _ _)⟩
end Go.Proofs.YtnkelaohcbdjnaaGreat
