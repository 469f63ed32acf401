/- try: a call on a twin. -/
import Derived.Test.YtnkelaohcbdjnaaGreatSc
set_option linter.unusedVariables false
set_option linter.unusedSimpArgs false
namespace Go.Proofs.YtnkelaohcbdjnaaGreat
open Go.RowKit Go.Maps
def fset (w : World) (b : Nat) : Nat → List Value → World
 | _,[]=>w
 | k,v :: l=>fset (w.setCell ⟨b,k,none⟩ v) b (k + 1) l
theorem fset_fr (w : World) (b : Nat) : ∀ (k : Nat) (l : List Value),Fr (fun k=>k = b) w (fset w b k l)
 | _,[]=>Fr.refl _ _
 | k,v :: l=>(Fr.setCell (S:=fun k=>k = b) w ⟨b,k,none⟩ v rfl).trans (fset_fr _ b (k + 1) l)
def lset (cs : Array Value) : Nat → List Value → Array Value
 | _,[]=>cs
 | k,v :: l=>lset (cs.setIfInBounds k v) (k + 1) l
theorem Blk.fset {w : World} {b : Nat} {t : TypeId} : ∀ {cs : Array Value} (k : Nat) (l : List Value),Blk w b t cs → Blk (YtnkelaohcbdjnaaGreat.fset w b k l) b t (lset cs k l)
 | cs,_,[],h=>h
 | cs,k,v :: l,h=>Blk.fset (w:=w.setCell ⟨b,k,none⟩ v) (k + 1) l (h.set k v)
theorem store12 {w : World} {b : Nat} {t : TypeId} {s0 s1 s2 s3 s4 s5 s6 s7 s8 s9 s10 s11 v0 v1 v2 v3 v4 v5 v6 v7 v8 v9 v10 v11 : Value} (h : Blk w b t #[s0,s1,s2,s3,s4,s5,s6,s7,s8,s9,s10,s11]) :
 Blk (fset w b 0 [v0,v1,v2,v3,v4,v5,v6,v7,v8,v9,v10,v11]) b t #[v0,v1,v2,v3,v4,v5,v6,v7,v8,v9,v10,v11]:=by
 have:=Blk.fset 0 [v0,v1,v2,v3,v4,v5,v6,v7,v8,v9,v10,v11] h
 simpa only [lset,lG,lH,lI,Nat.zero_add,Nat.reduceAdd] using this
/-- what an act leaves: what comes out,its error,the run -/
def ActX (S : Nat → Prop) (W : World) (fb : Nat) (c : FSt × List Ov × Int) (e : Ending) (W' : World) : Prop:=
 ∃ (v : Value) (S' : Nat → Prop) (xm : Nat),e = .returned (.tuple #[v,.int .i64 c.2.2]) ∧ Outs W.heap.size W' v c.2.1 ∧ PF S' W' fb xm c.1 ∧ Fr (fun k=>k = fb) W W' ∧ ∀ k,k < W.heap.size → (S' k ↔ S k)
/-- an act's outcome,c that of its own function -/
def tryC (s : FSt) (n : Nat) (now : Int) (c : FSt × List Ov × Int) : FSt × List Ov × Int:=
 if rightB s.l n now = true then (if statusK s.l = 1 then (if c.2.2 ≠ 0 ∧ c.1.l.length = s.l.length then (s,[],c.2.2) else c) else (s,[],20)) else (s,[],1)
/-- what an act's own function leaves -/
def ClX (S : Nat → Prop) (W : World) (xb xm : Nat) (c : FSt × List Ov × Int) (e : Ending) (W' : World) : Prop:=
 ∃ v,e = .returned (.tuple #[v,.int .i64 c.2.2]) ∧ Outs W.heap.size W' v c.2.1 ∧ PF S W' xb xm c.1 ∧ Fr (fun k=>k = xb ∨ k = xm) W W'
theorem ActX.same {S : Nat → Prop} {W W' : World} {fb mb : Nat} {s : FSt} {er : Int} (h : PF S W fb mb s) (hf : Fr (fun _=>False) W W') : ActX S W fb (s,[],er) (.returned (.tuple #[.slice none 0 0,.int .i64 er])) W':=
 ⟨_,S,mb,rfl,Outs.nil _ _,h.fr0 hf,hf.mono fun _ e=>e.elim,fun k _=>Iff.rfl⟩
set_option maxRecDepth 100000 in
set_option maxHeartbeats 4000000 in
theorem try_any (K : Nat) (HKE : ∀ args w,Sem.run Tryz.prog (callFunc K args) w = .ok (.enter K args) w) (caps : Array Value) (S : Nat → Prop) (W : World) (fb mb : Nat) (s : FSt) (h : PF S W fb mb s) (ao : Option Addr) (n cp : Nat) (now : Int) (c : FSt × List Ov × Int)
 (HC : rightP s.l n now → statusK s.l = 1 → c.1.l.length ≤ 4096 ∧ ∀ w xb xm,Fr (fun _=>False) W w → W.heap.size ≤ xb → W.heap.size ≤ xm → PF (fun k=>S k ∨ k = xb ∨ k = xm) w xb xm s → Calls Tryz.prog K (#[.pointer (some ⟨xb,0,none⟩)] ++ caps) w fun e w'=>ClX (fun k=>S k ∨ k = xb ∨ k = xm) w xb xm c e w') :
 Calls Tryz.prog 50 #[.pointer (some ⟨fb,0,none⟩),.slice ao n cp,.int .i64 now,.func (.func K) #[] caps] W fun e W'=>ActX S W fb (tryC s n now c) e W':=by
 have HRR:=Lib.hid (right_any S W fb mb s h.fl ao n cp now)
 have HPF:=Lib.hid h
 by_cases hr : rightP s.l n now
 rotate_left
 ·rw [rightB_false hr] at HRR
  have HT : Hid (tryC s n now c = (s,[],1)):=Lib.hid (by unfold tryC;rw [if_neg (by rw [rightB_false hr];decide)])
  clear h hr HC
  go_enter Tryz.func50,Tryz.ntmps50
  go_wp2_with (first | (go_at_call 20;refine HRR.out.mono ?_;rintro e w1 ⟨rfl,z,rfl⟩) | go_in)
  go_ret2
  rw [HT.out]
  exact ActX.same HPF.out (Fr.drewN _ _ _)
 rw [rightB_true hr] at HRR
 by_cases hs : statusK s.l = 1
 rotate_left
 ·have HT : Hid (tryC s n now c = (s,[],20)):=Lib.hid (by unfold tryC;rw [if_pos (rightB_true hr),if_neg hs])
  obtain ⟨st,hst⟩ : ∃ x,statusK s.l = x:=⟨_,rfl⟩
  rw [hst] at hs
  have p1 : (st == 1) = false:=by simp [hs]
  have p2 : (st != 1) = true:=by simp [hs]
  have HST : Hid (∀ z,Calls Tryz.prog 15 #[.pointer (some ⟨fb,0,none⟩)] (W.drewN z) fun e W'=>e = .returned (.int .i64 st) ∧ W.drewN z = W'):=Lib.hid (fun z=>by
   have:=status_any S (W.drewN z) fb mb s (h.fl.fr0 (Fr.drewN _ W z))
   rwa [hst] at this)
  clear h hr hs hst HC
  go_enter Tryz.func50,Tryz.ntmps50
  go_wp2_with (first | (go_at_call 20;refine HRR.out.mono ?_;rintro e w1 ⟨rfl,z,rfl⟩) | (go_at_call 15;refine (HST.out _).mono ?_;rintro e w1' ⟨rfl,rfl⟩) | go_in)
  go_ret2
  rw [HT.out]
  exact ActX.same HPF.out (Fr.drewN _ _ _)
 have HT : Hid (tryC s n now c = if c.2.2 ≠ 0 ∧ c.1.l.length = s.l.length then (s,[],c.2.2) else c):=Lib.hid (by unfold tryC;rw [if_pos (rightB_true hr),if_pos hs])
 have HCN:=Lib.hid (HC hr hs)
 have HST : Hid (∀ z,Calls Tryz.prog 15 #[.pointer (some ⟨fb,0,none⟩)] (W.drewN z) fun e W'=>e = .returned (.int .i64 1) ∧ W.drewN z = W'):=Lib.hid (fun z=>by
  have:=status_any S (W.drewN z) fb mb s (h.fl.fr0 (Fr.drewN _ W z))
  rwa [hs] at this)
 have HTW : Hid (∀ z,Calls Tryz.prog 91 #[.pointer (some ⟨fb,0,none⟩)] (W.drewN z) fun e W'=>∃ xb xm : Nat,e = .returned (.pointer (some ⟨xb,0,none⟩)) ∧ (W.drewN z).heap.size ≤ xb ∧ (W.drewN z).heap.size ≤ xm ∧ PF (fun k=>S k ∨ k = xb ∨ k = xm) W' xb xm s ∧ Fr (fun _=>False) (W.drewN z) W'):=Lib.hid (fun z=>twin_pf S _ fb mb s (h.fr0 (Fr.drewN _ W z)))
 clear h hr hs HC
 go_enter Tryz.func50,Tryz.ntmps50
 go_upto_region 6 with (first | (go_at_call 20;refine HRR.out.mono ?_;rintro e w1 ⟨rfl,z,rfl⟩) | (go_at_call 15;refine (HST.out _).mono ?_;rintro e w1' ⟨rfl,rfl⟩) | (go_at_call 91;refine (HTW.out _).mono ?_;rintro e w2 ⟨xb,xm,rfl,hxb,hxm,hx,hf2⟩) | go_in)
 have hf2 : Fr (fun _=>False) W w2:=(Fr.drewN _ W _).trans hf2
 have hxb : W.heap.size ≤ xb:=hxb
 have hxm : W.heap.size ≤ xm:=hxm
 have HF2:=Lib.hid hf2
 have HSZ:=Lib.hid (And.intro hxb hxm)
 have HCC:=Lib.hid (HCN.out.2 w2 xb xm hf2 hxb hxm hx)
 clear HTW hxb hxm hx hf2 HST HRR
 go_upto_region 7 with (fail)
 refine HCC.out.mono ?_
 rintro e w3 ⟨ov,rfl,hos,hx3,hf3⟩
 go_upto_region 7 with (fail)
 have hlt:=HPF.out.fl.lt
 obtain ⟨ao0,cp0,hb0⟩:=HPF.out.blk
 have hbf : Blk w3 fb 57 (fcells s (.slice ao0 s.l.length cp0) (.map (some mb))):=(hb0.fr HF2.out id).fr hf3 (by have:=HSZ.out;omega)
 obtain ⟨ao3,cp3,hbx⟩:=hx3.blk
 have HX3:=Lib.hid hx3
 have HOS:=Lib.hid hos
 have HWZ : Hid (W.heap.size ≤ w2.heap.size):=Lib.hid HF2.out.size
 have HW3 : Hid (Fr (fun _=>False) W w3):=Lib.hid ⟨hf3.os.trans HF2.out.os,hf3.tape.trans HF2.out.tape,hf3.output.trans HF2.out.output,Nat.le_trans HF2.out.size hf3.size,fun k hk _=>(hf3.block k (Nat.lt_of_lt_of_le hk HF2.out.size) (by have:=HSZ.out;omega)).trans (HF2.out.block k hk id)⟩
 obtain ⟨⟨id',run',list',num',task',at',bg',turn',late',asked',rows',mc',mp'⟩,os',er⟩:=c
 obtain ⟨id0,run0,list0,num0,task0,at0,bg0,turn0,late0,asked0,rows0,mc0,mp0⟩:=s
 have HFE:=Lib.hid HCN.out.1
 obtain ⟨n0,hn0⟩ : ∃ n,rows0.length = n:=⟨_,rfl⟩
 obtain ⟨n3,hn3⟩ : ∃ n,rows'.length = n:=⟨_,rfl⟩
 dsimp only at hbf hbx HX3 HOS HFE HPF HT
 rw [hn0] at hbf HT
 rw [hn3] at hbx HFE HT
 have HN0:=Lib.hid hn0
 have HN3:=Lib.hid hn3
 have HBF:=Lib.hid hbf
 have HBX:=Lib.hid hbx
 have FX : Hid (∀ w',Fr (fun _=>False) w3 w' → w'.cell? ⟨fb,4,none⟩ = some (.slice ao0 n0 cp0) ∧ w'.cell? ⟨xb,4,none⟩ = some (.slice ao3 n3 cp3)):=Lib.hid (fun w' hf=>⟨(HBF.out.fr hf id).cell 4,(HBX.out.fr hf id).cell 4⟩)
 have q5 : decide ((n3 : Int) > 4096) = false:=decide_eq_false (by have:=HFE.out;omega)
 have q6 : decide (4096 < (n3 : Int)) = false:=decide_eq_false (by have:=HFE.out;omega)
 clear HCC hx3 hf3 hos hlt hb0 hbx hn0 hn3 hbf HF2 HCN
 by_cases he : er = 0
 ·subst he
  have p1 : ((0 : Int) != 0) = false:=rfl
  refine region_Z (fun w'=>Fr (fun _=>False) w3 w') 99 (Fr.drewN _ w3 1) (fun hH=>?_)
  refine takes (b:=?_) [0,1,2,3,4,5,6,7,8,9,10,11,12,13,14,15] hH ?_ ?_
  rotate_left
  iterate 3 ((refine Sq.yes (v:=?_) rfl (by rfl) ?_ ?_;rotate_left;· (intro w' hw';obtain ⟨f0,f1⟩:=FX.out w' hw';go_simp;try with_reducible rfl));try simp only [lD,lE,lF,Act.put,lG,lH,lI])
  iterate 11 (refine Sq.no rfl (by rfl) ?_;try simp only [lD,lE,lF,Act.put,lG,lH,lI])
  iterate 2 ((refine Sq.yes (v:=?_) rfl (by rfl) ?_ ?_;rotate_left;· (intro w' hw';obtain ⟨f0,f1⟩:=FX.out w' hw';go_simp;try with_reducible rfl));try simp only [lD,lE,lF,Act.put,lG,lH,lI])
  exact Sq.nil
  refine any_done ?_
  have HB5:=Lib.hid (HBF.out.fr hH id)
  have HX5:=Lib.hid (HBX.out.fr hH id)
  have HW5:=Lib.hid (HW3.out.trans hH)
  have HPX5:=Lib.hid (HX3.out.fr0 hH)
  have HOS5:=Lib.hid (HOS.out.fr hH (fun _ e=>e.elim))
  generalize w3.drew = w5 at HB5 HX5 HW5 HPX5 HOS5 ⊢
  clear hH
  go_upto_region 9 with (fail)
  have z4:=HX5.out.cell 4
  simp only [fcells,lA,lB,lC] at z4
  go_upto_region 11 with (fail)
  have x0:=HX5.out.cell 0
  have y0:=HB5.out.cell 0
  have z0:=HB5.out.frozen 0
  have x1:=HX5.out.cell 1
  have y1:=HB5.out.cell 1
  have z1:=HB5.out.frozen 1
  have x2:=HX5.out.cell 2
  have y2:=HB5.out.cell 2
  have z2:=HB5.out.frozen 2
  have x3:=HX5.out.cell 3
  have y3:=HB5.out.cell 3
  have z3:=HB5.out.frozen 3
  clear z4
  have x4:=HX5.out.cell 4
  have y4:=HB5.out.cell 4
  have z4:=HB5.out.frozen 4
  have x5:=HX5.out.cell 5
  have y5:=HB5.out.cell 5
  have z5:=HB5.out.frozen 5
  have x6:=HX5.out.cell 6
  have y6:=HB5.out.cell 6
  have z6:=HB5.out.frozen 6
  have x7:=HX5.out.cell 7
  have y7:=HB5.out.cell 7
  have z7:=HB5.out.frozen 7
  have x8:=HX5.out.cell 8
  have y8:=HB5.out.cell 8
  have z8:=HB5.out.frozen 8
  have x9:=HX5.out.cell 9
  have y9:=HB5.out.cell 9
  have z9:=HB5.out.frozen 9
  have x10:=HX5.out.cell 10
  have y10:=HB5.out.cell 10
  have z10:=HB5.out.frozen 10
  have x11:=HX5.out.cell 11
  have y11:=HB5.out.cell 11
  have z11:=HB5.out.frozen 11
  simp only [fcells,lA,lB,lC] at x0 y0 x1 y1 x2 y2 x3 y3 x4 y4 x5 y5 x6 y6 x7 y7 x8 y8 x9 y9 x10 y10 x11 y11
  go_upto_region 12 with (fail)
  have hb6:=store12 (v0:=.int .i64 id') (v1:=.int .i64 run') (v2:=.int .i64 list') (v3:=.int .i64 num') (v4:=.slice ao3 n3 cp3) (v5:=.int .i64 task') (v6:=.int .i64 at') (v7:=.int .i64 bg') (v8:=.int .i64 turn') (v9:=.bool late') (v10:=.bool asked') (v11:=.map (some xm)) HB5.out
  have hf6:=fset_fr w5 fb 0 [.int .i64 id',.int .i64 run',.int .i64 list',.int .i64 num',.slice ao3 n3 cp3,.int .i64 task',.int .i64 at',.int .i64 bg',.int .i64 turn',.bool late',.bool asked',.map (some xm)]
  obtain ⟨w6,hw6⟩ : ∃ w,fset w5 fb 0 [.int .i64 id',.int .i64 run',.int .i64 list',.int .i64 num',.slice ao3 n3 cp3,.int .i64 task',.int .i64 at',.int .i64 bg',.int .i64 turn',.bool late',.bool asked',.map (some xm)] = w:=⟨_,rfl⟩
  rw [hw6] at hb6 hf6
  simp only [fset,Nat.zero_add,Nat.reduceAdd] at hw6
  rw [hw6]
  have HB6:=Lib.hid hb6
  have HF6:=Lib.hid hf6
  clear hw6 hb6 hf6 x0 y0 z0 x1 y1 z1 x2 y2 z2 x3 y3 z3 x4 y4 z4 x5 y5 z5 x6 y6 z6 x7 y7 z7 x8 y8 z8 x9 y9 z9 x10 y10 z10 x11 y11 z11
  go_wp2_with fail
  go_ret2
  rw [HT.out,if_neg (by intro e;exact e.1 rfl)]
  have hsz:=HSZ.out
  have hfb:=HPF.out.fl.lt.1
  have hne : fb ≠ xm:=by omega
  refine ⟨ov,fun k=>S k ∨ k = xb ∨ k = xm,xm,rfl,(HOS5.out.weak (HWZ.out)).fr HF6.out (fun k e=>by subst e;exact hfb),⟨?_,.inl HPF.out.f,.inr (.inr rfl),fun k e=>Nat.lt_of_lt_of_le (HPX5.out.lt k e) HF6.out.size⟩,(HW5.out.mono fun _ e=>e.elim).trans HF6.out,fun k hk=>⟨fun e=>e.elim id (fun e=>by omega),.inl⟩⟩
  obtain ⟨⟨ao4,cp4,vs4,hv4,hb4,hr4,hd4⟩,hm4,ho4,hl4⟩:=HPX5.out.fl
  have hcell:=HX5.out.cell 4
  rw [hb4.cell 4] at hcell
  simp only [fcells,lA,lB,lC,Option.some.injEq,Value.slice.injEq] at hcell
  obtain ⟨rfl,_,rfl⟩:=hcell
  exact ⟨⟨_,_,vs4,hv4,by show Blk w6 fb 57 (fcells _ (.slice _ rows'.length _) _);rw [HN3.out];exact HB6.out,hr4.fr (HF6.out.mono fun k e=>.inl (e ▸ HPF.out.f)),hd4.fr (HF6.out.mono fun k e=>.inl (e ▸ HPF.out.f))⟩,hm4.fr HF6.out (fun e=>hne e.symm),ho4,hl4⟩
 have p1 : (er != 0) = true:=by simp [he]
 by_cases hq : n3 = n0
 ·subst hq
  have p7 : ((n3 : Int) == n3) = true:=by simp
  have HE:=Lib.hid he
  clear he
  refine region_Z (fun w'=>Fr (fun _=>False) w3 w') 99 (Fr.drewN _ w3 1) (fun hH=>?_)
  refine takes (b:=?_) [0,1,2,3,4,5,6,7,8,9,10,11,12,13,14,15] hH ?_ ?_
  rotate_left
  iterate 16 ((refine Sq.yes (v:=?_) rfl (by rfl) ?_ ?_;rotate_left;· (intro w' hw';obtain ⟨f0,f1⟩:=FX.out w' hw';go_simp;try with_reducible rfl));try simp only [lD,lE,lF,Act.put,lG,lH,lI])
  exact Sq.nil
  refine any_done ?_
  have HW5:=Lib.hid (HW3.out.trans hH)
  clear hH FX q5 q6
  go_wp2_with fail
  go_ret2
  rw [HT.out,if_pos ⟨HE.out,by first | rfl | trivial⟩]
  exact ActX.same HPF.out HW5.out
 ·have p7 : ((n3 : Int) == n0) = false:=by simp;omega
  have HQ:=Lib.hid hq
  clear hq he
  refine region_Z (fun w'=>Fr (fun _=>False) w3 w') 99 (Fr.drewN _ w3 1) (fun hH=>?_)
  refine takes (b:=?_) [0,1,2,3,4,5,6,7,8,9,10,11,12,13,14,15] hH ?_ ?_
  rotate_left
  iterate 16 ((refine Sq.yes (v:=?_) rfl (by rfl) ?_ ?_;rotate_left;· (intro w' hw';obtain ⟨f0,f1⟩:=FX.out w' hw';go_simp;try with_reducible rfl));try simp only [lD,lE,lF,Act.put,lG,lH,lI])
  exact Sq.nil
  refine any_done ?_
  have HB5:=Lib.hid (HBF.out.fr hH id)
  have HX5:=Lib.hid (HBX.out.fr hH id)
  have HW5:=Lib.hid (HW3.out.trans hH)
  have HPX5:=Lib.hid (HX3.out.fr0 hH)
  have HOS5:=Lib.hid (HOS.out.fr hH (fun _ e=>e.elim))
  generalize w3.drew = w5 at HB5 HX5 HW5 HPX5 HOS5 ⊢
  clear hH
  go_upto_region 9 with (fail)
  have z4:=HX5.out.cell 4
  simp only [fcells,lA,lB,lC] at z4
  go_upto_region 11 with (fail)
  have x0:=HX5.out.cell 0
  have y0:=HB5.out.cell 0
  have z0:=HB5.out.frozen 0
  have x1:=HX5.out.cell 1
  have y1:=HB5.out.cell 1
  have z1:=HB5.out.frozen 1
  have x2:=HX5.out.cell 2
  have y2:=HB5.out.cell 2
  have z2:=HB5.out.frozen 2
  have x3:=HX5.out.cell 3
  have y3:=HB5.out.cell 3
  have z3:=HB5.out.frozen 3
  clear z4
  have x4:=HX5.out.cell 4
  have y4:=HB5.out.cell 4
  have z4:=HB5.out.frozen 4
  have x5:=HX5.out.cell 5
  have y5:=HB5.out.cell 5
  have z5:=HB5.out.frozen 5
  have x6:=HX5.out.cell 6
  have y6:=HB5.out.cell 6
  have z6:=HB5.out.frozen 6
  have x7:=HX5.out.cell 7
  have y7:=HB5.out.cell 7
  have z7:=HB5.out.frozen 7
  have x8:=HX5.out.cell 8
  have y8:=HB5.out.cell 8
  have z8:=HB5.out.frozen 8
  have x9:=HX5.out.cell 9
  have y9:=HB5.out.cell 9
  have z9:=HB5.out.frozen 9
  have x10:=HX5.out.cell 10
  have y10:=HB5.out.cell 10
  have z10:=HB5.out.frozen 10
  have x11:=HX5.out.cell 11
  have y11:=HB5.out.cell 11
  have z11:=HB5.out.frozen 11
  simp only [fcells,lA,lB,lC] at x0 y0 x1 y1 x2 y2 x3 y3 x4 y4 x5 y5 x6 y6 x7 y7 x8 y8 x9 y9 x10 y10 x11 y11
  go_upto_region 12 with (fail)
  have hb6:=store12 (v0:=.int .i64 id') (v1:=.int .i64 run') (v2:=.int .i64 list') (v3:=.int .i64 num') (v4:=.slice ao3 n3 cp3) (v5:=.int .i64 task') (v6:=.int .i64 at') (v7:=.int .i64 bg') (v8:=.int .i64 turn') (v9:=.bool late') (v10:=.bool asked') (v11:=.map (some xm)) HB5.out
  have hf6:=fset_fr w5 fb 0 [.int .i64 id',.int .i64 run',.int .i64 list',.int .i64 num',.slice ao3 n3 cp3,.int .i64 task',.int .i64 at',.int .i64 bg',.int .i64 turn',.bool late',.bool asked',.map (some xm)]
  obtain ⟨w6,hw6⟩ : ∃ w,fset w5 fb 0 [.int .i64 id',.int .i64 run',.int .i64 list',.int .i64 num',.slice ao3 n3 cp3,.int .i64 task',.int .i64 at',.int .i64 bg',.int .i64 turn',.bool late',.bool asked',.map (some xm)] = w:=⟨_,rfl⟩
  rw [hw6] at hb6 hf6
  simp only [fset,Nat.zero_add,Nat.reduceAdd] at hw6
  rw [hw6]
  have HB6:=Lib.hid hb6
  have HF6:=Lib.hid hf6
  clear hw6 hb6 hf6 x0 y0 z0 x1 y1 z1 x2 y2 z2 x3 y3 z3 x4 y4 z4 x5 y5 z5 x6 y6 z6 x7 y7 z7 x8 y8 z8 x9 y9 z9 x10 y10 z10 x11 y11 z11
  go_wp2_with fail
  go_ret2
  rw [HT.out,if_neg (by intro e;exact HQ.out e.2)]
  have hsz:=HSZ.out
  have hfb:=HPF.out.fl.lt.1
  have hne : fb ≠ xm:=by omega
  refine ⟨ov,fun k=>S k ∨ k = xb ∨ k = xm,xm,rfl,(HOS5.out.weak (HWZ.out)).fr HF6.out (fun k e=>by subst e;exact hfb),⟨?_,.inl HPF.out.f,.inr (.inr rfl),fun k e=>Nat.lt_of_lt_of_le (HPX5.out.lt k e) HF6.out.size⟩,(HW5.out.mono fun _ e=>e.elim).trans HF6.out,fun k hk=>⟨fun e=>e.elim id (fun e=>by omega),.inl⟩⟩
  obtain ⟨⟨ao4,cp4,vs4,hv4,hb4,hr4,hd4⟩,hm4,ho4,hl4⟩:=HPX5.out.fl
  have hcell:=HX5.out.cell 4
  rw [hb4.cell 4] at hcell
  simp only [fcells,lA,lB,lC,Option.some.injEq,Value.slice.injEq] at hcell
  obtain ⟨rfl,_,rfl⟩:=hcell
  exact ⟨⟨_,_,vs4,hv4,by show Blk w6 fb 57 (fcells _ (.slice _ rows'.length _) _);rw [HN3.out];exact HB6.out,hr4.fr (HF6.out.mono fun k e=>.inl (e ▸ HPF.out.f)),hd4.fr (HF6.out.mono fun k e=>.inl (e ▸ HPF.out.f))⟩,hm4.fr HF6.out (fun e=>hne e.symm),ho4,hl4⟩
end Go.Proofs.YtnkelaohcbdjnaaGreat
