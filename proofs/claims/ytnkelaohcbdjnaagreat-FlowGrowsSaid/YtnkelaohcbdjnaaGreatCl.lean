/- What acts' own functions do. -/
import Derived.Test.YtnkelaohcbdjnaaGreatAm
import Derived.Deep.QuietTactic
import Derived.BigQuiet
set_option linter.unusedVariables false
set_option linter.unusedSimpArgs false
namespace Go.Proofs.YtnkelaohcbdjnaaGreat
open Go.RowKit Go.Maps
theorem wrap_i64 (x : Int) : IntKind.i64.wrap x = wrap64 x:=by
 rw [wrap64]
 simp only [IntKind.wrap,IntKind.bits,IntKind.signed]
 have : (2 : Int) ^ 64 = 18446744073709551616:=rfl
 have h2 : (2 : Int) ^ (64 - 1) = 9223372036854775808:=rfl
 simp
 split <;> omega
theorem zero101 (W : World) : (zeroValue 102).run Tryz.prog W = .ok (.agg #[.int .i64 0,.int .i64 0,.int .i64 0]) W:=by kernel_rfl
def decidesC (s : FSt) (ref turn now : Int) : FSt × List Ov × Int:=if 0 ≤ turn ∧ s.task = 1 ∧ s.at_ = ref ∧ s.turn = turn then (began s now ref,[⟨3,0,ref,turn,wrap64 (now + s.n),0,0,[]⟩],0) else (s,[],21)
def signalC (s : FSt) (ds : List Value) (now : Int) : FSt × List Ov × Int:=(wakeS (signaled s now ds) now,wakeO (signaled s now ds) now,0)
def cancelC (s : FSt) (now : Int) : FSt × List Ov × Int:=if s.asked = true then (s,[],3) else (wakeS (canceled s now) now,wakeO (canceled s now) now,0)
def terminateC (s : FSt) (ds : List Value) (now : Int) : FSt × List Ov × Int:=(shut s 23 now ds,[⟨7,0,0,0,0,0,5,ds⟩],0)
def missedC (s : FSt) (ref turn now : Int) : FSt × List Ov × Int:=if s.task = 2 ∧ s.at_ = ref ∧ s.turn = turn then (sched (missed s now) now,[⟨1,s.list,(s.l.length : Int) + 2,wrap64 (s.turn + 1),0,0,0,[]⟩],0) else (s,[],21)
set_option maxRecDepth 100000 in
set_option maxHeartbeats 2000000 in
theorem signal_c (T : Nat → Prop) (W : World) (xb xm : Nat) (s : FSt) (h : PF T W xb xm s) (hmc : s.mc ≤ 100000) (hl : s.l.length ≤ 40000) (now : Int) (ao : Option Addr) (dl cp : Nat) (ds : List Value) (bnow bdata : Nat) (hnow : Blk W bnow 3 #[.int .i64 now]) (nnow : ¬ T bnow) (hdata : Blk W bdata 36 #[.slice ao dl cp]) (ndata : ¬ T bdata) (hd : RowB T W (.slice ao dl cp) ds) (hdl : ds.length ≤ 100000) (hd1 : ∀ u ∈ ds,u.oneCell' = true) :
 Calls Tryz.prog 60 #[.pointer (some ⟨xb,0,none⟩),.pointer (some ⟨bnow,0,none⟩),.pointer (some ⟨bdata,0,none⟩)] W fun e W'=>ClX T W xb xm (signalC s ds now) e W':=by
 have cnow:=hnow.cell 0
 have cdata:=hdata.cell 0
 simp only [lA,lB] at cnow cdata
 have HPUT:=Lib.hid (put_any T W xb xm s h (by omega) (by omega) 15 now 0 0 0 0 ao dl cp ds (hd.to (S':=fun _=>False) fun k _ e=>e.elim) hdl hd1 (signaled s now ds) (by unfold PutP;simp [signaled]))
 have HNB:=Lib.hid (And.intro hnow nnow)
 have HT:=Lib.hid (And.intro h.f h.m)
 clear h hnow nnow hdata ndata hd hd1
 go_enter Tryz.func60,Tryz.ntmps60
 go_upto_region 2 with (first | (go_at_call 21;refine HPUT.out.mono ?_;rintro e w2 ⟨rfl,hpf,hf2⟩) | go_in)
 have n2 : w2.cell? ⟨bnow,0,none⟩ = some (.int .i64 now):=(HNB.out.1.fr hf2 (fun e=>HNB.out.2 (e.elim (fun e=>e ▸ HT.out.1) (fun e=>e ▸ HT.out.2)))).cell 0
 have HF2:=Lib.hid hf2
 have hpf' : PF T w2 xb xm (signaled s now ds):=hpf
 have HW:=Lib.hid (wake_any T w2 xb xm _ hpf' (by show _ ≤ _;show s.mc ≤ _;omega) (by show (s.l ++ _).length ≤ _;rw [List.length_append];simp only [List.length_cons,List.length_nil];omega) now)
 clear hpf hpf' hf2 HPUT cnow cdata
 go_wp2_with (first | (go_at_call 61;refine HW.out.mono ?_;rintro e w3 ⟨v,rfl,ho,hpf,hf3⟩) | go_in)
 go_ret2
 exact ⟨v,rfl,ho.weak HF2.out.size,hpf,HF2.out.trans hf3⟩
set_option maxRecDepth 100000 in
set_option maxHeartbeats 2000000 in
theorem cancel_c (T : Nat → Prop) (W : World) (xb xm : Nat) (s : FSt) (h : PF T W xb xm s) (hmc : s.mc ≤ 100000) (hl : s.l.length ≤ 40000) (now : Int) (bnow : Nat) (hnow : Blk W bnow 3 #[.int .i64 now]) (nnow : ¬ T bnow)  :
 Calls Tryz.prog 66 #[.pointer (some ⟨xb,0,none⟩),.pointer (some ⟨bnow,0,none⟩)] W fun e W'=>ClX T W xb xm (cancelC s now) e W':=by
 have cnow:=hnow.cell 0
 simp only [lA,lB] at cnow
 have HPF:=Lib.hid h
 unfold cancelC
 obtain ⟨ao2,cp2,hb⟩:=h.blk
 have x10:=hb.cell 10
 simp only [fcells,lA,lB,lC] at x10
 cases ha : s.asked with
 | true=>
   rw [ha] at x10
   rw [if_pos rfl]
   clear h hb ha hnow nnow
   go_enter Tryz.func66,Tryz.ntmps66
   go_wp2
   go_ret2
   exact ⟨_,rfl,Outs.nil _ _,HPF.out,Fr.refl _ _⟩
 | false=>
   rw [ha] at x10
   rw [if_neg (by decide)]
   have HPUT:=Lib.hid (put_any T W xb xm s h (by omega) (by omega) 16 now 0 0 0 0 none 0 0 [] (RowB.nil _ _) (by simp) (by simp) (canceled s now) (by unfold PutP;simp [canceled]))
   have HNB:=Lib.hid (And.intro hnow nnow)
   have HT:=Lib.hid (And.intro h.f h.m)
   have HMC : Hid ((canceled s now).mc ≤ 1000000):=Lib.hid (by show cdn s.mp 0 s.mc ≤ _;unfold cdn;split <;> omega)
   clear h hb ha hnow nnow
   go_enter Tryz.func66,Tryz.ntmps66
   go_upto_region 4 with (first | (go_at_call 21;refine HPUT.out.mono ?_;rintro e w2 ⟨rfl,hpf,hf2⟩) | go_in)
   have n2 : w2.cell? ⟨bnow,0,none⟩ = some (.int .i64 now):=(HNB.out.1.fr hf2 (fun e=>HNB.out.2 (e.elim (fun e=>e ▸ HT.out.1) (fun e=>e ▸ HT.out.2)))).cell 0
   have HF2:=Lib.hid hf2
   have hpf' : PF T w2 xb xm (canceled s now):=hpf
   have HW:=Lib.hid (wake_any T w2 xb xm _ hpf' (by show _ ≤ _;exact HMC.out) (by show (s.l ++ _).length ≤ _;rw [List.length_append];simp only [List.length_cons,List.length_nil];omega) now)
   clear hpf hpf' hf2 HPUT cnow x10
   go_wp2_with (first | (go_at_call 61;refine HW.out.mono ?_;rintro e w3 ⟨v,rfl,ho,hpf,hf3⟩) | go_in)
   go_ret2
   exact ⟨v,rfl,ho.weak HF2.out.size,hpf,HF2.out.trans hf3⟩
set_option maxRecDepth 100000 in
set_option maxHeartbeats 2000000 in
theorem decides_c (T : Nat → Prop) (W : World) (xb xm : Nat) (s : FSt) (h : PF T W xb xm s) (hmc : s.mc ≤ 100000) (hl : s.l.length ≤ 40000) (ref turn now : Int) (bturn bref bnow : Nat) (hturn : Blk W bturn 3 #[.int .i64 turn]) (nturn : ¬ T bturn) (href : Blk W bref 3 #[.int .i64 ref]) (nref : ¬ T bref) (hnow : Blk W bnow 3 #[.int .i64 now]) (nnow : ¬ T bnow)  :
 Calls Tryz.prog 51 #[.pointer (some ⟨xb,0,none⟩),.pointer (some ⟨bturn,0,none⟩),.pointer (some ⟨bref,0,none⟩),.pointer (some ⟨bnow,0,none⟩)] W fun e W'=>ClX T W xb xm (decidesC s ref turn now) e W':=by
 have cturn:=hturn.cell 0
 have cref:=href.cell 0
 have cnow:=hnow.cell 0
 simp only [lA,lB] at cturn cref cnow
 have HPF:=Lib.hid h
 have HNB:=Lib.hid (And.intro hnow (And.intro href hturn))
 have HNE:=Lib.hid (And.intro nnow (And.intro nref nturn))
 unfold decidesC
 by_cases h0 : 0 ≤ turn
 rotate_left
 ·rw [if_neg (fun e=>h0 e.1)]
  have p0 : decide (turn < 0) = true:=decide_eq_true (by omega)
  clear h h0 hnow href hturn nnow nref nturn
  go_enter Tryz.func51,Tryz.ntmps51
  go_wp2
  go_ret2
  exact ⟨_,rfl,Outs.nil _ _,HPF.out,Fr.refl _ _⟩
 have p0 : decide (turn < 0) = false:=decide_eq_false (by omega)
 have HW:=wants_any T W xb xm s h.fl ref turn h0
 by_cases hw : s.task = 1 ∧ s.at_ = ref ∧ s.turn = turn
 rotate_left
 ·rw [if_neg (fun e=>hw e.2)]
  rw [decide_eq_false hw] at HW
  have HWH:=Lib.hid HW
  clear h h0 hw HW hnow href hturn nnow nref nturn
  go_enter Tryz.func51,Tryz.ntmps51
  go_wp2_with (first | (go_at_call 52;refine HWH.out.mono ?_;rintro e w1 ⟨rfl,z,rfl⟩) | go_in)
  go_ret2
  exact ⟨_,rfl,Outs.nil _ _,HPF.out.fr0 (Fr.drewN _ _ _),Fr.drewN _ _ _⟩
 rw [if_pos ⟨h0,hw⟩]
 rw [decide_eq_true hw] at HW
 have HWH:=Lib.hid HW
 clear hw HW h0 hnow href hturn nnow nref nturn
 have HPUT : Hid (∀ w,Fr (fun _=>False) W w → Calls Tryz.prog 21 #[.pointer (some ⟨xb,0,none⟩),.agg #[.int .i64 3,.int .i64 now,.int .i64 ref,.int .i64 0,.int .i64 0,.int .i64 0,.slice none 0 0]] w fun e W'=>e = .returned (.int .i64 ((s.l.length : Int) + 1)) ∧ PF T W' xb xm (began s now ref) ∧ Fr (fun q=>q = xb ∨ q = xm) w W'):=Lib.hid (fun w hf=>put_any T w xb xm s (h.fr0 hf) (by omega) (by omega) 3 now ref 0 0 0 none 0 0 [] (RowB.nil _ _) (by simp) (by simp) _ (by unfold PutP;simp [began]))
 clear h
 go_enter Tryz.func51,Tryz.ntmps51
 go_upto_region 3 with (first | (go_at_call 52;refine HWH.out.mono ?_;rintro e w1 ⟨rfl,z,rfl⟩) | go_in)
 go_upto_region 4 with (first | (go_at_call 21;refine (HPUT.out _ (Fr.drewN _ _ _)).mono ?_;rintro e w2 ⟨rfl,hpf,hf2⟩) | go_in)
 have HF2 : Hid (Fr (fun q=>q = xb ∨ q = xm) W w2):=Lib.hid (((Fr.drewN (fun _=>False) W _).mono fun _ e=>e.elim).trans hf2)
 have HPF2:=Lib.hid hpf
 have HT : Hid (∀ k,k = xb ∨ k = xm → T k):=Lib.hid (fun k e=>e.elim (fun e=>e ▸ HPF.out.f) (fun e=>e ▸ HPF.out.m))
 obtain ⟨ao2,cp2,hb⟩:=hpf.blk
 have FX : Hid (∀ w',Fr (fun _=>False) w2 w' → w'.cell? ⟨bref,0,none⟩ = some (.int .i64 ref) ∧ w'.cell? ⟨bturn,0,none⟩ = some (.int .i64 turn) ∧ w'.cell? ⟨bnow,0,none⟩ = some (.int .i64 now) ∧ w'.cell? ⟨xb,3,none⟩ = some (.int .i64 s.n)):=Lib.hid (fun w' hf=>⟨((HNB.out.2.1.fr HF2.out (fun e=>HNE.out.2.1 (HT.out _ e))).fr hf id).cell 0,((HNB.out.2.2.fr HF2.out (fun e=>HNE.out.2.2 (HT.out _ e))).fr hf id).cell 0,((HNB.out.1.fr HF2.out (fun e=>HNE.out.1 (HT.out _ e))).fr hf id).cell 0,(hb.fr hf id).cell 3⟩)
 clear HPUT hpf hf2 hb cturn cref cnow p0 HWH
 refine region_Z (fun w'=>Fr (fun _=>False) w2 w') 99 (Fr.drewN _ w2 1) (fun hH=>?_)
 refine takes (b:=?_) [0,1,2,3,4,5,6,7,8] hH ?_ ?_
 rotate_left
 iterate 9 ((refine Sq.yes (v:=?_) rfl (by rfl) ?_ ?_;rotate_left;· (intro w' hw';obtain ⟨f0,f1,f2,f3⟩:=FX.out w' hw';go_simp;try with_reducible rfl));try simp only [lD,lE,lF,Act.put,lG,lH,lI])
 exact Sq.nil
 rw [wrap_i64]
 obtain ⟨q,hq⟩ : ∃ q,wrap64 (now + s.n) = q:=⟨_,rfl⟩
 rw [hq]
 have HQ:=Lib.hid hq
 clear hq
 have hB : Blk (w2.alloc (.cells #[.int .i64 3,.int .i64 0,.int .i64 ref,.int .i64 turn,.int .i64 q,.int .i64 0,.int .i64 0,.slice none 0 0] 47)).drew w2.heap.size 47 #[.int .i64 3,.int .i64 0,.int .i64 ref,.int .i64 turn,.int .i64 q,.int .i64 0,.int .i64 0,.slice none 0 0]:=Blk.new w2.drew 47 #[.int .i64 3,.int .i64 0,.int .i64 ref,.int .i64 turn,.int .i64 q,.int .i64 0,.int .i64 0,.slice none 0 0]
 refine any_op 9 rfl (fun K hK=>?_)
 go_simp
 refine hK.out _ _ ((Fr.alloc _ _ _).trans (Fr.drewN _ _ 1)) (fun hH2=>?_)
 clear hK K 
 try simp only [lD,lE,lF,Act.put,lG,lH,lI]
 refine takes (b:=?_) [10,11] hH2 ?_ ?_
 rotate_left
 iterate 2 ((refine Sq.yes (v:=?_) rfl (by rfl) ?_ ?_;rotate_left;· (intro w' hw';go_simp;try with_reducible rfl));try simp only [lD,lE,lF,Act.put,lG,lH,lI])
 exact Sq.nil
 refine any_done ?_
 have HB:=Lib.hid hB
 have HH:=Lib.hid hH2
 clear hH hH2 hB FX
 go_wp2
 go_ret2
 rw [HQ.out]
 exact ⟨_,rfl,Outs.one HF2.out.size ⟨3,0,ref,turn,q,0,0,[]⟩ (.slice none 0 0) (RowB.nil _ _) HB.out,HPF2.out.fr0 HH.out,HF2.out.trans (HH.out.mono fun _ e=>e.elim)⟩
end Go.Proofs.YtnkelaohcbdjnaaGreat
set_option linter.unusedVariables false
set_option linter.unusedSimpArgs false
namespace Go.Proofs.YtnkelaohcbdjnaaGreat
open Go.RowKit Go.Maps
/-- the status that a kind gives -/
def stOf (k : Int) : Int:=if k = 19 then 6 else if k = 20 then 2 else if k = 21 then 3 else if k = 22 then 4 else if k = 23 then 5 else 1
/-- what comes out where a run is closed -/
def closeO (k : Int) (ds : List Value) : List Ov:=if k = 19 then [⟨8,0,0,0,0,0,0,ds⟩] else [⟨7,0,0,0,0,0,stOf k,ds⟩]
set_option maxRecDepth 100000 in
set_option maxHeartbeats 2000000 in
theorem close_any (T : Nat → Prop) (W : World) (xb xm : Nat) (s : FSt) (h : PF T W xb xm s) (hmc : s.mc ≤ 100000) (hl : s.l.length ≤ 45000) (k : Int) (hk : 19 ≤ k ∧ k ≤ 23) (now : Int) (ao : Option Addr) (dl cp : Nat) (ds : List Value) (hd : RowB T W (.slice ao dl cp) ds) (hdl : ds.length ≤ 100000) (hd1 : ∀ u ∈ ds,u.oneCell' = true) :
 Calls Tryz.prog 68 #[.pointer (some ⟨xb,0,none⟩),.int .i64 k,.slice ao dl cp,.int .i64 now] W fun e W'=>Meth T W xb xm (shut s k now ds) (closeO k ds) e W':=by
 have HPUT:=Lib.hid (put_any T W xb xm s h (by omega) (by omega) k now 0 0 0 0 ao dl cp ds (hd.to (S':=fun _=>False) fun k _ e=>e.elim) hdl hd1 (shut s k now ds) (by unfold PutP shut;have:=hk;simp only [and_true];omega))
 have HT:=Lib.hid (And.intro h.f h.m)
 have HD:=Lib.hid (And.intro hdl hd1)
 have HR:=Lib.hid hd
 have HDL:=Lib.hid hd.len
 have HK:=Lib.hid hk
 clear h hd hd1 hdl
 go_enter Tryz.func68,Tryz.ntmps68
 go_upto_region 2 with (first | (go_at_call 21;refine HPUT.out.mono ?_;rintro e w2 ⟨rfl,hpf,hf2⟩) | go_in)
 have hfT : Fr T W w2:=hf2.mono fun k e=>e.elim (fun e=>e ▸ HT.out.1) (fun e=>e ▸ HT.out.2)
 have HF2:=Lib.hid hf2
 have HPF:=Lib.hid hpf
 have HCL : Hid (∀ w3,Fr (fun _=>False) w2 w3 → Calls Tryz.prog 28 #[.slice ao dl cp] w3 fun e W'=>∃ va vc,e = .returned (.slice va dl vc) ∧ RowB (fun q=>q < W.heap.size) W' (.slice va dl vc) ds ∧ Fr (fun _=>False) w3 W'):=Lib.hid (fun w3 hf=>(clone_any T (fun q=>q < W.heap.size) w3 _ ds ((HR.out.fr hfT).fr (hf.mono fun _ e=>e.elim)) (by have:=HD.out.1;omega) HD.out.2 (fun q e=>by have:=hfT.size;have:=hf.size;omega)).mono (fun e W' hh=>by
  obtain ⟨v',rfl,h1,h2⟩:=hh
  obtain ⟨va,vc,rfl⟩ : ∃ va vc,v' = .slice va dl vc:=by rw [← HDL.out];obtain ⟨ao,cap,e,_⟩:=h1;exact ⟨ao,cap,e⟩
  exact ⟨va,vc,rfl,h1,h2⟩))
 have HST : Hid (Calls Tryz.prog 15 #[.pointer (some ⟨xb,0,none⟩)] w2 fun e W'=>e = .returned (.int .i64 (stOf k)) ∧ w2 = W'):=Lib.hid (by
  have:=status_any T w2 xb xm _ hpf.fl
  have e : statusK (shut s k now ds).l = stOf k:=statusK_snoc s _ _
  rwa [e] at this)
 clear HPUT hf2 hpf hfT
 by_cases h19 : k = 19
 ·subst h19
  have HO : Hid (closeO 19 ds = [⟨8,0,0,0,0,0,0,ds⟩]):=Lib.hid (if_pos rfl)
  go_wp2_with (first | (go_at_call 28;refine (HCL.out _ (Fr.refl _ _)).mono ?_;rintro e w4 ⟨va,vc,rfl,hr,hf4⟩;have HR4:=Lib.hid hr;have HF4:=Lib.hid hf4;clear hr hf4) | go_in)
  go_ret
  rw [HO.out]
  exact ⟨_,rfl,Outs.one (Nat.le_trans HF2.out.size HF4.out.size) ⟨8,0,0,0,0,0,0,ds⟩ (.slice va dl vc) (HR4.out.fr ((Fr.alloc (fun _=>False) _ _).mono fun _ e=>e.elim)) (Blk.new _ _ _),(HPF.out.fr0 HF4.out).fr0 (Fr.alloc _ _ _),(HF2.out.trans (HF4.out.mono fun _ e=>e.elim)).trans ((Fr.alloc (fun _=>False) _ _).mono fun _ e=>e.elim)⟩
 ·have p0 : (k == 19) = false:=by simp [h19]
  obtain ⟨st,hst⟩ : ∃ x,stOf k = x:=⟨_,rfl⟩
  rw [hst] at HST
  have HO : Hid (closeO k ds = [⟨7,0,0,0,0,0,st,ds⟩]):=Lib.hid (by unfold closeO;rw [if_neg h19,hst])
  clear hst h19
  go_wp2_with (first | (go_at_call 15;refine HST.out.mono ?_;rintro e w3 ⟨rfl,rfl⟩) | (go_at_call 28;refine (HCL.out _ (Fr.refl _ _)).mono ?_;rintro e w4 ⟨va,vc,rfl,hr,hf4⟩;have HR4:=Lib.hid hr;have HF4:=Lib.hid hf4;clear hr hf4) | go_in)
  go_ret
  rw [HO.out]
  exact ⟨_,rfl,Outs.one (Nat.le_trans HF2.out.size HF4.out.size) ⟨7,0,0,0,0,0,st,ds⟩ (.slice va dl vc) (HR4.out.fr ((Fr.alloc (fun _=>False) _ _).mono fun _ e=>e.elim)) (Blk.new _ _ _),(HPF.out.fr0 HF4.out).fr0 (Fr.alloc _ _ _),(HF2.out.trans (HF4.out.mono fun _ e=>e.elim)).trans ((Fr.alloc (fun _=>False) _ _).mono fun _ e=>e.elim)⟩
set_option maxRecDepth 100000 in
set_option maxHeartbeats 2000000 in
theorem terminate_c (T : Nat → Prop) (W : World) (xb xm : Nat) (s : FSt) (h : PF T W xb xm s) (hmc : s.mc ≤ 100000) (hl : s.l.length ≤ 40000) (now : Int) (ao : Option Addr) (dl cp : Nat) (ds : List Value) (bdata bnow : Nat) (hdata : Blk W bdata 36 #[.slice ao dl cp]) (ndata : ¬ T bdata) (hnow : Blk W bnow 3 #[.int .i64 now]) (nnow : ¬ T bnow) (hd : RowB T W (.slice ao dl cp) ds) (hdl : ds.length ≤ 100000) (hd1 : ∀ u ∈ ds,u.oneCell' = true) :
 Calls Tryz.prog 67 #[.pointer (some ⟨xb,0,none⟩),.pointer (some ⟨bdata,0,none⟩),.pointer (some ⟨bnow,0,none⟩)] W fun e W'=>ClX T W xb xm (terminateC s ds now) e W':=by
 have cdata:=hdata.cell 0
 have cnow:=hnow.cell 0
 simp only [lA,lB] at cdata cnow
 have HC:=Lib.hid (close_any T W xb xm s h (by omega) (by omega) 23 (by omega) now ao dl cp ds hd hdl hd1)
 clear h hd hd1 hdl hdata hnow ndata nnow
 go_enter Tryz.func67,Tryz.ntmps67
 go_wp2_with (first | (go_at_call 68;refine HC.out.mono ?_;rintro e w3 ⟨v,rfl,h1,h2,h3⟩) | go_in)
 go_ret2
 exact ⟨v,rfl,h1,h2,h3⟩
set_option maxRecDepth 100000 in
set_option maxHeartbeats 2000000 in
theorem missed_c (T : Nat → Prop) (W : World) (xb xm : Nat) (s : FSt) (h : PF T W xb xm s) (hmc : s.mc ≤ 100000) (hl : s.l.length ≤ 40000) (ref turn now : Int) (bref bturn bnow : Nat) (href : Blk W bref 3 #[.int .i64 ref]) (nref : ¬ T bref) (hturn : Blk W bturn 3 #[.int .i64 turn]) (nturn : ¬ T bturn) (hnow : Blk W bnow 3 #[.int .i64 now]) (nnow : ¬ T bnow)  :
 Calls Tryz.prog 98 #[.pointer (some ⟨xb,0,none⟩),.pointer (some ⟨bref,0,none⟩),.pointer (some ⟨bturn,0,none⟩),.pointer (some ⟨bnow,0,none⟩)] W fun e W'=>ClX T W xb xm (missedC s ref turn now) e W':=by
 have HPF:=Lib.hid h
 have HNB:=Lib.hid (And.intro hnow nnow)
 obtain ⟨ao2,cp2,hb⟩:=h.blk
 have FX : Hid (∀ w',Fr (fun _=>False) W w' → w'.cell? ⟨bref,0,none⟩ = some (.int .i64 ref) ∧ w'.cell? ⟨bturn,0,none⟩ = some (.int .i64 turn) ∧ w'.cell? ⟨bnow,0,none⟩ = some (.int .i64 now) ∧ w'.cell? ⟨xb,5,none⟩ = some (.int .i64 s.task) ∧ w'.cell? ⟨xb,6,none⟩ = some (.int .i64 s.at_) ∧ w'.cell? ⟨xb,7,none⟩ = some (.int .i64 s.bg) ∧ w'.cell? ⟨xb,8,none⟩ = some (.int .i64 s.turn)):=Lib.hid (fun w' hf=>⟨(href.fr hf id).cell 0,(hturn.fr hf id).cell 0,(hnow.fr hf id).cell 0,(hb.fr hf id).cell 5,(hb.fr hf id).cell 6,(hb.fr hf id).cell 7,(hb.fr hf id).cell 8⟩)
 have HPUT : Hid (∀ w,Fr (fun _=>False) W w → Calls Tryz.prog 21 #[.pointer (some ⟨xb,0,none⟩),.agg #[.int .i64 5,.int .i64 now,.int .i64 s.bg,.int .i64 0,.int .i64 0,.int .i64 0,.slice none 0 0]] w fun e W'=>e = .returned (.int .i64 ((s.l.length : Int) + 1)) ∧ PF T W' xb xm (missed s now) ∧ Fr (fun q=>q = xb ∨ q = xm) w W'):=Lib.hid (fun w hf=>put_any T w xb xm s (h.fr0 hf) (by omega) (by omega) 5 now s.bg 0 0 0 none 0 0 [] (RowB.nil _ _) (by simp) (by simp) _ (by unfold PutP;simp [missed]))
 unfold missedC
 obtain ⟨ta,hta⟩ : ∃ x,s.task = x:=⟨_,rfl⟩
 obtain ⟨aa,haa⟩ : ∃ x,s.at_ = x:=⟨_,rfl⟩
 obtain ⟨tu,htu⟩ : ∃ x,s.turn = x:=⟨_,rfl⟩
 rw [hta,haa,htu] at FX
 rw [hta,haa,htu]
 have HTU:=Lib.hid htu
 clear hta haa htu h hb href hturn hnow nref nturn nnow
 by_cases h1 : ta = 2
 rotate_left
 ·rw [if_neg (fun e=>h1 e.1)]
  have p1 : (ta != 2) = true:=by simp [h1]
  clear h1
  go_enter Tryz.func98,Tryz.ntmps98
  go_upto_region 1 with (fail)
  refine region_Z (fun w'=>Fr (fun _=>False) W w') 99 (Fr.drewN _ W 1) (fun hH=>?_)
  refine takes (b:=?_) [0,1,2,3,4,5,6,7,8,9,10,11,12,13,14,15,16,17,18,19,20] hH ?_ ?_
  rotate_left
  iterate 6 ((refine Sq.yes (v:=?_) rfl (by rfl) ?_ ?_;rotate_left;· (intro w' hw';obtain ⟨f0,f1,f2,f3,f4,f5,f6⟩:=FX.out w' hw';go_simp;try with_reducible rfl));try simp only [lD,lE,lF,Act.put,lG,lH,lI])
  iterate 6 (refine Sq.no rfl (by rfl) ?_;try simp only [lD,lE,lF,Act.put,lG,lH,lI])
  iterate 2 ((refine Sq.yes (v:=?_) rfl (by rfl) ?_ ?_;rotate_left;· (intro w' hw';obtain ⟨f0,f1,f2,f3,f4,f5,f6⟩:=FX.out w' hw';go_simp;try with_reducible rfl));try simp only [lD,lE,lF,Act.put,lG,lH,lI])
  iterate 6 (refine Sq.no rfl (by rfl) ?_;try simp only [lD,lE,lF,Act.put,lG,lH,lI])
  (refine Sq.yes (v:=?_) rfl (by rfl) ?_ ?_;rotate_left;· (intro w' hw';obtain ⟨f0,f1,f2,f3,f4,f5,f6⟩:=FX.out w' hw';go_simp;try with_reducible rfl))
  try simp only [lD,lE,lF,Act.put,lG,lH,lI]
  exact Sq.nil
  refine any_done ?_
  have HH:=Lib.hid hH
  clear hH FX HPUT
  go_wp2
  go_ret2
  exact ⟨_,rfl,Outs.nil _ _,HPF.out.fr0 HH.out,HH.out.mono fun _ e=>e.elim⟩
 subst h1
 have p1 : ((2 : Int) != 2) = false:=rfl
 by_cases h2 : aa = ref
 rotate_left
 ·rw [if_neg (fun e=>h2 e.2.1)]
  have p2 : (aa != ref) = true:=by simp [h2]
  clear h2
  go_enter Tryz.func98,Tryz.ntmps98
  go_upto_region 1 with (fail)
  refine region_Z (fun w'=>Fr (fun _=>False) W w') 99 (Fr.drewN _ W 1) (fun hH=>?_)
  refine takes (b:=?_) [0,1,2,3,4,5,6,7,8,9,10,11,12,13,14,15,16,17,18,19,20] hH ?_ ?_
  rotate_left
  iterate 14 ((refine Sq.yes (v:=?_) rfl (by rfl) ?_ ?_;rotate_left;· (intro w' hw';obtain ⟨f0,f1,f2,f3,f4,f5,f6⟩:=FX.out w' hw';go_simp;try with_reducible rfl));try simp only [lD,lE,lF,Act.put,lG,lH,lI])
  iterate 6 (refine Sq.no rfl (by rfl) ?_;try simp only [lD,lE,lF,Act.put,lG,lH,lI])
  (refine Sq.yes (v:=?_) rfl (by rfl) ?_ ?_;rotate_left;· (intro w' hw';obtain ⟨f0,f1,f2,f3,f4,f5,f6⟩:=FX.out w' hw';go_simp;try with_reducible rfl))
  try simp only [lD,lE,lF,Act.put,lG,lH,lI]
  exact Sq.nil
  refine any_done ?_
  have HH:=Lib.hid hH
  clear hH FX HPUT
  go_wp2
  go_ret2
  exact ⟨_,rfl,Outs.nil _ _,HPF.out.fr0 HH.out,HH.out.mono fun _ e=>e.elim⟩
 subst h2
 have p2 : (aa != aa) = false:=by simp
 by_cases h3 : tu = turn
 rotate_left
 ·rw [if_neg (fun e=>h3 e.2.2)]
  have p3 : (tu != turn) = true:=by simp [h3]
  clear h3
  go_enter Tryz.func98,Tryz.ntmps98
  go_upto_region 1 with (fail)
  refine region_Z (fun w'=>Fr (fun _=>False) W w') 99 (Fr.drewN _ W 1) (fun hH=>?_)
  refine takes (b:=?_) [0,1,2,3,4,5,6,7,8,9,10,11,12,13,14,15,16,17,18,19,20] hH ?_ ?_
  rotate_left
  iterate 21 ((refine Sq.yes (v:=?_) rfl (by rfl) ?_ ?_;rotate_left;· (intro w' hw';obtain ⟨f0,f1,f2,f3,f4,f5,f6⟩:=FX.out w' hw';go_simp;try with_reducible rfl));try simp only [lD,lE,lF,Act.put,lG,lH,lI])
  exact Sq.nil
  refine any_done ?_
  have HH:=Lib.hid hH
  clear hH FX HPUT
  go_wp2
  go_ret2
  exact ⟨_,rfl,Outs.nil _ _,HPF.out.fr0 HH.out,HH.out.mono fun _ e=>e.elim⟩
 subst h3
 have p3 : (tu != tu) = false:=by simp
 rw [if_pos ⟨rfl,rfl,rfl⟩]
 go_enter Tryz.func98,Tryz.ntmps98
 go_upto_region 1 with (fail)
 refine region_Z (fun w'=>Fr (fun _=>False) W w') 99 (Fr.drewN _ W 1) (fun hH=>?_)
 refine takes (b:=?_) [0,1,2,3,4,5,6,7,8,9,10,11,12,13,14,15,16,17,18,19,20] hH ?_ ?_
 rotate_left
 iterate 21 ((refine Sq.yes (v:=?_) rfl (by rfl) ?_ ?_;rotate_left;· (intro w' hw';obtain ⟨f0,f1,f2,f3,f4,f5,f6⟩:=FX.out w' hw';go_simp;try with_reducible rfl));try simp only [lD,lE,lF,Act.put,lG,lH,lI])
 exact Sq.nil
 refine any_done ?_
 have hF0 : Fr (fun _=>False) W W.drew:=hH
 generalize W.drew = w1 at hF0 ⊢
 have HF1:=Lib.hid hF0
 clear hH hF0 p1 p2 p3
 go_upto_region 3 with (fail)
 obtain ⟨_,_,g2,_,_,g5,_⟩:=FX.out _ (HF1.out.trans (Fr.drewN _ w1 1))
 refine region_Z (fun w'=>w'.cell? ⟨bnow,0,none⟩ = some (.int .i64 now) ∧ w'.cell? ⟨xb,7,none⟩ = some (.int .i64 s.bg)) 99 ⟨g2,g5⟩ (fun hH=>?_)
 refine takes (b:=?_) [0,1,2,3,4,5,6] hH ?_ ?_
 rotate_left
 iterate 7 ((refine Sq.yes (v:=?_) rfl (by rfl) ?_ ?_;rotate_left;· (intro w' hw';obtain ⟨f0,f1⟩:=hw';go_simp;try with_reducible rfl));try simp only [lD,lE,lF,Act.put,lG,lH,lI])
 exact Sq.nil
 refine any_op 7 rfl (fun K hK=>?_)
 go_simp
 refine (HPUT.out _ (HF1.out.trans (Fr.drewN _ w1 1))).mono ?_
 rintro e w2 ⟨rfl,hpf,hf2⟩
 have HPF2:=Lib.hid hpf
 have HF2 : Hid (Fr (fun q=>q = xb ∨ q = xm) W w2):=Lib.hid (((HF1.out.trans (Fr.drewN _ w1 1)).mono fun _ e=>e.elim).trans hf2)
 obtain ⟨_,_,hb2⟩:=hpf.blk
 have n2 : w2.cell? ⟨bnow,0,none⟩ = some (.int .i64 now):=(HNB.out.1.fr HF2.out (fun e=>HNB.out.2 (e.elim (fun e=>e ▸ HPF.out.f) (fun e=>e ▸ HPF.out.m)))).cell 0
 refine hK.out _ _ ⟨n2,hb2.cell 7⟩ (fun hH2=>?_)
 clear hK K hpf hf2 HPUT hb2 g2 g5
 try simp only [lD,lE,lF,Act.put,lG,lH,lI]
 refine any_done ?_
 have HSC:=Lib.hid (sched_any T w2 xb xm _ HPF2.out (by show s.mc ≤ _;omega) (by show (s.l ++ _).length ≤ _;rw [List.length_append];simp only [List.length_cons,List.length_nil];omega) now)
 clear hH hH2 FX
 go_wp2_with (first | (go_at_call 22;refine HSC.out.mono ?_;rintro e w3 ⟨v,rfl,ho,hpf,hf3⟩) | go_in)
 go_ret2
 refine ⟨v,rfl,?_,hpf,HF2.out.trans hf3⟩
 have e1 : ((missed s now).l.length : Int) + 1 = (s.l.length : Int) + 2:=by show ((s.l ++ _).length : Int) + 1 = _;rw [List.length_append];simp only [List.length_cons,List.length_nil];omega
 have e2 : (missed s now).turn = wrap64 (tu + 1):=by show wrap64 (s.turn + 1) = _;rw [HTU.out]
 rw [e1,e2] at ho
 exact ho.weak HF2.out.size
end Go.Proofs.YtnkelaohcbdjnaaGreat
