/- schedule,wake,faulty;a twin. -/
import Derived.Test.YtnkelaohcbdjnaaGreatPt5
import Derived.Test.YtnkelaohcbdjnaaGreatHy
import Derived.Deep.RegionHeld3
import Derived.Deep.Cut
import Derived.Deep.DeepCutAuto
set_option linter.unusedVariables false
set_option linter.unusedSimpArgs false
namespace Go.Proofs.YtnkelaohcbdjnaaGreat
open Go.RowKit Go.Maps
/-- what a method of a run leaves: what comes out,and the run -/
def Meth (S : Nat → Prop) (W : World) (fb mb : Nat) (s' : FSt) (os : List Ov) (e : Ending) (W' : World) : Prop:=∃ v,e = .returned v ∧ Outs W.heap.size W' v os ∧ PF S W' fb mb s' ∧ Fr (fun k=>k = fb ∨ k = mb) W W'
set_option maxRecDepth 100000 in
set_option maxHeartbeats 2000000 in
theorem sched_any (S : Nat → Prop) (W : World) (fb mb : Nat) (s : FSt) (h : PF S W fb mb s) (hmc : s.mc ≤ 1000000) (hl : s.l.length ≤ 50000) (now : Int) :
 Calls Tryz.prog 22 #[.pointer (some ⟨fb,0,none⟩),.int .i64 now] W fun e W'=>Meth S W fb mb (sched s now) [⟨1,s.list,(s.l.length : Int) + 1,s.turn,0,0,0,[]⟩] e W':=by
 obtain ⟨ao,cp,hb⟩:=h.blk
 have FX : Hid (∀ w',Fr (fun _=>False) W w' → w'.cell? ⟨fb,2,none⟩ = some (.int .i64 s.list) ∧ w'.cell? ⟨fb,8,none⟩ = some (.int .i64 s.turn)):=Lib.hid (fun w' hf=>⟨(hb.fr hf id).cell 2,(hb.fr hf id).cell 8⟩)
 have HP : Hid (∀ w',Fr (fun _=>False) W w' → Calls Tryz.prog 21 #[.pointer (some ⟨fb,0,none⟩),.agg #[.int .i64 2,.int .i64 now,.int .i64 0,.int .i64 0,.int .i64 s.list,.int .i64 s.turn,.slice none 0 0]] w' fun e W'=>e = .returned (.int .i64 ((s.l.length : Int) + 1)) ∧ PF S W' fb mb (sched s now) ∧ Fr (fun k=>k = fb ∨ k = mb) w' W'):=Lib.hid (fun w' hf=>
  put_any S w' fb mb s (h.fr0 hf) hmc hl 2 now 0 0 s.list s.turn none 0 0 [] (RowB.nil _ _) (by simp) (by simp) _ (.inr (.inl ⟨rfl,rfl⟩)))
 clear h hb
 go_enter Tryz.func22,Tryz.ntmps22
 go_upto_region 1 with (fail)
 refine region_Z (fun w'=>w'.cell? ⟨fb,2,none⟩ = some (.int .i64 s.list) ∧ w'.cell? ⟨fb,8,none⟩ = some (.int .i64 s.turn)) 99 (FX.out _ (Fr.drewN _ W 1)) (fun hH=>?_)
 refine takes (b:=?_) [0,1,2,3,4,5,6,7,8,9,10] hH ?_ ?_
 rotate_left
 iterate 11 (first
  | (refine Sq.no rfl (by rfl) ?_)
  | (refine Sq.yes (v:=?_) rfl (by rfl) ?_ ?_;rotate_left;· (intro w' hw';obtain ⟨f0,f1⟩:=hw';go_simp;try with_reducible rfl));try simp only [lD,lE,lF,Act.put,lG,lH,lI])
 exact Sq.nil
 refine any_op 11 rfl (fun K hK=>?_)
 go_simp
 refine (HP.out _ (Fr.drewN _ W 1)).mono ?_
 rintro e w1 ⟨rfl,hpf,hfr⟩
 obtain ⟨ao1,cp1,hb1⟩:=hpf.blk
 have HB1:=Lib.hid hb1
 have HPF:=Lib.hid hpf
 have HFR : Hid (Fr (fun k=>k = fb ∨ k = mb) W w1):=Lib.hid (((Fr.drewN (fun _=>False) W 1).mono fun _ e=>e.elim).trans hfr)
 refine hK.out _ _ ⟨hb1.cell 2,hb1.cell 8⟩ (fun hH2=>?_)
 clear hK K hb1 hpf hfr
 try simp only [lD,lE,lF,Act.put,lG,lH,lI]
 refine takes (b:=?_) [12] hH2 ?_ ?_
 rotate_left
 iterate 1 (first
  | (refine Sq.no rfl (by rfl) ?_)
  | (refine Sq.yes (v:=?_) rfl (by rfl) ?_ ?_;rotate_left;· (intro w' hw';go_simp;try with_reducible rfl));try simp only [lD,lE,lF,Act.put,lG,lH,lI])
 exact Sq.nil
 refine any_done ?_
 clear hH hH2 HP FX
 have FX : Hid (∀ w',Fr (fun _=>False) w1 w' → w'.cell? ⟨fb,2,none⟩ = some (.int .i64 s.list) ∧ w'.cell? ⟨fb,8,none⟩ = some (.int .i64 s.turn)):=Lib.hid (fun w' hf=>⟨(HB1.out.fr hf id).cell 2,(HB1.out.fr hf id).cell 8⟩)
 go_upto_region 2 with (fail)
 refine region_Z (fun w'=>Fr (fun _=>False) w1 w') 99 (Fr.drewN _ w1 1) (fun hH=>?_)
 refine takes (b:=?_) [0,1,2,3,4,5,6,7,8,9] hH ?_ ?_
 rotate_left
 iterate 10 (first
  | (refine Sq.no rfl (by rfl) ?_)
  | (refine Sq.yes (v:=?_) rfl (by rfl) ?_ ?_;rotate_left;· (intro w' hw';obtain ⟨f0,f1⟩:=FX.out w' hw';go_simp;try with_reducible rfl));try simp only [lD,lE,lF,Act.put,lG,lH,lI])
 exact Sq.nil
 refine any_op 10 rfl (fun K hK=>?_)
 go_simp
 refine hK.out _ _ ((Fr.alloc _ _ _).trans (Fr.drewN _ _ 1)) (fun hH2=>?_)
 clear hK K 
 try simp only [lD,lE,lF,Act.put,lG,lH,lI]
 refine takes (b:=?_) [11] hH2 ?_ ?_
 rotate_left
 iterate 1 (first
  | (refine Sq.no rfl (by rfl) ?_)
  | (refine Sq.yes (v:=?_) rfl (by rfl) ?_ ?_;rotate_left;· (intro w' hw';go_simp;try with_reducible rfl));try simp only [lD,lE,lF,Act.put,lG,lH,lI])
 exact Sq.nil
 refine any_done ?_
 clear hH FX
 have hB : Blk (w1.alloc (.cells #[.int .i64 1,.int .i64 s.list,.int .i64 ((s.l.length : Int) + 1),.int .i64 s.turn,.int .i64 0,.int .i64 0,.int .i64 0,.slice none 0 0] 47)).drew w1.heap.size 47 #[.int .i64 1,.int .i64 s.list,.int .i64 ((s.l.length : Int) + 1),.int .i64 s.turn,.int .i64 0,.int .i64 0,.int .i64 0,.slice none 0 0]:=Blk.new w1.drew 47 #[.int .i64 1,.int .i64 s.list,.int .i64 ((s.l.length : Int) + 1),.int .i64 s.turn,.int .i64 0,.int .i64 0,.int .i64 0,.slice none 0 0]
 have HB:=Lib.hid hB
 have HH:=Lib.hid hH2
 clear hB hH2
 go_wp2
 go_ret
 exact ⟨_,rfl,Outs.one HFR.out.size _ (.slice none 0 0) (RowB.nil _ _) HB.out,HPF.out.fr0 HH.out,HFR.out.trans (HH.out.mono fun _ e=>e.elim)⟩
set_option maxRecDepth 100000 in
theorem wake_any (S : Nat → Prop) (W : World) (fb mb : Nat) (s : FSt) (h : PF S W fb mb s) (hmc : s.mc ≤ 1000000) (hl : s.l.length ≤ 50000) (now : Int) :
 Calls Tryz.prog 61 #[.pointer (some ⟨fb,0,none⟩),.int .i64 now] W fun e W'=>Meth S W fb mb (wakeS s now) (wakeO s now) e W':=by
 unfold wakeO wakeS
 obtain ⟨ao,cp,hb⟩:=h.blk
 have c5:=hb.cell 5
 simp only [fcells,lA,lB,lC] at c5
 by_cases ht : s.task = 0
 ·rw [if_pos ht,if_pos ht]
  have HSC:=Lib.hid (sched_any S W fb mb s h hmc hl now)
  rw [ht] at c5
  clear h hb ht
  go_enter Tryz.func61,Tryz.ntmps61
  go_wp2_with (first | (go_at_call 22;refine HSC.out.mono ?_;rintro e w2 ⟨v,rfl,h1,h2,h3⟩) | go_in)
  go_ret
  exact ⟨v,rfl,h1,h2,h3⟩
 ·rw [if_neg ht,if_neg ht]
  have HPF:=Lib.hid h
  obtain ⟨t,htt⟩ : ∃ x,s.task = x:=⟨_,rfl⟩
  rw [htt] at ht c5
  have p1 : (t == 0) = false:=by simp [ht]
  clear h hb ht htt
  go_enter Tryz.func61,Tryz.ntmps61
  go_wp2
  go_ret
  exact ⟨_,rfl,Outs.nil _ _,HPF.out,Fr.refl _ _⟩
set_option maxRecDepth 100000 in
set_option maxHeartbeats 2000000 in
theorem faulty_any (S : Nat → Prop) (W : World) (fb mb : Nat) (s : FSt) (h : PF S W fb mb s) (hmc : s.mc ≤ 1000000) (hl : s.l.length ≤ 45000) (n now : Int) :
 Calls Tryz.prog 55 #[.pointer (some ⟨fb,0,none⟩),.int .i64 n,.int .i64 now] W fun e W'=>Meth S W fb mb (sched (faulted s now n) now) [⟨1,s.list,(s.l.length : Int) + 2,wrap64 (s.turn + 1),0,0,0,[]⟩] e W':=by
 obtain ⟨ao,cp,hb⟩:=h.blk
 have c7:=hb.cell 7
 simp only [fcells,lA,lB,lC] at c7
 have HP:=Lib.hid (put_any S W fb mb s h hmc (by omega) 6 now s.bg 0 0 n none 0 0 [] (RowB.nil _ _) (by simp) (by simp) (faulted s now n) (.inr (.inr (.inr (.inr (.inl ⟨.inr rfl,rfl⟩))))))
 clear h hb
 go_enter Tryz.func55,Tryz.ntmps55
 go_upto_region 2 with (first | (go_at_call 21;refine HP.out.mono ?_;rintro e w1 ⟨rfl,hpf,hf1⟩) | go_in)
 have HPF:=Lib.hid hpf
 have HF1:=Lib.hid hf1
 have HSC:=Lib.hid (sched_any S w1 fb mb _ HPF.out hmc (by simp [faulted];omega) now)
 clear HP c7 hpf hf1
 go_wp2_with (first | (go_at_call 22;refine HSC.out.mono ?_;rintro e w2 ⟨v,rfl,h1,h2,h3⟩) | go_in)
 go_ret
 refine ⟨v,rfl,?_,h2,HF1.out.trans h3⟩
 have e1 : ((faulted s now n).l.length : Int) + 1 = (s.l.length : Int) + 2:=by simp [faulted];omega
 rw [e1] at h1
 exact h1.weak HF1.out.size
theorem twin_pf (S : Nat → Prop) (W : World) (fb mb : Nat) (s : FSt) (h : PF S W fb mb s) :
 Calls Tryz.prog 91 #[.pointer (some ⟨fb,0,none⟩)] W fun e W'=>∃ xb xm : Nat,e = .returned (.pointer (some ⟨xb,0,none⟩)) ∧ W.heap.size ≤ xb ∧ W.heap.size ≤ xm ∧ PF (fun k=>S k ∨ k = xb ∨ k = xm) W' xb xm s ∧ Fr (fun _=>False) W W':=by
 refine (twin_any S W h.lt fb mb s h.fl).mono ?_
 rintro e w1 ⟨xb,xm,rfl,h1,h2,h3,h4⟩
 exact ⟨xb,xm,rfl,h1,h2,⟨h3,.inr (.inl rfl),.inr (.inr rfl),fun k e=>by
  rcases e with e | rfl | rfl
  ·exact Nat.lt_of_lt_of_le (h.lt k e) h4.size
  ·exact h3.lt.1
  ·exact h3.lt.2⟩,h4⟩
end Go.Proofs.YtnkelaohcbdjnaaGreat
