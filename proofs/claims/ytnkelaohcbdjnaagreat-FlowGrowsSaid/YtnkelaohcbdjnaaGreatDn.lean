/- done: what one decision does. -/
import Derived.Test.YtnkelaohcbdjnaaGreatCl
import Derived.Test.YtnkelaohcbdjnaaGreatDw
import Derived.Deep.QuietTactic
import Derived.BigQuiet
set_option linter.unusedVariables false
set_option linter.unusedSimpArgs false
namespace Go.Proofs.YtnkelaohcbdjnaaGreat
open Go.RowKit Go.Maps
/-- where what is open of a kind and Id stands;0 for none -/
noncomputable def keyAt (s : FSt) (k i : Int) : Int:=@dite Int (∃ x w,s.mp x = some (opv k i w)) (Classical.propDecidable _) (fun h=>h.choose) (fun _=>0)
/-- no two of what is open are of one kind and Id -/
def UniqO (s : FSt) : Prop:=∀ x y k i w w',s.mp x = some (opv k i w) → s.mp y = some (opv k i w') → x = y
theorem keyAt_of {s : FSt} (hu : UniqO s) {z k i w : Int} (h : s.mp z = some (opv k i w)) : keyAt s k i = z:=by
 have hx : ∃ x w,s.mp x = some (opv k i w):=⟨z,w,h⟩
 unfold keyAt
 rw [dif_pos hx]
 obtain ⟨w',h'⟩:=hx.choose_spec
 exact hu _ _ _ _ _ _ h' h
theorem keyAt_no {s : FSt} {k i : Int} (h : ∀ x k' i' w,s.mp x = some (opv k' i' w) → ¬ (k' = k ∧ i' = i)) : keyAt s k i = 0:=by
 unfold keyAt
 rw [dif_neg]
 rintro ⟨x,w,hx⟩
 exact h _ _ _ _ hx ⟨rfl,rfl⟩
noncomputable def doneS (s : FSt) (x : Dv) (now : Int) : FSt:=
 if x.k = 1 then openedS s 7 now x.i x.l x.n x.d else if x.k = 2 then openedS s 12 now x.i x.l x.n x.d else if x.k = 4 then openedS s 17 now x.i x.l x.n x.d
 else if x.k = 3 then { s with mc:=cdn s.mp (keyAt s 12 x.i) s.mc,mp:=upd s.mp (keyAt s 12 x.i) none,l:=s.l ++ [⟨14,now,keyAt s 12 x.i,x.i,x.l,x.n,x.d⟩] }
 else shut s (if x.k = 8 then 19 else x.k + 15) now x.d
def doneO (s : FSt) (x : Dv) (now : Int) : List Ov:=
 if x.k = 1 then [⟨2,x.l,(s.l.length : Int) + 1,0,0,0,0,[]⟩] else if x.k = 2 then [⟨5,0,(s.l.length : Int) + 1,0,wrap64 (now + x.n),0,0,[]⟩]
 else if x.k = 4 then [⟨6,x.l,(s.l.length : Int) + 1,0,0,x.i,x.n,x.d⟩] else if x.k = 3 then [] else closeO (if x.k = 8 then 19 else x.k + 15) x.d
set_option maxRecDepth 100000 in
set_option maxHeartbeats 4000000 in
theorem done_1 (T : Nat → Prop) (W : World) (xb xm : Nat) (s : FSt) (h : PF T W xb xm s) (hmc : s.mc ≤ 100000) (hl : s.l.length ≤ 45000)  (i l n now : Int) (ao : Option Addr) (dl cp : Nat) (ds : List Value) (hd : RowB T W (.slice ao dl cp) ds) (hdl : ds.length ≤ 100000) (hd1 : ∀ u ∈ ds,u.oneCell' = true) :
 Calls Tryz.prog 56 #[.pointer (some ⟨xb,0,none⟩),.agg #[.int .i64 1,.int .i64 i,.int .i64 l,.int .i64 n,.slice ao dl cp],.int .i64 now] W fun e W'=>Meth T W xb xm (doneS s ⟨1,i,l,n,ds⟩ now) (doneO s ⟨1,i,l,n,ds⟩ now) e W':=by
 have hDB:=Blk.new W 52 #[.int .i64 1,.int .i64 i,.int .i64 l,.int .i64 n,.slice ao dl cp]
 have hf1 : Fr (fun _=>False) W (W.alloc (.cells #[.int .i64 1,.int .i64 i,.int .i64 l,.int .i64 n,.slice ao dl cp] 52)):=Fr.alloc _ _ _
 have HDL:=Lib.hid hd.len
 have HD:=Lib.hid (And.intro hdl hd1)
 have HR:=Lib.hid hd
 have HPF:=Lib.hid h
 have HLM:=Lib.hid (And.intro hl hmc)
 have HLT:=Lib.hid h.lt
 have HCL : Hid (∀ w3,Fr (fun _=>False) W w3 → Calls Tryz.prog 28 #[.slice ao dl cp] w3 fun e W'=>∃ va vc,e = .returned (.slice va dl vc) ∧ RowB (fun q=>q < W.heap.size) W' (.slice va dl vc) ds ∧ Fr (fun _=>False) w3 W'):=Lib.hid (fun w3 hf=>(clone_any T (fun q=>q < W.heap.size) w3 _ ds (HR.out.fr (hf.mono fun _ e=>e.elim)) (by have:=HD.out.1;omega) HD.out.2 (fun q e=>by have:=hf.size;omega)).mono (fun e W' hh=>by
  obtain ⟨v',rfl,h1,h2⟩:=hh
  obtain ⟨va,vc,rfl⟩ : ∃ va vc,v' = .slice va dl vc:=by rw [← HDL.out];obtain ⟨ao,cap,e,_⟩:=h1;exact ⟨ao,cap,e⟩
  exact ⟨va,vc,rfl,h1,h2⟩))
 obtain ⟨w1,hw1⟩ : ∃ w1,W.alloc (.cells #[.int .i64 1,.int .i64 i,.int .i64 l,.int .i64 n,.slice ao dl cp] 52) = w1:=⟨_,rfl⟩
 obtain ⟨db,hdb⟩ : ∃ b,W.heap.size = b:=⟨_,rfl⟩
 rw [hw1] at hDB hf1
 rw [hdb] at hDB
 have HDB : Hid (W.heap.size ≤ db):=Lib.hid (by omega)
 have HB1:=Lib.hid hDB
 have HF1:=Lib.hid hf1
 clear h hd hd1 hdl hmc hl hDB hf1
 go_enter Tryz.func56,Tryz.ntmps56
 go_upto_region 1 with (fail)
 try rw [hw1]
 try rw [hdb]
 clear hw1 hdb
 have k4:=HB1.out.cell 4
 simp only [lA,lB,lC] at k4
 go_upto_region 2 with (first | (go_at_call 28;refine (HCL.out _ HF1.out).mono ?_;rintro e w2 ⟨va,vc,rfl,hr,hf2⟩;have HR2:=Lib.hid hr;have HF12:=Lib.hid hf2;clear hr hf2) | go_in)
 have HF2:=Lib.hid (HF1.out.trans HF12.out)
 have HB2:=Lib.hid (HB1.out.fr HF12.out id)
 clear HCL k4
 have d0:=HB2.out.cell 0
 have d1:=HB2.out.cell 1
 have d2:=HB2.out.cell 2
 have d3:=HB2.out.cell 3
 have d4:=HB2.out.cell 4
 simp only [lA,lB,lC] at d0 d1 d2 d3 d4
 go_upto_region 3 with (fail)
 have hEB:=Blk.new w2 62 #[.int .i64 0,.int .i64 now,.int .i64 0,.int .i64 i,.int .i64 l,.int .i64 n,.slice va dl vc]
 have hf3 : Fr (fun _=>False) w2 (w2.alloc (.cells #[.int .i64 0,.int .i64 now,.int .i64 0,.int .i64 i,.int .i64 l,.int .i64 n,.slice va dl vc] 62)):=Fr.alloc _ _ _
 obtain ⟨w3,hw3⟩ : ∃ w3,w2.alloc (.cells #[.int .i64 0,.int .i64 now,.int .i64 0,.int .i64 i,.int .i64 l,.int .i64 n,.slice va dl vc] 62) = w3:=⟨_,rfl⟩
 obtain ⟨eb,heb⟩ : ∃ b,w2.heap.size = b:=⟨_,rfl⟩
 rw [hw3] at hEB hf3 ⊢
 rw [heb] at hEB ⊢
 have HR3:=Lib.hid ((HR2.out.to (S':=fun q=>q < W.heap.size ∨ q = eb) (fun k hk e=>e.elim id (fun e=>by omega))).fr (hf3.mono fun _ e=>e.elim))
 have HEB : Hid (W.heap.size ≤ eb ∧ db < eb):=Lib.hid ⟨by have:=HF2.out.size;omega,by have:=HB2.out.lt;omega⟩
 have HF3:=Lib.hid (HF2.out.trans hf3)
 have HB3:=Lib.hid (HB2.out.fr hf3 id)
 clear hw3 heb d0 d1 d2 d3 d4
 have d0:=HB3.out.cell 0
 simp only [lA,lB,lC] at d0
 have e0:=hEB.cell 0
 have e1:=hEB.cell 1
 have e2:=hEB.cell 2
 have e3:=hEB.cell 3
 have e4:=hEB.cell 4
 have e5:=hEB.cell 5
 have e6:=hEB.cell 6
 have ez0:=hEB.frozen 0
 simp only [lA,lB,lC] at e0 e1 e2 e3 e4 e5 e6
 have HE3:=Lib.hid hEB
 clear hEB hf3
 go_upto_region 6 with (fail)
 have hf4 : Fr (fun q=>q = eb) w3 (w3.setCell ⟨eb,0,none⟩ (.int .i64 7)):=Fr.setCell (S:=fun q=>q = eb) w3 ⟨eb,0,none⟩ _ rfl
 have hEB4 : Blk (w3.setCell ⟨eb,0,none⟩ (.int .i64 7)) eb 62 #[.int .i64 7,.int .i64 now,.int .i64 0,.int .i64 i,.int .i64 l,.int .i64 n,.slice va dl vc]:=by
  have:=HE3.out.set 0 (.int .i64 7)
  simpa only [lG,lH] using this
 obtain ⟨w4,hw4⟩ : ∃ w4,w3.setCell ⟨eb,0,none⟩ (.int .i64 7) = w4:=⟨_,rfl⟩
 rw [hw4] at hf4 hEB4 ⊢
 have HF4 : Hid (Fr (fun _=>False) W w4):=Lib.hid ⟨hf4.os.trans HF3.out.os,hf4.tape.trans HF3.out.tape,hf4.output.trans HF3.out.output,Nat.le_trans HF3.out.size hf4.size,fun k hk _=>(hf4.block k (Nat.lt_of_lt_of_le hk HF3.out.size) (by have:=HEB.out;omega)).trans (HF3.out.block k hk id)⟩
 have HB4:=Lib.hid (HB3.out.fr hf4 (fun e=>by have:=HEB.out;omega))
 have HR4:=Lib.hid (HR3.out.fr (hf4.mono fun q e=>.inr e))
 have HE4:=Lib.hid hEB4
 have HPF4:=Lib.hid (HPF.out.fr0 HF4.out)
 clear hw4 hf4 hEB4 d0 e0 e1 e2 e3 e4 e5 e6 ez0
 have HPUT : Hid (∀ w,Fr (fun _=>False) w4 w → Calls Tryz.prog 21 #[.pointer (some ⟨xb,0,none⟩),.agg #[.int .i64 7,.int .i64 now,.int .i64 0,.int .i64 i,.int .i64 l,.int .i64 n,.slice va dl vc]] w fun e W'=>e = .returned (.int .i64 ((s.l.length : Int) + 1)) ∧ PF T W' xb xm (openedS s 7 now i l n ds) ∧ Fr (fun q=>q = xb ∨ q = xm) w W'):=Lib.hid (fun w hf=>put_any T w xb xm s (HPF4.out.fr0 hf) (by have:=HLM.out;omega) (by have:=HLM.out;omega) 7 now 0 i l n va dl vc ds ((HR4.out.to (S':=fun _=>False) fun k _ e=>e.elim).fr hf) (by have:=HD.out;omega) HD.out.2 _ (by unfold PutP openedS;simp))
 have FX : Hid (∀ w',Fr (fun q=>q = xb ∨ q = xm) w4 w' → w'.cell? ⟨db,1,none⟩ = some (.int .i64 i) ∧ w'.cell? ⟨db,2,none⟩ = some (.int .i64 l) ∧ w'.cell? ⟨db,3,none⟩ = some (.int .i64 n) ∧ w'.cell? ⟨eb,0,none⟩ = some (.int .i64 7) ∧ w'.cell? ⟨eb,1,none⟩ = some (.int .i64 now) ∧ w'.cell? ⟨eb,2,none⟩ = some (.int .i64 0) ∧ w'.cell? ⟨eb,3,none⟩ = some (.int .i64 i) ∧ w'.cell? ⟨eb,4,none⟩ = some (.int .i64 l) ∧ w'.cell? ⟨eb,5,none⟩ = some (.int .i64 n) ∧ w'.cell? ⟨eb,6,none⟩ = some (.slice va dl vc)):=Lib.hid (fun w' hf=>by
  have hx:=HLT.out xb HPF.out.f
  have hm:=HLT.out xm HPF.out.m
  have h:=HB4.out.fr hf (fun e=>by have:=HDB.out;omega)
  have h2:=HE4.out.fr hf (fun e=>by have:=HEB.out.1;omega)
  exact ⟨h.cell 1,h.cell 2,h.cell 3,h2.cell 0,h2.cell 1,h2.cell 2,h2.cell 3,h2.cell 4,h2.cell 5,h2.cell 6⟩)
 refine region_Z (fun w'=>Fr (fun q=>q = xb ∨ q = xm) w4 w') 99 (Fr.drewN _ w4 1) (fun hH=>?_)
 refine takes (b:=?_) [0,1,2,3] hH ?_ ?_
 rotate_left
 iterate 4 ((refine Sq.yes (v:=?_) rfl (by rfl) ?_ ?_;rotate_left;· (intro w' hw';obtain ⟨f1,f2,f3,z0,z1,z2,z3,z4,z5,z6⟩:=FX.out w' hw';go_simp;try with_reducible rfl));try simp only [lD,lE,lF,Act.put,lG,lH,lI])
 exact Sq.nil
 refine any_op 4 rfl (fun K hK=>?_)
 go_simp
 refine (HPUT.out _ (Fr.drewN _ w4 1)).mono ?_
 rintro e w5 ⟨rfl,hpf,hf5⟩
 have HPF5:=Lib.hid hpf
 have HF45 : Hid (Fr (fun q=>q = xb ∨ q = xm) w4 w5):=Lib.hid (((Fr.drewN (fun _=>False) w4 1).mono fun _ e=>e.elim).trans hf5)
 refine hK.out _ _ HF45.out (fun hH2=>?_)
 clear hK K hpf hf5
 try simp only [lD,lE,lF,Act.put,lG,lH,lI]
 refine takes (b:=?_) [5] hH2 ?_ ?_
 rotate_left
 (refine Sq.yes (v:=?_) rfl (by rfl) ?_ ?_;rotate_left;· (intro w' hw';obtain ⟨f1,f2,f3,z0,z1,z2,z3,z4,z5,z6⟩:=FX.out w' hw';go_simp;try with_reducible rfl))
 try simp only [lD,lE,lF,Act.put,lG,lH,lI]
 exact Sq.nil
 refine any_op 6 rfl (fun K hK=>?_)
 go_simp
 refine hK.out _ _ (HF45.out.trans (Fr.alloc _ _ _)) (fun hH3=>?_)
 clear hK K 
 try simp only [lD,lE,lF,Act.put,lG,lH,lI]
 refine takes (b:=?_) [7] hH3 ?_ ?_
 rotate_left
 (refine Sq.yes (v:=?_) rfl (by rfl) ?_ ?_;rotate_left;· (intro w' hw';obtain ⟨f1,f2,f3,z0,z1,z2,z3,z4,z5,z6⟩:=FX.out w' hw';go_simp;try with_reducible rfl))
 try simp only [lD,lE,lF,Act.put,lG,lH,lI]
 exact Sq.nil
 refine any_done ?_
 have e1 : doneS s ⟨1,i,l,n,ds⟩ now = openedS s 7 now i l n ds:=by simp [doneS]
 have e2 : doneO s ⟨1,i,l,n,ds⟩ now = [⟨2,l,(s.l.length : Int) + 1,0,0,0,0,[]⟩]:=by simp [doneO,wrap_i64]
 have H12:=Lib.hid (And.intro e1 e2)
 have HFT : Hid (Fr (fun q=>q = xb ∨ q = xm) W w5):=Lib.hid ((HF4.out.mono fun _ e=>e.elim).trans HF45.out)
 clear hH hH2 hH3 FX HPUT e1 e2
 go_wp2
 go_ret
 rw [H12.out.1,H12.out.2]
 exact ⟨_,rfl,Outs.one HFT.out.size ⟨2,l,(s.l.length : Int) + 1,0,0,0,0,[]⟩ (.slice none 0 0) (RowB.nil _ _) (Blk.new _ _ _),HPF5.out.fr0 (Fr.alloc _ _ _),HFT.out.trans (Fr.alloc _ _ _)⟩
set_option maxRecDepth 100000 in
set_option maxHeartbeats 4000000 in
theorem done_2 (T : Nat → Prop) (W : World) (xb xm : Nat) (s : FSt) (h : PF T W xb xm s) (hmc : s.mc ≤ 100000) (hl : s.l.length ≤ 45000)  (i l n now : Int) (ao : Option Addr) (dl cp : Nat) (ds : List Value) (hd : RowB T W (.slice ao dl cp) ds) (hdl : ds.length ≤ 100000) (hd1 : ∀ u ∈ ds,u.oneCell' = true) :
 Calls Tryz.prog 56 #[.pointer (some ⟨xb,0,none⟩),.agg #[.int .i64 2,.int .i64 i,.int .i64 l,.int .i64 n,.slice ao dl cp],.int .i64 now] W fun e W'=>Meth T W xb xm (doneS s ⟨2,i,l,n,ds⟩ now) (doneO s ⟨2,i,l,n,ds⟩ now) e W':=by
 have hDB:=Blk.new W 52 #[.int .i64 2,.int .i64 i,.int .i64 l,.int .i64 n,.slice ao dl cp]
 have hf1 : Fr (fun _=>False) W (W.alloc (.cells #[.int .i64 2,.int .i64 i,.int .i64 l,.int .i64 n,.slice ao dl cp] 52)):=Fr.alloc _ _ _
 have HDL:=Lib.hid hd.len
 have HD:=Lib.hid (And.intro hdl hd1)
 have HR:=Lib.hid hd
 have HPF:=Lib.hid h
 have HLM:=Lib.hid (And.intro hl hmc)
 have HLT:=Lib.hid h.lt
 have HCL : Hid (∀ w3,Fr (fun _=>False) W w3 → Calls Tryz.prog 28 #[.slice ao dl cp] w3 fun e W'=>∃ va vc,e = .returned (.slice va dl vc) ∧ RowB (fun q=>q < W.heap.size) W' (.slice va dl vc) ds ∧ Fr (fun _=>False) w3 W'):=Lib.hid (fun w3 hf=>(clone_any T (fun q=>q < W.heap.size) w3 _ ds (HR.out.fr (hf.mono fun _ e=>e.elim)) (by have:=HD.out.1;omega) HD.out.2 (fun q e=>by have:=hf.size;omega)).mono (fun e W' hh=>by
  obtain ⟨v',rfl,h1,h2⟩:=hh
  obtain ⟨va,vc,rfl⟩ : ∃ va vc,v' = .slice va dl vc:=by rw [← HDL.out];obtain ⟨ao,cap,e,_⟩:=h1;exact ⟨ao,cap,e⟩
  exact ⟨va,vc,rfl,h1,h2⟩))
 obtain ⟨w1,hw1⟩ : ∃ w1,W.alloc (.cells #[.int .i64 2,.int .i64 i,.int .i64 l,.int .i64 n,.slice ao dl cp] 52) = w1:=⟨_,rfl⟩
 obtain ⟨db,hdb⟩ : ∃ b,W.heap.size = b:=⟨_,rfl⟩
 rw [hw1] at hDB hf1
 rw [hdb] at hDB
 have HDB : Hid (W.heap.size ≤ db):=Lib.hid (by omega)
 have HB1:=Lib.hid hDB
 have HF1:=Lib.hid hf1
 clear h hd hd1 hdl hmc hl hDB hf1
 go_enter Tryz.func56,Tryz.ntmps56
 go_upto_region 1 with (fail)
 try rw [hw1]
 try rw [hdb]
 clear hw1 hdb
 have k4:=HB1.out.cell 4
 simp only [lA,lB,lC] at k4
 go_upto_region 2 with (first | (go_at_call 28;refine (HCL.out _ HF1.out).mono ?_;rintro e w2 ⟨va,vc,rfl,hr,hf2⟩;have HR2:=Lib.hid hr;have HF12:=Lib.hid hf2;clear hr hf2) | go_in)
 have HF2:=Lib.hid (HF1.out.trans HF12.out)
 have HB2:=Lib.hid (HB1.out.fr HF12.out id)
 clear HCL k4
 have d0:=HB2.out.cell 0
 have d1:=HB2.out.cell 1
 have d2:=HB2.out.cell 2
 have d3:=HB2.out.cell 3
 have d4:=HB2.out.cell 4
 simp only [lA,lB,lC] at d0 d1 d2 d3 d4
 go_upto_region 3 with (fail)
 have hEB:=Blk.new w2 62 #[.int .i64 0,.int .i64 now,.int .i64 0,.int .i64 i,.int .i64 l,.int .i64 n,.slice va dl vc]
 have hf3 : Fr (fun _=>False) w2 (w2.alloc (.cells #[.int .i64 0,.int .i64 now,.int .i64 0,.int .i64 i,.int .i64 l,.int .i64 n,.slice va dl vc] 62)):=Fr.alloc _ _ _
 obtain ⟨w3,hw3⟩ : ∃ w3,w2.alloc (.cells #[.int .i64 0,.int .i64 now,.int .i64 0,.int .i64 i,.int .i64 l,.int .i64 n,.slice va dl vc] 62) = w3:=⟨_,rfl⟩
 obtain ⟨eb,heb⟩ : ∃ b,w2.heap.size = b:=⟨_,rfl⟩
 rw [hw3] at hEB hf3 ⊢
 rw [heb] at hEB ⊢
 have HR3:=Lib.hid ((HR2.out.to (S':=fun q=>q < W.heap.size ∨ q = eb) (fun k hk e=>e.elim id (fun e=>by omega))).fr (hf3.mono fun _ e=>e.elim))
 have HEB : Hid (W.heap.size ≤ eb ∧ db < eb):=Lib.hid ⟨by have:=HF2.out.size;omega,by have:=HB2.out.lt;omega⟩
 have HF3:=Lib.hid (HF2.out.trans hf3)
 have HB3:=Lib.hid (HB2.out.fr hf3 id)
 clear hw3 heb d0 d1 d2 d3 d4
 have d0:=HB3.out.cell 0
 simp only [lA,lB,lC] at d0
 have e0:=hEB.cell 0
 have e1:=hEB.cell 1
 have e2:=hEB.cell 2
 have e3:=hEB.cell 3
 have e4:=hEB.cell 4
 have e5:=hEB.cell 5
 have e6:=hEB.cell 6
 have ez0:=hEB.frozen 0
 simp only [lA,lB,lC] at e0 e1 e2 e3 e4 e5 e6
 have HE3:=Lib.hid hEB
 clear hEB hf3
 go_upto_region 9 with (fail)
 have hf4 : Fr (fun q=>q = eb) w3 (w3.setCell ⟨eb,0,none⟩ (.int .i64 12)):=Fr.setCell (S:=fun q=>q = eb) w3 ⟨eb,0,none⟩ _ rfl
 have hEB4 : Blk (w3.setCell ⟨eb,0,none⟩ (.int .i64 12)) eb 62 #[.int .i64 12,.int .i64 now,.int .i64 0,.int .i64 i,.int .i64 l,.int .i64 n,.slice va dl vc]:=by
  have:=HE3.out.set 0 (.int .i64 12)
  simpa only [lG,lH] using this
 obtain ⟨w4,hw4⟩ : ∃ w4,w3.setCell ⟨eb,0,none⟩ (.int .i64 12) = w4:=⟨_,rfl⟩
 rw [hw4] at hf4 hEB4 ⊢
 have HF4 : Hid (Fr (fun _=>False) W w4):=Lib.hid ⟨hf4.os.trans HF3.out.os,hf4.tape.trans HF3.out.tape,hf4.output.trans HF3.out.output,Nat.le_trans HF3.out.size hf4.size,fun k hk _=>(hf4.block k (Nat.lt_of_lt_of_le hk HF3.out.size) (by have:=HEB.out;omega)).trans (HF3.out.block k hk id)⟩
 have HB4:=Lib.hid (HB3.out.fr hf4 (fun e=>by have:=HEB.out;omega))
 have HR4:=Lib.hid (HR3.out.fr (hf4.mono fun q e=>.inr e))
 have HE4:=Lib.hid hEB4
 have HPF4:=Lib.hid (HPF.out.fr0 HF4.out)
 clear hw4 hf4 hEB4 d0 e0 e1 e2 e3 e4 e5 e6 ez0
 have HPUT : Hid (∀ w,Fr (fun _=>False) w4 w → Calls Tryz.prog 21 #[.pointer (some ⟨xb,0,none⟩),.agg #[.int .i64 12,.int .i64 now,.int .i64 0,.int .i64 i,.int .i64 l,.int .i64 n,.slice va dl vc]] w fun e W'=>e = .returned (.int .i64 ((s.l.length : Int) + 1)) ∧ PF T W' xb xm (openedS s 12 now i l n ds) ∧ Fr (fun q=>q = xb ∨ q = xm) w W'):=Lib.hid (fun w hf=>put_any T w xb xm s (HPF4.out.fr0 hf) (by have:=HLM.out;omega) (by have:=HLM.out;omega) 12 now 0 i l n va dl vc ds ((HR4.out.to (S':=fun _=>False) fun k _ e=>e.elim).fr hf) (by have:=HD.out;omega) HD.out.2 _ (by unfold PutP openedS;simp))
 have FX : Hid (∀ w',Fr (fun q=>q = xb ∨ q = xm) w4 w' → w'.cell? ⟨db,1,none⟩ = some (.int .i64 i) ∧ w'.cell? ⟨db,2,none⟩ = some (.int .i64 l) ∧ w'.cell? ⟨db,3,none⟩ = some (.int .i64 n) ∧ w'.cell? ⟨eb,0,none⟩ = some (.int .i64 12) ∧ w'.cell? ⟨eb,1,none⟩ = some (.int .i64 now) ∧ w'.cell? ⟨eb,2,none⟩ = some (.int .i64 0) ∧ w'.cell? ⟨eb,3,none⟩ = some (.int .i64 i) ∧ w'.cell? ⟨eb,4,none⟩ = some (.int .i64 l) ∧ w'.cell? ⟨eb,5,none⟩ = some (.int .i64 n) ∧ w'.cell? ⟨eb,6,none⟩ = some (.slice va dl vc)):=Lib.hid (fun w' hf=>by
  have hx:=HLT.out xb HPF.out.f
  have hm:=HLT.out xm HPF.out.m
  have h:=HB4.out.fr hf (fun e=>by have:=HDB.out;omega)
  have h2:=HE4.out.fr hf (fun e=>by have:=HEB.out.1;omega)
  exact ⟨h.cell 1,h.cell 2,h.cell 3,h2.cell 0,h2.cell 1,h2.cell 2,h2.cell 3,h2.cell 4,h2.cell 5,h2.cell 6⟩)
 refine region_Z (fun w'=>Fr (fun q=>q = xb ∨ q = xm) w4 w') 99 (Fr.drewN _ w4 1) (fun hH=>?_)
 refine takes (b:=?_) [0,1,3,4,5,6] hH ?_ ?_
 rotate_left
 iterate 6 ((refine Sq.yes (v:=?_) rfl (by rfl) ?_ ?_;rotate_left;· (intro w' hw';obtain ⟨f1,f2,f3,z0,z1,z2,z3,z4,z5,z6⟩:=FX.out w' hw';go_simp;try with_reducible rfl));try simp only [lD,lE,lF,Act.put,lG,lH,lI])
 exact Sq.nil
 refine any_op 2 rfl (fun K hK=>?_)
 go_simp
 refine (HPUT.out _ (Fr.drewN _ w4 1)).mono ?_
 rintro e w5 ⟨rfl,hpf,hf5⟩
 have HPF5:=Lib.hid hpf
 have HF45 : Hid (Fr (fun q=>q = xb ∨ q = xm) w4 w5):=Lib.hid (((Fr.drewN (fun _=>False) w4 1).mono fun _ e=>e.elim).trans hf5)
 refine hK.out _ _ HF45.out (fun hH2=>?_)
 clear hK K hpf hf5
 try simp only [lD,lE,lF,Act.put,lG,lH,lI]
 refine takes (b:=?_) [7] hH2 ?_ ?_
 rotate_left
 (refine Sq.yes (v:=?_) rfl (by rfl) ?_ ?_;rotate_left;· (intro w' hw';obtain ⟨f1,f2,f3,z0,z1,z2,z3,z4,z5,z6⟩:=FX.out w' hw';go_simp;try with_reducible rfl))
 try simp only [lD,lE,lF,Act.put,lG,lH,lI]
 exact Sq.nil
 refine any_op 8 rfl (fun K hK=>?_)
 go_simp
 refine hK.out _ _ (HF45.out.trans (Fr.alloc _ _ _)) (fun hH3=>?_)
 clear hK K 
 try simp only [lD,lE,lF,Act.put,lG,lH,lI]
 refine takes (b:=?_) [9] hH3 ?_ ?_
 rotate_left
 (refine Sq.yes (v:=?_) rfl (by rfl) ?_ ?_;rotate_left;· (intro w' hw';obtain ⟨f1,f2,f3,z0,z1,z2,z3,z4,z5,z6⟩:=FX.out w' hw';go_simp;try with_reducible rfl))
 try simp only [lD,lE,lF,Act.put,lG,lH,lI]
 exact Sq.nil
 refine any_done ?_
 have e1 : doneS s ⟨2,i,l,n,ds⟩ now = openedS s 12 now i l n ds:=by simp [doneS]
 have e2 : doneO s ⟨2,i,l,n,ds⟩ now = [⟨5,0,(s.l.length : Int) + 1,0,IntKind.i64.wrap (now + n),0,0,[]⟩]:=by simp [doneO,wrap_i64]
 have H12:=Lib.hid (And.intro e1 e2)
 have HFT : Hid (Fr (fun q=>q = xb ∨ q = xm) W w5):=Lib.hid ((HF4.out.mono fun _ e=>e.elim).trans HF45.out)
 clear hH hH2 hH3 FX HPUT e1 e2
 go_wp2
 go_ret
 rw [H12.out.1,H12.out.2]
 exact ⟨_,rfl,Outs.one HFT.out.size ⟨5,0,(s.l.length : Int) + 1,0,IntKind.i64.wrap (now + n),0,0,[]⟩ (.slice none 0 0) (RowB.nil _ _) (Blk.new _ _ _),HPF5.out.fr0 (Fr.alloc _ _ _),HFT.out.trans (Fr.alloc _ _ _)⟩
set_option maxRecDepth 100000 in
set_option maxHeartbeats 4000000 in
theorem done_4 (T : Nat → Prop) (W : World) (xb xm : Nat) (s : FSt) (h : PF T W xb xm s) (hmc : s.mc ≤ 100000) (hl : s.l.length ≤ 45000)  (i l n now : Int) (ao : Option Addr) (dl cp : Nat) (ds : List Value) (hd : RowB T W (.slice ao dl cp) ds) (hdl : ds.length ≤ 100000) (hd1 : ∀ u ∈ ds,u.oneCell' = true) :
 Calls Tryz.prog 56 #[.pointer (some ⟨xb,0,none⟩),.agg #[.int .i64 4,.int .i64 i,.int .i64 l,.int .i64 n,.slice ao dl cp],.int .i64 now] W fun e W'=>Meth T W xb xm (doneS s ⟨4,i,l,n,ds⟩ now) (doneO s ⟨4,i,l,n,ds⟩ now) e W':=by
 have hDB:=Blk.new W 52 #[.int .i64 4,.int .i64 i,.int .i64 l,.int .i64 n,.slice ao dl cp]
 have hf1 : Fr (fun _=>False) W (W.alloc (.cells #[.int .i64 4,.int .i64 i,.int .i64 l,.int .i64 n,.slice ao dl cp] 52)):=Fr.alloc _ _ _
 have HDL:=Lib.hid hd.len
 have HD:=Lib.hid (And.intro hdl hd1)
 have HR:=Lib.hid hd
 have HPF:=Lib.hid h
 have HLM:=Lib.hid (And.intro hl hmc)
 have HLT:=Lib.hid h.lt
 have HCL : Hid (∀ w3,Fr (fun _=>False) W w3 → Calls Tryz.prog 28 #[.slice ao dl cp] w3 fun e W'=>∃ va vc,e = .returned (.slice va dl vc) ∧ RowB (fun q=>q < W.heap.size) W' (.slice va dl vc) ds ∧ Fr (fun _=>False) w3 W'):=Lib.hid (fun w3 hf=>(clone_any T (fun q=>q < W.heap.size) w3 _ ds (HR.out.fr (hf.mono fun _ e=>e.elim)) (by have:=HD.out.1;omega) HD.out.2 (fun q e=>by have:=hf.size;omega)).mono (fun e W' hh=>by
  obtain ⟨v',rfl,h1,h2⟩:=hh
  obtain ⟨va,vc,rfl⟩ : ∃ va vc,v' = .slice va dl vc:=by rw [← HDL.out];obtain ⟨ao,cap,e,_⟩:=h1;exact ⟨ao,cap,e⟩
  exact ⟨va,vc,rfl,h1,h2⟩))
 obtain ⟨w1,hw1⟩ : ∃ w1,W.alloc (.cells #[.int .i64 4,.int .i64 i,.int .i64 l,.int .i64 n,.slice ao dl cp] 52) = w1:=⟨_,rfl⟩
 obtain ⟨db,hdb⟩ : ∃ b,W.heap.size = b:=⟨_,rfl⟩
 rw [hw1] at hDB hf1
 rw [hdb] at hDB
 have HDB : Hid (W.heap.size ≤ db):=Lib.hid (by omega)
 have HB1:=Lib.hid hDB
 have HF1:=Lib.hid hf1
 clear h hd hd1 hdl hmc hl hDB hf1
 go_enter Tryz.func56,Tryz.ntmps56
 go_upto_region 1 with (fail)
 try rw [hw1]
 try rw [hdb]
 clear hw1 hdb
 have k4:=HB1.out.cell 4
 simp only [lA,lB,lC] at k4
 go_upto_region 2 with (first | (go_at_call 28;refine (HCL.out _ HF1.out).mono ?_;rintro e w2 ⟨va,vc,rfl,hr,hf2⟩;have HR2:=Lib.hid hr;have HF12:=Lib.hid hf2;clear hr hf2) | go_in)
 have HF2:=Lib.hid (HF1.out.trans HF12.out)
 have HB2:=Lib.hid (HB1.out.fr HF12.out id)
 clear HCL k4
 have d0:=HB2.out.cell 0
 have d1:=HB2.out.cell 1
 have d2:=HB2.out.cell 2
 have d3:=HB2.out.cell 3
 have d4:=HB2.out.cell 4
 simp only [lA,lB,lC] at d0 d1 d2 d3 d4
 go_upto_region 3 with (fail)
 have hEB:=Blk.new w2 62 #[.int .i64 0,.int .i64 now,.int .i64 0,.int .i64 i,.int .i64 l,.int .i64 n,.slice va dl vc]
 have hf3 : Fr (fun _=>False) w2 (w2.alloc (.cells #[.int .i64 0,.int .i64 now,.int .i64 0,.int .i64 i,.int .i64 l,.int .i64 n,.slice va dl vc] 62)):=Fr.alloc _ _ _
 obtain ⟨w3,hw3⟩ : ∃ w3,w2.alloc (.cells #[.int .i64 0,.int .i64 now,.int .i64 0,.int .i64 i,.int .i64 l,.int .i64 n,.slice va dl vc] 62) = w3:=⟨_,rfl⟩
 obtain ⟨eb,heb⟩ : ∃ b,w2.heap.size = b:=⟨_,rfl⟩
 rw [hw3] at hEB hf3 ⊢
 rw [heb] at hEB ⊢
 have HR3:=Lib.hid ((HR2.out.to (S':=fun q=>q < W.heap.size ∨ q = eb) (fun k hk e=>e.elim id (fun e=>by omega))).fr (hf3.mono fun _ e=>e.elim))
 have HEB : Hid (W.heap.size ≤ eb ∧ db < eb):=Lib.hid ⟨by have:=HF2.out.size;omega,by have:=HB2.out.lt;omega⟩
 have HF3:=Lib.hid (HF2.out.trans hf3)
 have HB3:=Lib.hid (HB2.out.fr hf3 id)
 clear hw3 heb d0 d1 d2 d3 d4
 have d0:=HB3.out.cell 0
 simp only [lA,lB,lC] at d0
 have e0:=hEB.cell 0
 have e1:=hEB.cell 1
 have e2:=hEB.cell 2
 have e3:=hEB.cell 3
 have e4:=hEB.cell 4
 have e5:=hEB.cell 5
 have e6:=hEB.cell 6
 have ez0:=hEB.frozen 0
 simp only [lA,lB,lC] at e0 e1 e2 e3 e4 e5 e6
 have HE3:=Lib.hid hEB
 clear hEB hf3
 go_upto_region 12 with (fail)
 have hf4 : Fr (fun q=>q = eb) w3 (w3.setCell ⟨eb,0,none⟩ (.int .i64 17)):=Fr.setCell (S:=fun q=>q = eb) w3 ⟨eb,0,none⟩ _ rfl
 have hEB4 : Blk (w3.setCell ⟨eb,0,none⟩ (.int .i64 17)) eb 62 #[.int .i64 17,.int .i64 now,.int .i64 0,.int .i64 i,.int .i64 l,.int .i64 n,.slice va dl vc]:=by
  have:=HE3.out.set 0 (.int .i64 17)
  simpa only [lG,lH] using this
 obtain ⟨w4,hw4⟩ : ∃ w4,w3.setCell ⟨eb,0,none⟩ (.int .i64 17) = w4:=⟨_,rfl⟩
 rw [hw4] at hf4 hEB4 ⊢
 have HF4 : Hid (Fr (fun _=>False) W w4):=Lib.hid ⟨hf4.os.trans HF3.out.os,hf4.tape.trans HF3.out.tape,hf4.output.trans HF3.out.output,Nat.le_trans HF3.out.size hf4.size,fun k hk _=>(hf4.block k (Nat.lt_of_lt_of_le hk HF3.out.size) (by have:=HEB.out;omega)).trans (HF3.out.block k hk id)⟩
 have HB4:=Lib.hid (HB3.out.fr hf4 (fun e=>by have:=HEB.out;omega))
 have HR4:=Lib.hid (HR3.out.fr (hf4.mono fun q e=>.inr e))
 have HE4:=Lib.hid hEB4
 have HPF4:=Lib.hid (HPF.out.fr0 HF4.out)
 clear hw4 hf4 hEB4 d0 e0 e1 e2 e3 e4 e5 e6 ez0
 have HPUT : Hid (∀ w,Fr (fun _=>False) w4 w → Calls Tryz.prog 21 #[.pointer (some ⟨xb,0,none⟩),.agg #[.int .i64 17,.int .i64 now,.int .i64 0,.int .i64 i,.int .i64 l,.int .i64 n,.slice va dl vc]] w fun e W'=>e = .returned (.int .i64 ((s.l.length : Int) + 1)) ∧ PF T W' xb xm (openedS s 17 now i l n ds) ∧ Fr (fun q=>q = xb ∨ q = xm) w W'):=Lib.hid (fun w hf=>put_any T w xb xm s (HPF4.out.fr0 hf) (by have:=HLM.out;omega) (by have:=HLM.out;omega) 17 now 0 i l n va dl vc ds ((HR4.out.to (S':=fun _=>False) fun k _ e=>e.elim).fr hf) (by have:=HD.out;omega) HD.out.2 _ (by unfold PutP openedS;simp))
 have FX : Hid (∀ w',Fr (fun q=>q = xb ∨ q = xm) w4 w' → w'.cell? ⟨db,1,none⟩ = some (.int .i64 i) ∧ w'.cell? ⟨db,2,none⟩ = some (.int .i64 l) ∧ w'.cell? ⟨db,3,none⟩ = some (.int .i64 n) ∧ w'.cell? ⟨eb,0,none⟩ = some (.int .i64 17) ∧ w'.cell? ⟨eb,1,none⟩ = some (.int .i64 now) ∧ w'.cell? ⟨eb,2,none⟩ = some (.int .i64 0) ∧ w'.cell? ⟨eb,3,none⟩ = some (.int .i64 i) ∧ w'.cell? ⟨eb,4,none⟩ = some (.int .i64 l) ∧ w'.cell? ⟨eb,5,none⟩ = some (.int .i64 n) ∧ w'.cell? ⟨eb,6,none⟩ = some (.slice va dl vc)):=Lib.hid (fun w' hf=>by
  have hx:=HLT.out xb HPF.out.f
  have hm:=HLT.out xm HPF.out.m
  have h:=HB4.out.fr hf (fun e=>by have:=HDB.out;omega)
  have h2:=HE4.out.fr hf (fun e=>by have:=HEB.out.1;omega)
  exact ⟨h.cell 1,h.cell 2,h.cell 3,h2.cell 0,h2.cell 1,h2.cell 2,h2.cell 3,h2.cell 4,h2.cell 5,h2.cell 6⟩)
 refine region_Z (fun w'=>Fr (fun q=>q = xb ∨ q = xm) w4 w') 99 (Fr.drewN _ w4 1) (fun hH=>?_)
 refine takes (b:=?_) [0,1,2,3,4,5,6,7,8] hH ?_ ?_
 rotate_left
 iterate 9 ((refine Sq.yes (v:=?_) rfl (by rfl) ?_ ?_;rotate_left;· (intro w' hw';obtain ⟨f1,f2,f3,z0,z1,z2,z3,z4,z5,z6⟩:=FX.out w' hw';go_simp;try with_reducible rfl));try simp only [lD,lE,lF,Act.put,lG,lH,lI])
 exact Sq.nil
 refine any_op 9 rfl (fun K hK=>?_)
 go_simp
 refine (HPUT.out _ (Fr.drewN _ w4 1)).mono ?_
 rintro e w5 ⟨rfl,hpf,hf5⟩
 have HPF5:=Lib.hid hpf
 have HF45 : Hid (Fr (fun q=>q = xb ∨ q = xm) w4 w5):=Lib.hid (((Fr.drewN (fun _=>False) w4 1).mono fun _ e=>e.elim).trans hf5)
 refine hK.out _ _ HF45.out (fun hH2=>?_)
 clear hK K hpf hf5
 try simp only [lD,lE,lF,Act.put,lG,lH,lI]
 refine takes (b:=?_) [10] hH2 ?_ ?_
 rotate_left
 (refine Sq.yes (v:=?_) rfl (by rfl) ?_ ?_;rotate_left;· (intro w' hw';obtain ⟨f1,f2,f3,z0,z1,z2,z3,z4,z5,z6⟩:=FX.out w' hw';go_simp;try with_reducible rfl))
 try simp only [lD,lE,lF,Act.put,lG,lH,lI]
 exact Sq.nil
 refine any_op 11 rfl (fun K hK=>?_)
 go_simp
 refine hK.out _ _ (HF45.out.trans (Fr.alloc _ _ _)) (fun hH3=>?_)
 clear hK K 
 try simp only [lD,lE,lF,Act.put,lG,lH,lI]
 refine takes (b:=?_) [12] hH3 ?_ ?_
 rotate_left
 (refine Sq.yes (v:=?_) rfl (by rfl) ?_ ?_;rotate_left;· (intro w' hw';obtain ⟨f1,f2,f3,z0,z1,z2,z3,z4,z5,z6⟩:=FX.out w' hw';go_simp;try with_reducible rfl))
 try simp only [lD,lE,lF,Act.put,lG,lH,lI]
 exact Sq.nil
 refine any_done ?_
 have e1 : doneS s ⟨4,i,l,n,ds⟩ now = openedS s 17 now i l n ds:=by simp [doneS]
 have e2 : doneO s ⟨4,i,l,n,ds⟩ now = [⟨6,l,(s.l.length : Int) + 1,0,0,i,n,ds⟩]:=by simp [doneO,wrap_i64]
 have H12:=Lib.hid (And.intro e1 e2)
 have HFT : Hid (Fr (fun q=>q = xb ∨ q = xm) W w5):=Lib.hid ((HF4.out.mono fun _ e=>e.elim).trans HF45.out)
 clear hH hH2 hH3 FX HPUT e1 e2
 go_wp2
 go_ret
 rw [H12.out.1,H12.out.2]
 exact ⟨_,rfl,Outs.one HFT.out.size ⟨6,l,(s.l.length : Int) + 1,0,0,i,n,ds⟩ (.slice va dl vc) (((HR4.out.fr (HF45.out.mono fun q e=>.inl (e.elim (fun e=>e ▸ HLT.out xb HPF.out.f) (fun e=>e ▸ HLT.out xm HPF.out.m)))).to (S':=fun q=>q < W.heap.size) fun k _ e=>.inl e).fr (Fr.alloc _ _ _)) (Blk.new _ _ _),HPF5.out.fr0 (Fr.alloc _ _ _),HFT.out.trans (Fr.alloc _ _ _)⟩
set_option maxRecDepth 100000 in
set_option maxHeartbeats 4000000 in
theorem done_3 (T : Nat → Prop) (W : World) (xb xm : Nat) (s : FSt) (h : PF T W xb xm s) (hmc : s.mc ≤ 100000) (hl : s.l.length ≤ 45000) (hok : OpenOk s) (hu : UniqO s) (i l n now : Int) (ao : Option Addr) (dl cp : Nat) (ds : List Value) (hd : RowB T W (.slice ao dl cp) ds) (hdl : ds.length ≤ 100000) (hd1 : ∀ u ∈ ds,u.oneCell' = true) :
 Calls Tryz.prog 56 #[.pointer (some ⟨xb,0,none⟩),.agg #[.int .i64 3,.int .i64 i,.int .i64 l,.int .i64 n,.slice ao dl cp],.int .i64 now] W fun e W'=>Meth T W xb xm (doneS s ⟨3,i,l,n,ds⟩ now) (doneO s ⟨3,i,l,n,ds⟩ now) e W':=by
 have HOK:=Lib.hid (And.intro hok hu)
 have hDB:=Blk.new W 52 #[.int .i64 3,.int .i64 i,.int .i64 l,.int .i64 n,.slice ao dl cp]
 have hf1 : Fr (fun _=>False) W (W.alloc (.cells #[.int .i64 3,.int .i64 i,.int .i64 l,.int .i64 n,.slice ao dl cp] 52)):=Fr.alloc _ _ _
 have HDL:=Lib.hid hd.len
 have HD:=Lib.hid (And.intro hdl hd1)
 have HR:=Lib.hid hd
 have HPF:=Lib.hid h
 have HLM:=Lib.hid (And.intro hl hmc)
 have HLT:=Lib.hid h.lt
 have HCL : Hid (∀ w3,Fr (fun _=>False) W w3 → Calls Tryz.prog 28 #[.slice ao dl cp] w3 fun e W'=>∃ va vc,e = .returned (.slice va dl vc) ∧ RowB (fun q=>q < W.heap.size) W' (.slice va dl vc) ds ∧ Fr (fun _=>False) w3 W'):=Lib.hid (fun w3 hf=>(clone_any T (fun q=>q < W.heap.size) w3 _ ds (HR.out.fr (hf.mono fun _ e=>e.elim)) (by have:=HD.out.1;omega) HD.out.2 (fun q e=>by have:=hf.size;omega)).mono (fun e W' hh=>by
  obtain ⟨v',rfl,h1,h2⟩:=hh
  obtain ⟨va,vc,rfl⟩ : ∃ va vc,v' = .slice va dl vc:=by rw [← HDL.out];obtain ⟨ao,cap,e,_⟩:=h1;exact ⟨ao,cap,e⟩
  exact ⟨va,vc,rfl,h1,h2⟩))
 obtain ⟨w1,hw1⟩ : ∃ w1,W.alloc (.cells #[.int .i64 3,.int .i64 i,.int .i64 l,.int .i64 n,.slice ao dl cp] 52) = w1:=⟨_,rfl⟩
 obtain ⟨db,hdb⟩ : ∃ b,W.heap.size = b:=⟨_,rfl⟩
 rw [hw1] at hDB hf1
 rw [hdb] at hDB
 have HDB : Hid (W.heap.size ≤ db):=Lib.hid (by omega)
 have HB1:=Lib.hid hDB
 have HF1:=Lib.hid hf1
 clear hok hu h hd hd1 hdl hmc hl hDB hf1
 go_enter Tryz.func56,Tryz.ntmps56
 go_upto_region 1 with (fail)
 try rw [hw1]
 try rw [hdb]
 clear hw1 hdb
 have k4:=HB1.out.cell 4
 simp only [lA,lB,lC] at k4
 go_upto_region 2 with (first | (go_at_call 28;refine (HCL.out _ HF1.out).mono ?_;rintro e w2 ⟨va,vc,rfl,hr,hf2⟩;have HR2:=Lib.hid hr;have HF12:=Lib.hid hf2;clear hr hf2) | go_in)
 have HF2:=Lib.hid (HF1.out.trans HF12.out)
 have HB2:=Lib.hid (HB1.out.fr HF12.out id)
 clear HCL k4
 have d0:=HB2.out.cell 0
 have d1:=HB2.out.cell 1
 have d2:=HB2.out.cell 2
 have d3:=HB2.out.cell 3
 have d4:=HB2.out.cell 4
 simp only [lA,lB,lC] at d0 d1 d2 d3 d4
 go_upto_region 3 with (fail)
 have hEB:=Blk.new w2 62 #[.int .i64 0,.int .i64 now,.int .i64 0,.int .i64 i,.int .i64 l,.int .i64 n,.slice va dl vc]
 have hf3 : Fr (fun _=>False) w2 (w2.alloc (.cells #[.int .i64 0,.int .i64 now,.int .i64 0,.int .i64 i,.int .i64 l,.int .i64 n,.slice va dl vc] 62)):=Fr.alloc _ _ _
 obtain ⟨w3,hw3⟩ : ∃ w3,w2.alloc (.cells #[.int .i64 0,.int .i64 now,.int .i64 0,.int .i64 i,.int .i64 l,.int .i64 n,.slice va dl vc] 62) = w3:=⟨_,rfl⟩
 obtain ⟨eb,heb⟩ : ∃ b,w2.heap.size = b:=⟨_,rfl⟩
 rw [hw3] at hEB hf3 ⊢
 rw [heb] at hEB ⊢
 have HR3:=Lib.hid ((HR2.out.to (S':=fun q=>q < W.heap.size ∨ q = eb) (fun k hk e=>e.elim id (fun e=>by omega))).fr (hf3.mono fun _ e=>e.elim))
 have HEB : Hid (W.heap.size ≤ eb ∧ db < eb):=Lib.hid ⟨by have:=HF2.out.size;omega,by have:=HB2.out.lt;omega⟩
 have HF3:=Lib.hid (HF2.out.trans hf3)
 have HB3:=Lib.hid (HB2.out.fr hf3 id)
 clear hw3 heb d0 d1 d2 d3 d4
 have d0:=HB3.out.cell 0
 simp only [lA,lB,lC] at d0
 have HE3:=Lib.hid hEB
 clear hEB hf3
 have HFI:=Lib.hid (find_any T w3 xb xm s (HPF.out.fr0 HF3.out).fl HOK.out.1 (by have:=HLM.out;omega) 12 i)
 go_upto_region 14 with (fail)
 have d1:=HB3.out.cell 1
 simp only [lA,lB,lC] at d1
 clear d0
 go_upto_region 15 with (first | (go_at_call 83;refine HFI.out.mono ?_;rintro e w4 ⟨z,rfl,hz,hf4⟩;obtain rfl : z = keyAt s 12 i:=(by
  rcases hz with ⟨rfl,hz⟩ | ⟨w,hz⟩
  ·exact (keyAt_no hz).symm
  ·exact (keyAt_of HOK.out.2 hz).symm);have HF34:=Lib.hid hf4;have hE4:=HE3.out.fr hf4 id;clear HFI hz d1 hf4;have e0:=hE4.cell 0;have e1:=hE4.cell 1;have e2:=hE4.cell 2;have e3:=hE4.cell 3;have e4:=hE4.cell 4;have e5:=hE4.cell 5;have e6:=hE4.cell 6;have ez0:=hE4.frozen 0;have ez2:=hE4.frozen 2;simp only [lA,lB,lC] at e0 e1 e2 e3 e4 e5 e6) | go_in)
 have HE4:=Lib.hid hE4
 clear hE4
 have hf5 : Fr (fun q=>q = eb) w4 ((w4.setCell ⟨eb,0,none⟩ (.int .i64 14)).setCell ⟨eb,2,none⟩ (.int .i64 (keyAt s 12 i))):=(Fr.setCell (S:=fun q=>q = eb) w4 ⟨eb,0,none⟩ _ rfl).trans (Fr.setCell (S:=fun q=>q = eb) _ ⟨eb,2,none⟩ _ rfl)
 have hE5 : Blk ((w4.setCell ⟨eb,0,none⟩ (.int .i64 14)).setCell ⟨eb,2,none⟩ (.int .i64 (keyAt s 12 i))) eb 62 #[.int .i64 14,.int .i64 now,.int .i64 (keyAt s 12 i),.int .i64 i,.int .i64 l,.int .i64 n,.slice va dl vc]:=by
  have:=(HE4.out.set 0 (.int .i64 14)).set 2 (.int .i64 (keyAt s 12 i))
  simpa only [lG,lH,lI] using this
 obtain ⟨w5,hw5⟩ : ∃ w5,(w4.setCell ⟨eb,0,none⟩ (.int .i64 14)).setCell ⟨eb,2,none⟩ (.int .i64 (keyAt s 12 i)) = w5:=⟨_,rfl⟩
 rw [hw5] at hf5 hE5 ⊢
 have HF4:=Lib.hid (HF3.out.trans HF34.out)
 have HF5 : Hid (Fr (fun _=>False) W w5):=Lib.hid ⟨hf5.os.trans HF4.out.os,hf5.tape.trans HF4.out.tape,hf5.output.trans HF4.out.output,Nat.le_trans HF4.out.size hf5.size,fun k hk _=>(hf5.block k (Nat.lt_of_lt_of_le hk HF4.out.size) (by have:=HEB.out;omega)).trans (HF4.out.block k hk id)⟩
 have HR5:=Lib.hid ((HR3.out.fr (HF34.out.mono fun _ e=>e.elim)).fr (hf5.mono fun q e=>.inr e))
 have HK : Hid (0 ≤ keyAt s 12 i ∧ keyAt s 12 i ≤ 1000000):=Lib.hid (by
  unfold keyAt
  split
  ·rename_i hx
   obtain ⟨w,hw⟩:=hx.choose_spec
   have:=HOK.out.1 _ _ hw
   have:=HLM.out
   omega
  ·omega)
 have HPUT:=Lib.hid (put_any T w5 xb xm s (HPF.out.fr0 HF5.out) (by have:=HLM.out;omega) (by have:=HLM.out;omega) 14 now (keyAt s 12 i) i l n va dl vc ds (HR5.out.to (S':=fun _=>False) fun k _ e=>e.elim) (by have:=HD.out;omega) HD.out.2 { s with mc:=cdn s.mp (keyAt s 12 i) s.mc,mp:=upd s.mp (keyAt s 12 i) none,l:=s.l ++ [⟨14,now,keyAt s 12 i,i,l,n,ds⟩] } (by unfold PutP;have:=HK.out;simp [this]))
 have e1 : doneS s ⟨3,i,l,n,ds⟩ now = { s with mc:=cdn s.mp (keyAt s 12 i) s.mc,mp:=upd s.mp (keyAt s 12 i) none,l:=s.l ++ [⟨14,now,keyAt s 12 i,i,l,n,ds⟩] }:=by simp [doneS]
 have e2 : doneO s ⟨3,i,l,n,ds⟩ now = []:=by simp [doneO]
 have H12:=Lib.hid (And.intro e1 e2)
 clear e0 e1 e2 e3 e4 e5 e6 ez0 ez2 hw5 hf5
 have x0:=hE5.cell 0
 have x1:=hE5.cell 1
 have x2:=hE5.cell 2
 have x3:=hE5.cell 3
 have x4:=hE5.cell 4
 have x5:=hE5.cell 5
 have x6:=hE5.cell 6
 simp only [lA,lB,lC] at x0 x1 x2 x3 x4 x5 x6
 clear hE5
 go_wp2_with (first | (go_at_call 21;refine HPUT.out.mono ?_;rintro e w6 ⟨rfl,hpf,hf6⟩) | go_in)
 go_ret
 rw [H12.out.1,H12.out.2]
 exact ⟨_,rfl,Outs.nil _ _,hpf,(HF5.out.mono fun _ e=>e.elim).trans hf6⟩
set_option maxRecDepth 100000 in
set_option maxHeartbeats 4000000 in
theorem done_5 (T : Nat → Prop) (W : World) (xb xm : Nat) (s : FSt) (h : PF T W xb xm s) (hmc : s.mc ≤ 100000) (hl : s.l.length ≤ 45000)  (i l n now : Int) (ao : Option Addr) (dl cp : Nat) (ds : List Value) (hd : RowB T W (.slice ao dl cp) ds) (hdl : ds.length ≤ 100000) (hd1 : ∀ u ∈ ds,u.oneCell' = true) :
 Calls Tryz.prog 56 #[.pointer (some ⟨xb,0,none⟩),.agg #[.int .i64 5,.int .i64 i,.int .i64 l,.int .i64 n,.slice ao dl cp],.int .i64 now] W fun e W'=>Meth T W xb xm (doneS s ⟨5,i,l,n,ds⟩ now) (doneO s ⟨5,i,l,n,ds⟩ now) e W':=by
 have hDB:=Blk.new W 52 #[.int .i64 5,.int .i64 i,.int .i64 l,.int .i64 n,.slice ao dl cp]
 have hf1 : Fr (fun _=>False) W (W.alloc (.cells #[.int .i64 5,.int .i64 i,.int .i64 l,.int .i64 n,.slice ao dl cp] 52)):=Fr.alloc _ _ _
 have HDL:=Lib.hid hd.len
 have HD:=Lib.hid (And.intro hdl hd1)
 have HR:=Lib.hid hd
 have HPF:=Lib.hid h
 have HLM:=Lib.hid (And.intro hl hmc)
 have HLT:=Lib.hid h.lt
 have HCL : Hid (∀ w3,Fr (fun _=>False) W w3 → Calls Tryz.prog 28 #[.slice ao dl cp] w3 fun e W'=>∃ va vc,e = .returned (.slice va dl vc) ∧ RowB (fun q=>q < W.heap.size) W' (.slice va dl vc) ds ∧ Fr (fun _=>False) w3 W'):=Lib.hid (fun w3 hf=>(clone_any T (fun q=>q < W.heap.size) w3 _ ds (HR.out.fr (hf.mono fun _ e=>e.elim)) (by have:=HD.out.1;omega) HD.out.2 (fun q e=>by have:=hf.size;omega)).mono (fun e W' hh=>by
  obtain ⟨v',rfl,h1,h2⟩:=hh
  obtain ⟨va,vc,rfl⟩ : ∃ va vc,v' = .slice va dl vc:=by rw [← HDL.out];obtain ⟨ao,cap,e,_⟩:=h1;exact ⟨ao,cap,e⟩
  exact ⟨va,vc,rfl,h1,h2⟩))
 obtain ⟨w1,hw1⟩ : ∃ w1,W.alloc (.cells #[.int .i64 5,.int .i64 i,.int .i64 l,.int .i64 n,.slice ao dl cp] 52) = w1:=⟨_,rfl⟩
 obtain ⟨db,hdb⟩ : ∃ b,W.heap.size = b:=⟨_,rfl⟩
 rw [hw1] at hDB hf1
 rw [hdb] at hDB
 have HDB : Hid (W.heap.size ≤ db):=Lib.hid (by omega)
 have HB1:=Lib.hid hDB
 have HF1:=Lib.hid hf1
 clear h hd hd1 hdl hmc hl hDB hf1
 go_enter Tryz.func56,Tryz.ntmps56
 go_upto_region 1 with (fail)
 try rw [hw1]
 try rw [hdb]
 clear hw1 hdb
 have k4:=HB1.out.cell 4
 simp only [lA,lB,lC] at k4
 go_upto_region 2 with (first | (go_at_call 28;refine (HCL.out _ HF1.out).mono ?_;rintro e w2 ⟨va,vc,rfl,hr,hf2⟩;have HR2:=Lib.hid hr;have HF12:=Lib.hid hf2;clear hr hf2) | go_in)
 have HF2:=Lib.hid (HF1.out.trans HF12.out)
 have HB2:=Lib.hid (HB1.out.fr HF12.out id)
 clear HCL k4
 have d0:=HB2.out.cell 0
 have d1:=HB2.out.cell 1
 have d2:=HB2.out.cell 2
 have d3:=HB2.out.cell 3
 have d4:=HB2.out.cell 4
 simp only [lA,lB,lC] at d0 d1 d2 d3 d4
 go_upto_region 3 with (fail)
 have hEB:=Blk.new w2 62 #[.int .i64 0,.int .i64 now,.int .i64 0,.int .i64 i,.int .i64 l,.int .i64 n,.slice va dl vc]
 have hf3 : Fr (fun _=>False) w2 (w2.alloc (.cells #[.int .i64 0,.int .i64 now,.int .i64 0,.int .i64 i,.int .i64 l,.int .i64 n,.slice va dl vc] 62)):=Fr.alloc _ _ _
 obtain ⟨w3,hw3⟩ : ∃ w3,w2.alloc (.cells #[.int .i64 0,.int .i64 now,.int .i64 0,.int .i64 i,.int .i64 l,.int .i64 n,.slice va dl vc] 62) = w3:=⟨_,rfl⟩
 obtain ⟨eb,heb⟩ : ∃ b,w2.heap.size = b:=⟨_,rfl⟩
 rw [hw3] at hEB hf3 ⊢
 rw [heb] at hEB ⊢
 have HR3:=Lib.hid ((HR2.out.to (S':=fun q=>q < W.heap.size ∨ q = eb) (fun k hk e=>e.elim id (fun e=>by omega))).fr (hf3.mono fun _ e=>e.elim))
 have HEB : Hid (W.heap.size ≤ eb ∧ db < eb):=Lib.hid ⟨by have:=HF2.out.size;omega,by have:=HB2.out.lt;omega⟩
 have HF3:=Lib.hid (HF2.out.trans hf3)
 have HB3:=Lib.hid (HB2.out.fr hf3 id)
 clear hw3 heb d0 d1 d2 d3 d4
 have HE3:=Lib.hid hEB
 clear hEB hf3
 have d0:=HB3.out.cell 0
 simp only [lA,lB,lC] at d0
 go_upto_region 18 with (fail)
 have hAB:=Blk.new w3 130 #[.int .i64 0,.int .i64 0,.int .i64 0,.int .i64 0,.int .i64 0,.int .i64 20,.int .i64 21,.int .i64 22,.int .i64 19]
 have hf4 : Fr (fun _=>False) w3 (w3.alloc (.cells #[.int .i64 0,.int .i64 0,.int .i64 0,.int .i64 0,.int .i64 0,.int .i64 20,.int .i64 21,.int .i64 22,.int .i64 19] 130)):=Fr.alloc _ _ _
 obtain ⟨w4,hw4⟩ : ∃ w4,w3.alloc (.cells #[.int .i64 0,.int .i64 0,.int .i64 0,.int .i64 0,.int .i64 0,.int .i64 20,.int .i64 21,.int .i64 22,.int .i64 19] 130) = w4:=⟨_,rfl⟩
 obtain ⟨ab,hab⟩ : ∃ b,w3.heap.size = b:=⟨_,rfl⟩
 rw [hw4] at hAB hf4 ⊢
 rw [hab] at hAB ⊢
 have HF4:=Lib.hid (HF3.out.trans hf4)
 have HB4:=Lib.hid (HB3.out.fr hf4 id)
 have HR4:=Lib.hid (HR3.out.fr (hf4.mono fun _ e=>e.elim))
 clear hw4 hab d0 hf4
 have d0:=HB4.out.cell 0
 simp only [lA,lB,lC] at d0
 have a5:=hAB.cell 5
 simp only [lA,lB,lC] at a5
 clear hAB
 have HCLS : Hid (∀ w,Fr (fun _=>False) w4 w → Calls Tryz.prog 68 #[.pointer (some ⟨xb,0,none⟩),.int .i64 20,.slice va dl vc,.int .i64 now] w fun e W'=>Meth (fun q=>T q) w xb xm (shut s 20 now ds) (closeO 20 ds) e W'):=Lib.hid (fun w hf=>close_any T w xb xm s (HPF.out.fr0 (HF4.out.trans hf)) (by have:=HLM.out;omega) (by have:=HLM.out;omega) 20 (by omega) now va dl vc ds ((HR4.out.to (S':=T) fun k _ e=>.inl (HLT.out k e)).fr (hf.mono fun _ e=>e.elim)) HD.out.1 HD.out.2)
 have e1 : doneS s ⟨5,i,l,n,ds⟩ now = shut s 20 now ds:=by simp [doneS]
 have e2 : doneO s ⟨5,i,l,n,ds⟩ now = closeO 20 ds:=by simp [doneO]
 have H12:=Lib.hid (And.intro e1 e2)
 clear e1 e2
 go_wp2_with (first | (go_at_call 68;refine (HCLS.out _ (Fr.refl _ _)).mono ?_;rintro e w5 ⟨v,rfl,ho,hpf,hf5⟩) | go_in)
 go_ret
 rw [H12.out.1,H12.out.2]
 exact ⟨v,rfl,ho.weak HF4.out.size,hpf,(HF4.out.mono fun _ e=>e.elim).trans hf5⟩
set_option maxRecDepth 100000 in
set_option maxHeartbeats 4000000 in
theorem done_6 (T : Nat → Prop) (W : World) (xb xm : Nat) (s : FSt) (h : PF T W xb xm s) (hmc : s.mc ≤ 100000) (hl : s.l.length ≤ 45000)  (i l n now : Int) (ao : Option Addr) (dl cp : Nat) (ds : List Value) (hd : RowB T W (.slice ao dl cp) ds) (hdl : ds.length ≤ 100000) (hd1 : ∀ u ∈ ds,u.oneCell' = true) :
 Calls Tryz.prog 56 #[.pointer (some ⟨xb,0,none⟩),.agg #[.int .i64 6,.int .i64 i,.int .i64 l,.int .i64 n,.slice ao dl cp],.int .i64 now] W fun e W'=>Meth T W xb xm (doneS s ⟨6,i,l,n,ds⟩ now) (doneO s ⟨6,i,l,n,ds⟩ now) e W':=by
 have hDB:=Blk.new W 52 #[.int .i64 6,.int .i64 i,.int .i64 l,.int .i64 n,.slice ao dl cp]
 have hf1 : Fr (fun _=>False) W (W.alloc (.cells #[.int .i64 6,.int .i64 i,.int .i64 l,.int .i64 n,.slice ao dl cp] 52)):=Fr.alloc _ _ _
 have HDL:=Lib.hid hd.len
 have HD:=Lib.hid (And.intro hdl hd1)
 have HR:=Lib.hid hd
 have HPF:=Lib.hid h
 have HLM:=Lib.hid (And.intro hl hmc)
 have HLT:=Lib.hid h.lt
 have HCL : Hid (∀ w3,Fr (fun _=>False) W w3 → Calls Tryz.prog 28 #[.slice ao dl cp] w3 fun e W'=>∃ va vc,e = .returned (.slice va dl vc) ∧ RowB (fun q=>q < W.heap.size) W' (.slice va dl vc) ds ∧ Fr (fun _=>False) w3 W'):=Lib.hid (fun w3 hf=>(clone_any T (fun q=>q < W.heap.size) w3 _ ds (HR.out.fr (hf.mono fun _ e=>e.elim)) (by have:=HD.out.1;omega) HD.out.2 (fun q e=>by have:=hf.size;omega)).mono (fun e W' hh=>by
  obtain ⟨v',rfl,h1,h2⟩:=hh
  obtain ⟨va,vc,rfl⟩ : ∃ va vc,v' = .slice va dl vc:=by rw [← HDL.out];obtain ⟨ao,cap,e,_⟩:=h1;exact ⟨ao,cap,e⟩
  exact ⟨va,vc,rfl,h1,h2⟩))
 obtain ⟨w1,hw1⟩ : ∃ w1,W.alloc (.cells #[.int .i64 6,.int .i64 i,.int .i64 l,.int .i64 n,.slice ao dl cp] 52) = w1:=⟨_,rfl⟩
 obtain ⟨db,hdb⟩ : ∃ b,W.heap.size = b:=⟨_,rfl⟩
 rw [hw1] at hDB hf1
 rw [hdb] at hDB
 have HDB : Hid (W.heap.size ≤ db):=Lib.hid (by omega)
 have HB1:=Lib.hid hDB
 have HF1:=Lib.hid hf1
 clear h hd hd1 hdl hmc hl hDB hf1
 go_enter Tryz.func56,Tryz.ntmps56
 go_upto_region 1 with (fail)
 try rw [hw1]
 try rw [hdb]
 clear hw1 hdb
 have k4:=HB1.out.cell 4
 simp only [lA,lB,lC] at k4
 go_upto_region 2 with (first | (go_at_call 28;refine (HCL.out _ HF1.out).mono ?_;rintro e w2 ⟨va,vc,rfl,hr,hf2⟩;have HR2:=Lib.hid hr;have HF12:=Lib.hid hf2;clear hr hf2) | go_in)
 have HF2:=Lib.hid (HF1.out.trans HF12.out)
 have HB2:=Lib.hid (HB1.out.fr HF12.out id)
 clear HCL k4
 have d0:=HB2.out.cell 0
 have d1:=HB2.out.cell 1
 have d2:=HB2.out.cell 2
 have d3:=HB2.out.cell 3
 have d4:=HB2.out.cell 4
 simp only [lA,lB,lC] at d0 d1 d2 d3 d4
 go_upto_region 3 with (fail)
 have hEB:=Blk.new w2 62 #[.int .i64 0,.int .i64 now,.int .i64 0,.int .i64 i,.int .i64 l,.int .i64 n,.slice va dl vc]
 have hf3 : Fr (fun _=>False) w2 (w2.alloc (.cells #[.int .i64 0,.int .i64 now,.int .i64 0,.int .i64 i,.int .i64 l,.int .i64 n,.slice va dl vc] 62)):=Fr.alloc _ _ _
 obtain ⟨w3,hw3⟩ : ∃ w3,w2.alloc (.cells #[.int .i64 0,.int .i64 now,.int .i64 0,.int .i64 i,.int .i64 l,.int .i64 n,.slice va dl vc] 62) = w3:=⟨_,rfl⟩
 obtain ⟨eb,heb⟩ : ∃ b,w2.heap.size = b:=⟨_,rfl⟩
 rw [hw3] at hEB hf3 ⊢
 rw [heb] at hEB ⊢
 have HR3:=Lib.hid ((HR2.out.to (S':=fun q=>q < W.heap.size ∨ q = eb) (fun k hk e=>e.elim id (fun e=>by omega))).fr (hf3.mono fun _ e=>e.elim))
 have HEB : Hid (W.heap.size ≤ eb ∧ db < eb):=Lib.hid ⟨by have:=HF2.out.size;omega,by have:=HB2.out.lt;omega⟩
 have HF3:=Lib.hid (HF2.out.trans hf3)
 have HB3:=Lib.hid (HB2.out.fr hf3 id)
 clear hw3 heb d0 d1 d2 d3 d4
 have HE3:=Lib.hid hEB
 clear hEB hf3
 have d0:=HB3.out.cell 0
 simp only [lA,lB,lC] at d0
 go_upto_region 18 with (fail)
 have hAB:=Blk.new w3 130 #[.int .i64 0,.int .i64 0,.int .i64 0,.int .i64 0,.int .i64 0,.int .i64 20,.int .i64 21,.int .i64 22,.int .i64 19]
 have hf4 : Fr (fun _=>False) w3 (w3.alloc (.cells #[.int .i64 0,.int .i64 0,.int .i64 0,.int .i64 0,.int .i64 0,.int .i64 20,.int .i64 21,.int .i64 22,.int .i64 19] 130)):=Fr.alloc _ _ _
 obtain ⟨w4,hw4⟩ : ∃ w4,w3.alloc (.cells #[.int .i64 0,.int .i64 0,.int .i64 0,.int .i64 0,.int .i64 0,.int .i64 20,.int .i64 21,.int .i64 22,.int .i64 19] 130) = w4:=⟨_,rfl⟩
 obtain ⟨ab,hab⟩ : ∃ b,w3.heap.size = b:=⟨_,rfl⟩
 rw [hw4] at hAB hf4 ⊢
 rw [hab] at hAB ⊢
 have HF4:=Lib.hid (HF3.out.trans hf4)
 have HB4:=Lib.hid (HB3.out.fr hf4 id)
 have HR4:=Lib.hid (HR3.out.fr (hf4.mono fun _ e=>e.elim))
 clear hw4 hab d0 hf4
 have d0:=HB4.out.cell 0
 simp only [lA,lB,lC] at d0
 have a6:=hAB.cell 6
 simp only [lA,lB,lC] at a6
 clear hAB
 have HCLS : Hid (∀ w,Fr (fun _=>False) w4 w → Calls Tryz.prog 68 #[.pointer (some ⟨xb,0,none⟩),.int .i64 21,.slice va dl vc,.int .i64 now] w fun e W'=>Meth (fun q=>T q) w xb xm (shut s 21 now ds) (closeO 21 ds) e W'):=Lib.hid (fun w hf=>close_any T w xb xm s (HPF.out.fr0 (HF4.out.trans hf)) (by have:=HLM.out;omega) (by have:=HLM.out;omega) 21 (by omega) now va dl vc ds ((HR4.out.to (S':=T) fun k _ e=>.inl (HLT.out k e)).fr (hf.mono fun _ e=>e.elim)) HD.out.1 HD.out.2)
 have e1 : doneS s ⟨6,i,l,n,ds⟩ now = shut s 21 now ds:=by simp [doneS]
 have e2 : doneO s ⟨6,i,l,n,ds⟩ now = closeO 21 ds:=by simp [doneO]
 have H12:=Lib.hid (And.intro e1 e2)
 clear e1 e2
 go_wp2_with (first | (go_at_call 68;refine (HCLS.out _ (Fr.refl _ _)).mono ?_;rintro e w5 ⟨v,rfl,ho,hpf,hf5⟩) | go_in)
 go_ret
 rw [H12.out.1,H12.out.2]
 exact ⟨v,rfl,ho.weak HF4.out.size,hpf,(HF4.out.mono fun _ e=>e.elim).trans hf5⟩
set_option maxRecDepth 100000 in
set_option maxHeartbeats 4000000 in
theorem done_7 (T : Nat → Prop) (W : World) (xb xm : Nat) (s : FSt) (h : PF T W xb xm s) (hmc : s.mc ≤ 100000) (hl : s.l.length ≤ 45000)  (i l n now : Int) (ao : Option Addr) (dl cp : Nat) (ds : List Value) (hd : RowB T W (.slice ao dl cp) ds) (hdl : ds.length ≤ 100000) (hd1 : ∀ u ∈ ds,u.oneCell' = true) :
 Calls Tryz.prog 56 #[.pointer (some ⟨xb,0,none⟩),.agg #[.int .i64 7,.int .i64 i,.int .i64 l,.int .i64 n,.slice ao dl cp],.int .i64 now] W fun e W'=>Meth T W xb xm (doneS s ⟨7,i,l,n,ds⟩ now) (doneO s ⟨7,i,l,n,ds⟩ now) e W':=by
 have hDB:=Blk.new W 52 #[.int .i64 7,.int .i64 i,.int .i64 l,.int .i64 n,.slice ao dl cp]
 have hf1 : Fr (fun _=>False) W (W.alloc (.cells #[.int .i64 7,.int .i64 i,.int .i64 l,.int .i64 n,.slice ao dl cp] 52)):=Fr.alloc _ _ _
 have HDL:=Lib.hid hd.len
 have HD:=Lib.hid (And.intro hdl hd1)
 have HR:=Lib.hid hd
 have HPF:=Lib.hid h
 have HLM:=Lib.hid (And.intro hl hmc)
 have HLT:=Lib.hid h.lt
 have HCL : Hid (∀ w3,Fr (fun _=>False) W w3 → Calls Tryz.prog 28 #[.slice ao dl cp] w3 fun e W'=>∃ va vc,e = .returned (.slice va dl vc) ∧ RowB (fun q=>q < W.heap.size) W' (.slice va dl vc) ds ∧ Fr (fun _=>False) w3 W'):=Lib.hid (fun w3 hf=>(clone_any T (fun q=>q < W.heap.size) w3 _ ds (HR.out.fr (hf.mono fun _ e=>e.elim)) (by have:=HD.out.1;omega) HD.out.2 (fun q e=>by have:=hf.size;omega)).mono (fun e W' hh=>by
  obtain ⟨v',rfl,h1,h2⟩:=hh
  obtain ⟨va,vc,rfl⟩ : ∃ va vc,v' = .slice va dl vc:=by rw [← HDL.out];obtain ⟨ao,cap,e,_⟩:=h1;exact ⟨ao,cap,e⟩
  exact ⟨va,vc,rfl,h1,h2⟩))
 obtain ⟨w1,hw1⟩ : ∃ w1,W.alloc (.cells #[.int .i64 7,.int .i64 i,.int .i64 l,.int .i64 n,.slice ao dl cp] 52) = w1:=⟨_,rfl⟩
 obtain ⟨db,hdb⟩ : ∃ b,W.heap.size = b:=⟨_,rfl⟩
 rw [hw1] at hDB hf1
 rw [hdb] at hDB
 have HDB : Hid (W.heap.size ≤ db):=Lib.hid (by omega)
 have HB1:=Lib.hid hDB
 have HF1:=Lib.hid hf1
 clear h hd hd1 hdl hmc hl hDB hf1
 go_enter Tryz.func56,Tryz.ntmps56
 go_upto_region 1 with (fail)
 try rw [hw1]
 try rw [hdb]
 clear hw1 hdb
 have k4:=HB1.out.cell 4
 simp only [lA,lB,lC] at k4
 go_upto_region 2 with (first | (go_at_call 28;refine (HCL.out _ HF1.out).mono ?_;rintro e w2 ⟨va,vc,rfl,hr,hf2⟩;have HR2:=Lib.hid hr;have HF12:=Lib.hid hf2;clear hr hf2) | go_in)
 have HF2:=Lib.hid (HF1.out.trans HF12.out)
 have HB2:=Lib.hid (HB1.out.fr HF12.out id)
 clear HCL k4
 have d0:=HB2.out.cell 0
 have d1:=HB2.out.cell 1
 have d2:=HB2.out.cell 2
 have d3:=HB2.out.cell 3
 have d4:=HB2.out.cell 4
 simp only [lA,lB,lC] at d0 d1 d2 d3 d4
 go_upto_region 3 with (fail)
 have hEB:=Blk.new w2 62 #[.int .i64 0,.int .i64 now,.int .i64 0,.int .i64 i,.int .i64 l,.int .i64 n,.slice va dl vc]
 have hf3 : Fr (fun _=>False) w2 (w2.alloc (.cells #[.int .i64 0,.int .i64 now,.int .i64 0,.int .i64 i,.int .i64 l,.int .i64 n,.slice va dl vc] 62)):=Fr.alloc _ _ _
 obtain ⟨w3,hw3⟩ : ∃ w3,w2.alloc (.cells #[.int .i64 0,.int .i64 now,.int .i64 0,.int .i64 i,.int .i64 l,.int .i64 n,.slice va dl vc] 62) = w3:=⟨_,rfl⟩
 obtain ⟨eb,heb⟩ : ∃ b,w2.heap.size = b:=⟨_,rfl⟩
 rw [hw3] at hEB hf3 ⊢
 rw [heb] at hEB ⊢
 have HR3:=Lib.hid ((HR2.out.to (S':=fun q=>q < W.heap.size ∨ q = eb) (fun k hk e=>e.elim id (fun e=>by omega))).fr (hf3.mono fun _ e=>e.elim))
 have HEB : Hid (W.heap.size ≤ eb ∧ db < eb):=Lib.hid ⟨by have:=HF2.out.size;omega,by have:=HB2.out.lt;omega⟩
 have HF3:=Lib.hid (HF2.out.trans hf3)
 have HB3:=Lib.hid (HB2.out.fr hf3 id)
 clear hw3 heb d0 d1 d2 d3 d4
 have HE3:=Lib.hid hEB
 clear hEB hf3
 have d0:=HB3.out.cell 0
 simp only [lA,lB,lC] at d0
 go_upto_region 18 with (fail)
 have hAB:=Blk.new w3 130 #[.int .i64 0,.int .i64 0,.int .i64 0,.int .i64 0,.int .i64 0,.int .i64 20,.int .i64 21,.int .i64 22,.int .i64 19]
 have hf4 : Fr (fun _=>False) w3 (w3.alloc (.cells #[.int .i64 0,.int .i64 0,.int .i64 0,.int .i64 0,.int .i64 0,.int .i64 20,.int .i64 21,.int .i64 22,.int .i64 19] 130)):=Fr.alloc _ _ _
 obtain ⟨w4,hw4⟩ : ∃ w4,w3.alloc (.cells #[.int .i64 0,.int .i64 0,.int .i64 0,.int .i64 0,.int .i64 0,.int .i64 20,.int .i64 21,.int .i64 22,.int .i64 19] 130) = w4:=⟨_,rfl⟩
 obtain ⟨ab,hab⟩ : ∃ b,w3.heap.size = b:=⟨_,rfl⟩
 rw [hw4] at hAB hf4 ⊢
 rw [hab] at hAB ⊢
 have HF4:=Lib.hid (HF3.out.trans hf4)
 have HB4:=Lib.hid (HB3.out.fr hf4 id)
 have HR4:=Lib.hid (HR3.out.fr (hf4.mono fun _ e=>e.elim))
 clear hw4 hab d0 hf4
 have d0:=HB4.out.cell 0
 simp only [lA,lB,lC] at d0
 have a7:=hAB.cell 7
 simp only [lA,lB,lC] at a7
 clear hAB
 have HCLS : Hid (∀ w,Fr (fun _=>False) w4 w → Calls Tryz.prog 68 #[.pointer (some ⟨xb,0,none⟩),.int .i64 22,.slice va dl vc,.int .i64 now] w fun e W'=>Meth (fun q=>T q) w xb xm (shut s 22 now ds) (closeO 22 ds) e W'):=Lib.hid (fun w hf=>close_any T w xb xm s (HPF.out.fr0 (HF4.out.trans hf)) (by have:=HLM.out;omega) (by have:=HLM.out;omega) 22 (by omega) now va dl vc ds ((HR4.out.to (S':=T) fun k _ e=>.inl (HLT.out k e)).fr (hf.mono fun _ e=>e.elim)) HD.out.1 HD.out.2)
 have e1 : doneS s ⟨7,i,l,n,ds⟩ now = shut s 22 now ds:=by simp [doneS]
 have e2 : doneO s ⟨7,i,l,n,ds⟩ now = closeO 22 ds:=by simp [doneO]
 have H12:=Lib.hid (And.intro e1 e2)
 clear e1 e2
 go_wp2_with (first | (go_at_call 68;refine (HCLS.out _ (Fr.refl _ _)).mono ?_;rintro e w5 ⟨v,rfl,ho,hpf,hf5⟩) | go_in)
 go_ret
 rw [H12.out.1,H12.out.2]
 exact ⟨v,rfl,ho.weak HF4.out.size,hpf,(HF4.out.mono fun _ e=>e.elim).trans hf5⟩
set_option maxRecDepth 100000 in
set_option maxHeartbeats 4000000 in
theorem done_8 (T : Nat → Prop) (W : World) (xb xm : Nat) (s : FSt) (h : PF T W xb xm s) (hmc : s.mc ≤ 100000) (hl : s.l.length ≤ 45000)  (i l n now : Int) (ao : Option Addr) (dl cp : Nat) (ds : List Value) (hd : RowB T W (.slice ao dl cp) ds) (hdl : ds.length ≤ 100000) (hd1 : ∀ u ∈ ds,u.oneCell' = true) :
 Calls Tryz.prog 56 #[.pointer (some ⟨xb,0,none⟩),.agg #[.int .i64 8,.int .i64 i,.int .i64 l,.int .i64 n,.slice ao dl cp],.int .i64 now] W fun e W'=>Meth T W xb xm (doneS s ⟨8,i,l,n,ds⟩ now) (doneO s ⟨8,i,l,n,ds⟩ now) e W':=by
 have hDB:=Blk.new W 52 #[.int .i64 8,.int .i64 i,.int .i64 l,.int .i64 n,.slice ao dl cp]
 have hf1 : Fr (fun _=>False) W (W.alloc (.cells #[.int .i64 8,.int .i64 i,.int .i64 l,.int .i64 n,.slice ao dl cp] 52)):=Fr.alloc _ _ _
 have HDL:=Lib.hid hd.len
 have HD:=Lib.hid (And.intro hdl hd1)
 have HR:=Lib.hid hd
 have HPF:=Lib.hid h
 have HLM:=Lib.hid (And.intro hl hmc)
 have HLT:=Lib.hid h.lt
 have HCL : Hid (∀ w3,Fr (fun _=>False) W w3 → Calls Tryz.prog 28 #[.slice ao dl cp] w3 fun e W'=>∃ va vc,e = .returned (.slice va dl vc) ∧ RowB (fun q=>q < W.heap.size) W' (.slice va dl vc) ds ∧ Fr (fun _=>False) w3 W'):=Lib.hid (fun w3 hf=>(clone_any T (fun q=>q < W.heap.size) w3 _ ds (HR.out.fr (hf.mono fun _ e=>e.elim)) (by have:=HD.out.1;omega) HD.out.2 (fun q e=>by have:=hf.size;omega)).mono (fun e W' hh=>by
  obtain ⟨v',rfl,h1,h2⟩:=hh
  obtain ⟨va,vc,rfl⟩ : ∃ va vc,v' = .slice va dl vc:=by rw [← HDL.out];obtain ⟨ao,cap,e,_⟩:=h1;exact ⟨ao,cap,e⟩
  exact ⟨va,vc,rfl,h1,h2⟩))
 obtain ⟨w1,hw1⟩ : ∃ w1,W.alloc (.cells #[.int .i64 8,.int .i64 i,.int .i64 l,.int .i64 n,.slice ao dl cp] 52) = w1:=⟨_,rfl⟩
 obtain ⟨db,hdb⟩ : ∃ b,W.heap.size = b:=⟨_,rfl⟩
 rw [hw1] at hDB hf1
 rw [hdb] at hDB
 have HDB : Hid (W.heap.size ≤ db):=Lib.hid (by omega)
 have HB1:=Lib.hid hDB
 have HF1:=Lib.hid hf1
 clear h hd hd1 hdl hmc hl hDB hf1
 go_enter Tryz.func56,Tryz.ntmps56
 go_upto_region 1 with (fail)
 try rw [hw1]
 try rw [hdb]
 clear hw1 hdb
 have k4:=HB1.out.cell 4
 simp only [lA,lB,lC] at k4
 go_upto_region 2 with (first | (go_at_call 28;refine (HCL.out _ HF1.out).mono ?_;rintro e w2 ⟨va,vc,rfl,hr,hf2⟩;have HR2:=Lib.hid hr;have HF12:=Lib.hid hf2;clear hr hf2) | go_in)
 have HF2:=Lib.hid (HF1.out.trans HF12.out)
 have HB2:=Lib.hid (HB1.out.fr HF12.out id)
 clear HCL k4
 have d0:=HB2.out.cell 0
 have d1:=HB2.out.cell 1
 have d2:=HB2.out.cell 2
 have d3:=HB2.out.cell 3
 have d4:=HB2.out.cell 4
 simp only [lA,lB,lC] at d0 d1 d2 d3 d4
 go_upto_region 3 with (fail)
 have hEB:=Blk.new w2 62 #[.int .i64 0,.int .i64 now,.int .i64 0,.int .i64 i,.int .i64 l,.int .i64 n,.slice va dl vc]
 have hf3 : Fr (fun _=>False) w2 (w2.alloc (.cells #[.int .i64 0,.int .i64 now,.int .i64 0,.int .i64 i,.int .i64 l,.int .i64 n,.slice va dl vc] 62)):=Fr.alloc _ _ _
 obtain ⟨w3,hw3⟩ : ∃ w3,w2.alloc (.cells #[.int .i64 0,.int .i64 now,.int .i64 0,.int .i64 i,.int .i64 l,.int .i64 n,.slice va dl vc] 62) = w3:=⟨_,rfl⟩
 obtain ⟨eb,heb⟩ : ∃ b,w2.heap.size = b:=⟨_,rfl⟩
 rw [hw3] at hEB hf3 ⊢
 rw [heb] at hEB ⊢
 have HR3:=Lib.hid ((HR2.out.to (S':=fun q=>q < W.heap.size ∨ q = eb) (fun k hk e=>e.elim id (fun e=>by omega))).fr (hf3.mono fun _ e=>e.elim))
 have HEB : Hid (W.heap.size ≤ eb ∧ db < eb):=Lib.hid ⟨by have:=HF2.out.size;omega,by have:=HB2.out.lt;omega⟩
 have HF3:=Lib.hid (HF2.out.trans hf3)
 have HB3:=Lib.hid (HB2.out.fr hf3 id)
 clear hw3 heb d0 d1 d2 d3 d4
 have HE3:=Lib.hid hEB
 clear hEB hf3
 have d0:=HB3.out.cell 0
 simp only [lA,lB,lC] at d0
 go_upto_region 18 with (fail)
 have hAB:=Blk.new w3 130 #[.int .i64 0,.int .i64 0,.int .i64 0,.int .i64 0,.int .i64 0,.int .i64 20,.int .i64 21,.int .i64 22,.int .i64 19]
 have hf4 : Fr (fun _=>False) w3 (w3.alloc (.cells #[.int .i64 0,.int .i64 0,.int .i64 0,.int .i64 0,.int .i64 0,.int .i64 20,.int .i64 21,.int .i64 22,.int .i64 19] 130)):=Fr.alloc _ _ _
 obtain ⟨w4,hw4⟩ : ∃ w4,w3.alloc (.cells #[.int .i64 0,.int .i64 0,.int .i64 0,.int .i64 0,.int .i64 0,.int .i64 20,.int .i64 21,.int .i64 22,.int .i64 19] 130) = w4:=⟨_,rfl⟩
 obtain ⟨ab,hab⟩ : ∃ b,w3.heap.size = b:=⟨_,rfl⟩
 rw [hw4] at hAB hf4 ⊢
 rw [hab] at hAB ⊢
 have HF4:=Lib.hid (HF3.out.trans hf4)
 have HB4:=Lib.hid (HB3.out.fr hf4 id)
 have HR4:=Lib.hid (HR3.out.fr (hf4.mono fun _ e=>e.elim))
 clear hw4 hab d0 hf4
 have d0:=HB4.out.cell 0
 simp only [lA,lB,lC] at d0
 have a8:=hAB.cell 8
 simp only [lA,lB,lC] at a8
 clear hAB
 have HCLS : Hid (∀ w,Fr (fun _=>False) w4 w → Calls Tryz.prog 68 #[.pointer (some ⟨xb,0,none⟩),.int .i64 19,.slice va dl vc,.int .i64 now] w fun e W'=>Meth (fun q=>T q) w xb xm (shut s 19 now ds) (closeO 19 ds) e W'):=Lib.hid (fun w hf=>close_any T w xb xm s (HPF.out.fr0 (HF4.out.trans hf)) (by have:=HLM.out;omega) (by have:=HLM.out;omega) 19 (by omega) now va dl vc ds ((HR4.out.to (S':=T) fun k _ e=>.inl (HLT.out k e)).fr (hf.mono fun _ e=>e.elim)) HD.out.1 HD.out.2)
 have e1 : doneS s ⟨8,i,l,n,ds⟩ now = shut s 19 now ds:=by simp [doneS]
 have e2 : doneO s ⟨8,i,l,n,ds⟩ now = closeO 19 ds:=by simp [doneO]
 have H12:=Lib.hid (And.intro e1 e2)
 clear e1 e2
 go_wp2_with (first | (go_at_call 68;refine (HCLS.out _ (Fr.refl _ _)).mono ?_;rintro e w5 ⟨v,rfl,ho,hpf,hf5⟩) | go_in)
 go_ret
 rw [H12.out.1,H12.out.2]
 exact ⟨v,rfl,ho.weak HF4.out.size,hpf,(HF4.out.mono fun _ e=>e.elim).trans hf5⟩
theorem done_any (T : Nat → Prop) (W : World) (xb xm : Nat) (s : FSt) (h : PF T W xb xm s) (hmc : s.mc ≤ 100000) (hl : s.l.length ≤ 45000) (hok : OpenOk s) (hu : UniqO s) (k : Int) (hk : 1 ≤ k ∧ k ≤ 8) (i l n now : Int) (ao : Option Addr) (dl cp : Nat) (ds : List Value) (hd : RowB T W (.slice ao dl cp) ds) (hdl : ds.length ≤ 100000) (hd1 : ∀ u ∈ ds,u.oneCell' = true) :
 Calls Tryz.prog 56 #[.pointer (some ⟨xb,0,none⟩),.agg #[.int .i64 k,.int .i64 i,.int .i64 l,.int .i64 n,.slice ao dl cp],.int .i64 now] W fun e W'=>Meth T W xb xm (doneS s ⟨k,i,l,n,ds⟩ now) (doneO s ⟨k,i,l,n,ds⟩ now) e W':=by
 obtain rfl | rfl | rfl | rfl | rfl | rfl | rfl | rfl : k = 1 ∨ k = 2 ∨ k = 3 ∨ k = 4 ∨ k = 5 ∨ k = 6 ∨ k = 7 ∨ k = 8:=by omega
 ·exact done_1 T W xb xm s h hmc hl i l n now ao dl cp ds hd hdl hd1
 ·exact done_2 T W xb xm s h hmc hl i l n now ao dl cp ds hd hdl hd1
 ·exact done_3 T W xb xm s h hmc hl hok hu i l n now ao dl cp ds hd hdl hd1
 ·exact done_4 T W xb xm s h hmc hl i l n now ao dl cp ds hd hdl hd1
 ·exact done_5 T W xb xm s h hmc hl i l n now ao dl cp ds hd hdl hd1
 ·exact done_6 T W xb xm s h hmc hl i l n now ao dl cp ds hd hdl hd1
 ·exact done_7 T W xb xm s h hmc hl i l n now ao dl cp ds hd hdl hd1
 ·exact done_8 T W xb xm s h hmc hl i l n now ao dl cp ds hd hdl hd1
end Go.Proofs.YtnkelaohcbdjnaaGreat
