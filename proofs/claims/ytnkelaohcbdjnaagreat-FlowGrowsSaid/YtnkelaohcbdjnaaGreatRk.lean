/- The document's faulty and done. -/
import Derived.Test.YtnkelaohcbdjnaaGreatHa
import Derived.Test.YtnkelaohcbdjnaaGreatOx
import Derived.Deep.QuietTactic
import Derived.BigQuiet
set_option linter.unusedVariables false
set_option linter.unusedSimpArgs false
namespace Go.Proofs.YtnkelaohcbdjnaaGreat
open Go.RowKit Go.Maps Ev
set_option maxRecDepth 100000 in
set_option maxHeartbeats 2000000 in
theorem rfaulty_any (S R : Nat → Prop) (W : World) (rb : Nat) (s : FSt) (h : RF S R W rb s) (hl : s.l.length ≤ 40000) (m now : Int) :
 Calls Tryz.prog 71 #[.pointer (some ⟨rb,0,none⟩),.int .i64 m,.int .i64 now] W fun e W'=>RMeth S R W rb (sched (faulted s now m) now) [⟨1,s.list,(s.l.length : Int) + 2,wrap64 (s.turn + 1),0,0,0,[]⟩] e W':=by
 have HRF:=Lib.hid h
 have HL:=Lib.hid hl
 obtain ⟨v0,hb⟩:=h.blk
 have x7:=hb.cell 7
 simp only [rcells,lA,lB,lC] at x7
 clear h hl hb
 go_enter Tryz.func71,Tryz.ntmps71
 go_upto_region 2 with (first | (go_at_call 26;refine (rput_any S R W rb s HRF.out (by have:=HL.out;omega) 6 now s.bg 0 0 m none 0 0 [] (RowB.nil _ _) (by simp) (by simp)).mono ?_;rintro e w3 ⟨rfl,S1,R1,hs1,hrf,hfr⟩;have HS1:=Lib.hid hs1;have HX1:=Lib.hid hrf;have HF3:=Lib.hid hfr;clear hs1 hrf hfr x7) | go_in)
 obtain ⟨v3,hb3⟩:=HX1.out.blk
 have x8:=hb3.cell 8
 have xz8:=hb3.frozen 8
 simp only [rcells,lA,lB,lC] at x8
 clear hb3
 go_upto_region 3 with (fail)
 have hf4 : Fr (fun k=>k = rb) w3 (w3.setCell ⟨rb,8,none⟩ (.int .i64 (wrap64 (s.turn + 1)))):=Fr.setCell (S:=fun k=>k = rb) w3 ⟨rb,8,none⟩ _ rfl
 have hx4:=HX1.out.cells (s':={ s with turn:=wrap64 (s.turn + 1),l:=s.l ++ [⟨6,now,s.bg,0,0,m,[]⟩] }) hf4 rfl (fun v hb=>by
  have:=hb.set 8 (.int .i64 (wrap64 (s.turn + 1)))
  simpa only [rcells,lG,lH,lI] using this)
 obtain ⟨w4,hw4⟩ : ∃ w,w3.setCell ⟨rb,8,none⟩ (.int .i64 (wrap64 (s.turn + 1))) = w:=⟨_,rfl⟩
 rw [hw4] at hf4 hx4 ⊢
 have HX4:=Lib.hid hx4
 have HF4 : Hid (Fr R W w4):=Lib.hid (Fr.step HF3.out hf4 (fun k hk e=>(HS1.out k hk).2.1 (e ▸ HX1.out.r)))
 clear hw4 hf4 hx4 x8 xz8
 go_wp2_with (first | (go_at_call 27;refine (rsched_any S1 R1 w4 rb _ HX4.out (by show (s.l ++ _).length ≤ _;rw [List.length_append];have:=HL.out;simp only [List.length_cons,List.length_nil];omega) now).mono ?_;rintro e w5 ⟨v,rfl,ho,S2,R2,hs2,hrf,hfr⟩;have HO:=Lib.hid ho;have HX2:=Lib.hid hrf;have HS2:=Lib.hid hs2;have HF5:=Lib.hid hfr;clear ho hs2 hrf hfr) | go_in)
 go_ret
 have e1 : ((s.l ++ [(⟨6,now,s.bg,0,0,m,[]⟩ : Rv)]).length : Int) + 1 = (s.l.length : Int) + 2:=by rw [List.length_append];simp only [List.length_cons,List.length_nil];omega
 have HO':=HO.out
 rw [e1] at HO'
 exact ⟨v,rfl,HO'.weak HF4.out.size,(ROut.then HS1.out HF4.out ⟨S2,R2,HS2.out,HX2.out,HF5.out⟩).core rfl⟩
set_option maxRecDepth 100000 in
set_option maxHeartbeats 2000000 in
theorem rdone_1 (S R : Nat → Prop) (W : World) (rb : Nat) (s : FSt) (h : RF S R W rb s) (hl : s.l.length ≤ 40000) (i l n now : Int) (ao : Option Addr) (dl cp : Nat) (ds : List Value) (hd : RowB S W (.slice ao dl cp) ds) (hdl : ds.length ≤ 100000) (hd1 : ∀ u ∈ ds,u.oneCell' = true) (hm : mayD ⟨1,i,l,n,ds⟩ = true) :
 Calls Tryz.prog 72 #[.pointer (some ⟨rb,0,none⟩),.agg #[.int .i64 1,.int .i64 i,.int .i64 l,.int .i64 n,.slice ao dl cp],.int .i64 now] W fun e W'=>RMeth S R W rb (rdoneS s ⟨1,i,l,n,ds⟩ now) (doneO s ⟨1,i,l,n,ds⟩ now) e W':=by
 have HRF:=Lib.hid h
 have HL:=Lib.hid hl
 have HD:=Lib.hid (And.intro hdl hd1)
 have HR:=Lib.hid hd
 have HM:=Lib.hid (mayD_all hm)
 clear h hl hdl hd1 hd hm
 go_enter Tryz.func72,Tryz.ntmps72
 go_upto_region 1 with (fail)
 have hDB:=Blk.new W 52 #[.int .i64 1,.int .i64 i,.int .i64 l,.int .i64 n,.slice ao dl cp]
 have hf1 : Fr (fun _=>False) W (W.alloc (.cells #[.int .i64 1,.int .i64 i,.int .i64 l,.int .i64 n,.slice ao dl cp] 52)):=Fr.alloc _ _ _
 obtain ⟨w1,hw1⟩ : ∃ w,W.alloc (.cells #[.int .i64 1,.int .i64 i,.int .i64 l,.int .i64 n,.slice ao dl cp] 52) = w:=⟨_,rfl⟩
 rw [hw1] at hDB hf1 ⊢
 obtain ⟨db,hdb⟩ : ∃ b,W.heap.size = b:=⟨_,rfl⟩
 rw [hdb] at hDB ⊢
 have HDB:=Lib.hid hDB
 have NDB : Hid (¬ R db):=Lib.hid (fun e=>by have:=HRF.out.lt _ (HRF.out.rs _ e);omega)
 obtain ⟨va,vc,w2,hrun,hrow2,hf2⟩:=app_bytes 36 S (fun q=>q < W.heap.size) w1 ao dl cp ds (HR.out.fr (hf1.mono fun _ e=>e.elim)) (by have:=HD.out.1;omega) HD.out.2 (fun q e=>by have:=hf1.size;omega)
 have HROW2:=Lib.hid hrow2
 have HF2:=Lib.hid (hf1.trans hf2)
 have HDB2:=Lib.hid (hDB.fr hf2 id)
 have y4:=(hDB.fr (Fr.alloc (fun _=>False) w1 (.cells #[] 5)) id).cell 4
 simp only [lA,lB,lC] at y4
 clear hw1 hdb hDB hf1 hf2 hrow2
 go_upto_region 2 with (first | (at_builtin;refine wpList_appRunV rfl _ _ _ rfl _ _ _ rfl rfl hrun ?_) | go_in)
 clear y4 hrun
 have HX:=Lib.hid (HRF.out.fr0 HF2.out)
 have HR2:=Lib.hid ((HR.out.to (S':=fun _=>False) fun k _ e=>e.elim).fr HF2.out)
 have d0:=HDB2.out.cell 0
 have d1:=HDB2.out.cell 1
 have d2:=HDB2.out.cell 2
 have d3:=HDB2.out.cell 3
 have d4:=HDB2.out.cell 4
 simp only [lA,lB,lC] at d0 d1 d2 d3 d4
 go_wp2_with (first | (go_at_call 26;refine (rput_any S R w2 rb s HX.out (by have:=HL.out;omega) 7 now 0 i l n ao dl cp ds HR2.out HD.out.1 HD.out.2).mono ?_;rintro e w3 ⟨rfl,S1,R1,hs1,hrf,hfr⟩;have HS1:=Lib.hid hs1;have HX1:=Lib.hid hrf;have HF3:=Lib.hid hfr;clear d0 d1 d2 d3 d4;have d1:=(HDB2.out.fr hfr NDB.out).cell 1;have d2:=(HDB2.out.fr hfr NDB.out).cell 2;have d3:=(HDB2.out.fr hfr NDB.out).cell 3;simp only [lA,lB,lC] at d1 d2 d3;clear hs1 hrf hfr) | go_in)
 go_ret
 exact ⟨_,rfl,Outs.one (Nat.le_trans HF2.out.size HF3.out.size) ⟨2,l,(s.l.length : Int) + 1,0,0,0,0,[]⟩ (.slice none 0 0) (RowB.nil _ _) (Blk.new _ _ _),(ROut.more (ROut.behind HF2.out ⟨S1,R1,HS1.out,HX1.out,HF3.out⟩) (Fr.alloc _ _ _)).core rfl⟩
set_option maxRecDepth 100000 in
set_option maxHeartbeats 2000000 in
theorem rdone_2 (S R : Nat → Prop) (W : World) (rb : Nat) (s : FSt) (h : RF S R W rb s) (hl : s.l.length ≤ 40000) (i l n now : Int) (ao : Option Addr) (dl cp : Nat) (ds : List Value) (hd : RowB S W (.slice ao dl cp) ds) (hdl : ds.length ≤ 100000) (hd1 : ∀ u ∈ ds,u.oneCell' = true) (hm : mayD ⟨2,i,l,n,ds⟩ = true) :
 Calls Tryz.prog 72 #[.pointer (some ⟨rb,0,none⟩),.agg #[.int .i64 2,.int .i64 i,.int .i64 l,.int .i64 n,.slice ao dl cp],.int .i64 now] W fun e W'=>RMeth S R W rb (rdoneS s ⟨2,i,l,n,ds⟩ now) (doneO s ⟨2,i,l,n,ds⟩ now) e W':=by
 have HRF:=Lib.hid h
 have HL:=Lib.hid hl
 have HD:=Lib.hid (And.intro hdl hd1)
 have HR:=Lib.hid hd
 have HM:=Lib.hid (mayD_all hm)
 clear h hl hdl hd1 hd hm
 go_enter Tryz.func72,Tryz.ntmps72
 go_upto_region 1 with (fail)
 have hDB:=Blk.new W 52 #[.int .i64 2,.int .i64 i,.int .i64 l,.int .i64 n,.slice ao dl cp]
 have hf1 : Fr (fun _=>False) W (W.alloc (.cells #[.int .i64 2,.int .i64 i,.int .i64 l,.int .i64 n,.slice ao dl cp] 52)):=Fr.alloc _ _ _
 obtain ⟨w1,hw1⟩ : ∃ w,W.alloc (.cells #[.int .i64 2,.int .i64 i,.int .i64 l,.int .i64 n,.slice ao dl cp] 52) = w:=⟨_,rfl⟩
 rw [hw1] at hDB hf1 ⊢
 obtain ⟨db,hdb⟩ : ∃ b,W.heap.size = b:=⟨_,rfl⟩
 rw [hdb] at hDB ⊢
 have HDB:=Lib.hid hDB
 have NDB : Hid (¬ R db):=Lib.hid (fun e=>by have:=HRF.out.lt _ (HRF.out.rs _ e);omega)
 obtain ⟨va,vc,w2,hrun,hrow2,hf2⟩:=app_bytes 36 S (fun q=>q < W.heap.size) w1 ao dl cp ds (HR.out.fr (hf1.mono fun _ e=>e.elim)) (by have:=HD.out.1;omega) HD.out.2 (fun q e=>by have:=hf1.size;omega)
 have HROW2:=Lib.hid hrow2
 have HF2:=Lib.hid (hf1.trans hf2)
 have HDB2:=Lib.hid (hDB.fr hf2 id)
 have y4:=(hDB.fr (Fr.alloc (fun _=>False) w1 (.cells #[] 5)) id).cell 4
 simp only [lA,lB,lC] at y4
 clear hw1 hdb hDB hf1 hf2 hrow2
 go_upto_region 2 with (first | (at_builtin;refine wpList_appRunV rfl _ _ _ rfl _ _ _ rfl rfl hrun ?_) | go_in)
 clear y4 hrun
 have HX:=Lib.hid (HRF.out.fr0 HF2.out)
 have HR2:=Lib.hid ((HR.out.to (S':=fun _=>False) fun k _ e=>e.elim).fr HF2.out)
 have d0:=HDB2.out.cell 0
 have d1:=HDB2.out.cell 1
 have d2:=HDB2.out.cell 2
 have d3:=HDB2.out.cell 3
 have d4:=HDB2.out.cell 4
 simp only [lA,lB,lC] at d0 d1 d2 d3 d4
 go_wp2_with (first | (go_at_call 26;refine (rput_any S R w2 rb s HX.out (by have:=HL.out;omega) 12 now 0 i 0 n none 0 0 [] (RowB.nil _ _) (by simp) (by simp)).mono ?_;rintro e w3 ⟨rfl,S1,R1,hs1,hrf,hfr⟩;have HS1:=Lib.hid hs1;have HX1:=Lib.hid hrf;have HF3:=Lib.hid hfr;clear d0 d1 d2 d3 d4;have d1:=(HDB2.out.fr hfr NDB.out).cell 1;have d2:=(HDB2.out.fr hfr NDB.out).cell 2;have d3:=(HDB2.out.fr hfr NDB.out).cell 3;simp only [lA,lB,lC] at d1 d2 d3;clear hs1 hrf hfr) | go_in)
 go_ret
 obtain ⟨q1,q2⟩ : l = 0 ∧ ds = []:=HM.out.2.2.2.2.1 (by first | rfl | trivial)
 exact ⟨_,rfl,Outs.one (Nat.le_trans HF2.out.size HF3.out.size) ⟨5,0,(s.l.length : Int) + 1,0,wrap64 (now + n),0,0,[]⟩ (.slice none 0 0) (RowB.nil _ _) (Blk.new _ _ _),(ROut.more (ROut.behind HF2.out ⟨S1,R1,HS1.out,HX1.out,HF3.out⟩) (Fr.alloc _ _ _)).core (by rw [q1,q2];rfl)⟩
set_option maxRecDepth 100000 in
set_option maxHeartbeats 2000000 in
theorem rdone_3 (S R : Nat → Prop) (W : World) (rb : Nat) (s : FSt) (h : RF S R W rb s) (hl : s.l.length ≤ 40000) (i l n now : Int) (ao : Option Addr) (dl cp : Nat) (ds : List Value) (hd : RowB S W (.slice ao dl cp) ds) (hdl : ds.length ≤ 100000) (hd1 : ∀ u ∈ ds,u.oneCell' = true) (hm : mayD ⟨3,i,l,n,ds⟩ = true) :
 Calls Tryz.prog 72 #[.pointer (some ⟨rb,0,none⟩),.agg #[.int .i64 3,.int .i64 i,.int .i64 l,.int .i64 n,.slice ao dl cp],.int .i64 now] W fun e W'=>RMeth S R W rb (rdoneS s ⟨3,i,l,n,ds⟩ now) (doneO s ⟨3,i,l,n,ds⟩ now) e W':=by
 have HRF:=Lib.hid h
 have HL:=Lib.hid hl
 have HD:=Lib.hid (And.intro hdl hd1)
 have HR:=Lib.hid hd
 have HM:=Lib.hid (mayD_all hm)
 clear h hl hdl hd1 hd hm
 go_enter Tryz.func72,Tryz.ntmps72
 go_upto_region 1 with (fail)
 have hDB:=Blk.new W 52 #[.int .i64 3,.int .i64 i,.int .i64 l,.int .i64 n,.slice ao dl cp]
 have hf1 : Fr (fun _=>False) W (W.alloc (.cells #[.int .i64 3,.int .i64 i,.int .i64 l,.int .i64 n,.slice ao dl cp] 52)):=Fr.alloc _ _ _
 obtain ⟨w1,hw1⟩ : ∃ w,W.alloc (.cells #[.int .i64 3,.int .i64 i,.int .i64 l,.int .i64 n,.slice ao dl cp] 52) = w:=⟨_,rfl⟩
 rw [hw1] at hDB hf1 ⊢
 obtain ⟨db,hdb⟩ : ∃ b,W.heap.size = b:=⟨_,rfl⟩
 rw [hdb] at hDB ⊢
 have HDB:=Lib.hid hDB
 have NDB : Hid (¬ R db):=Lib.hid (fun e=>by have:=HRF.out.lt _ (HRF.out.rs _ e);omega)
 obtain ⟨va,vc,w2,hrun,hrow2,hf2⟩:=app_bytes 36 S (fun q=>q < W.heap.size) w1 ao dl cp ds (HR.out.fr (hf1.mono fun _ e=>e.elim)) (by have:=HD.out.1;omega) HD.out.2 (fun q e=>by have:=hf1.size;omega)
 have HROW2:=Lib.hid hrow2
 have HF2:=Lib.hid (hf1.trans hf2)
 have HDB2:=Lib.hid (hDB.fr hf2 id)
 have y4:=(hDB.fr (Fr.alloc (fun _=>False) w1 (.cells #[] 5)) id).cell 4
 simp only [lA,lB,lC] at y4
 clear hw1 hdb hDB hf1 hf2 hrow2
 go_upto_region 2 with (first | (at_builtin;refine wpList_appRunV rfl _ _ _ rfl _ _ _ rfl rfl hrun ?_) | go_in)
 clear y4 hrun
 have HX:=Lib.hid (HRF.out.fr0 HF2.out)
 have HR2:=Lib.hid ((HR.out.to (S':=fun _=>False) fun k _ e=>e.elim).fr HF2.out)
 have d0:=HDB2.out.cell 0
 have d1:=HDB2.out.cell 1
 have d2:=HDB2.out.cell 2
 have d3:=HDB2.out.cell 3
 have d4:=HDB2.out.cell 4
 simp only [lA,lB,lC] at d0 d1 d2 d3 d4
 go_upto_region 10 with (fail)
 refine region_Z (fun w'=>w'.cell? ⟨db,1,none⟩ = some (.int .i64 i)) 99 ((HDB2.out.fr (Fr.drewN (fun _=>False) w2 1) id).cell 1) (fun hH=>?_)
 refine takes (b:=?_) [0,1,2,3,4,6,7] hH ?_ ?_
 rotate_left
 iterate 7 ((refine Sq.yes (v:=?_) rfl (by rfl) ?_ ?_;rotate_left;· (intro w' hw';go_simp;try with_reducible rfl));try simp only [lD,lE,lF,Act.put,lG,lH,lI])
 exact Sq.nil
 refine any_op 5 rfl (fun K hK=>?_)
 go_simp
 refine (rbegan_any S R _ rb s (HX.out.fr0 (Fr.drewN _ w2 1)) 12 i).mono ?_
 rintro e w3 ⟨rfl,rfl⟩
 refine hK.out _ _ ((HDB2.out.fr (Fr.drewN (fun _=>False) w2 1) id).cell 1) (fun hH2=>?_)
 clear hK K 
 try simp only [lD,lE,lF,Act.put,lG,lH,lI]
 refine takes (b:=?_) [8] hH2 ?_ ?_
 rotate_left
 (refine Sq.yes (v:=?_) rfl (by rfl) ?_ ?_;rotate_left;· (intro w' hw';go_simp;try with_reducible rfl))
 try simp only [lD,lE,lF,Act.put,lG,lH,lI]
 exact Sq.nil
 refine any_op 9 rfl (fun K hK=>?_)
 go_simp
 refine (rput_any S R _ rb s (HX.out.fr0 (Fr.drewN _ w2 1)) (by have:=HL.out;omega) 14 now (beganR s.l 12 i) i 0 0 none 0 0 [] (RowB.nil _ _) (by simp) (by simp)).mono ?_
 rintro e w3 ⟨rfl,S1,R1,hs1,hrf,hfr⟩
 have HS1:=Lib.hid hs1
 have HX1:=Lib.hid hrf
 have HF3 : Hid (Fr R w2 w3):=Lib.hid (((Fr.drewN (fun _=>False) w2 1).mono fun _ e=>e.elim).trans hfr)
 refine hK.out _ _ ((HDB2.out.fr HF3.out NDB.out).cell 1) (fun hH3=>?_)
 clear hK K hs1 hrf hfr
 try simp only [lD,lE,lF,Act.put,lG,lH,lI]
 refine any_done ?_
 clear hH hH2 hH3 d0 d1 d2 d3 d4
 go_wp2
 go_ret
 obtain ⟨q1,q2,q3⟩ : l = 0 ∧ n = 0 ∧ ds = []:=HM.out.2.2.2.2.2.1 (by first | rfl | trivial)
 exact ⟨_,rfl,Outs.nil _ _,(ROut.behind HF2.out ⟨S1,R1,HS1.out,HX1.out,HF3.out⟩).core (by rw [q1,q2,q3];rfl)⟩
set_option maxRecDepth 100000 in
set_option maxHeartbeats 2000000 in
theorem rdone_4X (S R : Nat → Prop) (W : World) (rb : Nat) (s : FSt) (h : RF S R W rb s) (hl : s.l.length ≤ 40000) (i l n now : Int) (ao : Option Addr) (dl cp : Nat) (ds : List Value) (hd : RowB S W (.slice ao dl cp) ds) (hdl : ds.length ≤ 100000) (hd1 : ∀ u ∈ ds,u.oneCell' = true) (hm : mayD ⟨4,i,l,n,ds⟩ = true) :
 Calls Tryz.prog 72 #[.pointer (some ⟨rb,0,none⟩),.agg #[.int .i64 4,.int .i64 i,.int .i64 l,.int .i64 n,.slice ao dl cp],.int .i64 now] W fun e W'=>RMethX S R W rb (rdoneS s ⟨4,i,l,n,ds⟩ now) (doneO s ⟨4,i,l,n,ds⟩ now) True e W':=by
 have HRF:=Lib.hid h
 have HL:=Lib.hid hl
 have HD:=Lib.hid (And.intro hdl hd1)
 have HR:=Lib.hid hd
 have HM:=Lib.hid (mayD_all hm)
 clear h hl hdl hd1 hd hm
 go_enter Tryz.func72,Tryz.ntmps72
 go_upto_region 1 with (fail)
 have hDB:=Blk.new W 52 #[.int .i64 4,.int .i64 i,.int .i64 l,.int .i64 n,.slice ao dl cp]
 have hf1 : Fr (fun _=>False) W (W.alloc (.cells #[.int .i64 4,.int .i64 i,.int .i64 l,.int .i64 n,.slice ao dl cp] 52)):=Fr.alloc _ _ _
 obtain ⟨w1,hw1⟩ : ∃ w,W.alloc (.cells #[.int .i64 4,.int .i64 i,.int .i64 l,.int .i64 n,.slice ao dl cp] 52) = w:=⟨_,rfl⟩
 rw [hw1] at hDB hf1 ⊢
 obtain ⟨db,hdb⟩ : ∃ b,W.heap.size = b:=⟨_,rfl⟩
 rw [hdb] at hDB ⊢
 have HDB:=Lib.hid hDB
 have NDB : Hid (¬ R db):=Lib.hid (fun e=>by have:=HRF.out.lt _ (HRF.out.rs _ e);omega)
 obtain ⟨va,vc,w2,hrun,hrow2,hf2⟩:=app_bytes 36 S (fun q=>q < W.heap.size) w1 ao dl cp ds (HR.out.fr (hf1.mono fun _ e=>e.elim)) (by have:=HD.out.1;omega) HD.out.2 (fun q e=>by have:=hf1.size;omega)
 have HROW2:=Lib.hid hrow2
 have HF2:=Lib.hid (hf1.trans hf2)
 have HDB2:=Lib.hid (hDB.fr hf2 id)
 have y4:=(hDB.fr (Fr.alloc (fun _=>False) w1 (.cells #[] 5)) id).cell 4
 simp only [lA,lB,lC] at y4
 clear hw1 hdb hDB hf1 hf2 hrow2
 go_upto_region 2 with (first | (at_builtin;refine wpList_appRunV rfl _ _ _ rfl _ _ _ rfl rfl hrun ?_) | go_in)
 clear y4 hrun
 have HX:=Lib.hid (HRF.out.fr0 HF2.out)
 have HR2:=Lib.hid ((HR.out.to (S':=fun _=>False) fun k _ e=>e.elim).fr HF2.out)
 have d0:=HDB2.out.cell 0
 have d1:=HDB2.out.cell 1
 have d2:=HDB2.out.cell 2
 have d3:=HDB2.out.cell 3
 have d4:=HDB2.out.cell 4
 simp only [lA,lB,lC] at d0 d1 d2 d3 d4
 go_wp2_with (first | (go_at_call 26;refine (rput_any S R w2 rb s HX.out (by have:=HL.out;omega) 17 now 0 i l n ao dl cp ds HR2.out HD.out.1 HD.out.2).mono ?_;rintro e w3 ⟨rfl,S1,R1,hs1,hrf,hfr⟩;have HS1:=Lib.hid hs1;have HX1:=Lib.hid hrf;have HF3:=Lib.hid hfr;clear d0 d1 d2 d3 d4;have d1:=(HDB2.out.fr hfr NDB.out).cell 1;have d2:=(HDB2.out.fr hfr NDB.out).cell 2;have d3:=(HDB2.out.fr hfr NDB.out).cell 3;simp only [lA,lB,lC] at d1 d2 d3;clear hs1 hrf hfr) | go_in)
 go_ret
 refine ⟨_,S1,R1,rfl,Outs.one (Nat.le_trans HF2.out.size HF3.out.size) ⟨6,l,(s.l.length : Int) + 1,0,0,i,n,ds⟩ (.slice va dl vc) ((HROW2.out.fr (HF3.out.mono fun k e=>HRF.out.lt _ (HRF.out.rs _ e))).fr (Fr.alloc _ _ _)) (Blk.new _ _ _),fun q hq=>HS1.out q (Nat.lt_of_lt_of_le hq HF2.out.size),RF.core (HX1.out.fr0 (Fr.alloc _ _ _)) rfl,((HF2.out.mono fun _ e=>e.elim).trans HF3.out).trans (Fr.alloc _ _ _),fun _=>OutsX.one ⟨6,l,(s.l.length : Int) + 1,0,0,i,n,ds⟩ (.slice va dl vc) (((HROW2.out.to (S':=fun q=>q < W.heap.size ∨ R1 q) (fun q hq e=>e.elim id (fun e=>HRF.out.lt _ (HRF.out.rs _ ((HS1.out q hq).2.1 e))))).fr (HF3.out.mono fun k e=>.inl (HRF.out.lt _ (HRF.out.rs _ e)))).fr (Fr.alloc _ _ _)) (Blk.new _ _ _)⟩
theorem rdone_4 (S R : Nat → Prop) (W : World) (rb : Nat) (s : FSt) (h : RF S R W rb s) (hl : s.l.length ≤ 40000) (i l n now : Int) (ao : Option Addr) (dl cp : Nat) (ds : List Value) (hd : RowB S W (.slice ao dl cp) ds) (hdl : ds.length ≤ 100000) (hd1 : ∀ u ∈ ds,u.oneCell' = true) (hm : mayD ⟨4,i,l,n,ds⟩ = true) :
 Calls Tryz.prog 72 #[.pointer (some ⟨rb,0,none⟩),.agg #[.int .i64 4,.int .i64 i,.int .i64 l,.int .i64 n,.slice ao dl cp],.int .i64 now] W fun e W'=>RMeth S R W rb (rdoneS s ⟨4,i,l,n,ds⟩ now) (doneO s ⟨4,i,l,n,ds⟩ now) e W':=(rdone_4X S R W rb s h hl i l n now ao dl cp ds hd hdl hd1 hm).mono fun _ _ h=>h.plain
set_option maxRecDepth 100000 in
set_option maxHeartbeats 2000000 in
theorem rdone_5 (S R : Nat → Prop) (W : World) (rb : Nat) (s : FSt) (h : RF S R W rb s) (hl : s.l.length ≤ 40000) (i l n now : Int) (ao : Option Addr) (dl cp : Nat) (ds : List Value) (hd : RowB S W (.slice ao dl cp) ds) (hdl : ds.length ≤ 100000) (hd1 : ∀ u ∈ ds,u.oneCell' = true) (hm : mayD ⟨5,i,l,n,ds⟩ = true) :
 Calls Tryz.prog 72 #[.pointer (some ⟨rb,0,none⟩),.agg #[.int .i64 5,.int .i64 i,.int .i64 l,.int .i64 n,.slice ao dl cp],.int .i64 now] W fun e W'=>RMeth S R W rb (rdoneS s ⟨5,i,l,n,ds⟩ now) (doneO s ⟨5,i,l,n,ds⟩ now) e W':=by
 have HRF:=Lib.hid h
 have HL:=Lib.hid hl
 have HD:=Lib.hid (And.intro hdl hd1)
 have HR:=Lib.hid hd
 have HM:=Lib.hid (mayD_all hm)
 clear h hl hdl hd1 hd hm
 go_enter Tryz.func72,Tryz.ntmps72
 go_upto_region 1 with (fail)
 have hDB:=Blk.new W 52 #[.int .i64 5,.int .i64 i,.int .i64 l,.int .i64 n,.slice ao dl cp]
 have hf1 : Fr (fun _=>False) W (W.alloc (.cells #[.int .i64 5,.int .i64 i,.int .i64 l,.int .i64 n,.slice ao dl cp] 52)):=Fr.alloc _ _ _
 obtain ⟨w1,hw1⟩ : ∃ w,W.alloc (.cells #[.int .i64 5,.int .i64 i,.int .i64 l,.int .i64 n,.slice ao dl cp] 52) = w:=⟨_,rfl⟩
 rw [hw1] at hDB hf1 ⊢
 obtain ⟨db,hdb⟩ : ∃ b,W.heap.size = b:=⟨_,rfl⟩
 rw [hdb] at hDB ⊢
 have HDB:=Lib.hid hDB
 have NDB : Hid (¬ R db):=Lib.hid (fun e=>by have:=HRF.out.lt _ (HRF.out.rs _ e);omega)
 obtain ⟨va,vc,w2,hrun,hrow2,hf2⟩:=app_bytes 36 S (fun q=>q < W.heap.size) w1 ao dl cp ds (HR.out.fr (hf1.mono fun _ e=>e.elim)) (by have:=HD.out.1;omega) HD.out.2 (fun q e=>by have:=hf1.size;omega)
 have HROW2:=Lib.hid hrow2
 have HF2:=Lib.hid (hf1.trans hf2)
 have HDB2:=Lib.hid (hDB.fr hf2 id)
 have y4:=(hDB.fr (Fr.alloc (fun _=>False) w1 (.cells #[] 5)) id).cell 4
 simp only [lA,lB,lC] at y4
 clear hw1 hdb hDB hf1 hf2 hrow2
 go_upto_region 2 with (first | (at_builtin;refine wpList_appRunV rfl _ _ _ rfl _ _ _ rfl rfl hrun ?_) | go_in)
 clear y4 hrun
 have HX:=Lib.hid (HRF.out.fr0 HF2.out)
 have HR2:=Lib.hid ((HR.out.to (S':=fun _=>False) fun k _ e=>e.elim).fr HF2.out)
 have d0:=HDB2.out.cell 0
 have d1:=HDB2.out.cell 1
 have d2:=HDB2.out.cell 2
 have d3:=HDB2.out.cell 3
 have d4:=HDB2.out.cell 4
 simp only [lA,lB,lC] at d0 d1 d2 d3 d4
 go_wp2_with (first | (go_at_call 69;refine (rclose_any S R w2 rb s HX.out (by have:=HL.out;omega) 20 now ao dl cp ds ((HR.out.fr (HF2.out.mono fun _ e=>e.elim))) HD.out.1 HD.out.2).mono ?_;rintro e w4 ⟨v,rfl,ho,S2,R2,hs2,hrf,hfr⟩;have HO:=Lib.hid ho;have HX2:=Lib.hid hrf;have HS2:=Lib.hid hs2;have HF4:=Lib.hid hfr;clear ho hs2 hrf hfr d0 d1 d2 d3 d4) | go_in)
 go_ret
 exact ⟨v,rfl,HO.out.weak HF2.out.size,(ROut.behind HF2.out ⟨S2,R2,HS2.out,HX2.out,HF4.out⟩).core rfl⟩
set_option maxRecDepth 100000 in
set_option maxHeartbeats 2000000 in
theorem rdone_6 (S R : Nat → Prop) (W : World) (rb : Nat) (s : FSt) (h : RF S R W rb s) (hl : s.l.length ≤ 40000) (i l n now : Int) (ao : Option Addr) (dl cp : Nat) (ds : List Value) (hd : RowB S W (.slice ao dl cp) ds) (hdl : ds.length ≤ 100000) (hd1 : ∀ u ∈ ds,u.oneCell' = true) (hm : mayD ⟨6,i,l,n,ds⟩ = true) :
 Calls Tryz.prog 72 #[.pointer (some ⟨rb,0,none⟩),.agg #[.int .i64 6,.int .i64 i,.int .i64 l,.int .i64 n,.slice ao dl cp],.int .i64 now] W fun e W'=>RMeth S R W rb (rdoneS s ⟨6,i,l,n,ds⟩ now) (doneO s ⟨6,i,l,n,ds⟩ now) e W':=by
 have HRF:=Lib.hid h
 have HL:=Lib.hid hl
 have HD:=Lib.hid (And.intro hdl hd1)
 have HR:=Lib.hid hd
 have HM:=Lib.hid (mayD_all hm)
 clear h hl hdl hd1 hd hm
 go_enter Tryz.func72,Tryz.ntmps72
 go_upto_region 1 with (fail)
 have hDB:=Blk.new W 52 #[.int .i64 6,.int .i64 i,.int .i64 l,.int .i64 n,.slice ao dl cp]
 have hf1 : Fr (fun _=>False) W (W.alloc (.cells #[.int .i64 6,.int .i64 i,.int .i64 l,.int .i64 n,.slice ao dl cp] 52)):=Fr.alloc _ _ _
 obtain ⟨w1,hw1⟩ : ∃ w,W.alloc (.cells #[.int .i64 6,.int .i64 i,.int .i64 l,.int .i64 n,.slice ao dl cp] 52) = w:=⟨_,rfl⟩
 rw [hw1] at hDB hf1 ⊢
 obtain ⟨db,hdb⟩ : ∃ b,W.heap.size = b:=⟨_,rfl⟩
 rw [hdb] at hDB ⊢
 have HDB:=Lib.hid hDB
 have NDB : Hid (¬ R db):=Lib.hid (fun e=>by have:=HRF.out.lt _ (HRF.out.rs _ e);omega)
 obtain ⟨va,vc,w2,hrun,hrow2,hf2⟩:=app_bytes 36 S (fun q=>q < W.heap.size) w1 ao dl cp ds (HR.out.fr (hf1.mono fun _ e=>e.elim)) (by have:=HD.out.1;omega) HD.out.2 (fun q e=>by have:=hf1.size;omega)
 have HROW2:=Lib.hid hrow2
 have HF2:=Lib.hid (hf1.trans hf2)
 have HDB2:=Lib.hid (hDB.fr hf2 id)
 have y4:=(hDB.fr (Fr.alloc (fun _=>False) w1 (.cells #[] 5)) id).cell 4
 simp only [lA,lB,lC] at y4
 clear hw1 hdb hDB hf1 hf2 hrow2
 go_upto_region 2 with (first | (at_builtin;refine wpList_appRunV rfl _ _ _ rfl _ _ _ rfl rfl hrun ?_) | go_in)
 clear y4 hrun
 have HX:=Lib.hid (HRF.out.fr0 HF2.out)
 have HR2:=Lib.hid ((HR.out.to (S':=fun _=>False) fun k _ e=>e.elim).fr HF2.out)
 have d0:=HDB2.out.cell 0
 have d1:=HDB2.out.cell 1
 have d2:=HDB2.out.cell 2
 have d3:=HDB2.out.cell 3
 have d4:=HDB2.out.cell 4
 simp only [lA,lB,lC] at d0 d1 d2 d3 d4
 go_wp2_with (first | (go_at_call 69;refine (rclose_any S R w2 rb s HX.out (by have:=HL.out;omega) 21 now ao dl cp ds ((HR.out.fr (HF2.out.mono fun _ e=>e.elim))) HD.out.1 HD.out.2).mono ?_;rintro e w4 ⟨v,rfl,ho,S2,R2,hs2,hrf,hfr⟩;have HO:=Lib.hid ho;have HX2:=Lib.hid hrf;have HS2:=Lib.hid hs2;have HF4:=Lib.hid hfr;clear ho hs2 hrf hfr d0 d1 d2 d3 d4) | go_in)
 go_ret
 exact ⟨v,rfl,HO.out.weak HF2.out.size,(ROut.behind HF2.out ⟨S2,R2,HS2.out,HX2.out,HF4.out⟩).core rfl⟩
set_option maxRecDepth 100000 in
set_option maxHeartbeats 2000000 in
theorem rdone_7 (S R : Nat → Prop) (W : World) (rb : Nat) (s : FSt) (h : RF S R W rb s) (hl : s.l.length ≤ 40000) (i l n now : Int) (ao : Option Addr) (dl cp : Nat) (ds : List Value) (hd : RowB S W (.slice ao dl cp) ds) (hdl : ds.length ≤ 100000) (hd1 : ∀ u ∈ ds,u.oneCell' = true) (hm : mayD ⟨7,i,l,n,ds⟩ = true) :
 Calls Tryz.prog 72 #[.pointer (some ⟨rb,0,none⟩),.agg #[.int .i64 7,.int .i64 i,.int .i64 l,.int .i64 n,.slice ao dl cp],.int .i64 now] W fun e W'=>RMeth S R W rb (rdoneS s ⟨7,i,l,n,ds⟩ now) (doneO s ⟨7,i,l,n,ds⟩ now) e W':=by
 have HRF:=Lib.hid h
 have HL:=Lib.hid hl
 have HD:=Lib.hid (And.intro hdl hd1)
 have HR:=Lib.hid hd
 have HM:=Lib.hid (mayD_all hm)
 clear h hl hdl hd1 hd hm
 go_enter Tryz.func72,Tryz.ntmps72
 go_upto_region 1 with (fail)
 have hDB:=Blk.new W 52 #[.int .i64 7,.int .i64 i,.int .i64 l,.int .i64 n,.slice ao dl cp]
 have hf1 : Fr (fun _=>False) W (W.alloc (.cells #[.int .i64 7,.int .i64 i,.int .i64 l,.int .i64 n,.slice ao dl cp] 52)):=Fr.alloc _ _ _
 obtain ⟨w1,hw1⟩ : ∃ w,W.alloc (.cells #[.int .i64 7,.int .i64 i,.int .i64 l,.int .i64 n,.slice ao dl cp] 52) = w:=⟨_,rfl⟩
 rw [hw1] at hDB hf1 ⊢
 obtain ⟨db,hdb⟩ : ∃ b,W.heap.size = b:=⟨_,rfl⟩
 rw [hdb] at hDB ⊢
 have HDB:=Lib.hid hDB
 have NDB : Hid (¬ R db):=Lib.hid (fun e=>by have:=HRF.out.lt _ (HRF.out.rs _ e);omega)
 obtain ⟨va,vc,w2,hrun,hrow2,hf2⟩:=app_bytes 36 S (fun q=>q < W.heap.size) w1 ao dl cp ds (HR.out.fr (hf1.mono fun _ e=>e.elim)) (by have:=HD.out.1;omega) HD.out.2 (fun q e=>by have:=hf1.size;omega)
 have HROW2:=Lib.hid hrow2
 have HF2:=Lib.hid (hf1.trans hf2)
 have HDB2:=Lib.hid (hDB.fr hf2 id)
 have y4:=(hDB.fr (Fr.alloc (fun _=>False) w1 (.cells #[] 5)) id).cell 4
 simp only [lA,lB,lC] at y4
 clear hw1 hdb hDB hf1 hf2 hrow2
 go_upto_region 2 with (first | (at_builtin;refine wpList_appRunV rfl _ _ _ rfl _ _ _ rfl rfl hrun ?_) | go_in)
 clear y4 hrun
 have HX:=Lib.hid (HRF.out.fr0 HF2.out)
 have HR2:=Lib.hid ((HR.out.to (S':=fun _=>False) fun k _ e=>e.elim).fr HF2.out)
 have d0:=HDB2.out.cell 0
 have d1:=HDB2.out.cell 1
 have d2:=HDB2.out.cell 2
 have d3:=HDB2.out.cell 3
 have d4:=HDB2.out.cell 4
 simp only [lA,lB,lC] at d0 d1 d2 d3 d4
 go_wp2_with (first | (go_at_call 69;refine (rclose_any S R w2 rb s HX.out (by have:=HL.out;omega) 22 now none 0 0 [] (RowB.nil _ _) (by simp) (by simp)).mono ?_;rintro e w4 ⟨v,rfl,ho,S2,R2,hs2,hrf,hfr⟩;have HO:=Lib.hid ho;have HX2:=Lib.hid hrf;have HS2:=Lib.hid hs2;have HF4:=Lib.hid hfr;clear ho hs2 hrf hfr d0 d1 d2 d3 d4) | go_in)
 go_ret
 have q : ds = []:=HM.out.2.2.2.2.2.2 (by first | rfl | trivial)
 subst q
 exact ⟨v,rfl,HO.out.weak HF2.out.size,(ROut.behind HF2.out ⟨S2,R2,HS2.out,HX2.out,HF4.out⟩).core rfl⟩
set_option maxRecDepth 100000 in
set_option maxHeartbeats 2000000 in
theorem rdone_8 (S R : Nat → Prop) (W : World) (rb : Nat) (s : FSt) (h : RF S R W rb s) (hl : s.l.length ≤ 40000) (i l n now : Int) (ao : Option Addr) (dl cp : Nat) (ds : List Value) (hd : RowB S W (.slice ao dl cp) ds) (hdl : ds.length ≤ 100000) (hd1 : ∀ u ∈ ds,u.oneCell' = true) (hm : mayD ⟨8,i,l,n,ds⟩ = true) :
 Calls Tryz.prog 72 #[.pointer (some ⟨rb,0,none⟩),.agg #[.int .i64 8,.int .i64 i,.int .i64 l,.int .i64 n,.slice ao dl cp],.int .i64 now] W fun e W'=>RMeth S R W rb (rdoneS s ⟨8,i,l,n,ds⟩ now) (doneO s ⟨8,i,l,n,ds⟩ now) e W':=by
 have HRF:=Lib.hid h
 have HL:=Lib.hid hl
 have HD:=Lib.hid (And.intro hdl hd1)
 have HR:=Lib.hid hd
 have HM:=Lib.hid (mayD_all hm)
 clear h hl hdl hd1 hd hm
 go_enter Tryz.func72,Tryz.ntmps72
 go_upto_region 1 with (fail)
 have hDB:=Blk.new W 52 #[.int .i64 8,.int .i64 i,.int .i64 l,.int .i64 n,.slice ao dl cp]
 have hf1 : Fr (fun _=>False) W (W.alloc (.cells #[.int .i64 8,.int .i64 i,.int .i64 l,.int .i64 n,.slice ao dl cp] 52)):=Fr.alloc _ _ _
 obtain ⟨w1,hw1⟩ : ∃ w,W.alloc (.cells #[.int .i64 8,.int .i64 i,.int .i64 l,.int .i64 n,.slice ao dl cp] 52) = w:=⟨_,rfl⟩
 rw [hw1] at hDB hf1 ⊢
 obtain ⟨db,hdb⟩ : ∃ b,W.heap.size = b:=⟨_,rfl⟩
 rw [hdb] at hDB ⊢
 have HDB:=Lib.hid hDB
 have NDB : Hid (¬ R db):=Lib.hid (fun e=>by have:=HRF.out.lt _ (HRF.out.rs _ e);omega)
 obtain ⟨va,vc,w2,hrun,hrow2,hf2⟩:=app_bytes 36 S (fun q=>q < W.heap.size) w1 ao dl cp ds (HR.out.fr (hf1.mono fun _ e=>e.elim)) (by have:=HD.out.1;omega) HD.out.2 (fun q e=>by have:=hf1.size;omega)
 have HROW2:=Lib.hid hrow2
 have HF2:=Lib.hid (hf1.trans hf2)
 have HDB2:=Lib.hid (hDB.fr hf2 id)
 have y4:=(hDB.fr (Fr.alloc (fun _=>False) w1 (.cells #[] 5)) id).cell 4
 simp only [lA,lB,lC] at y4
 clear hw1 hdb hDB hf1 hf2 hrow2
 go_upto_region 2 with (first | (at_builtin;refine wpList_appRunV rfl _ _ _ rfl _ _ _ rfl rfl hrun ?_) | go_in)
 clear y4 hrun
 have HX:=Lib.hid (HRF.out.fr0 HF2.out)
 have HR2:=Lib.hid ((HR.out.to (S':=fun _=>False) fun k _ e=>e.elim).fr HF2.out)
 have d0:=HDB2.out.cell 0
 have d1:=HDB2.out.cell 1
 have d2:=HDB2.out.cell 2
 have d3:=HDB2.out.cell 3
 have d4:=HDB2.out.cell 4
 simp only [lA,lB,lC] at d0 d1 d2 d3 d4
 go_wp2_with (first | (go_at_call 69;refine (rclose_any S R w2 rb s HX.out (by have:=HL.out;omega) 19 now ao dl cp ds ((HR.out.fr (HF2.out.mono fun _ e=>e.elim))) HD.out.1 HD.out.2).mono ?_;rintro e w4 ⟨v,rfl,ho,S2,R2,hs2,hrf,hfr⟩;have HO:=Lib.hid ho;have HX2:=Lib.hid hrf;have HS2:=Lib.hid hs2;have HF4:=Lib.hid hfr;clear ho hs2 hrf hfr d0 d1 d2 d3 d4) | go_in)
 go_ret
 exact ⟨_,rfl,Outs.one (Nat.le_trans HF2.out.size HF4.out.size) ⟨8,0,0,0,0,0,0,ds⟩ (.slice va dl vc) ((HROW2.out.fr (HF4.out.mono fun k e=>HRF.out.lt _ (HRF.out.rs _ e))).fr (Fr.alloc _ _ _)) (Blk.new _ _ _),(ROut.more (ROut.behind HF2.out ⟨S2,R2,HS2.out,HX2.out,HF4.out⟩) (Fr.alloc _ _ _)).core rfl⟩
theorem rdone_any (S R : Nat → Prop) (W : World) (rb : Nat) (s : FSt) (h : RF S R W rb s) (hl : s.l.length ≤ 40000) (k i l n now : Int) (ao : Option Addr) (dl cp : Nat) (ds : List Value) (hd : RowB S W (.slice ao dl cp) ds) (hdl : ds.length ≤ 100000) (hd1 : ∀ u ∈ ds,u.oneCell' = true) (hm : mayD ⟨k,i,l,n,ds⟩ = true) :
 Calls Tryz.prog 72 #[.pointer (some ⟨rb,0,none⟩),.agg #[.int .i64 k,.int .i64 i,.int .i64 l,.int .i64 n,.slice ao dl cp],.int .i64 now] W fun e W'=>RMeth S R W rb (rdoneS s ⟨k,i,l,n,ds⟩ now) (doneO s ⟨k,i,l,n,ds⟩ now) e W':=by
 have hk:=mayD_k hm
 dsimp only at hk
 have hk8 : k = 1 ∨ k = 2 ∨ k = 3 ∨ k = 4 ∨ k = 5 ∨ k = 6 ∨ k = 7 ∨ k = 8:=by omega
 rcases hk8 with rfl | rfl | rfl | rfl | rfl | rfl | rfl | rfl
 ·exact rdone_1 S R W rb s h hl i l n now ao dl cp ds hd hdl hd1 hm
 ·exact rdone_2 S R W rb s h hl i l n now ao dl cp ds hd hdl hd1 hm
 ·exact rdone_3 S R W rb s h hl i l n now ao dl cp ds hd hdl hd1 hm
 ·exact rdone_4 S R W rb s h hl i l n now ao dl cp ds hd hdl hd1 hm
 ·exact rdone_5 S R W rb s h hl i l n now ao dl cp ds hd hdl hd1 hm
 ·exact rdone_6 S R W rb s h hl i l n now ao dl cp ds hd hdl hd1 hm
 ·exact rdone_7 S R W rb s h hl i l n now ao dl cp ds hd hdl hd1 hm
 ·exact rdone_8 S R W rb s h hl i l n now ao dl cp ds hd hdl hd1 hm
theorem rdoneX_any (S R : Nat → Prop) (W : World) (rb : Nat) (s : FSt) (h : RF S R W rb s) (hl : s.l.length ≤ 40000) (k i l n now : Int) (ao : Option Addr) (dl cp : Nat) (ds : List Value) (hd : RowB S W (.slice ao dl cp) ds) (hdl : ds.length ≤ 100000) (hd1 : ∀ u ∈ ds,u.oneCell' = true) (hm : mayD ⟨k,i,l,n,ds⟩ = true) :
 Calls Tryz.prog 72 #[.pointer (some ⟨rb,0,none⟩),.agg #[.int .i64 k,.int .i64 i,.int .i64 l,.int .i64 n,.slice ao dl cp],.int .i64 now] W fun e W'=>RMethX S R W rb (rdoneS s ⟨k,i,l,n,ds⟩ now) (doneO s ⟨k,i,l,n,ds⟩ now) (k < 5) e W':=by
 have hk:=mayD_k hm
 dsimp only at hk
 by_cases h4 : k = 4
 ·subst h4
  refine (rdone_4X S R W rb s h hl i l n now ao dl cp ds hd hdl hd1 hm).mono ?_
  rintro e W' ⟨v,S',R',h1,h2,h3,h4,h5,h6⟩
  exact ⟨v,S',R',h1,h2,h3,h4,h5,fun _=>h6 trivial⟩
 ·refine (rdone_any S R W rb s h hl k i l n now ao dl cp ds hd hdl hd1 hm).mono fun e W' hh=>hh.x (fun hk5 o ho=>?_)
  have hk3 : k = 1 ∨ k = 2 ∨ k = 3:=by omega
  rcases hk3 with rfl | rfl | rfl <;> simp [doneO] at ho <;> rw [ho]
end Go.Proofs.YtnkelaohcbdjnaaGreat
set_option linter.unusedVariables false
set_option linter.unusedSimpArgs false
namespace Go.Proofs.YtnkelaohcbdjnaaGreat
open Go.RowKit Go.Maps Ev
theorem kindR_in {l : List Rv} {x : Int} (h : kindR l x ≠ 0) : 1 ≤ x ∧ x ≤ l.length:=by
 apply Classical.byContradiction
 intro hn
 exact h (kindR_out (by omega))
theorem worksR_in {l : List Rv} {x : Int} (h : (worksR l x).2 = true) : 1 ≤ x ∧ x ≤ l.length:=by
 unfold worksR at h
 split at h
 ·rename_i hk
  exact kindR_in (by omega)
 ·cases h
theorem timerR_in {l : List Rv} {x : Int} (h : timerR l x = true) : 1 ≤ x ∧ x ≤ l.length:=by
 unfold timerR at h
 split at h
 ·rename_i hk
  exact kindR_in (by omega)
 ·cases h
set_option maxRecDepth 100000 in
set_option maxHeartbeats 2000000 in
theorem rworks57_any (S R : Nat → Prop) (W : World) (rb : Nat) (s : FSt) (h : RF S R W rb s) (hl : s.l.length ≤ 4000) (ref now : Int)  :
 Calls Tryz.prog 38 #[.pointer (some ⟨rb,0,none⟩),.int .i64 ref,.int .i64 now] W fun e W'=>RActX S R W rb (rtryC s 0 now (worksC s ref now)) e W':=by
 have HRDY:=Lib.hid (rready_any S R W rb s h none 0 0 now)
 have HRF:=Lib.hid h
 have HL:=Lib.hid hl
 unfold rtryC
 obtain ⟨er,her⟩ : ∃ x,readyE s 0 now = x:=⟨_,rfl⟩
 rw [her] at HRDY ⊢
 by_cases h0 : er = 0
 rotate_left
 ·rw [if_neg h0]
  have p0 : (er != 0) = true:=by simp [h0]
  clear h h0 her hl 
  go_enter Tryz.func38,Tryz.ntmps38
  go_wp2_with (first | (go_at_call 62;refine HRDY.out.mono ?_;rintro e w1 ⟨rfl,hf1⟩) | go_in)
  go_ret2
  exact ⟨_,rfl,Outs.nil _ _,ROut.refl HRF.out hf1⟩
 subst h0
 rw [if_pos rfl]
 skip
 clear h her hl
 obtain ⟨w0,b0,hwk⟩ : ∃ x y,worksR s.l ref = (x,y):=⟨_,_,rfl⟩
 have HW : Hid (∀ w,Fr (fun _=>False) W w → Calls Tryz.prog 75 #[.pointer (some ⟨rb,0,none⟩),.int .i64 ref] w fun e W'=>e = .returned (.tuple #[.int .i64 w0,.bool b0]) ∧ Fr (fun _=>False) w W'):=Lib.hid (fun w hf=>by
  have:=rworks_any S R w rb s (HRF.out.fr0 hf) ref
  rw [hwk] at this
  exact this)
 have HWK:=Lib.hid hwk
 unfold worksC
 rw [hwk]
 cases b0 with
 | false=>
   rw [if_neg (by rintro h;cases h)]
   clear hwk
   go_enter Tryz.func38,Tryz.ntmps38
   go_wp2_with (first | (go_at_call 62;refine HRDY.out.mono ?_;rintro e w1 ⟨rfl,hf1⟩;have HF1:=Lib.hid hf1;clear hf1) | (go_at_call 75;refine (HW.out w1 HF1.out).mono ?_;rintro e w2 ⟨rfl,hf2⟩;have HF2:=Lib.hid (HF1.out.trans hf2);clear hf2) | go_in)
   go_ret2
   exact ⟨_,rfl,Outs.nil _ _,ROut.refl HRF.out HF2.out⟩
 | true=>
   have hin:=worksR_in (by rw [hwk] : (worksR s.l ref).2 = true)
   by_cases h0 : w0 = 0
   rotate_left
   ·rw [if_neg (by rintro h;cases h;exact h0 rfl)]
    have p1 : (w0 != 0) = true:=by simp [h0]
    clear hwk h0 hin
    go_enter Tryz.func38,Tryz.ntmps38
    go_wp2_with (first | (go_at_call 62;refine HRDY.out.mono ?_;rintro e w1 ⟨rfl,hf1⟩;have HF1:=Lib.hid hf1;clear hf1) | (go_at_call 75;refine (HW.out w1 HF1.out).mono ?_;rintro e w2 ⟨rfl,hf2⟩;have HF2:=Lib.hid (HF1.out.trans hf2);clear hf2) | go_in)
    go_ret2
    exact ⟨_,rfl,Outs.nil _ _,ROut.refl HRF.out HF2.out⟩
   subst h0
   rw [if_pos rfl]
   obtain ⟨q,hq⟩ : ∃ q : Nat,ref = (q : Int) + 1:=⟨(ref - 1).toNat,by omega⟩
   obtain ⟨e0,he0⟩ : ∃ e,s.l[q]? = some e:=⟨_,List.getElem?_eq_getElem (by omega)⟩
   have heo : evO s.l ref = e0:=by
    unfold evO
    rw [hq,show ((q : Int) + 1 - 1).toNat = q by omega,he0]
    rfl
   obtain ⟨ao3,cp3,hb3,hcp3,hlook⟩:=HRF.out.look
   obtain ⟨g,x,rfl,hc⟩:=hlook q e0 he0
   obtain ⟨ln,hln⟩ : ∃ n,s.l.length = n:=⟨_,rfl⟩
   rw [hln] at hb3 hcp3
   have hq0 : (0 : Int) ≤ (q : Int) ∧ (q : Int) < (ln : Int):=by omega
   have HLN:=Lib.hid hln
   have hw1 : wrap64 (ref - 1) = (q : Int):=by have:=HL.out;rw [wrap64];omega
   have FB : Hid (∀ w',Fr (fun _=>False) W w' → w'.cell? ⟨rb,4,none⟩ = some (.slice (some ⟨g,0,none⟩) ln cp3)):=Lib.hid (fun w' hf=>(hb3.fr hf id).cell 4)
   obtain ⟨⟨ek,ea,er,ei,el,en,ed⟩,hee⟩ : ∃ e',e0 = e':=⟨e0,rfl⟩
   subst hee
   obtain ⟨edl,hedl⟩ : ∃ m,ed.length = m:=⟨_,rfl⟩
   have FE : Hid (∀ w',Fr (fun _=>False) W w' → w'.cell? ⟨g,q * 7,none⟩ = some (.int .i64 ek) ∧ w'.cell? ⟨g,q * 7 + 1,none⟩ = some (.int .i64 ea) ∧ w'.cell? ⟨g,q * 7 + 2,none⟩ = some (.int .i64 er) ∧ w'.cell? ⟨g,q * 7 + 3,none⟩ = some (.int .i64 ei) ∧ w'.cell? ⟨g,q * 7 + 4,none⟩ = some (.int .i64 el) ∧ w'.cell? ⟨g,q * 7 + 5,none⟩ = some (.int .i64 en) ∧ w'.cell? ⟨g,q * 7 + 6,none⟩ = some (.slice x.ao edl x.cp)):=Lib.hid (fun w' hf=>⟨hc w' hf 0 _ rfl,hc w' hf 1 _ rfl,hc w' hf 2 _ rfl,hc w' hf 3 _ rfl,hc w' hf 4 _ rfl,hc w' hf 5 _ rfl,by rw [← hedl];exact hc w' hf 6 _ rfl⟩)
   rw [heo]
   clear hwk heo
   clear he0 hb3 hcp3 hlook hc hln hedl hin hq
   go_enter Tryz.func38,Tryz.ntmps38
   go_upto_region 8 with (first | (go_at_call 62;refine HRDY.out.mono ?_;rintro e w1 ⟨rfl,hf1⟩;have HF1:=Lib.hid hf1;clear hf1) | (go_at_call 75;refine (HW.out w1 HF1.out).mono ?_;rintro e w2 ⟨rfl,hf2⟩;have HF2:=Lib.hid (HF1.out.trans hf2);clear hf2) | (go_at_call 63;refine (rtwin_any S R w2 rb s (HRF.out.fr0 HF2.out)).mono ?_;rintro e w3 ⟨⟨tb,rfl⟩,hf3⟩;have HF3:=Lib.hid (HF2.out.trans hf3);clear hf3) | go_in)
   have x4:=FB.out _ HF3.out
   obtain ⟨c0,c1,c2,c3,c4,c5,c6⟩:=FE.out _ HF3.out
   go_upto_region 9 with (fail)
   have hEB:=Blk.new w3 62 #[.int .i64 ek,.int .i64 ea,.int .i64 er,.int .i64 ei,.int .i64 el,.int .i64 en,.slice x.ao edl x.cp]
   have hf5 : Fr (fun _=>False) w3 (w3.alloc (.cells #[.int .i64 ek,.int .i64 ea,.int .i64 er,.int .i64 ei,.int .i64 el,.int .i64 en,.slice x.ao edl x.cp] 62)):=Fr.alloc _ _ _
   obtain ⟨w5,hw5⟩ : ∃ w5,w3.alloc (.cells #[.int .i64 ek,.int .i64 ea,.int .i64 er,.int .i64 ei,.int .i64 el,.int .i64 en,.slice x.ao edl x.cp] 62) = w5:=⟨_,rfl⟩
   rw [hw5] at hEB hf5 ⊢
   obtain ⟨eb,heb⟩ : ∃ b,w3.heap.size = b:=⟨_,rfl⟩
   rw [heb] at hEB ⊢
   have HF5 : Hid (Fr (fun _=>False) W w5):=Lib.hid (HF3.out.trans hf5)
   have HX:=Lib.hid (HRF.out.fr0 HF5.out)
   have NEB : Hid (¬ R eb):=Lib.hid (fun e=>by have:=HRF.out.lt _ (HRF.out.rs _ e);have:=HF3.out.size;omega)
   have HEB:=Lib.hid hEB
   have d3:=hEB.cell 3
   simp only [lA,lB,lC] at d3
   clear hw5 heb hEB hf5 c0 c1 c2 c3 c4 c5 c6 x4
   go_upto_region 10 with (first | (go_at_call 26;refine (rput_any S R w5 rb s HX.out (by have:=HL.out;omega) 8 now ref ei 0 0 none 0 0 [] (RowB.nil _ _) (by simp) (by simp)).mono ?_;rintro e w6 ⟨rfl,S1,R1,hs1,hrf,hfr⟩;have HS1:=Lib.hid hs1;have HX1:=Lib.hid hrf;have HF6:=Lib.hid hfr;have d5:=(HEB.out.fr hfr NEB.out).cell 5;simp only [lA,lB,lC] at d5;clear hs1 hrf hfr d3) | go_in)
   go_wp2_with (first | (go_at_call 64;refine (rsettle_any S1 R1 _ rb _ (HX1.out.fr0 (Fr.alloc _ _ _)) (by rw [List.length_append];have:=HL.out;simp only [List.length_cons,List.length_nil];omega) _ _ 0).mono ?_;rintro e w7 ⟨rfl,rfl⟩) | go_in)
   go_ret2
   exact ⟨_,rfl,Outs.one (Nat.le_trans HF5.out.size HF6.out.size) ⟨4,0,ref,0,wrap64 (now + en),0,0,[]⟩ (.slice none 0 0) (RowB.nil _ _) (Blk.new _ _ _),(ROut.more (ROut.behind HF5.out ⟨S1,R1,HS1.out,HX1.out,HF6.out⟩) (Fr.alloc _ _ _)).core rfl⟩
set_option maxRecDepth 100000 in
set_option maxHeartbeats 2000000 in
theorem rworked58_any (S R : Nat → Prop) (W : World) (rb : Nat) (s : FSt) (h : RF S R W rb s) (hl : s.l.length ≤ 4000) (ref : Int) (good : Bool) (now : Int) (ao : Option Addr) (dl cp : Nat) (ds : List Value) (hd : RowB S W (.slice ao dl cp) ds) (hd1 : ∀ u ∈ ds,u.oneCell' = true)  :
 Calls Tryz.prog 40 #[.pointer (some ⟨rb,0,none⟩),.int .i64 ref,.slice ao dl cp,.bool good,.int .i64 now] W fun e W'=>RActX S R W rb (rtryC s dl now (endsC s (if good = true then 9 else 10) ref ds now)) e W':=by
 have HRDY:=Lib.hid (rready_any S R W rb s h ao dl cp now)
 have HRF:=Lib.hid h
 have HL:=Lib.hid hl
 have HR:=Lib.hid hd
 have HD1:=Lib.hid hd1
 unfold rtryC
 obtain ⟨er,her⟩ : ∃ x,readyE s dl now = x:=⟨_,rfl⟩
 rw [her] at HRDY ⊢
 by_cases h0 : er = 0
 rotate_left
 ·rw [if_neg h0]
  have p0 : (er != 0) = true:=by simp [h0]
  clear h h0 her hl hd hd1
  go_enter Tryz.func40,Tryz.ntmps40
  go_wp2_with (first | (go_at_call 62;refine HRDY.out.mono ?_;rintro e w1 ⟨rfl,hf1⟩) | go_in)
  go_ret2
  exact ⟨_,rfl,Outs.nil _ _,ROut.refl HRF.out hf1⟩
 subst h0
 rw [if_pos rfl]
 have HD:=Lib.hid (And.intro (ready_dl her HR.out) HD1.out)
 clear h her hl
 clear hd hd1
 obtain ⟨w0,b0,hwk⟩ : ∃ x y,worksR s.l ref = (x,y):=⟨_,_,rfl⟩
 have HW : Hid (∀ w,Fr (fun _=>False) W w → Calls Tryz.prog 75 #[.pointer (some ⟨rb,0,none⟩),.int .i64 ref] w fun e W'=>e = .returned (.tuple #[.int .i64 w0,.bool b0]) ∧ Fr (fun _=>False) w W'):=Lib.hid (fun w hf=>by
  have:=rworks_any S R w rb s (HRF.out.fr0 hf) ref
  rw [hwk] at this
  exact this)
 have HWK:=Lib.hid hwk
 unfold endsC
 rw [hwk]
 cases b0 with
 | false=>
   rw [if_neg (by rintro h;exact absurd h.1 (by simp))]
   clear hwk
   go_enter Tryz.func40,Tryz.ntmps40
   go_wp2_with (first | (go_at_call 62;refine HRDY.out.mono ?_;rintro e w1 ⟨rfl,hf1⟩;have HF1:=Lib.hid hf1;clear hf1) | (go_at_call 75;refine (HW.out w1 HF1.out).mono ?_;rintro e w2 ⟨rfl,hf2⟩;have HF2:=Lib.hid (HF1.out.trans hf2);clear hf2) | go_in)
   go_ret2
   exact ⟨_,rfl,Outs.nil _ _,ROut.refl HRF.out HF2.out⟩
 | true=>
   have hin:=worksR_in (by rw [hwk] : (worksR s.l ref).2 = true)
   by_cases h0 : w0 = 0
   ·rw [if_neg (by rintro h;exact h.2 h0)]
    subst h0
    clear hwk hin
    go_enter Tryz.func40,Tryz.ntmps40
    go_wp2_with (first | (go_at_call 62;refine HRDY.out.mono ?_;rintro e w1 ⟨rfl,hf1⟩;have HF1:=Lib.hid hf1;clear hf1) | (go_at_call 75;refine (HW.out w1 HF1.out).mono ?_;rintro e w2 ⟨rfl,hf2⟩;have HF2:=Lib.hid (HF1.out.trans hf2);clear hf2) | go_in)
    go_ret2
    exact ⟨_,rfl,Outs.nil _ _,ROut.refl HRF.out HF2.out⟩
   rw [if_pos ⟨rfl,h0⟩]
   have p1 : (w0 == 0) = false:=by simp [h0]
   clear h0
   obtain ⟨q,hq⟩ : ∃ q : Nat,ref = (q : Int) + 1:=⟨(ref - 1).toNat,by omega⟩
   obtain ⟨e0,he0⟩ : ∃ e,s.l[q]? = some e:=⟨_,List.getElem?_eq_getElem (by omega)⟩
   have heo : evO s.l ref = e0:=by
    unfold evO
    rw [hq,show ((q : Int) + 1 - 1).toNat = q by omega,he0]
    rfl
   obtain ⟨ao3,cp3,hb3,hcp3,hlook⟩:=HRF.out.look
   obtain ⟨g,x,rfl,hc⟩:=hlook q e0 he0
   obtain ⟨ln,hln⟩ : ∃ n,s.l.length = n:=⟨_,rfl⟩
   rw [hln] at hb3 hcp3
   have hq0 : (0 : Int) ≤ (q : Int) ∧ (q : Int) < (ln : Int):=by omega
   have HLN:=Lib.hid hln
   have hw1 : wrap64 (ref - 1) = (q : Int):=by have:=HL.out;rw [wrap64];omega
   have FB : Hid (∀ w',Fr (fun _=>False) W w' → w'.cell? ⟨rb,4,none⟩ = some (.slice (some ⟨g,0,none⟩) ln cp3)):=Lib.hid (fun w' hf=>(hb3.fr hf id).cell 4)
   obtain ⟨⟨ek,ea,er,ei,el,en,ed⟩,hee⟩ : ∃ e',e0 = e':=⟨e0,rfl⟩
   subst hee
   obtain ⟨edl,hedl⟩ : ∃ m,ed.length = m:=⟨_,rfl⟩
   have FE : Hid (∀ w',Fr (fun _=>False) W w' → w'.cell? ⟨g,q * 7,none⟩ = some (.int .i64 ek) ∧ w'.cell? ⟨g,q * 7 + 1,none⟩ = some (.int .i64 ea) ∧ w'.cell? ⟨g,q * 7 + 2,none⟩ = some (.int .i64 er) ∧ w'.cell? ⟨g,q * 7 + 3,none⟩ = some (.int .i64 ei) ∧ w'.cell? ⟨g,q * 7 + 4,none⟩ = some (.int .i64 el) ∧ w'.cell? ⟨g,q * 7 + 5,none⟩ = some (.int .i64 en) ∧ w'.cell? ⟨g,q * 7 + 6,none⟩ = some (.slice x.ao edl x.cp)):=Lib.hid (fun w' hf=>⟨hc w' hf 0 _ rfl,hc w' hf 1 _ rfl,hc w' hf 2 _ rfl,hc w' hf 3 _ rfl,hc w' hf 4 _ rfl,hc w' hf 5 _ rfl,by rw [← hedl];exact hc w' hf 6 _ rfl⟩)
   rw [heo]
   clear hwk heo
   clear he0 hb3 hcp3 hlook hc hln hedl hin hq
   cases good with
   | true=>
     go_enter Tryz.func40,Tryz.ntmps40
     go_upto_region 11 with (first | (go_at_call 62;refine HRDY.out.mono ?_;rintro e w1 ⟨rfl,hf1⟩;have HF1:=Lib.hid hf1;clear hf1) | (go_at_call 75;refine (HW.out w1 HF1.out).mono ?_;rintro e w2 ⟨rfl,hf2⟩;have HF2:=Lib.hid (HF1.out.trans hf2);clear hf2) | (go_at_call 63;refine (rtwin_any S R w2 rb s (HRF.out.fr0 HF2.out)).mono ?_;rintro e w3 ⟨⟨tb,rfl⟩,hf3⟩;have HF3:=Lib.hid (HF2.out.trans hf3);clear hf3) | go_in)
     have x4:=FB.out _ HF3.out
     obtain ⟨_,_,_,c3,_,_,_⟩:=FE.out _ HF3.out
     have HX:=Lib.hid (HRF.out.fr0 HF3.out)
     have HR2:=Lib.hid ((HR.out.to (S':=fun _=>False) fun k _ e=>e.elim).fr HF3.out)
     go_wp2_with (first | (go_at_call 26;refine (rput_any S R w3 rb s HX.out (by have:=HL.out;omega) 9 now w0 ei 0 0 ao dl cp ds HR2.out HD.out.1 HD.out.2).mono ?_;rintro e w3' ⟨rfl,S1,R1,hs1,hrf,hfr⟩;have HS1:=Lib.hid hs1;have HX1:=Lib.hid hrf;have HF4:=Lib.hid hfr;clear hs1 hrf hfr x4 c3) | (go_at_call 65;refine (rwake_any S1 R1 w3' rb _ HX1.out (by rw [List.length_append];have:=HL.out;simp only [List.length_cons,List.length_nil];omega) now).mono ?_;rintro e w4 ⟨v,rfl,ho,S2,R2,hs2,hrf,hfr⟩;have HO:=Lib.hid ho;have HX2:=Lib.hid hrf;have HS2:=Lib.hid hs2;have HF5:=Lib.hid hfr;clear ho hs2 hrf hfr) | (go_at_call 64;refine (rsettle_any S2 R2 w4 rb _ HX2.out (Nat.le_trans (rwakeS_len _ _) (by simp only [List.length_append,List.length_cons,List.length_nil];have:=HL.out;omega)) _ v 0).mono ?_;rintro e w5 ⟨rfl,rfl⟩) | go_in)
     go_ret2
     obtain ⟨e1,e2⟩:=rwake_core (s1:={ s with l:=s.l ++ [⟨9,now,w0,ei,0,0,ds⟩] }) (s':=endedS s ref 9 now w0 ei ds) rfl now
     exact ⟨v,rfl,by show Outs _ _ _ (wakeO (endedS s ref 9 now w0 ei ds) now);rw [e2];exact HO.out.weak (Nat.le_trans HF3.out.size HF4.out.size),(ROut.behind HF3.out (ROut.then HS1.out HF4.out ⟨S2,R2,HS2.out,HX2.out,HF5.out⟩)).core e1⟩
   | false=>
     go_enter Tryz.func40,Tryz.ntmps40
     go_upto_region 11 with (first | (go_at_call 62;refine HRDY.out.mono ?_;rintro e w1 ⟨rfl,hf1⟩;have HF1:=Lib.hid hf1;clear hf1) | (go_at_call 75;refine (HW.out w1 HF1.out).mono ?_;rintro e w2 ⟨rfl,hf2⟩;have HF2:=Lib.hid (HF1.out.trans hf2);clear hf2) | (go_at_call 63;refine (rtwin_any S R w2 rb s (HRF.out.fr0 HF2.out)).mono ?_;rintro e w3 ⟨⟨tb,rfl⟩,hf3⟩;have HF3:=Lib.hid (HF2.out.trans hf3);clear hf3) | go_in)
     have x4:=FB.out _ HF3.out
     obtain ⟨_,_,_,c3,_,_,_⟩:=FE.out _ HF3.out
     have HX:=Lib.hid (HRF.out.fr0 HF3.out)
     have HR2:=Lib.hid ((HR.out.to (S':=fun _=>False) fun k _ e=>e.elim).fr HF3.out)
     go_wp2_with (first | (go_at_call 26;refine (rput_any S R w3 rb s HX.out (by have:=HL.out;omega) 10 now w0 ei 0 0 ao dl cp ds HR2.out HD.out.1 HD.out.2).mono ?_;rintro e w3' ⟨rfl,S1,R1,hs1,hrf,hfr⟩;have HS1:=Lib.hid hs1;have HX1:=Lib.hid hrf;have HF4:=Lib.hid hfr;clear hs1 hrf hfr x4 c3) | (go_at_call 65;refine (rwake_any S1 R1 w3' rb _ HX1.out (by rw [List.length_append];have:=HL.out;simp only [List.length_cons,List.length_nil];omega) now).mono ?_;rintro e w4 ⟨v,rfl,ho,S2,R2,hs2,hrf,hfr⟩;have HO:=Lib.hid ho;have HX2:=Lib.hid hrf;have HS2:=Lib.hid hs2;have HF5:=Lib.hid hfr;clear ho hs2 hrf hfr) | (go_at_call 64;refine (rsettle_any S2 R2 w4 rb _ HX2.out (Nat.le_trans (rwakeS_len _ _) (by simp only [List.length_append,List.length_cons,List.length_nil];have:=HL.out;omega)) _ v 0).mono ?_;rintro e w5 ⟨rfl,rfl⟩) | go_in)
     go_ret2
     obtain ⟨e1,e2⟩:=rwake_core (s1:={ s with l:=s.l ++ [⟨10,now,w0,ei,0,0,ds⟩] }) (s':=endedS s ref 10 now w0 ei ds) rfl now
     exact ⟨v,rfl,by show Outs _ _ _ (wakeO (endedS s ref 10 now w0 ei ds) now);rw [e2];exact HO.out.weak (Nat.le_trans HF3.out.size HF4.out.size),(ROut.behind HF3.out (ROut.then HS1.out HF4.out ⟨S2,R2,HS2.out,HX2.out,HF5.out⟩)).core e1⟩
set_option maxRecDepth 100000 in
set_option maxHeartbeats 2000000 in
theorem rfire3 (S R : Nat → Prop) (W : World) (rb : Nat) (s : FSt) (h : RF S R W rb s) (hl : s.l.length ≤ 4000) (ref turn now : Int)  :
 Calls Tryz.prog 42 #[.pointer (some ⟨rb,0,none⟩),.int .i64 3,.int .i64 ref,.int .i64 turn,.int .i64 now] W fun e W'=>RActX S R W rb (rtryC s 0 now (missedC s ref turn now)) e W':=by
 have HRDY:=Lib.hid (rready_any S R W rb s h none 0 0 now)
 have HRF:=Lib.hid h
 have HL:=Lib.hid hl
 unfold rtryC
 obtain ⟨er,her⟩ : ∃ x,readyE s 0 now = x:=⟨_,rfl⟩
 rw [her] at HRDY ⊢
 by_cases h0 : er = 0
 rotate_left
 ·rw [if_neg h0]
  have p0 : (er != 0) = true:=by simp [h0]
  clear h h0 her hl 
  go_enter Tryz.func42,Tryz.ntmps42
  go_wp2_with (first | (go_at_call 62;refine HRDY.out.mono ?_;rintro e w1 ⟨rfl,hf1⟩) | go_in)
  go_ret2
  exact ⟨_,rfl,Outs.nil _ _,ROut.refl HRF.out hf1⟩
 subst h0
 rw [if_pos rfl]
 skip
 clear h her hl
 obtain ⟨w0,b0,hwk⟩ : ∃ x y,worksR s.l ref = (x,y):=⟨_,_,rfl⟩
 have HW : Hid (∀ w,Fr (fun _=>False) W w → Calls Tryz.prog 75 #[.pointer (some ⟨rb,0,none⟩),.int .i64 ref] w fun e W'=>e = .returned (.tuple #[.int .i64 w0,.bool b0]) ∧ Fr (fun _=>False) w W'):=Lib.hid (fun w hf=>by
  have:=rworks_any S R w rb s (HRF.out.fr0 hf) ref
  rw [hwk] at this
  exact this)
 have HWK:=Lib.hid hwk
 obtain ⟨v0,hb⟩:=HRF.out.blk
 unfold missedC
 obtain ⟨ta,hta⟩ : ∃ x,s.task = x:=⟨_,rfl⟩
 obtain ⟨aa,haa⟩ : ∃ x,s.at_ = x:=⟨_,rfl⟩
 obtain ⟨tu,htu⟩ : ∃ x,s.turn = x:=⟨_,rfl⟩
 have FX : Hid (∀ w',Fr (fun _=>False) W w' → w'.cell? ⟨rb,5,none⟩ = some (.int .i64 ta) ∧ w'.cell? ⟨rb,6,none⟩ = some (.int .i64 aa) ∧ w'.cell? ⟨rb,8,none⟩ = some (.int .i64 tu) ∧ w'.cell? ⟨rb,7,none⟩ = some (.int .i64 s.bg)):=Lib.hid (fun w' hf=>by
  have h:=hb.fr hf id
  have h5:=h.cell 5
  have h6:=h.cell 6
  have h7:=h.cell 7
  have h8:=h.cell 8
  simp only [rcells,lA,lB,lC] at h5 h6 h7 h8
  rw [hta] at h5
  rw [haa] at h6
  rw [htu] at h8
  exact ⟨h5,h6,h8,h7⟩)
 rw [hta,haa]
 have HTT:=Lib.hid htu
 clear hb hta haa hwk
 by_cases h1 : ta = 2
 rotate_left
 ·rw [if_neg (fun e=>h1 e.1)]
  have p1 : (ta == 2) = false:=by simp [h1]
  clear h1 htu
  go_enter Tryz.func42,Tryz.ntmps42
  go_wp2_with (first | (go_at_call 62;refine HRDY.out.mono ?_;rintro e w1 ⟨rfl,hf1⟩;have HF1:=Lib.hid hf1;clear hf1) | (go_at_call 63;refine (rtwin_any S R w1 rb s (HRF.out.fr0 HF1.out)).mono ?_;rintro e w2 ⟨⟨tb,rfl⟩,hf2⟩;have HF2:=Lib.hid (HF1.out.trans hf2);clear hf2) | (go_at_call 75;refine (HW.out w2 HF2.out).mono ?_;rintro e w3 ⟨rfl,hf3⟩;have HF3:=Lib.hid (HF2.out.trans hf3);clear hf3;obtain ⟨x5,x6,x8,x7⟩:=FX.out _ HF3.out) | go_in)
  go_ret2
  exact ⟨_,rfl,Outs.nil _ _,ROut.refl HRF.out HF3.out⟩
 subst h1
 by_cases h2 : aa = ref
 rotate_left
 ·rw [if_neg (fun e=>h2 e.2.1)]
  have p2 : (aa == ref) = false:=by simp [h2]
  clear h2 htu
  go_enter Tryz.func42,Tryz.ntmps42
  go_wp2_with (first | (go_at_call 62;refine HRDY.out.mono ?_;rintro e w1 ⟨rfl,hf1⟩;have HF1:=Lib.hid hf1;clear hf1) | (go_at_call 63;refine (rtwin_any S R w1 rb s (HRF.out.fr0 HF1.out)).mono ?_;rintro e w2 ⟨⟨tb,rfl⟩,hf2⟩;have HF2:=Lib.hid (HF1.out.trans hf2);clear hf2) | (go_at_call 75;refine (HW.out w2 HF2.out).mono ?_;rintro e w3 ⟨rfl,hf3⟩;have HF3:=Lib.hid (HF2.out.trans hf3);clear hf3;obtain ⟨x5,x6,x8,x7⟩:=FX.out _ HF3.out) | go_in)
  go_ret2
  exact ⟨_,rfl,Outs.nil _ _,ROut.refl HRF.out HF3.out⟩
 have p2 : (aa == ref) = true:=by simp [h2]
 by_cases h3 : tu = turn
 rotate_left
 ·rw [if_neg (fun e=>h3 (htu ▸ e.2.2))]
  have p3 : (tu == turn) = false:=by simp [h3]
  clear h2 h3 htu
  go_enter Tryz.func42,Tryz.ntmps42
  go_wp2_with (first | (go_at_call 62;refine HRDY.out.mono ?_;rintro e w1 ⟨rfl,hf1⟩;have HF1:=Lib.hid hf1;clear hf1) | (go_at_call 63;refine (rtwin_any S R w1 rb s (HRF.out.fr0 HF1.out)).mono ?_;rintro e w2 ⟨⟨tb,rfl⟩,hf2⟩;have HF2:=Lib.hid (HF1.out.trans hf2);clear hf2) | (go_at_call 75;refine (HW.out w2 HF2.out).mono ?_;rintro e w3 ⟨rfl,hf3⟩;have HF3:=Lib.hid (HF2.out.trans hf3);clear hf3;obtain ⟨x5,x6,x8,x7⟩:=FX.out _ HF3.out) | go_in)
  go_ret2
  exact ⟨_,rfl,Outs.nil _ _,ROut.refl HRF.out HF3.out⟩
 have p3 : (tu == turn) = true:=by simp [h3]
 rw [if_pos ⟨rfl,h2,htu.trans h3⟩]
 clear h2 h3 htu
 go_enter Tryz.func42,Tryz.ntmps42
 go_upto_region 9 with (first | (go_at_call 62;refine HRDY.out.mono ?_;rintro e w1 ⟨rfl,hf1⟩;have HF1:=Lib.hid hf1;clear hf1) | (go_at_call 63;refine (rtwin_any S R w1 rb s (HRF.out.fr0 HF1.out)).mono ?_;rintro e w2 ⟨⟨tb,rfl⟩,hf2⟩;have HF2:=Lib.hid (HF1.out.trans hf2);clear hf2) | (go_at_call 75;refine (HW.out w2 HF2.out).mono ?_;rintro e w3 ⟨rfl,hf3⟩;have HF3:=Lib.hid (HF2.out.trans hf3);clear hf3;obtain ⟨x5,x6,x8,x7⟩:=FX.out _ HF3.out) | go_in)
 have HX:=Lib.hid (HRF.out.fr0 HF3.out)
 clear x5 x6 x8
 go_upto_region 10 with (first | (go_at_call 26;refine (rput_any S R w3 rb s HX.out (by have:=HL.out;omega) 5 now s.bg 0 0 0 none 0 0 [] (RowB.nil _ _) (by simp) (by simp)).mono ?_;rintro e w4 ⟨rfl,S1,R1,hs1,hrf,hfr⟩;have HS1:=Lib.hid hs1;have HX1:=Lib.hid hrf;have HF4:=Lib.hid hfr;clear hs1 hrf hfr x7) | go_in)
 obtain ⟨v4,hb4⟩:=HX1.out.blk
 have x8:=hb4.cell 8
 have xz8:=hb4.frozen 8
 simp only [rcells,lA,lB,lC] at x8
 clear hb4
 go_upto_region 11 with (fail)
 have HS1W : Hid (Same2 W S R S1 R1):=Lib.hid (fun k hk=>HS1.out k (Nat.lt_of_lt_of_le hk HF3.out.size))
 have HF4W : Hid (Fr R W w4):=Lib.hid ((HF3.out.mono fun _ e=>e.elim).trans HF4.out)
 have hf5 : Fr (fun k=>k = rb) w4 (w4.setCell ⟨rb,8,none⟩ (.int .i64 (wrap64 (s.turn + 1)))):=Fr.setCell (S:=fun k=>k = rb) w4 ⟨rb,8,none⟩ _ rfl
 have hx5:=HX1.out.cells (s':={ s with turn:=wrap64 (s.turn + 1),l:=s.l ++ [⟨5,now,s.bg,0,0,0,[]⟩] }) hf5 rfl (fun v hb=>by
  have:=hb.set 8 (.int .i64 (wrap64 (s.turn + 1)))
  simpa only [rcells,lG,lH,lI] using this)
 obtain ⟨w5,hw5⟩ : ∃ w,w4.setCell ⟨rb,8,none⟩ (.int .i64 (wrap64 (s.turn + 1))) = w:=⟨_,rfl⟩
 rw [hw5] at hf5 hx5 ⊢
 have HX5:=Lib.hid hx5
 have HF5 : Hid (Fr R W w5):=Lib.hid (Fr.step HF4W.out hf5 (fun k hk e=>(HS1W.out k hk).2.1 (e ▸ HX1.out.r)))
 clear hw5 hf5 hx5 x8 xz8
 go_wp2_with (first | (go_at_call 27;refine (rsched_any S1 R1 w5 rb _ HX5.out (by show (s.l ++ _).length ≤ _;rw [List.length_append];have:=HL.out;simp only [List.length_cons,List.length_nil];omega) now).mono ?_;rintro e w6 ⟨v,rfl,ho,S2,R2,hs2,hrf,hfr⟩;have HO:=Lib.hid ho;have HX2:=Lib.hid hrf;have HS2:=Lib.hid hs2;have HF6:=Lib.hid hfr;clear ho hs2 hrf hfr) | (go_at_call 64;refine (rsettle_any S2 R2 w6 rb _ HX2.out (by show (sched _ now).l.length ≤ _;unfold sched;simp only [List.length_append,List.length_cons,List.length_nil];have:=HL.out;omega) _ v 0).mono ?_;rintro e w5 ⟨rfl,rfl⟩) | go_in)
 go_ret2
 have e1 : ((s.l ++ [(⟨5,now,s.bg,0,0,0,[]⟩ : Rv)]).length : Int) + 1 = (s.l.length : Int) + 2:=by rw [List.length_append];simp only [List.length_cons,List.length_nil];omega
 have HO':=HO.out
 rw [e1] at HO'
 exact ⟨v,rfl,HO'.weak HF5.out.size,(ROut.then HS1W.out HF5.out ⟨S2,R2,HS2.out,HX2.out,HF6.out⟩).core rfl⟩
set_option maxRecDepth 100000 in
set_option maxHeartbeats 2000000 in
theorem rfire4 (S R : Nat → Prop) (W : World) (rb : Nat) (s : FSt) (h : RF S R W rb s) (hl : s.l.length ≤ 4000) (ref turn now : Int)  :
 Calls Tryz.prog 42 #[.pointer (some ⟨rb,0,none⟩),.int .i64 4,.int .i64 ref,.int .i64 turn,.int .i64 now] W fun e W'=>RActX S R W rb (rtryC s 0 now (lapsedC s ref turn now)) e W':=by
 have HRDY:=Lib.hid (rready_any S R W rb s h none 0 0 now)
 have HRF:=Lib.hid h
 have HL:=Lib.hid hl
 unfold rtryC
 obtain ⟨er,her⟩ : ∃ x,readyE s 0 now = x:=⟨_,rfl⟩
 rw [her] at HRDY ⊢
 by_cases h0 : er = 0
 rotate_left
 ·rw [if_neg h0]
  have p0 : (er != 0) = true:=by simp [h0]
  clear h h0 her hl 
  go_enter Tryz.func42,Tryz.ntmps42
  go_wp2_with (first | (go_at_call 62;refine HRDY.out.mono ?_;rintro e w1 ⟨rfl,hf1⟩) | go_in)
  go_ret2
  exact ⟨_,rfl,Outs.nil _ _,ROut.refl HRF.out hf1⟩
 subst h0
 rw [if_pos rfl]
 skip
 clear h her hl
 obtain ⟨w0,b0,hwk⟩ : ∃ x y,worksR s.l ref = (x,y):=⟨_,_,rfl⟩
 have HW : Hid (∀ w,Fr (fun _=>False) W w → Calls Tryz.prog 75 #[.pointer (some ⟨rb,0,none⟩),.int .i64 ref] w fun e W'=>e = .returned (.tuple #[.int .i64 w0,.bool b0]) ∧ Fr (fun _=>False) w W'):=Lib.hid (fun w hf=>by
  have:=rworks_any S R w rb s (HRF.out.fr0 hf) ref
  rw [hwk] at this
  exact this)
 have HWK:=Lib.hid hwk
 unfold lapsedC endsC
 rw [hwk]
 by_cases ht : turn = 0
 rotate_left
 ·rw [if_neg ht]
  have p1 : (turn == 0) = false:=by simp [ht]
  clear ht hwk
  go_enter Tryz.func42,Tryz.ntmps42
  go_wp2_with (first | (go_at_call 62;refine HRDY.out.mono ?_;rintro e w1 ⟨rfl,hf1⟩;have HF1:=Lib.hid hf1;clear hf1) | (go_at_call 63;refine (rtwin_any S R w1 rb s (HRF.out.fr0 HF1.out)).mono ?_;rintro e w2 ⟨⟨tb,rfl⟩,hf2⟩;have HF2:=Lib.hid (HF1.out.trans hf2);clear hf2) | (go_at_call 75;refine (HW.out w2 HF2.out).mono ?_;rintro e w3 ⟨rfl,hf3⟩;have HF3:=Lib.hid (HF2.out.trans hf3);clear hf3) | go_in)
  go_ret2
  exact ⟨_,rfl,Outs.nil _ _,ROut.refl HRF.out HF3.out⟩
 subst ht
 rw [if_pos rfl]
 cases b0 with
 | false=>
   rw [if_neg (by rintro h;exact absurd h.1 (by simp))]
   clear hwk
   go_enter Tryz.func42,Tryz.ntmps42
   go_wp2_with (first | (go_at_call 62;refine HRDY.out.mono ?_;rintro e w1 ⟨rfl,hf1⟩;have HF1:=Lib.hid hf1;clear hf1) | (go_at_call 63;refine (rtwin_any S R w1 rb s (HRF.out.fr0 HF1.out)).mono ?_;rintro e w2 ⟨⟨tb,rfl⟩,hf2⟩;have HF2:=Lib.hid (HF1.out.trans hf2);clear hf2) | (go_at_call 75;refine (HW.out w2 HF2.out).mono ?_;rintro e w3 ⟨rfl,hf3⟩;have HF3:=Lib.hid (HF2.out.trans hf3);clear hf3) | go_in)
   go_ret2
   exact ⟨_,rfl,Outs.nil _ _,ROut.refl HRF.out HF3.out⟩
 | true=>
   have hin:=worksR_in (by rw [hwk] : (worksR s.l ref).2 = true)
   by_cases h0 : w0 = 0
   ·rw [if_neg (by rintro h;exact h.2 h0)]
    subst h0
    clear hwk hin
    go_enter Tryz.func42,Tryz.ntmps42
    go_wp2_with (first | (go_at_call 62;refine HRDY.out.mono ?_;rintro e w1 ⟨rfl,hf1⟩;have HF1:=Lib.hid hf1;clear hf1) | (go_at_call 63;refine (rtwin_any S R w1 rb s (HRF.out.fr0 HF1.out)).mono ?_;rintro e w2 ⟨⟨tb,rfl⟩,hf2⟩;have HF2:=Lib.hid (HF1.out.trans hf2);clear hf2) | (go_at_call 75;refine (HW.out w2 HF2.out).mono ?_;rintro e w3 ⟨rfl,hf3⟩;have HF3:=Lib.hid (HF2.out.trans hf3);clear hf3) | go_in)
    go_ret2
    exact ⟨_,rfl,Outs.nil _ _,ROut.refl HRF.out HF3.out⟩
   rw [if_pos ⟨rfl,h0⟩]
   have p1 : (w0 != 0) = true:=by simp [h0]
   clear h0
   obtain ⟨q,hq⟩ : ∃ q : Nat,ref = (q : Int) + 1:=⟨(ref - 1).toNat,by omega⟩
   obtain ⟨e0,he0⟩ : ∃ e,s.l[q]? = some e:=⟨_,List.getElem?_eq_getElem (by omega)⟩
   have heo : evO s.l ref = e0:=by
    unfold evO
    rw [hq,show ((q : Int) + 1 - 1).toNat = q by omega,he0]
    rfl
   obtain ⟨ao3,cp3,hb3,hcp3,hlook⟩:=HRF.out.look
   obtain ⟨g,x,rfl,hc⟩:=hlook q e0 he0
   obtain ⟨ln,hln⟩ : ∃ n,s.l.length = n:=⟨_,rfl⟩
   rw [hln] at hb3 hcp3
   have hq0 : (0 : Int) ≤ (q : Int) ∧ (q : Int) < (ln : Int):=by omega
   have HLN:=Lib.hid hln
   have hw1 : wrap64 (ref - 1) = (q : Int):=by have:=HL.out;rw [wrap64];omega
   have FB : Hid (∀ w',Fr (fun _=>False) W w' → w'.cell? ⟨rb,4,none⟩ = some (.slice (some ⟨g,0,none⟩) ln cp3)):=Lib.hid (fun w' hf=>(hb3.fr hf id).cell 4)
   obtain ⟨⟨ek,ea,er,ei,el,en,ed⟩,hee⟩ : ∃ e',e0 = e':=⟨e0,rfl⟩
   subst hee
   obtain ⟨edl,hedl⟩ : ∃ m,ed.length = m:=⟨_,rfl⟩
   have FE : Hid (∀ w',Fr (fun _=>False) W w' → w'.cell? ⟨g,q * 7,none⟩ = some (.int .i64 ek) ∧ w'.cell? ⟨g,q * 7 + 1,none⟩ = some (.int .i64 ea) ∧ w'.cell? ⟨g,q * 7 + 2,none⟩ = some (.int .i64 er) ∧ w'.cell? ⟨g,q * 7 + 3,none⟩ = some (.int .i64 ei) ∧ w'.cell? ⟨g,q * 7 + 4,none⟩ = some (.int .i64 el) ∧ w'.cell? ⟨g,q * 7 + 5,none⟩ = some (.int .i64 en) ∧ w'.cell? ⟨g,q * 7 + 6,none⟩ = some (.slice x.ao edl x.cp)):=Lib.hid (fun w' hf=>⟨hc w' hf 0 _ rfl,hc w' hf 1 _ rfl,hc w' hf 2 _ rfl,hc w' hf 3 _ rfl,hc w' hf 4 _ rfl,hc w' hf 5 _ rfl,by rw [← hedl];exact hc w' hf 6 _ rfl⟩)
   rw [heo]
   clear hwk heo
   clear he0 hb3 hcp3 hlook hc hln hedl hin hq
   go_enter Tryz.func42,Tryz.ntmps42
   go_upto_region 13 with (first | (go_at_call 62;refine HRDY.out.mono ?_;rintro e w1 ⟨rfl,hf1⟩;have HF1:=Lib.hid hf1;clear hf1) | (go_at_call 63;refine (rtwin_any S R w1 rb s (HRF.out.fr0 HF1.out)).mono ?_;rintro e w2 ⟨⟨tb,rfl⟩,hf2⟩;have HF2:=Lib.hid (HF1.out.trans hf2);clear hf2) | (go_at_call 75;refine (HW.out w2 HF2.out).mono ?_;rintro e w3 ⟨rfl,hf3⟩;have HF3:=Lib.hid (HF2.out.trans hf3);clear hf3) | go_in)
   have x4:=FB.out _ HF3.out
   obtain ⟨_,_,_,c3,_,_,_⟩:=FE.out _ HF3.out
   have HX:=Lib.hid (HRF.out.fr0 HF3.out)
   go_wp2_with (first | (go_at_call 26;refine (rput_any S R w3 rb s HX.out (by have:=HL.out;omega) 11 now w0 ei 0 0 none 0 0 [] (RowB.nil _ _) (by simp) (by simp)).mono ?_;rintro e w3' ⟨rfl,S1,R1,hs1,hrf,hfr⟩;have HS1:=Lib.hid hs1;have HX1:=Lib.hid hrf;have HF4:=Lib.hid hfr;clear hs1 hrf hfr x4 c3) | (go_at_call 65;refine (rwake_any S1 R1 w3' rb _ HX1.out (by rw [List.length_append];have:=HL.out;simp only [List.length_cons,List.length_nil];omega) now).mono ?_;rintro e w4 ⟨v,rfl,ho,S2,R2,hs2,hrf,hfr⟩;have HO:=Lib.hid ho;have HX2:=Lib.hid hrf;have HS2:=Lib.hid hs2;have HF5:=Lib.hid hfr;clear ho hs2 hrf hfr) | (go_at_call 64;refine (rsettle_any S2 R2 w4 rb _ HX2.out (Nat.le_trans (rwakeS_len _ _) (by simp only [List.length_append,List.length_cons,List.length_nil];have:=HL.out;omega)) _ v 0).mono ?_;rintro e w5 ⟨rfl,rfl⟩) | go_in)
   go_ret2
   obtain ⟨e1,e2⟩:=rwake_core (s1:={ s with l:=s.l ++ [⟨11,now,w0,ei,0,0,[]⟩] }) (s':=endedS s ref 11 now w0 ei []) rfl now
   exact ⟨v,rfl,by show Outs _ _ _ (wakeO (endedS s ref 11 now w0 ei []) now);rw [e2];exact HO.out.weak (Nat.le_trans HF3.out.size HF4.out.size),(ROut.behind HF3.out (ROut.then HS1.out HF4.out ⟨S2,R2,HS2.out,HX2.out,HF5.out⟩)).core e1⟩
set_option maxRecDepth 100000 in
set_option maxHeartbeats 2000000 in
theorem rfire5 (S R : Nat → Prop) (W : World) (rb : Nat) (s : FSt) (h : RF S R W rb s) (hl : s.l.length ≤ 4000) (ref turn now : Int)  :
 Calls Tryz.prog 42 #[.pointer (some ⟨rb,0,none⟩),.int .i64 5,.int .i64 ref,.int .i64 turn,.int .i64 now] W fun e W'=>RActX S R W rb (rtryC s 0 now (firedC s ref turn now)) e W':=by
 have HRDY:=Lib.hid (rready_any S R W rb s h none 0 0 now)
 have HRF:=Lib.hid h
 have HL:=Lib.hid hl
 unfold rtryC
 obtain ⟨er,her⟩ : ∃ x,readyE s 0 now = x:=⟨_,rfl⟩
 rw [her] at HRDY ⊢
 by_cases h0 : er = 0
 rotate_left
 ·rw [if_neg h0]
  have p0 : (er != 0) = true:=by simp [h0]
  clear h h0 her hl 
  go_enter Tryz.func42,Tryz.ntmps42
  go_wp2_with (first | (go_at_call 62;refine HRDY.out.mono ?_;rintro e w1 ⟨rfl,hf1⟩) | go_in)
  go_ret2
  exact ⟨_,rfl,Outs.nil _ _,ROut.refl HRF.out hf1⟩
 subst h0
 rw [if_pos rfl]
 skip
 clear h her hl
 obtain ⟨w0,b0,hwk⟩ : ∃ x y,worksR s.l ref = (x,y):=⟨_,_,rfl⟩
 have HW : Hid (∀ w,Fr (fun _=>False) W w → Calls Tryz.prog 75 #[.pointer (some ⟨rb,0,none⟩),.int .i64 ref] w fun e W'=>e = .returned (.tuple #[.int .i64 w0,.bool b0]) ∧ Fr (fun _=>False) w W'):=Lib.hid (fun w hf=>by
  have:=rworks_any S R w rb s (HRF.out.fr0 hf) ref
  rw [hwk] at this
  exact this)
 have HWK:=Lib.hid hwk
 obtain ⟨tm,htm⟩ : ∃ x,timerR s.l ref = x:=⟨_,rfl⟩
 have HTM : Hid (∀ w,Fr (fun _=>False) W w → Calls Tryz.prog 81 #[.pointer (some ⟨rb,0,none⟩),.int .i64 ref] w fun e W'=>e = .returned (.bool tm) ∧ Fr (fun _=>False) w W'):=Lib.hid (fun w hf=>by
  refine (rtimer_any S R w rb s (HRF.out.fr0 hf) ref).mono ?_
  rintro e W' ⟨rfl,rfl⟩
  exact ⟨by rw [htm],Fr.refl _ _⟩)
 unfold firedC
 rw [htm]
 clear hwk
 by_cases ht : turn = 0
 rotate_left
 ·rw [if_neg (fun e=>ht e.1)]
  have p1 : (turn == 0) = false:=by simp [ht]
  clear ht htm
  go_enter Tryz.func42,Tryz.ntmps42
  go_wp2_with (first | (go_at_call 62;refine HRDY.out.mono ?_;rintro e w1 ⟨rfl,hf1⟩;have HF1:=Lib.hid hf1;clear hf1) | (go_at_call 63;refine (rtwin_any S R w1 rb s (HRF.out.fr0 HF1.out)).mono ?_;rintro e w2 ⟨⟨tb,rfl⟩,hf2⟩;have HF2:=Lib.hid (HF1.out.trans hf2);clear hf2) | (go_at_call 75;refine (HW.out w2 HF2.out).mono ?_;rintro e w3 ⟨rfl,hf3⟩;have HF3:=Lib.hid (HF2.out.trans hf3);clear hf3) | go_in)
  go_ret2
  exact ⟨_,rfl,Outs.nil _ _,ROut.refl HRF.out HF3.out⟩
 subst ht
 cases tm with
 | false=>
   rw [if_neg (by rintro h;exact absurd h.2 (by simp))]
   clear htm
   go_enter Tryz.func42,Tryz.ntmps42
   go_wp2_with (first | (go_at_call 62;refine HRDY.out.mono ?_;rintro e w1 ⟨rfl,hf1⟩;have HF1:=Lib.hid hf1;clear hf1) | (go_at_call 63;refine (rtwin_any S R w1 rb s (HRF.out.fr0 HF1.out)).mono ?_;rintro e w2 ⟨⟨tb,rfl⟩,hf2⟩;have HF2:=Lib.hid (HF1.out.trans hf2);clear hf2) | (go_at_call 75;refine (HW.out w2 HF2.out).mono ?_;rintro e w3 ⟨rfl,hf3⟩;have HF3:=Lib.hid (HF2.out.trans hf3);clear hf3) | (go_at_call 81;refine (HTM.out w3 HF3.out).mono ?_;rintro e w8 ⟨rfl,hf8⟩;have HF8:=Lib.hid (HF3.out.trans hf8);clear hf8) | go_in)
   go_ret2
   exact ⟨_,rfl,Outs.nil _ _,ROut.refl HRF.out HF8.out⟩
 | true=>
   have hin:=timerR_in htm
   rw [if_pos ⟨rfl,rfl⟩]
   obtain ⟨q,hq⟩ : ∃ q : Nat,ref = (q : Int) + 1:=⟨(ref - 1).toNat,by omega⟩
   obtain ⟨e0,he0⟩ : ∃ e,s.l[q]? = some e:=⟨_,List.getElem?_eq_getElem (by omega)⟩
   have heo : evO s.l ref = e0:=by
    unfold evO
    rw [hq,show ((q : Int) + 1 - 1).toNat = q by omega,he0]
    rfl
   obtain ⟨ao3,cp3,hb3,hcp3,hlook⟩:=HRF.out.look
   obtain ⟨g,x,rfl,hc⟩:=hlook q e0 he0
   obtain ⟨ln,hln⟩ : ∃ n,s.l.length = n:=⟨_,rfl⟩
   rw [hln] at hb3 hcp3
   have hq0 : (0 : Int) ≤ (q : Int) ∧ (q : Int) < (ln : Int):=by omega
   have HLN:=Lib.hid hln
   have hw1 : wrap64 (ref - 1) = (q : Int):=by have:=HL.out;rw [wrap64];omega
   have FB : Hid (∀ w',Fr (fun _=>False) W w' → w'.cell? ⟨rb,4,none⟩ = some (.slice (some ⟨g,0,none⟩) ln cp3)):=Lib.hid (fun w' hf=>(hb3.fr hf id).cell 4)
   obtain ⟨⟨ek,ea,er,ei,el,en,ed⟩,hee⟩ : ∃ e',e0 = e':=⟨e0,rfl⟩
   subst hee
   obtain ⟨edl,hedl⟩ : ∃ m,ed.length = m:=⟨_,rfl⟩
   have FE : Hid (∀ w',Fr (fun _=>False) W w' → w'.cell? ⟨g,q * 7,none⟩ = some (.int .i64 ek) ∧ w'.cell? ⟨g,q * 7 + 1,none⟩ = some (.int .i64 ea) ∧ w'.cell? ⟨g,q * 7 + 2,none⟩ = some (.int .i64 er) ∧ w'.cell? ⟨g,q * 7 + 3,none⟩ = some (.int .i64 ei) ∧ w'.cell? ⟨g,q * 7 + 4,none⟩ = some (.int .i64 el) ∧ w'.cell? ⟨g,q * 7 + 5,none⟩ = some (.int .i64 en) ∧ w'.cell? ⟨g,q * 7 + 6,none⟩ = some (.slice x.ao edl x.cp)):=Lib.hid (fun w' hf=>⟨hc w' hf 0 _ rfl,hc w' hf 1 _ rfl,hc w' hf 2 _ rfl,hc w' hf 3 _ rfl,hc w' hf 4 _ rfl,hc w' hf 5 _ rfl,by rw [← hedl];exact hc w' hf 6 _ rfl⟩)
   rw [heo]
   clear htm heo
   clear he0 hb3 hcp3 hlook hc hln hedl hin hq
   go_enter Tryz.func42,Tryz.ntmps42
   go_upto_region 16 with (first | (go_at_call 62;refine HRDY.out.mono ?_;rintro e w1 ⟨rfl,hf1⟩;have HF1:=Lib.hid hf1;clear hf1) | (go_at_call 63;refine (rtwin_any S R w1 rb s (HRF.out.fr0 HF1.out)).mono ?_;rintro e w2 ⟨⟨tb,rfl⟩,hf2⟩;have HF2:=Lib.hid (HF1.out.trans hf2);clear hf2) | (go_at_call 75;refine (HW.out w2 HF2.out).mono ?_;rintro e w3 ⟨rfl,hf3⟩;have HF3:=Lib.hid (HF2.out.trans hf3);clear hf3) | (go_at_call 81;refine (HTM.out w3 HF3.out).mono ?_;rintro e w8 ⟨rfl,hf8⟩;have HF8:=Lib.hid (HF3.out.trans hf8);clear hf8) | go_in)
   have x4:=FB.out _ HF8.out
   obtain ⟨_,_,_,c3,_,_,_⟩:=FE.out _ HF8.out
   have HX:=Lib.hid (HRF.out.fr0 HF8.out)
   go_wp2_with (first | (go_at_call 26;refine (rput_any S R w8 rb s HX.out (by have:=HL.out;omega) 13 now ref ei 0 0 none 0 0 [] (RowB.nil _ _) (by simp) (by simp)).mono ?_;rintro e w3' ⟨rfl,S1,R1,hs1,hrf,hfr⟩;have HS1:=Lib.hid hs1;have HX1:=Lib.hid hrf;have HF4:=Lib.hid hfr;clear hs1 hrf hfr x4 c3) | (go_at_call 65;refine (rwake_any S1 R1 w3' rb _ HX1.out (by rw [List.length_append];have:=HL.out;simp only [List.length_cons,List.length_nil];omega) now).mono ?_;rintro e w4 ⟨v,rfl,ho,S2,R2,hs2,hrf,hfr⟩;have HO:=Lib.hid ho;have HX2:=Lib.hid hrf;have HS2:=Lib.hid hs2;have HF5:=Lib.hid hfr;clear ho hs2 hrf hfr) | (go_at_call 64;refine (rsettle_any S2 R2 w4 rb _ HX2.out (Nat.le_trans (rwakeS_len _ _) (by simp only [List.length_append,List.length_cons,List.length_nil];have:=HL.out;omega)) _ v 0).mono ?_;rintro e w5 ⟨rfl,rfl⟩) | go_in)
   go_ret2
   obtain ⟨e1,e2⟩:=rwake_core (s1:={ s with l:=s.l ++ [⟨13,now,ref,ei,0,0,[]⟩] }) (s':=firedS s ref now ei) rfl now
   exact ⟨v,rfl,by show Outs _ _ _ (wakeO (firedS s ref now ei) now);rw [e2];exact HO.out.weak (Nat.le_trans HF8.out.size HF4.out.size),(ROut.behind HF8.out (ROut.then HS1.out HF4.out ⟨S2,R2,HS2.out,HX2.out,HF5.out⟩)).core e1⟩
set_option maxRecDepth 100000 in
set_option maxHeartbeats 2000000 in
theorem rfire0 (S R : Nat → Prop) (W : World) (rb : Nat) (s : FSt) (h : RF S R W rb s) (k ref turn now : Int) (h3 : k ≠ 3) (h4 : k ≠ 4) (h5 : k ≠ 5) :
 Calls Tryz.prog 42 #[.pointer (some ⟨rb,0,none⟩),.int .i64 k,.int .i64 ref,.int .i64 turn,.int .i64 now] W fun e W'=>RActX S R W rb (s,[],1) e W':=by
 have HRDY:=Lib.hid (rready_any S R W rb s h none 0 0 now)
 have HRF:=Lib.hid h
 have p3 : (k != 3) = true:=by simp [h3]
 have p4 : (k != 4) = true:=by simp [h4]
 have p5 : (k != 5) = true:=by simp [h5]
 clear h h3 h4 h5
 go_enter Tryz.func42,Tryz.ntmps42
 go_wp2_with (first | (go_at_call 62;refine HRDY.out.mono ?_;rintro e w1 ⟨rfl,hf1⟩) | go_in)
 go_ret2
 exact ⟨_,rfl,Outs.nil _ _,ROut.refl HRF.out hf1⟩
theorem rfire_any (S R : Nat → Prop) (W : World) (rb : Nat) (s : FSt) (h : RF S R W rb s) (hl : s.l.length ≤ 4000) (k ref turn now : Int) :
 Calls Tryz.prog 42 #[.pointer (some ⟨rb,0,none⟩),.int .i64 k,.int .i64 ref,.int .i64 turn,.int .i64 now] W fun e W'=>RActX S R W rb (if k = 3 ∨ k = 4 ∨ k = 5 then rtryC s 0 now (fireC s k ref turn now) else (s,[],1)) e W':=by
 by_cases h3 : k = 3
 ·subst h3
  exact rfire3 S R W rb s h hl ref turn now
 by_cases h4 : k = 4
 ·subst h4
  exact rfire4 S R W rb s h hl ref turn now
 by_cases h5 : k = 5
 ·subst h5
  exact rfire5 S R W rb s h hl ref turn now
 rw [if_neg (by omega)]
 exact rfire0 S R W rb s h k ref turn now h3 h4 h5
set_option maxRecDepth 100000 in
set_option maxHeartbeats 2000000 in
theorem rchild0 (S R : Nat → Prop) (W : World) (rb : Nat) (s : FSt) (h : RF S R W rb s) (hl : s.l.length ≤ 4000) (idn st now : Int) (ao : Option Addr) (dl cp : Nat) (ds : List Value) (hd : RowB S W (.slice ao dl cp) ds) (hd1 : ∀ u ∈ ds,u.oneCell' = true) (hid : 0 ≤ idn ∧ idn ≤ 1048576) :
 Calls Tryz.prog 44 #[.pointer (some ⟨rb,0,none⟩),.int .i64 idn,.int .i64 st,.slice ao dl cp,.int .i64 now] W fun e W'=>RActX S R W rb (rtryC s dl now (childC s idn st ds now)) e W':=by
 have HRDY:=Lib.hid (rready_any S R W rb s h ao dl cp now)
 have HRF:=Lib.hid h
 have HL:=Lib.hid hl
 have HR:=Lib.hid hd
 have HD1:=Lib.hid hd1
 have hfn : fnum idn = true:=fnum_iff.2 hid
 have HFN : Hid (∀ w,Calls Tryz.prog 23 #[.int .i64 idn] w fun e W'=>e = .returned (.bool true) ∧ w = W'):=Lib.hid (fun w=>by
  have:=rfnum_any idn w
  rwa [hfn] at this)
 unfold rtryC
 obtain ⟨er,her⟩ : ∃ x,readyE s dl now = x:=⟨_,rfl⟩
 rw [her] at HRDY ⊢
 by_cases h0 : er = 0
 rotate_left
 ·rw [if_neg h0]
  have p0 : (er != 0) = true:=by simp [h0]
  clear h h0 her hl hd hd1 hid hfn
  go_enter Tryz.func44,Tryz.ntmps44
  go_wp2_with (first | (go_at_call 23;refine (HFN.out W).mono ?_;rintro e w0 ⟨rfl,rfl⟩) | (go_at_call 62;refine HRDY.out.mono ?_;rintro e w1 ⟨rfl,hf1⟩) | go_in)
  go_ret2
  exact ⟨_,rfl,Outs.nil _ _,ROut.refl HRF.out hf1⟩
 subst h0
 rw [if_pos rfl]
 have HD:=Lib.hid (And.intro (ready_dl her HR.out) HD1.out)
 clear h her hl
 clear hd hd1 hid hfn
 obtain ⟨ao2,cp2,L,hb,hL,ht,hrv,hcp2,_⟩:=HRF.out.rows
 obtain ⟨n2,hn2⟩ : ∃ n,s.l.length = n:=⟨_,rfl⟩
 rw [hn2] at hb hL hcp2
 have hg : Gs s.l = L.map strip:=tells_gs ht (by omega)
 have HOP : Hid (∀ w,Fr (fun _=>False) W w → Calls Tryz.prog 85 #[.slice ao2 n2 cp2,.int .i64 17] w fun r W'=>∃ v xs,r = .returned v ∧ OwnI W' w.heap.size v xs ∧ (∀ i,openR s.l (17,i) = hasB xs i) ∧ xs.length ≤ 5000 ∧ Fr (fun _=>False) w W'):=Lib.hid (fun w hf=>by
  refine (ropenk_any w ao2 cp2 n2 L (hrv.fr hf (fun _ e=>e.elim)) hL hcp2 (by have:=HL.out;omega) 17).mono ?_
  rintro r W' ⟨v,xs,rfl,h1,_,h3,h4⟩
  refine ⟨v,xs,rfl,h1,fun i=>?_,?_,h4⟩
  ·show hasB (rIds (Gs s.l) 17 s.l.length) i = _
   rw [hg,rIds_strip,hn2]
   exact (hasB_perm h3 i).symm
  ·rw [h3.length_eq]
   unfold rIds
   rw [List.length_map]
   exact Nat.le_trans (List.length_filter_le _ _) (by rw [List.length_range];have:=HL.out;omega))
 have FB : Hid (∀ w',Fr (fun _=>False) W w' → w'.cell? ⟨rb,4,none⟩ = some (.slice ao2 n2 cp2)):=Lib.hid (fun w' hf=>(hb.fr hf id).cell 4)
 obtain ⟨op,hop⟩ : ∃ x,openR s.l (17,idn) = x:=⟨_,rfl⟩
 have HOPN:=Lib.hid hop
 unfold childC
 rw [hop]
 clear hb hL ht hrv hcp2 hg hn2 hop
 cases op with
 | false=>
   rw [if_neg (by simp)]
   go_enter Tryz.func44,Tryz.ntmps44
   go_wp2_with (first | (go_at_call 23;refine (HFN.out W).mono ?_;rintro e w0 ⟨rfl,rfl⟩) | (go_at_call 62;refine HRDY.out.mono ?_;rintro e w1 ⟨rfl,hf1⟩;have HF1:=Lib.hid hf1;clear hf1;have x4:=FB.out _ HF1.out) | (go_at_call 85;refine (HOP.out w1 HF1.out).mono ?_;rintro e w2 ⟨vv,xs,rfl,hown,hhas,hlen,hf2⟩;have HHAS:=Lib.hid (And.intro (hhas idn) hlen);have HF2:=Lib.hid (HF1.out.trans hf2);obtain ⟨aoi,cpi,rfl,hc1,_,hri,_⟩:=hown.row;have hhi:=(hhas idn).symm.trans HOPN.out;have HAI : Hid (Calls Tryz.prog 84 #[.slice aoi xs.length cpi,.int .i64 idn] w2 fun e W'=>e = .returned (.bool false) ∧ w2 = W'):=Lib.hid (by have:=has_any w2 aoi cpi xs.length xs hri rfl (by omega) hc1 idn;rwa [hhi] at this);clear hf2 hown hhas hlen hc1 hri hhi x4) | (go_at_call 84;refine HAI.out.mono ?_;rintro e w3 ⟨rfl,rfl⟩) | go_in)
   go_ret2
   exact ⟨_,rfl,Outs.nil _ _,ROut.refl HRF.out HF2.out⟩
 | true=>
   rw [if_pos rfl]
   by_cases hst : 0 ≤ st ∧ st ≤ 6
   rotate_left
   ·rw [if_neg hst]
    by_cases hs0 : st < 0
    ·have p1 : decide (st < 0) = true:=decide_eq_true hs0
     clear hst hs0
     go_enter Tryz.func44,Tryz.ntmps44
     go_wp2_with (first | (go_at_call 23;refine (HFN.out W).mono ?_;rintro e w0 ⟨rfl,rfl⟩) | (go_at_call 62;refine HRDY.out.mono ?_;rintro e w1 ⟨rfl,hf1⟩;have HF1:=Lib.hid hf1;clear hf1;have x4:=FB.out _ HF1.out) | (go_at_call 85;refine (HOP.out w1 HF1.out).mono ?_;rintro e w2 ⟨vv,xs,rfl,hown,hhas,hlen,hf2⟩;have HHAS:=Lib.hid (And.intro (hhas idn) hlen);have HF2:=Lib.hid (HF1.out.trans hf2);obtain ⟨aoi,cpi,rfl,hc1,_,hri,_⟩:=hown.row;have hhi:=(hhas idn).symm.trans HOPN.out;have HAI : Hid (Calls Tryz.prog 84 #[.slice aoi xs.length cpi,.int .i64 idn] w2 fun e W'=>e = .returned (.bool true) ∧ w2 = W'):=Lib.hid (by have:=has_any w2 aoi cpi xs.length xs hri rfl (by omega) hc1 idn;rwa [hhi] at this);clear hf2 hown hhas hlen hc1 hri hhi x4) | (go_at_call 84;refine HAI.out.mono ?_;rintro e w3 ⟨rfl,rfl⟩) | go_in)
     go_ret2
     exact ⟨_,rfl,Outs.nil _ _,ROut.refl HRF.out HF2.out⟩
    have p1 : decide (st < 0) = false:=decide_eq_false hs0
    have p2 : decide (st > 6) = true:=decide_eq_true (by omega)
    have p2' : decide (6 < st) = true:=decide_eq_true (by omega)
    clear hst hs0
    go_enter Tryz.func44,Tryz.ntmps44
    go_wp2_with (first | (go_at_call 23;refine (HFN.out W).mono ?_;rintro e w0 ⟨rfl,rfl⟩) | (go_at_call 62;refine HRDY.out.mono ?_;rintro e w1 ⟨rfl,hf1⟩;have HF1:=Lib.hid hf1;clear hf1;have x4:=FB.out _ HF1.out) | (go_at_call 85;refine (HOP.out w1 HF1.out).mono ?_;rintro e w2 ⟨vv,xs,rfl,hown,hhas,hlen,hf2⟩;have HHAS:=Lib.hid (And.intro (hhas idn) hlen);have HF2:=Lib.hid (HF1.out.trans hf2);obtain ⟨aoi,cpi,rfl,hc1,_,hri,_⟩:=hown.row;have hhi:=(hhas idn).symm.trans HOPN.out;have HAI : Hid (Calls Tryz.prog 84 #[.slice aoi xs.length cpi,.int .i64 idn] w2 fun e W'=>e = .returned (.bool true) ∧ w2 = W'):=Lib.hid (by have:=has_any w2 aoi cpi xs.length xs hri rfl (by omega) hc1 idn;rwa [hhi] at this);clear hf2 hown hhas hlen hc1 hri hhi x4) | (go_at_call 84;refine HAI.out.mono ?_;rintro e w3 ⟨rfl,rfl⟩) | go_in)
    go_ret2
    exact ⟨_,rfl,Outs.nil _ _,ROut.refl HRF.out HF2.out⟩
   rw [if_pos hst]
   have p1 : decide (st < 0) = false:=decide_eq_false (by omega)
   have p2 : decide (st > 6) = false:=decide_eq_false (by omega)
   have p2' : decide (6 < st) = false:=decide_eq_false (by omega)
   clear hst
   go_enter Tryz.func44,Tryz.ntmps44
   go_upto_region 11 with (first | (go_at_call 23;refine (HFN.out W).mono ?_;rintro e w0 ⟨rfl,rfl⟩) | (go_at_call 62;refine HRDY.out.mono ?_;rintro e w1 ⟨rfl,hf1⟩;have HF1:=Lib.hid hf1;clear hf1;have x4:=FB.out _ HF1.out) | (go_at_call 85;refine (HOP.out w1 HF1.out).mono ?_;rintro e w2 ⟨vv,xs,rfl,hown,hhas,hlen,hf2⟩;have HHAS:=Lib.hid (And.intro (hhas idn) hlen);have HF2:=Lib.hid (HF1.out.trans hf2);obtain ⟨aoi,cpi,rfl,hc1,_,hri,_⟩:=hown.row;have hhi:=(hhas idn).symm.trans HOPN.out;have HAI : Hid (Calls Tryz.prog 84 #[.slice aoi xs.length cpi,.int .i64 idn] w2 fun e W'=>e = .returned (.bool true) ∧ w2 = W'):=Lib.hid (by have:=has_any w2 aoi cpi xs.length xs hri rfl (by omega) hc1 idn;rwa [hhi] at this);clear hf2 hown hhas hlen hc1 hri hhi x4) | (go_at_call 84;refine HAI.out.mono ?_;rintro e w3 ⟨rfl,rfl⟩) | (go_at_call 63;refine (rtwin_any S R w2 rb s (HRF.out.fr0 HF2.out)).mono ?_;rintro e w3 ⟨⟨tb,rfl⟩,hf3⟩;have HF3:=Lib.hid (HF2.out.trans hf3);clear hf3) | go_in)
   have HX:=Lib.hid (HRF.out.fr0 HF3.out)
   have HR2:=Lib.hid ((HR.out.to (S':=fun _=>False) fun k _ e=>e.elim).fr HF3.out)
   go_wp2_with (first | (go_at_call 86;refine (rbegan_any S R w3 rb s HX.out 17 idn).mono ?_;rintro e w9 ⟨rfl,rfl⟩) | (go_at_call 26;refine (rput_any S R w3 rb s HX.out (by have:=HL.out;omega) 18 now (beganR s.l 17 idn) idn 0 st ao dl cp ds HR2.out HD.out.1 HD.out.2).mono ?_;rintro e w3' ⟨rfl,S1,R1,hs1,hrf,hfr⟩;have HS1:=Lib.hid hs1;have HX1:=Lib.hid hrf;have HF4:=Lib.hid hfr;clear hs1 hrf hfr) | (go_at_call 65;refine (rwake_any S1 R1 w3' rb _ HX1.out (by rw [List.length_append];have:=HL.out;simp only [List.length_cons,List.length_nil];omega) now).mono ?_;rintro e w4 ⟨v,rfl,ho,S2,R2,hs2,hrf,hfr⟩;have HO:=Lib.hid ho;have HX2:=Lib.hid hrf;have HS2:=Lib.hid hs2;have HF5:=Lib.hid hfr;clear ho hs2 hrf hfr) | (go_at_call 64;refine (rsettle_any S2 R2 w4 rb _ HX2.out (Nat.le_trans (rwakeS_len _ _) (by simp only [List.length_append,List.length_cons,List.length_nil];have:=HL.out;omega)) _ v 0).mono ?_;rintro e w5 ⟨rfl,rfl⟩) | go_in)
   go_ret2
   obtain ⟨e1,e2⟩:=rwake_core (s1:={ s with l:=s.l ++ [⟨18,now,beganR s.l 17 idn,idn,0,st,ds⟩] }) (s':=childS s (beganR s.l 17 idn) now idn st ds) rfl now
   exact ⟨v,rfl,by show Outs _ _ _ (wakeO (childS s (beganR s.l 17 idn) now idn st ds) now);rw [e2];exact HO.out.weak (Nat.le_trans HF3.out.size HF4.out.size),(ROut.behind HF3.out (ROut.then HS1.out HF4.out ⟨S2,R2,HS2.out,HX2.out,HF5.out⟩)).core e1⟩
set_option maxRecDepth 100000 in
theorem rchild_none (S R : Nat → Prop) (W : World) (rb : Nat) (s : FSt) (h : RF S R W rb s) (idn st : Int) (v : Value) (now : Int) (hid : ¬ (0 ≤ idn ∧ idn ≤ 1048576)) :
 Calls Tryz.prog 44 #[.pointer (some ⟨rb,0,none⟩),.int .i64 idn,.int .i64 st,v,.int .i64 now] W fun e W'=>RActX S R W rb (s,[],1) e W':=by
 have hfn : fnum idn = false:=by rw [Bool.eq_false_iff];exact fun e=>hid (fnum_iff.1 e)
 have HFN : Hid (Calls Tryz.prog 23 #[.int .i64 idn] W fun e W'=>e = .returned (.bool false) ∧ W = W'):=Lib.hid (by
  have:=rfnum_any idn W
  rwa [hfn] at this)
 have HRF:=Lib.hid h
 clear h hid hfn
 go_enter Tryz.func44,Tryz.ntmps44
 go_wp2_with (first | (go_at_call 23;refine HFN.out.mono ?_;rintro e w0 ⟨rfl,rfl⟩) | go_in)
 go_ret2
 exact ⟨_,rfl,Outs.nil _ _,ROut.refl HRF.out (Fr.refl _ _)⟩
end Go.Proofs.YtnkelaohcbdjnaaGreat
