/- put: what opens,what is unset. -/
import Derived.Test.YtnkelaohcbdjnaaGreatPt
set_option linter.unusedVariables false
set_option linter.unusedSimpArgs false
namespace Go.Proofs.YtnkelaohcbdjnaaGreat
open Go.RowKit Go.Maps
set_option maxRecDepth 100000 in
set_option maxHeartbeats 8000000 in
theorem put_B (S : Nat → Prop) (W : World) (fb mb : Nat) (s : FSt) (h : PF S W fb mb s) (hmc : s.mc ≤ 1000000) (hl : s.l.length ≤ 50000) (k a r i l n : Int) (ao : Option Addr) (dl cp : Nat) (ds : List Value) (hd : RowB (fun _=>False) W (.slice ao dl cp) ds) (hdl : ds.length ≤ 100000) (hd1 : ∀ u ∈ ds,u.oneCell' = true) (s' : FSt) (hp : ((k = 7 ∨ k = 12 ∨ k = 17) ∧ s' = { s with mc:=cup s.mp ((s.l.length : Int) + 1) s.mc,mp:=upd s.mp ((s.l.length : Int) + 1) (some (opv k i 0)),l:=s.l ++ [⟨k,a,r,i,l,n,ds⟩] }) ∨ ((k = 8 ∧ 0 ≤ r ∧ r ≤ 1000000) ∧ s' = { s with mc:=cup s.mp r s.mc,mp:=upd s.mp r (some (opv 7 i ((s.l.length : Int) + 1))),l:=s.l ++ [⟨k,a,r,i,l,n,ds⟩] }) ∨ ((k = 14 ∧ 0 ≤ r ∧ r ≤ 1000000) ∧ s' = { s with mc:=cdn s.mp r s.mc,mp:=upd s.mp r none,l:=s.l ++ [⟨k,a,r,i,l,n,ds⟩] })) :
 Calls Tryz.prog 21 #[.pointer (some ⟨fb,0,none⟩),.agg #[.int .i64 k,.int .i64 a,.int .i64 r,.int .i64 i,.int .i64 l,.int .i64 n,.slice ao dl cp]] W fun e W'=>e = .returned (.int .i64 ((s.l.length : Int) + 1)) ∧ PF S W' fb mb s' ∧ Fr (fun q=>q = fb ∨ q = mb) W W':=by
 have HPF:=Lib.hid h
 have HDD:=Lib.hid (And.intro hdl hd1)
 have HL:=Lib.hid (And.intro hl hmc)
 have HDL:=Lib.hid hd.len
 have HP:=Lib.hid hp
 clear hp
 have hB1:=Blk.new W 62 #[.int .i64 k,.int .i64 a,.int .i64 r,.int .i64 i,.int .i64 l,.int .i64 n,.slice ao dl cp]
 have hF1 : Fr (fun _=>False) W (W.alloc (.cells #[.int .i64 k,.int .i64 a,.int .i64 r,.int .i64 i,.int .i64 l,.int .i64 n,.slice ao dl cp] 62)):=Fr.alloc _ _ _
 obtain ⟨w1,hw1⟩ : ∃ w,W.alloc (.cells #[.int .i64 k,.int .i64 a,.int .i64 r,.int .i64 i,.int .i64 l,.int .i64 n,.slice ao dl cp] 62) = w:=⟨_,rfl⟩
 obtain ⟨eb,heb⟩ : ∃ b,W.heap.size = b:=⟨_,rfl⟩
 rw [hw1] at hB1 hF1
 rw [heb] at hB1
 have HEB:=Lib.hid heb
 have HF1:=Lib.hid hF1
 have HCL:=clone_any (fun _=>False) (fun q=>q = eb ∨ S q) w1 (.slice ao dl cp) ds (hd.fr hF1) (by omega) hd1 (fun q e=>e.elim (fun e=>e ▸ hB1.lt) (fun e=>Nat.lt_of_lt_of_le (h.lt q e) hF1.size))
 have HCL:=Lib.hid HCL
 have c6:=hB1.cell 6
 simp only [lA,lB,lC] at c6
 have HB1:=Lib.hid hB1
 clear h hd hd1 hdl hl hB1 hF1 hmc
 go_enter Tryz.func21,Tryz.ntmps21
 go_upto_region 1 with (fail)
 try rw [hw1]
 try rw [heb]
 clear hw1 heb
 go_wp2_with fail
 refine HCL.out.mono ?_
 rintro e w2 ⟨VV,rfl,hr2,hf2⟩
 obtain ⟨va,vc,hve⟩ : ∃ va vc,VV = .slice va dl vc:=by rw [← HDL.out];obtain ⟨ao,cap,e,_⟩:=hr2;exact ⟨ao,cap,e⟩
 subst hve
 have hE2:=HB1.out.fr hf2 id
 have g6:=hE2.cell 6
 have gf6:=hE2.frozen 6
 simp only [lA,lB,lC] at g6
 have HE2:=Lib.hid hE2
 have HF2:=Lib.hid (HF1.out.trans hf2)
 have HR2:=Lib.hid hr2
 clear hE2 hf2 hr2 c6 HCL
 go_upto_region 2 with (fail)
 have hE3:=HE2.out.set 6 (.slice va dl vc)
 simp only [lG,lH,lI] at hE3
 have hF3:=Fr.setCell (S:=fun q=>q = eb) w2 ⟨eb,6,none⟩ (.slice va dl vc) rfl
 obtain ⟨w3,hw3⟩ : ∃ w,w2.setCell ⟨eb,6,none⟩ (.slice va dl vc) = w:=⟨_,rfl⟩
 rw [hw3] at hE3 hF3 ⊢
 have HFW : Hid (Fr (fun _=>False) W w3):=Lib.hid ⟨hF3.os.trans HF2.out.os,hF3.tape.trans HF2.out.tape,hF3.output.trans HF2.out.output,Nat.le_trans HF2.out.size hF3.size,fun q hq _=>(hF3.block q (Nat.lt_of_lt_of_le hq HF2.out.size) (by have:=HEB.out;omega)).trans (HF2.out.block q hq id)⟩
 have HR3 : Hid (RowB S w3 (.slice va dl vc) ds):=Lib.hid ((HR2.out.fr (hF3.mono fun q e=>.inl e)).to (fun q _ e=>.inr e))
 have HPF3:=Lib.hid (HPF.out.fr0 HFW.out)
 have HES : Hid (¬ S eb):=Lib.hid (fun e=>by have:=HPF.out.lt eb e;have:=HEB.out;omega)
 obtain ⟨so,sc,vs,hvl,hfb,hrow,hdat⟩:=HPF3.out.fl.f
 have HVL:=Lib.hid hvl
 have HDAT:=Lib.hid hdat
 have HR7:=Lib.hid (hdat.rows hvl)
 have HRL:=Lib.hid (rowsOf_len hvl)
 have HFB:=Lib.hid hfb
 have HROW:=Lib.hid hrow
 have HE3:=Lib.hid hE3
 have FACTS : Hid (∀ w',Fr (fun _=>False) w3 w' → w'.cell? ⟨fb,4,none⟩ = some (.slice so s.l.length sc) ∧ w'.cell? ⟨eb,0,none⟩ = some (.int .i64 k) ∧ w'.cell? ⟨eb,1,none⟩ = some (.int .i64 a) ∧ w'.cell? ⟨eb,2,none⟩ = some (.int .i64 r) ∧ w'.cell? ⟨eb,3,none⟩ = some (.int .i64 i) ∧ w'.cell? ⟨eb,4,none⟩ = some (.int .i64 l) ∧ w'.cell? ⟨eb,5,none⟩ = some (.int .i64 n) ∧ w'.cell? ⟨eb,6,none⟩ = some (.slice va dl vc)):=Lib.hid (fun w' hf=>by
  have h1:=HFB.out.fr hf id
  have h2:=HE3.out.fr hf id
  exact ⟨h1.cell 4,h2.cell 0,h2.cell 1,h2.cell 2,h2.cell 3,h2.cell 4,h2.cell 5,h2.cell 6⟩)
 have HCLIP : Hid (∀ w,Calls Tryz.prog 58 #[.slice so s.l.length sc] w fun e W'=>e = .returned (.slice so s.l.length s.l.length) ∧ w = W'):=Lib.hid (fun w=>clip_any w so s.l.length sc (HRL.out ▸ HROW.out.1) (fun e=>⟨by rw [← HRL.out,(HROW.out.2.2.1 e).1];rfl,(HROW.out.2.2.1 e).2⟩) HROW.out.2.1)
 clear hw3 hE3 hF3 hvl hfb hrow hdat HE2 HF2 HR2 g6 gf6 HB1 HF1
 have hB6 : Blk (w3.alloc (.cells #[.int .i64 k,.int .i64 a,.int .i64 r,.int .i64 i,.int .i64 l,.int .i64 n,.slice va dl vc] 62)).drew w3.heap.size 62 #[.int .i64 k,.int .i64 a,.int .i64 r,.int .i64 i,.int .i64 l,.int .i64 n,.slice va dl vc]:=Blk.new w3.drew 62 #[.int .i64 k,.int .i64 a,.int .i64 r,.int .i64 i,.int .i64 l,.int .i64 n,.slice va dl vc]
 have hf6 : Fr (fun _=>False) w3 (w3.alloc (.cells #[.int .i64 k,.int .i64 a,.int .i64 r,.int .i64 i,.int .i64 l,.int .i64 n,.slice va dl vc] 62)).drew:=(Fr.alloc _ w3 _).trans (Fr.drewN _ _ 1)
 refine region_Z (fun w'=>Fr (fun _=>False) w3 w') 11 (Fr.drewN _ w3 1) (fun hH=>?_)
 refine takes (b:=?_) [0,1,2,3,4,6] hH ?_ ?_
 rotate_left
 iterate 6 (first
  | (refine Sq.no rfl (by rfl) ?_)
  | (refine Sq.yes (v:=?_) rfl (by rfl) ?_ ?_;rotate_left;· (intro w' hw';obtain ⟨f0,f1,f2,f3,f4,f5,f6,f7⟩:=FACTS.out w' hw';go_simp;try with_reducible rfl));try simp only [lD,lE,lF,Act.put,lG,lH,lI])
 exact Sq.nil
 refine any_pair 5 7 rfl rfl (b1:=?_) (b2:=?_) (b:=?_) (u1:=?_) (u2:=?_) (u:=?_) ?_ ?_ ?_ ?_ ?_ ?_ ?_ (fun hH2=>?_)
 rotate_left 6
 ·intro K Q hK
  go_simp
  refine (HCLIP.out _).mono ?_
  rintro e wq ⟨rfl,rfl⟩
  exact hK
 ·intro K Q hK
  go_simp
  exact hK
 ·intro K Q hK
  go_simp
  exact hK
 ·intro K Q hK
  go_simp
  refine (HCLIP.out _).mono ?_
  rintro e wq ⟨rfl,rfl⟩
  exact hK
 ·exact Fr.drewN _ w3 1
 ·exact hf6
 ·exact hf6
 have hrw6 : RowE S (w3.alloc (.cells #[.int .i64 k,.int .i64 a,.int .i64 r,.int .i64 i,.int .i64 l,.int .i64 n,.slice va dl vc] 62)).drew so sc (rowsOf s.l vs):=HROW.out.fr (hf6.mono fun _ e=>e.elim)
 have hlt6 : ∀ q,S q → q < (w3.alloc (.cells #[.int .i64 k,.int .i64 a,.int .i64 r,.int .i64 i,.int .i64 l,.int .i64 n,.slice va dl vc] 62)).drew.heap.size:=fun q e=>Nat.lt_of_lt_of_le (HPF3.out.lt q e) hf6.size
 obtain ⟨w6,hw6⟩ : ∃ w,(w3.alloc (.cells #[.int .i64 k,.int .i64 a,.int .i64 r,.int .i64 i,.int .i64 l,.int .i64 n,.slice va dl vc] 62)).drew = w:=⟨_,rfl⟩
 rw [hw6] at hB6 hf6 hrw6 hlt6 ⊢
 obtain ⟨nb,hnb⟩ : ∃ b,w3.heap.size = b:=⟨_,rfl⟩
 rw [hnb] at hB6 ⊢
 obtain ⟨so',sc',w7,hrun7,hrow7,hf7⟩:=appE HRL.out hrw6 HR7.out (by have:=HL.out.1;omega) hlt6 ⟨nb,0,none⟩ 1 (ev k a r i l n (.slice va dl vc)) rfl (fun j u hj=>by rw [off_add,Nat.zero_add,hB6.cell];simpa [ev] using hj) (by intro u hu;simp [ev] at hu;rcases hu with rfl | rfl | rfl | rfl | rfl | rfl | rfl <;> rfl) 34
 have hf37 : Fr (fun _=>False) w3 w7:=hf6.trans hf7
 refine any_op 8 rfl (fun K hK=>?_)
 refine wp_append_runV _ _ _ rfl _ _ _ (by rfl) (by rfl) hrun7 ?_
 refine hK.out _ _ (hf37) (fun hH3=>?_)
 clear hK K 
 try simp only [lD,lE,lF,Act.put,lG,lH,lI]
 have hb7:=HFB.out.fr hf37 id
 have c4:=hb7.cell 4
 have z4:=hb7.frozen 4
 simp only [fcells,lA,lB,lC] at c4
 refine takes (b:=?_) [9,10] hH3 ?_ ?_
 rotate_left
 iterate 2 (first
  | (refine Sq.no rfl (by rfl) ?_)
  | (refine Sq.yes (v:=?_) rfl (by rfl) ?_ ?_;rotate_left;· (intro w' hw';go_simp;try with_reducible rfl));try simp only [lD,lE,lF,Act.put,lG,lH,lI])
 exact Sq.nil
 refine any_last rfl (fun K hK=>?_)
 go_simp
 refine hK.out _ _ ?_
 clear hK K 
 try simp only [lD,lE,lF,Act.put,lG,lH,lI]
 refine any_done ?_
 have hset:=Fr.setCell (S:=fun q=>q = fb) w7 ⟨fb,4,none⟩ (.slice so' (s.l.length + 1) sc') rfl
 have hb8:=hb7.set 4 (.slice so' (s.l.length + 1) sc')
 simp only [fcells,lG,lH,lI] at hb8
 obtain ⟨w8,hw8⟩ : ∃ w,w7.setCell ⟨fb,4,none⟩ (.slice so' (s.l.length + 1) sc') = w:=⟨_,rfl⟩
 rw [hw8] at hset hb8 ⊢
 have hf38 : Fr (fun q=>q = fb) w3 w8:=(hf37.mono fun _ e=>e.elim).trans hset
 have HF8 : Hid (Fr (fun q=>q = fb) W w8):=Lib.hid ((HFW.out.mono fun _ e=>e.elim).trans hf38)
 have HE8 : Hid (Blk w8 eb 62 #[.int .i64 k,.int .i64 a,.int .i64 r,.int .i64 i,.int .i64 l,.int .i64 n,.slice va dl vc]):=Lib.hid (HE3.out.fr hf38 (fun e=>HES.out (e ▸ HPF.out.f)))
 have hpf8 : PF S w8 fb mb { s with l:=s.l ++ [⟨k,a,r,i,l,n,ds⟩] }:=by
  have h38 : Fr S w3 w8:=hf38.mono fun q e=>e ▸ HPF.out.f
  refine ⟨⟨⟨so',sc',vs ++ [.slice va dl vc],by rw [List.length_append,List.length_append,HVL.out];rfl,by rw [List.length_append];exact hb8,?_,?_⟩,HPF3.out.fl.m.fr hf38 (fun e=>mp_ne HPF3.out.fl.m HFB.out e.symm),?_,?_⟩,HPF.out.f,HPF.out.m,fun q e=>Nat.lt_of_lt_of_le (HPF3.out.lt q e) hf38.size⟩
  ·rw [rowsOf_snoc HVL.out];exact hrow7.fr (hset.mono fun q e=>e ▸ HPF.out.f)
  ·exact (HDAT.out.fr h38).snoc HVL.out ⟨k,a,r,i,l,n,ds⟩ _ (HR3.out.fr h38)
  ·intro q hq
   rcases List.mem_append.1 hq with hq | hq
   ·exact HPF.out.fl.ok q hq
   ·rw [List.mem_singleton.1 hq];exact HDD.out
  ·show (s.l ++ _).length ≤ _
   rw [List.length_append]
   have:=HL.out.1
   simp
   omega
 have HPF8:=Lib.hid hpf8
 have HB8 : Hid (Blk w8 fb 57 (fcells { s with l:=s.l ++ [⟨k,a,r,i,l,n,ds⟩] } (.slice so' (s.l.length + 1) sc') (.map (some mb)))):=Lib.hid hb8
 have b4:=hb8.cell 4
 have e0:=HE8.out.cell 0
 simp only [lA,lB,lC] at b4 e0
 have HNE : Hid (eb ≠ fb ∧ eb ≠ mb ∧ fb ≠ mb):=Lib.hid ⟨fun e=>HES.out (e ▸ HPF.out.f),fun e=>HES.out (e ▸ HPF.out.m),mp_ne HPF3.out.fl.m HFB.out⟩
 have HMC:=HL.out.2
 clear hw8 hset hb8 hf38 hf37 hb7 c4 z4 hrun7 hrow7 hf7 hH hH2 hH3 hw6 hB6 hf6 hrw6 hlt6 hpf8 hnb FACTS HCLIP HE3 HFB HROW HR7 HRL HDAT HVL HR3
 go_upto_region 4 with (fail)
 clear b4
 rcases HP.out with ⟨hk,rfl⟩ | ⟨hk,rfl⟩ | ⟨hk,rfl⟩
 ·rcases hk with rfl | rfl | rfl
  ·clear HP
   go_upto_region 28 with (fail)
   have FX : Hid (∀ w',Fr (fun q=>q = mb) w8 w' → w'.cell? ⟨eb,0,none⟩ = some (.int .i64 7) ∧ w'.cell? ⟨eb,3,none⟩ = some (.int .i64 i) ∧ w'.cell? ⟨fb,11,none⟩ = some (.map (some mb))):=Lib.hid (fun w' hf=>by
    have h2:=HE8.out.fr hf (fun e=>HNE.out.2.1 e)
    have h1:=HB8.out.fr hf (fun e=>HNE.out.2.2 e)
    exact ⟨h2.cell 0,h2.cell 3,h1.cell 11⟩)
   have hD : Fr (fun _=>False) w8 w8.drew:=Fr.drewN _ w8 1
   refine region_Z (fun w'=>Fr (fun q=>q = mb) w8 w') 99 (hD.mono fun _ e=>e.elim) (fun hH=>?_)
   generalize w8.drew = w9 at hD hH ⊢
   refine takes (b:=?_) [0,1,2,3,4,5,6,7,8,9] hH ?_ ?_
   rotate_left
   iterate 10 (first
    | (refine Sq.no rfl (by rfl) ?_)
    | (refine Sq.yes (v:=?_) rfl (by rfl) ?_ ?_;rotate_left;· (intro w' hw';obtain ⟨f0,f1,f2⟩:=FX.out w' hw';go_simp;try with_reducible rfl));try simp only [lD,lE,lF,Act.put,lG,lH,lI])
   exact Sq.nil
   obtain ⟨w10,hst,m10,f10⟩:=store_run0 (HPF8.out.fr0 hD).fl.m HMC ((s.l.length : Int) + 1) (by have:=HL.out.1;omega) (opv 7 i 0)
   refine any_op 10 rfl (fun K hK=>?_)
   refine upon_update rfl (by rfl) (by rfl) (by rfl) hst ?_
   refine hK.out _ _ ((hD.mono fun _ e=>e.elim).trans f10) (fun hH2=>?_)
   clear hK K 
   try simp only [lD,lE,lF,Act.put,lG,lH,lI]
   refine any_done ?_
   have HPF10:=Lib.hid ((HPF8.out.fr0 hD).turned f10 (cup s.mp ((s.l.length : Int) + 1) s.mc) (upd s.mp ((s.l.length : Int) + 1) (some (opv 7 i 0))) m10)
   have HB10:=Lib.hid ((HB8.out.fr hD (fun e=>e)).fr f10 (fun e=>HNE.out.2.2 e))
   have HBS:=Lib.hid (((HF8.out.mono fun q e=>.inl e).trans (hD.mono fun _ e=>e.elim)).trans (f10.mono (S':=fun q=>q = fb ∨ q = mb) fun q e=>.inr e))
   clear hH hH2 hD f10 m10 hst
   go_wp2
   go_ret
   exact ⟨rfl,HPF10.out,HBS.out⟩
  ·clear HP
   go_upto_region 28 with (fail)
   have FX : Hid (∀ w',Fr (fun q=>q = mb) w8 w' → w'.cell? ⟨eb,0,none⟩ = some (.int .i64 12) ∧ w'.cell? ⟨eb,3,none⟩ = some (.int .i64 i) ∧ w'.cell? ⟨fb,11,none⟩ = some (.map (some mb))):=Lib.hid (fun w' hf=>by
    have h2:=HE8.out.fr hf (fun e=>HNE.out.2.1 e)
    have h1:=HB8.out.fr hf (fun e=>HNE.out.2.2 e)
    exact ⟨h2.cell 0,h2.cell 3,h1.cell 11⟩)
   have hD : Fr (fun _=>False) w8 w8.drew:=Fr.drewN _ w8 1
   refine region_Z (fun w'=>Fr (fun q=>q = mb) w8 w') 99 (hD.mono fun _ e=>e.elim) (fun hH=>?_)
   generalize w8.drew = w9 at hD hH ⊢
   refine takes (b:=?_) [0,1,2,3,4,5,6,7,8,9] hH ?_ ?_
   rotate_left
   iterate 10 (first
    | (refine Sq.no rfl (by rfl) ?_)
    | (refine Sq.yes (v:=?_) rfl (by rfl) ?_ ?_;rotate_left;· (intro w' hw';obtain ⟨f0,f1,f2⟩:=FX.out w' hw';go_simp;try with_reducible rfl));try simp only [lD,lE,lF,Act.put,lG,lH,lI])
   exact Sq.nil
   obtain ⟨w10,hst,m10,f10⟩:=store_run0 (HPF8.out.fr0 hD).fl.m HMC ((s.l.length : Int) + 1) (by have:=HL.out.1;omega) (opv 12 i 0)
   refine any_op 10 rfl (fun K hK=>?_)
   refine upon_update rfl (by rfl) (by rfl) (by rfl) hst ?_
   refine hK.out _ _ ((hD.mono fun _ e=>e.elim).trans f10) (fun hH2=>?_)
   clear hK K 
   try simp only [lD,lE,lF,Act.put,lG,lH,lI]
   refine any_done ?_
   have HPF10:=Lib.hid ((HPF8.out.fr0 hD).turned f10 (cup s.mp ((s.l.length : Int) + 1) s.mc) (upd s.mp ((s.l.length : Int) + 1) (some (opv 12 i 0))) m10)
   have HB10:=Lib.hid ((HB8.out.fr hD (fun e=>e)).fr f10 (fun e=>HNE.out.2.2 e))
   have HBS:=Lib.hid (((HF8.out.mono fun q e=>.inl e).trans (hD.mono fun _ e=>e.elim)).trans (f10.mono (S':=fun q=>q = fb ∨ q = mb) fun q e=>.inr e))
   clear hH hH2 hD f10 m10 hst
   go_wp2
   go_ret
   exact ⟨rfl,HPF10.out,HBS.out⟩
  ·clear HP
   go_upto_region 28 with (fail)
   have FX : Hid (∀ w',Fr (fun q=>q = mb) w8 w' → w'.cell? ⟨eb,0,none⟩ = some (.int .i64 17) ∧ w'.cell? ⟨eb,3,none⟩ = some (.int .i64 i) ∧ w'.cell? ⟨fb,11,none⟩ = some (.map (some mb))):=Lib.hid (fun w' hf=>by
    have h2:=HE8.out.fr hf (fun e=>HNE.out.2.1 e)
    have h1:=HB8.out.fr hf (fun e=>HNE.out.2.2 e)
    exact ⟨h2.cell 0,h2.cell 3,h1.cell 11⟩)
   have hD : Fr (fun _=>False) w8 w8.drew:=Fr.drewN _ w8 1
   refine region_Z (fun w'=>Fr (fun q=>q = mb) w8 w') 99 (hD.mono fun _ e=>e.elim) (fun hH=>?_)
   generalize w8.drew = w9 at hD hH ⊢
   refine takes (b:=?_) [0,1,2,3,4,5,6,7,8,9] hH ?_ ?_
   rotate_left
   iterate 10 (first
    | (refine Sq.no rfl (by rfl) ?_)
    | (refine Sq.yes (v:=?_) rfl (by rfl) ?_ ?_;rotate_left;· (intro w' hw';obtain ⟨f0,f1,f2⟩:=FX.out w' hw';go_simp;try with_reducible rfl));try simp only [lD,lE,lF,Act.put,lG,lH,lI])
   exact Sq.nil
   obtain ⟨w10,hst,m10,f10⟩:=store_run0 (HPF8.out.fr0 hD).fl.m HMC ((s.l.length : Int) + 1) (by have:=HL.out.1;omega) (opv 17 i 0)
   refine any_op 10 rfl (fun K hK=>?_)
   refine upon_update rfl (by rfl) (by rfl) (by rfl) hst ?_
   refine hK.out _ _ ((hD.mono fun _ e=>e.elim).trans f10) (fun hH2=>?_)
   clear hK K 
   try simp only [lD,lE,lF,Act.put,lG,lH,lI]
   refine any_done ?_
   have HPF10:=Lib.hid ((HPF8.out.fr0 hD).turned f10 (cup s.mp ((s.l.length : Int) + 1) s.mc) (upd s.mp ((s.l.length : Int) + 1) (some (opv 17 i 0))) m10)
   have HB10:=Lib.hid ((HB8.out.fr hD (fun e=>e)).fr f10 (fun e=>HNE.out.2.2 e))
   have HBS:=Lib.hid (((HF8.out.mono fun q e=>.inl e).trans (hD.mono fun _ e=>e.elim)).trans (f10.mono (S':=fun q=>q = fb ∨ q = mb) fun q e=>.inr e))
   clear hH hH2 hD f10 m10 hst
   go_wp2
   go_ret
   exact ⟨rfl,HPF10.out,HBS.out⟩
 ·obtain ⟨hk,hr0⟩:=hk
  subst hk
  clear HP
  go_upto_region 29 with (fail)
  have FX : Hid (∀ w',Fr (fun q=>q = mb) w8 w' → w'.cell? ⟨eb,2,none⟩ = some (.int .i64 r) ∧ w'.cell? ⟨eb,3,none⟩ = some (.int .i64 i) ∧ w'.cell? ⟨fb,11,none⟩ = some (.map (some mb))):=Lib.hid (fun w' hf=>by
   have h2:=HE8.out.fr hf (fun e=>HNE.out.2.1 e)
   have h1:=HB8.out.fr hf (fun e=>HNE.out.2.2 e)
   exact ⟨h2.cell 2,h2.cell 3,h1.cell 11⟩)
  have hD : Fr (fun _=>False) w8 w8.drew:=Fr.drewN _ w8 1
  refine region_Z (fun w'=>Fr (fun q=>q = mb) w8 w') 99 (hD.mono fun _ e=>e.elim) (fun hH=>?_)
  generalize w8.drew = w9 at hD hH ⊢
  refine takes (b:=?_) [0,1,2,3,4,5,6,7,8,9] hH ?_ ?_
  rotate_left
  iterate 10 (first
   | (refine Sq.no rfl (by rfl) ?_)
   | (refine Sq.yes (v:=?_) rfl (by rfl) ?_ ?_;rotate_left;· (intro w' hw';obtain ⟨f0,f1,f2⟩:=FX.out w' hw';go_simp;try with_reducible rfl));try simp only [lD,lE,lF,Act.put,lG,lH,lI])
  exact Sq.nil
  obtain ⟨w10,hst,m10,f10⟩:=store_run0 (HPF8.out.fr0 hD).fl.m HMC r hr0 (opv 7 i ((s.l.length : Int) + 1))
  refine any_op 10 rfl (fun K hK=>?_)
  refine upon_update rfl (by rfl) (by rfl) (by rfl) hst ?_
  refine hK.out _ _ ((hD.mono fun _ e=>e.elim).trans f10) (fun hH2=>?_)
  clear hK K 
  try simp only [lD,lE,lF,Act.put,lG,lH,lI]
  refine any_done ?_
  have HPF10:=Lib.hid ((HPF8.out.fr0 hD).turned f10 (cup s.mp r s.mc) (upd s.mp r (some (opv 7 i ((s.l.length : Int) + 1)))) m10)
  have HB10:=Lib.hid ((HB8.out.fr hD (fun e=>e)).fr f10 (fun e=>HNE.out.2.2 e))
  have HBS:=Lib.hid (((HF8.out.mono fun q e=>.inl e).trans (hD.mono fun _ e=>e.elim)).trans (f10.mono (S':=fun q=>q = fb ∨ q = mb) fun q e=>.inr e))
  clear hH hH2 hD f10 m10 hst
  go_wp2
  go_ret
  exact ⟨rfl,HPF10.out,HBS.out⟩
 ·obtain ⟨hk,hr0⟩:=hk
  subst hk
  clear HP
  go_upto_region 30 with (fail)
  have FX : Hid (∀ w',Fr (fun q=>q = mb) w8 w' → w'.cell? ⟨eb,2,none⟩ = some (.int .i64 r) ∧ w'.cell? ⟨fb,11,none⟩ = some (.map (some mb))):=Lib.hid (fun w' hf=>by
   have h2:=HE8.out.fr hf (fun e=>HNE.out.2.1 e)
   have h1:=HB8.out.fr hf (fun e=>HNE.out.2.2 e)
   exact ⟨h2.cell 2,h1.cell 11⟩)
  have hD : Fr (fun _=>False) w8 w8.drew:=Fr.drewN _ w8 1
  refine region_Z (fun w'=>Fr (fun q=>q = mb) w8 w') 99 (hD.mono fun _ e=>e.elim) (fun hH=>?_)
  generalize w8.drew = w9 at hD hH ⊢
  refine takes (b:=?_) [0,1,2,3,4,5] hH ?_ ?_
  rotate_left
  iterate 6 (first
   | (refine Sq.no rfl (by rfl) ?_)
   | (refine Sq.yes (v:=?_) rfl (by rfl) ?_ ?_;rotate_left;· (intro w' hw';obtain ⟨f0,f1⟩:=FX.out w' hw';go_simp;try with_reducible rfl));try simp only [lD,lE,lF,Act.put,lG,lH,lI])
  exact Sq.nil
  obtain ⟨w10,hdel,m10,f10⟩:=delete_run0 (HPF8.out.fr0 hD).fl.m r hr0
  refine any_op 6 rfl (fun K hK=>?_)
  go_simp
  refine hK.out _ _ ((hD.mono fun _ e=>e.elim).trans f10) (fun hH2=>?_)
  clear hK K 
  try simp only [lD,lE,lF,Act.put,lG,lH,lI]
  refine any_done ?_
  have HPF10:=Lib.hid ((HPF8.out.fr0 hD).turned f10 (cdn s.mp r s.mc) (upd s.mp r none) m10)
  have HB10:=Lib.hid ((HB8.out.fr hD (fun e=>e)).fr f10 (fun e=>HNE.out.2.2 e))
  have HBS:=Lib.hid (((HF8.out.mono fun q e=>.inl e).trans (hD.mono fun _ e=>e.elim)).trans (f10.mono (S':=fun q=>q = fb ∨ q = mb) fun q e=>.inr e))
  clear hH hH2 hD f10 m10 hdel
  go_wp2
  go_ret
  exact ⟨rfl,HPF10.out,HBS.out⟩
end Go.Proofs.YtnkelaohcbdjnaaGreat
