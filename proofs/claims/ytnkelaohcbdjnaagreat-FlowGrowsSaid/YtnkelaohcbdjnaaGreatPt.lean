/- put: an event more,of every kind. -/
import Derived.Test.YtnkelaohcbdjnaaGreatHy
import Derived.Test.YtnkelaohcbdjnaaGreatRa
import Derived.Deep.Cut
import Derived.Deep.CutBlock
import Derived.Deep.DeepCutAuto
import Derived.Deep.RegionHeld3
import Derived.Deep.QuietTactic
set_option linter.unusedVariables false
set_option linter.unusedSimpArgs false
namespace Go.Proofs.YtnkelaohcbdjnaaGreat
open Go.RowKit Go.Maps
theorem info79 : (Tryz.prog.info? 62).map (fun i=>(i.zero,i.size,i.bytes)) = some (some (.agg #[.int .i64 0,.int .i64 0,.int .i64 0,.int .i64 0,.int .i64 0,.int .i64 0,.slice none 0 0]),7,72):=by kernel_rfl
/-- one row of seven more,at a full slice -/
theorem appE {S : Nat → Prop} {W : World} {ao : Option Addr} {cp N : Nat} {rows : List (List Value)} (hN : rows.length = N) (h : RowE S W ao cp rows) (h7 : ∀ r ∈ rows,r.length = 7 ∧ ∀ u ∈ r,u.oneCell' = true) (hl : N ≤ 100000) (hS : ∀ k,S k → k < W.heap.size) (ad : Addr) (c : Nat) (news : List Value) (hn : news.length = 7) (hc : ∀ j u,news[j]? = some u → W.cell? (ad.add j) = some u) (h1 : ∀ u ∈ news,u.oneCell' = true) (ty : TypeId) :
 ∃ ao' cp' W',(Builtin.append_ #[34,34] ty #[.slice ao N N,.slice (some ad) 1 c]).run Tryz.prog W = .ok (.slice ao' (N + 1) cp') W' ∧ RowE S W' ao' cp' (rows ++ [news]) ∧ Fr (fun _=>False) W W':=by
 subst hN
 obtain ⟨i0,hi,hz0,hz1,hz2⟩:=info_parts info79
 have hfl:=flat7 (fun r hr=>(h7 r hr).1)
 have key : ∃ v' W',(Builtin.append_ #[34,34] ty #[.slice ao rows.length rows.length,.slice (some ad) 1 c]).run Tryz.prog W = .ok v' W' ∧ W'.ownsRow W.heap.size 62 7 v' (rows.length + 1) (rows.flatten ++ news) ∧ W.grownBy W' none:=by
  cases ao with
  | some b=>
    obtain ⟨g,rfl,_,_,hcell⟩:=h.2.2.2 b rfl
    have hcell' : ∀ j u,rows.flatten[j]? = some u → W.cell? ((⟨g,0,none⟩ : Addr).add j) = some u:=fun j u hj=>by rw [off_add,Nat.zero_add];exact hcell j u hj
    obtain ⟨v',w',hrun,r1,r2⟩:=run_append_arg_grows (P:=Tryz.prog) W 34 ty 62 i0 _ 7 72 Tryz.underlying34 hi hz0 hz1 hz2 rfl (by decide) ⟨g,0,none⟩ rows.length rows.length rows.flatten hfl hcell' ad 1 c news (by omega) hc (by omega) (by unfold maxLen;omega) (by omega)
    exact ⟨v',w',hrun,r1,r2⟩
  | none=>
    obtain ⟨rfl,_⟩:=h.2.2.1 rfl
    obtain ⟨v',w',hrun,r1,r2,_⟩:=run_append_own (P:=Tryz.prog) W W.heap.size 34 ty 62 i0 _ 7 72 Tryz.underlying34 hi hz0 hz1 hz2 rfl (by decide) (.slice none 0 0) 0 [] (World.ownsRow_nil W _ 62 7) ad 1 c news (by omega) hc h1 (by unfold maxLen;omega) (by omega) (Nat.le_refl _)
    exact ⟨v',w',hrun,r1,r2⟩
 obtain ⟨v',W',hrun,hown,hgr⟩:=key
 have hcs:=hown
 rcases hown.2 with ⟨_,h0⟩ | ⟨g,cp',cur,rfl,hb,hgb,hnc,hcm,_,_⟩
 ·omega
 ·refine ⟨some ⟨g,0,none⟩,cp',W',hrun,⟨by rw [List.length_append];exact hnc,hcm,fun e=>(by cases e),fun a e=>?_⟩,Fr.grown hgr (fun k e=>nomatch e)⟩
  cases e
  refine ⟨g,rfl,fun e=>?_,(Array.getElem?_eq_some_iff.1 hgb).1,fun j u hj=>?_⟩
  ·have:=hS g e;omega
  ·rw [List.flatten_append,show [news].flatten = news from by simp] at hj
   have hjl:=(List.getElem?_eq_some_iff.1 hj).1
   rw [List.length_append,hfl,hn] at hjl
   rw [hcs.cellAt j (by omega),hj]
theorem upon_update {P : Program} {o : Oper} {a : Act} {w w' : World} {K : Act → World → Prop} {Q : Exit → Act → World → Prop} {m x y : Operand} {t : TypeId} (ho : o.op = .mapUpdate t m x y) {mv xv yv : Value} (hm : a.eval m = mv) (hx : a.eval x = xv) (hy : a.eval y = yv)
 (hr : (Instr.mapUpdate t mv xv yv).run P w = .ok () w') (hK : K (a.put o.dst undef) w') : o.wp P a w K Q:=by
 unfold Oper.wp
 simp [execOp,ho,hm,hx,hy,hr,Result.andThen]
 exact hK
theorem store_run0 {W : World} {mb c : Nat} {F : Int → Option Value} (hM : Mp iKE W mb c F) (hc : c ≤ 1000000) (x : Int) (hx : 0 ≤ x ∧ x ≤ 1000000) (v : Value) : ∃ W',(Instr.mapUpdate 55 (.map (some mb)) (.int .i64 x) v).run Tryz.prog W = .ok () W' ∧ Mp iKE W' mb (cup F x c) (upd F x (some v)) ∧ Fr (fun k=>k = mb) W W':=by
 obtain ⟨W',h1,h2,h3⟩:=hM.store Tryz.underlying55 (by unfold maxLen;omega) (ikey hx) v
 exact ⟨W',h1,h2,.grown h3.grown (fun k e=>(by cases e;rfl))⟩
theorem delete_run0 {W : World} {mb c : Nat} {F : Int → Option Value} (hM : Mp iKE W mb c F) (x : Int) (hx : 0 ≤ x ∧ x ≤ 1000000) : ∃ W',(∀ ty,(Builtin.delete_ #[55,3] ty #[.map (some mb),.int .i64 x]).run Tryz.prog W = .ok (.tuple #[]) W') ∧ Mp iKE W' mb (cdn F x c) (upd F x none) ∧ Fr (fun k=>k = mb) W W':=by
 obtain ⟨W',h1,h2,h3⟩:=hM.drop Tryz.underlying55 (ikey hx) 0
 exact ⟨W',fun ty=>h1,h2,.grown h3.grown (fun k e=>(by cases e;rfl))⟩
open Go.MapKept in
theorem clear_run {W : World} {mb c : Nat} {F : Int → Option Value} (hM : Mp iKE W mb c F) : ∃ W',(∀ ty,(Builtin.clear_ #[55] ty #[.map (some mb)]).run Tryz.prog W = .ok (.tuple #[]) W') ∧ Mp iKE W' mb 0 (fun _=>none) ∧ Fr (fun k=>k = mb) W W':=by
 obtain ⟨D,⟨es,clock,hb,r⟩,_⟩:=hM
 refine ⟨{ W with heap:=W.heap.setIfInBounds mb (.map #[] clock) },fun ty=>?_,⟨.map [],⟨#[],clock,(heap_set hb).1,⟨by simp,stamped_empty clock,by simp⟩,Nat.le_refl _,rfl⟩,rfl,fun x _=>⟨rfl,fun z=>rfl⟩⟩,⟨rfl,rfl,rfl,by simp,fun k hk hn=>(heap_set hb).2 k hn⟩⟩
 simp [Builtin.clear_,run_underlying Tryz.underlying55,MapKept.run_getObj_map hb,MapKept.run_setObj_map _ hb,Result.andThen]
/-- what put makes of a run -/
def PutP (s : FSt) (k a r i l n : Int) (ds : List Value) (s' : FSt) : Prop:=
 (k = 1 ∧ s' = { s with list:=l,n:=n,l:=s.l ++ [⟨k,a,r,i,l,n,ds⟩] }) ∨
 (k = 2 ∧ s' = { s with task:=1,at_:=((s.l.length : Int) + 1),bg:=0,turn:=n,late:=false,l:=s.l ++ [⟨k,a,r,i,l,n,ds⟩] }) ∨
 (k = 3 ∧ s' = { s with task:=2,bg:=((s.l.length : Int) + 1),late:=false,l:=s.l ++ [⟨k,a,r,i,l,n,ds⟩] }) ∨
 (k = 4 ∧ s' = { s with task:=0,turn:=0,l:=s.l ++ [⟨k,a,r,i,l,n,ds⟩] }) ∨
 ((k = 5 ∨ k = 6) ∧ s' = { s with task:=0,turn:=wrap64 (s.turn + 1),l:=s.l ++ [⟨k,a,r,i,l,n,ds⟩] }) ∨
 ((k = 7 ∨ k = 12 ∨ k = 17) ∧ s' = { s with mc:=cup s.mp ((s.l.length : Int) + 1) s.mc,mp:=upd s.mp ((s.l.length : Int) + 1) (some (opv k i 0)),l:=s.l ++ [⟨k,a,r,i,l,n,ds⟩] }) ∨
 ((k = 8 ∧ 0 ≤ r ∧ r ≤ 1000000) ∧ s' = { s with mc:=cup s.mp r s.mc,mp:=upd s.mp r (some (opv 7 i ((s.l.length : Int) + 1))),l:=s.l ++ [⟨k,a,r,i,l,n,ds⟩] }) ∨
 ((k = 14 ∧ 0 ≤ r ∧ r ≤ 1000000) ∧ s' = { s with mc:=cdn s.mp r s.mc,mp:=upd s.mp r none,l:=s.l ++ [⟨k,a,r,i,l,n,ds⟩] }) ∨
 (((k = 13 ∨ k = 18) ∧ 0 ≤ r ∧ r ≤ 1000000) ∧ s' = { s with late:=lateB s,mc:=cdn s.mp r s.mc,mp:=upd s.mp r none,l:=s.l ++ [⟨k,a,r,i,l,n,ds⟩] }) ∨
 ((k = 16 ∧ 0 ≤ r ∧ r ≤ 1000000) ∧ s' = { s with late:=lateB s,asked:=true,mc:=cdn s.mp r s.mc,mp:=upd s.mp r none,l:=s.l ++ [⟨k,a,r,i,l,n,ds⟩] }) ∨
 (k = 15 ∧ s' = { s with late:=lateB s,l:=s.l ++ [⟨k,a,r,i,l,n,ds⟩] }) ∨
 ((19 ≤ k ∧ k ≤ 23) ∧ s' = { s with task:=0,mc:=0,mp:=fun _=>none,l:=s.l ++ [⟨k,a,r,i,l,n,ds⟩] }) ∨
 ((k = 9 ∨ k = 10 ∨ k = 11) ∧ ∃ key jd,OpenOk s ∧ s.mp key = some (opv 7 jd r) ∧ (∀ x j,s.mp x = some (opv 7 j r) → x = key) ∧ s' = { s with late:=lateB s,mc:=cdn s.mp key s.mc,mp:=upd s.mp key none,l:=s.l ++ [⟨k,a,r,i,l,n,ds⟩] })
set_option maxRecDepth 100000 in
set_option maxHeartbeats 8000000 in
theorem put_A (S : Nat → Prop) (W : World) (fb mb : Nat) (s : FSt) (h : PF S W fb mb s) (hmc : s.mc ≤ 1000000) (hl : s.l.length ≤ 50000) (k a r i l n : Int) (ao : Option Addr) (dl cp : Nat) (ds : List Value) (hd : RowB (fun _=>False) W (.slice ao dl cp) ds) (hdl : ds.length ≤ 100000) (hd1 : ∀ u ∈ ds,u.oneCell' = true) (s' : FSt) (hp : (k = 1 ∧ s' = { s with list:=l,n:=n,l:=s.l ++ [⟨k,a,r,i,l,n,ds⟩] }) ∨ (k = 2 ∧ s' = { s with task:=1,at_:=((s.l.length : Int) + 1),bg:=0,turn:=n,late:=false,l:=s.l ++ [⟨k,a,r,i,l,n,ds⟩] }) ∨ (k = 3 ∧ s' = { s with task:=2,bg:=((s.l.length : Int) + 1),late:=false,l:=s.l ++ [⟨k,a,r,i,l,n,ds⟩] }) ∨ (k = 4 ∧ s' = { s with task:=0,turn:=0,l:=s.l ++ [⟨k,a,r,i,l,n,ds⟩] }) ∨ ((k = 5 ∨ k = 6) ∧ s' = { s with task:=0,turn:=wrap64 (s.turn + 1),l:=s.l ++ [⟨k,a,r,i,l,n,ds⟩] })) :
 Calls Tryz.prog 21 #[.pointer (some ⟨fb,0,none⟩),.agg #[.int .i64 k,.int .i64 a,.int .i64 r,.int .i64 i,.int .i64 l,.int .i64 n,.slice ao dl cp]] W fun e W'=>e = .returned (.int .i64 ((s.l.length : Int) + 1)) ∧ PF S W' fb mb s' ∧ Fr (fun q=>q = fb ∨ q = mb) W W':=by
 have HPF:=Lib.hid h
 have HDD:=Lib.hid (And.intro hdl hd1)
 have HL:=Lib.hid (And.intro hl hmc)
 have HDL:=Lib.hid hd.len
 have HP:=Lib.hid hp
 clear hp
 have hB1:=Blk.new W 62 #[.int .i64 k,.int .i64 a,.int .i64 r,.int .i64 i,.int .i64 l,.int .i64 n,.slice ao dl cp]
 have hF1 : Fr (fun _=>False) W (W.alloc (.cells #[.int .i64 k,.int .i64 a,.int .i64 r,.int .i64 i,.int .i64 l,.int .i64 n,.slice ao dl cp] 62)):=Fr.alloc _ _ _
 obtain ⟨w1,hw1⟩ : ∃ w,W.alloc (.cells #[.int .i64 k,.int .i64 a,.int .i64 r,.int .i64 i,.int .i64 l,.int .i64 n,.slice ao dl cp] 62) = w:=⟨_,rfl⟩
 obtain ⟨eb,heb⟩ : ∃ b,W.heap.size = b:=⟨_,rfl⟩
 rw [hw1] at hB1 hF1
 rw [heb] at hB1
 have HEB:=Lib.hid heb
 have HF1:=Lib.hid hF1
 have HCL:=clone_any (fun _=>False) (fun q=>q = eb ∨ S q) w1 (.slice ao dl cp) ds (hd.fr hF1) (by omega) hd1 (fun q e=>e.elim (fun e=>e ▸ hB1.lt) (fun e=>Nat.lt_of_lt_of_le (h.lt q e) hF1.size))
 have HCL:=Lib.hid HCL
 have c6:=hB1.cell 6
 simp only [lA,lB,lC] at c6
 have HB1:=Lib.hid hB1
 clear h hd hd1 hdl hl hB1 hF1 hmc
 go_enter Tryz.func21,Tryz.ntmps21
 go_upto_region 1 with (fail)
 try rw [hw1]
 try rw [heb]
 clear hw1 heb
 go_wp2_with fail
 refine HCL.out.mono ?_
 rintro e w2 ⟨VV,rfl,hr2,hf2⟩
 obtain ⟨va,vc,hve⟩ : ∃ va vc,VV = .slice va dl vc:=by rw [← HDL.out];obtain ⟨ao,cap,e,_⟩:=hr2;exact ⟨ao,cap,e⟩
 subst hve
 have hE2:=HB1.out.fr hf2 id
 have g6:=hE2.cell 6
 have gf6:=hE2.frozen 6
 simp only [lA,lB,lC] at g6
 have HE2:=Lib.hid hE2
 have HF2:=Lib.hid (HF1.out.trans hf2)
 have HR2:=Lib.hid hr2
 clear hE2 hf2 hr2 c6 HCL
 go_upto_region 2 with (fail)
 have hE3:=HE2.out.set 6 (.slice va dl vc)
 simp only [lG,lH,lI] at hE3
 have hF3:=Fr.setCell (S:=fun q=>q = eb) w2 ⟨eb,6,none⟩ (.slice va dl vc) rfl
 obtain ⟨w3,hw3⟩ : ∃ w,w2.setCell ⟨eb,6,none⟩ (.slice va dl vc) = w:=⟨_,rfl⟩
 rw [hw3] at hE3 hF3 ⊢
 have HFW : Hid (Fr (fun _=>False) W w3):=Lib.hid ⟨hF3.os.trans HF2.out.os,hF3.tape.trans HF2.out.tape,hF3.output.trans HF2.out.output,Nat.le_trans HF2.out.size hF3.size,fun q hq _=>(hF3.block q (Nat.lt_of_lt_of_le hq HF2.out.size) (by have:=HEB.out;omega)).trans (HF2.out.block q hq id)⟩
 have HR3 : Hid (RowB S w3 (.slice va dl vc) ds):=Lib.hid ((HR2.out.fr (hF3.mono fun q e=>.inl e)).to (fun q _ e=>.inr e))
 have HPF3:=Lib.hid (HPF.out.fr0 HFW.out)
 have HES : Hid (¬ S eb):=Lib.hid (fun e=>by have:=HPF.out.lt eb e;have:=HEB.out;omega)
 obtain ⟨so,sc,vs,hvl,hfb,hrow,hdat⟩:=HPF3.out.fl.f
 have HVL:=Lib.hid hvl
 have HDAT:=Lib.hid hdat
 have HR7:=Lib.hid (hdat.rows hvl)
 have HRL:=Lib.hid (rowsOf_len hvl)
 have HFB:=Lib.hid hfb
 have HROW:=Lib.hid hrow
 have HE3:=Lib.hid hE3
 have FACTS : Hid (∀ w',Fr (fun _=>False) w3 w' → w'.cell? ⟨fb,4,none⟩ = some (.slice so s.l.length sc) ∧ w'.cell? ⟨eb,0,none⟩ = some (.int .i64 k) ∧ w'.cell? ⟨eb,1,none⟩ = some (.int .i64 a) ∧ w'.cell? ⟨eb,2,none⟩ = some (.int .i64 r) ∧ w'.cell? ⟨eb,3,none⟩ = some (.int .i64 i) ∧ w'.cell? ⟨eb,4,none⟩ = some (.int .i64 l) ∧ w'.cell? ⟨eb,5,none⟩ = some (.int .i64 n) ∧ w'.cell? ⟨eb,6,none⟩ = some (.slice va dl vc)):=Lib.hid (fun w' hf=>by
  have h1:=HFB.out.fr hf id
  have h2:=HE3.out.fr hf id
  exact ⟨h1.cell 4,h2.cell 0,h2.cell 1,h2.cell 2,h2.cell 3,h2.cell 4,h2.cell 5,h2.cell 6⟩)
 have HCLIP : Hid (∀ w,Calls Tryz.prog 58 #[.slice so s.l.length sc] w fun e W'=>e = .returned (.slice so s.l.length s.l.length) ∧ w = W'):=Lib.hid (fun w=>clip_any w so s.l.length sc (HRL.out ▸ HROW.out.1) (fun e=>⟨by rw [← HRL.out,(HROW.out.2.2.1 e).1];rfl,(HROW.out.2.2.1 e).2⟩) HROW.out.2.1)
 clear hw3 hE3 hF3 hvl hfb hrow hdat HE2 HF2 HR2 g6 gf6 HB1 HF1
 have hB6 : Blk (w3.alloc (.cells #[.int .i64 k,.int .i64 a,.int .i64 r,.int .i64 i,.int .i64 l,.int .i64 n,.slice va dl vc] 62)).drew w3.heap.size 62 #[.int .i64 k,.int .i64 a,.int .i64 r,.int .i64 i,.int .i64 l,.int .i64 n,.slice va dl vc]:=Blk.new w3.drew 62 #[.int .i64 k,.int .i64 a,.int .i64 r,.int .i64 i,.int .i64 l,.int .i64 n,.slice va dl vc]
 have hf6 : Fr (fun _=>False) w3 (w3.alloc (.cells #[.int .i64 k,.int .i64 a,.int .i64 r,.int .i64 i,.int .i64 l,.int .i64 n,.slice va dl vc] 62)).drew:=(Fr.alloc _ w3 _).trans (Fr.drewN _ _ 1)
 refine region_Z (fun w'=>Fr (fun _=>False) w3 w') 11 (Fr.drewN _ w3 1) (fun hH=>?_)
 refine takes (b:=?_) [0,1,2,3,4,6] hH ?_ ?_
 rotate_left
 iterate 6 (first
  | (refine Sq.no rfl (by rfl) ?_)
  | (refine Sq.yes (v:=?_) rfl (by rfl) ?_ ?_;rotate_left;· (intro w' hw';obtain ⟨f0,f1,f2,f3,f4,f5,f6,f7⟩:=FACTS.out w' hw';go_simp;try with_reducible rfl));try simp only [lD,lE,lF,Act.put,lG,lH,lI])
 exact Sq.nil
 refine any_pair 5 7 rfl rfl (b1:=?_) (b2:=?_) (b:=?_) (u1:=?_) (u2:=?_) (u:=?_) ?_ ?_ ?_ ?_ ?_ ?_ ?_ (fun hH2=>?_)
 rotate_left 6
 ·intro K Q hK
  go_simp
  refine (HCLIP.out _).mono ?_
  rintro e wq ⟨rfl,rfl⟩
  exact hK
 ·intro K Q hK
  go_simp
  exact hK
 ·intro K Q hK
  go_simp
  exact hK
 ·intro K Q hK
  go_simp
  refine (HCLIP.out _).mono ?_
  rintro e wq ⟨rfl,rfl⟩
  exact hK
 ·exact Fr.drewN _ w3 1
 ·exact hf6
 ·exact hf6
 have hrw6 : RowE S (w3.alloc (.cells #[.int .i64 k,.int .i64 a,.int .i64 r,.int .i64 i,.int .i64 l,.int .i64 n,.slice va dl vc] 62)).drew so sc (rowsOf s.l vs):=HROW.out.fr (hf6.mono fun _ e=>e.elim)
 have hlt6 : ∀ q,S q → q < (w3.alloc (.cells #[.int .i64 k,.int .i64 a,.int .i64 r,.int .i64 i,.int .i64 l,.int .i64 n,.slice va dl vc] 62)).drew.heap.size:=fun q e=>Nat.lt_of_lt_of_le (HPF3.out.lt q e) hf6.size
 obtain ⟨w6,hw6⟩ : ∃ w,(w3.alloc (.cells #[.int .i64 k,.int .i64 a,.int .i64 r,.int .i64 i,.int .i64 l,.int .i64 n,.slice va dl vc] 62)).drew = w:=⟨_,rfl⟩
 rw [hw6] at hB6 hf6 hrw6 hlt6 ⊢
 obtain ⟨nb,hnb⟩ : ∃ b,w3.heap.size = b:=⟨_,rfl⟩
 rw [hnb] at hB6 ⊢
 obtain ⟨so',sc',w7,hrun7,hrow7,hf7⟩:=appE HRL.out hrw6 HR7.out (by have:=HL.out.1;omega) hlt6 ⟨nb,0,none⟩ 1 (ev k a r i l n (.slice va dl vc)) rfl (fun j u hj=>by rw [off_add,Nat.zero_add,hB6.cell];simpa [ev] using hj) (by intro u hu;simp [ev] at hu;rcases hu with rfl | rfl | rfl | rfl | rfl | rfl | rfl <;> rfl) 34
 have hf37 : Fr (fun _=>False) w3 w7:=hf6.trans hf7
 refine any_op 8 rfl (fun K hK=>?_)
 refine wp_append_runV _ _ _ rfl _ _ _ (by rfl) (by rfl) hrun7 ?_
 refine hK.out _ _ (hf37) (fun hH3=>?_)
 clear hK K 
 try simp only [lD,lE,lF,Act.put,lG,lH,lI]
 have hb7:=HFB.out.fr hf37 id
 have c4:=hb7.cell 4
 have z4:=hb7.frozen 4
 simp only [fcells,lA,lB,lC] at c4
 refine takes (b:=?_) [9,10] hH3 ?_ ?_
 rotate_left
 iterate 2 (first
  | (refine Sq.no rfl (by rfl) ?_)
  | (refine Sq.yes (v:=?_) rfl (by rfl) ?_ ?_;rotate_left;· (intro w' hw';go_simp;try with_reducible rfl));try simp only [lD,lE,lF,Act.put,lG,lH,lI])
 exact Sq.nil
 refine any_last rfl (fun K hK=>?_)
 go_simp
 refine hK.out _ _ ?_
 clear hK K 
 try simp only [lD,lE,lF,Act.put,lG,lH,lI]
 refine any_done ?_
 have hset:=Fr.setCell (S:=fun q=>q = fb) w7 ⟨fb,4,none⟩ (.slice so' (s.l.length + 1) sc') rfl
 have hb8:=hb7.set 4 (.slice so' (s.l.length + 1) sc')
 simp only [fcells,lG,lH,lI] at hb8
 obtain ⟨w8,hw8⟩ : ∃ w,w7.setCell ⟨fb,4,none⟩ (.slice so' (s.l.length + 1) sc') = w:=⟨_,rfl⟩
 rw [hw8] at hset hb8 ⊢
 have hf38 : Fr (fun q=>q = fb) w3 w8:=(hf37.mono fun _ e=>e.elim).trans hset
 have HF8 : Hid (Fr (fun q=>q = fb) W w8):=Lib.hid ((HFW.out.mono fun _ e=>e.elim).trans hf38)
 have HE8 : Hid (Blk w8 eb 62 #[.int .i64 k,.int .i64 a,.int .i64 r,.int .i64 i,.int .i64 l,.int .i64 n,.slice va dl vc]):=Lib.hid (HE3.out.fr hf38 (fun e=>HES.out (e ▸ HPF.out.f)))
 have hpf8 : PF S w8 fb mb { s with l:=s.l ++ [⟨k,a,r,i,l,n,ds⟩] }:=by
  have h38 : Fr S w3 w8:=hf38.mono fun q e=>e ▸ HPF.out.f
  refine ⟨⟨⟨so',sc',vs ++ [.slice va dl vc],by rw [List.length_append,List.length_append,HVL.out];rfl,by rw [List.length_append];exact hb8,?_,?_⟩,HPF3.out.fl.m.fr hf38 (fun e=>mp_ne HPF3.out.fl.m HFB.out e.symm),?_,?_⟩,HPF.out.f,HPF.out.m,fun q e=>Nat.lt_of_lt_of_le (HPF3.out.lt q e) hf38.size⟩
  ·rw [rowsOf_snoc HVL.out];exact hrow7.fr (hset.mono fun q e=>e ▸ HPF.out.f)
  ·exact (HDAT.out.fr h38).snoc HVL.out ⟨k,a,r,i,l,n,ds⟩ _ (HR3.out.fr h38)
  ·intro q hq
   rcases List.mem_append.1 hq with hq | hq
   ·exact HPF.out.fl.ok q hq
   ·rw [List.mem_singleton.1 hq];exact HDD.out
  ·show (s.l ++ _).length ≤ _
   rw [List.length_append]
   have:=HL.out.1
   simp
   omega
 have HPF8:=Lib.hid hpf8
 have HB8 : Hid (Blk w8 fb 57 (fcells { s with l:=s.l ++ [⟨k,a,r,i,l,n,ds⟩] } (.slice so' (s.l.length + 1) sc') (.map (some mb)))):=Lib.hid hb8
 have b4:=hb8.cell 4
 have e0:=HE8.out.cell 0
 simp only [lA,lB,lC] at b4 e0
 have HNE : Hid (eb ≠ fb ∧ eb ≠ mb ∧ fb ≠ mb):=Lib.hid ⟨fun e=>HES.out (e ▸ HPF.out.f),fun e=>HES.out (e ▸ HPF.out.m),mp_ne HPF3.out.fl.m HFB.out⟩
 have HMC:=HL.out.2
 clear hw8 hset hb8 hf38 hf37 hb7 c4 z4 hrun7 hrow7 hf7 hH hH2 hH3 hw6 hB6 hf6 hrw6 hlt6 hpf8 hnb FACTS HCLIP HE3 HFB HROW HR7 HRL HDAT HVL HR3
 go_upto_region 4 with (fail)
 clear b4
 rcases HP.out with ⟨hk,rfl⟩ | ⟨hk,rfl⟩ | ⟨hk,rfl⟩ | ⟨hk,rfl⟩ | ⟨hk,rfl⟩
 ·subst hk
  clear HP
  go_upto_region 23 with (fail)
  have FX : Hid (∀ w',Fr (fun q=>q = fb) w8 w' → w'.cell? ⟨eb,4,none⟩ = some (.int .i64 l) ∧ w'.cell? ⟨eb,5,none⟩ = some (.int .i64 n)):=Lib.hid (fun w' hf=>by
   have h2:=HE8.out.fr hf (fun e=>HNE.out.1 e)
   exact ⟨h2.cell 4,h2.cell 5⟩)
  have hD : Fr (fun _=>False) w8 w8.drew:=Fr.drewN _ w8 1
  refine region_Z (fun w'=>Fr (fun q=>q = fb) w8 w') 99 (hD.mono fun _ e=>e.elim) (fun hH=>?_)
  generalize w8.drew = w9 at hD hH ⊢
  have HB9:=HB8.out.fr hD (fun e=>e)
  have x2:=HB9.cell 2
  have xf2:=HB9.frozen 2
  have x3:=HB9.cell 3
  have xf3:=HB9.frozen 3
  simp only [fcells,lA,lB,lC] at x2 x3
  refine takes (b:=?_) [0,1,2,3,4,5,6,7] hH ?_ ?_
  rotate_left
  iterate 8 (first
   | (refine Sq.no rfl (by rfl) ?_)
   | (refine Sq.yes (v:=?_) rfl (by rfl) ?_ ?_;rotate_left;· (intro w' hw';obtain ⟨f0,f1⟩:=FX.out w' hw';go_simp;try with_reducible rfl));try simp only [lD,lE,lF,Act.put,lG,lH,lI])
  exact Sq.nil
  refine any_op 8 rfl (fun K hK=>?_)
  go_simp
  refine hK.out _ _ (hH.trans (Fr.setCell _ ⟨fb,2,none⟩ (.int .i64 l) rfl)) (fun hH2=>?_)
  clear hK K 
  try simp only [lD,lE,lF,Act.put,lG,lH,lI]
  refine takes (b:=?_) [9,10] hH2 ?_ ?_
  rotate_left
  iterate 2 (first
   | (refine Sq.no rfl (by rfl) ?_)
   | (refine Sq.yes (v:=?_) rfl (by rfl) ?_ ?_;rotate_left;· (intro w' hw';go_simp;try with_reducible rfl));try simp only [lD,lE,lF,Act.put,lG,lH,lI])
  exact Sq.nil
  refine any_op 11 rfl (fun K hK=>?_)
  go_simp
  refine hK.out _ _ (hH2.trans (Fr.setCell _ ⟨fb,3,none⟩ (.int .i64 n) rfl)) (fun hH3=>?_)
  clear hK K 
  try simp only [lD,lE,lF,Act.put,lG,lH,lI]
  refine any_done ?_
  have HPF9:=HPF8.out.fr0 hD
  have hDD:=hD
  clear hH hH2 hH3 x2 xf2 x3 xf3 HB9
  go_wp2
  go_ret
  exact ⟨rfl,HPF9.cells ((Fr.setCell (S:=fun q=>q = fb) w9 ⟨fb,2,none⟩ (.int .i64 l) rfl).trans (Fr.setCell _ ⟨fb,3,none⟩ (.int .i64 n) rfl)) rfl rfl rfl (fun v hb=>((hb.set 2 (.int .i64 l)).set 3 (.int .i64 n))),((HF8.out.mono fun q e=>.inl e).trans (hDD.mono fun _ e=>e.elim)).trans (((Fr.setCell (S:=fun q=>q = fb) w9 ⟨fb,2,none⟩ (.int .i64 l) rfl).trans (Fr.setCell _ ⟨fb,3,none⟩ (.int .i64 n) rfl)).mono fun q e=>.inl e)⟩
 ·subst hk
  clear HP
  go_upto_region 24 with (fail)
  have FX : Hid (∀ w',Fr (fun q=>q = fb) w8 w' → w'.cell? ⟨eb,5,none⟩ = some (.int .i64 n)):=Lib.hid (fun w' hf=>by
   have h2:=HE8.out.fr hf (fun e=>HNE.out.1 e)
   exact h2.cell 5)
  have hD : Fr (fun _=>False) w8 w8.drew:=Fr.drewN _ w8 1
  refine region_Z (fun w'=>Fr (fun q=>q = fb) w8 w') 99 (hD.mono fun _ e=>e.elim) (fun hH=>?_)
  generalize w8.drew = w9 at hD hH ⊢
  have HB9:=HB8.out.fr hD (fun e=>e)
  have x5:=HB9.cell 5
  have xf5:=HB9.frozen 5
  have x6:=HB9.cell 6
  have xf6:=HB9.frozen 6
  have x7:=HB9.cell 7
  have xf7:=HB9.frozen 7
  have x8:=HB9.cell 8
  have xf8:=HB9.frozen 8
  have x9:=HB9.cell 9
  have xf9:=HB9.frozen 9
  simp only [fcells,lA,lB,lC] at x5 x6 x7 x8 x9
  refine takes (b:=?_) [0,1,2,3,4,5,6,7,8,9] hH ?_ ?_
  rotate_left
  iterate 10 (first
   | (refine Sq.no rfl (by rfl) ?_)
   | (refine Sq.yes (v:=?_) rfl (by rfl) ?_ ?_;rotate_left;· (intro w' hw';have f0:=FX.out w' hw';go_simp;try with_reducible rfl));try simp only [lD,lE,lF,Act.put,lG,lH,lI])
  exact Sq.nil
  refine any_op 10 rfl (fun K hK=>?_)
  go_simp
  refine hK.out _ _ (hH.trans (Fr.setCell _ ⟨fb,5,none⟩ (.int .i64 1) rfl)) (fun hH2=>?_)
  clear hK K 
  try simp only [lD,lE,lF,Act.put,lG,lH,lI]
  refine takes (b:=?_) [11,12] hH2 ?_ ?_
  rotate_left
  iterate 2 (first
   | (refine Sq.no rfl (by rfl) ?_)
   | (refine Sq.yes (v:=?_) rfl (by rfl) ?_ ?_;rotate_left;· (intro w' hw';go_simp;try with_reducible rfl));try simp only [lD,lE,lF,Act.put,lG,lH,lI])
  exact Sq.nil
  refine any_op 13 rfl (fun K hK=>?_)
  go_simp
  refine hK.out _ _ (hH2.trans (Fr.setCell _ ⟨fb,6,none⟩ (.int .i64 ((s.l.length : Int) + 1)) rfl)) (fun hH3=>?_)
  clear hK K 
  try simp only [lD,lE,lF,Act.put,lG,lH,lI]
  refine takes (b:=?_) [14,15] hH3 ?_ ?_
  rotate_left
  iterate 2 (first
   | (refine Sq.no rfl (by rfl) ?_)
   | (refine Sq.yes (v:=?_) rfl (by rfl) ?_ ?_;rotate_left;· (intro w' hw';go_simp;try with_reducible rfl));try simp only [lD,lE,lF,Act.put,lG,lH,lI])
  exact Sq.nil
  refine any_op 16 rfl (fun K hK=>?_)
  go_simp
  refine hK.out _ _ (hH3.trans (Fr.setCell _ ⟨fb,7,none⟩ (.int .i64 0) rfl)) (fun hH4=>?_)
  clear hK K 
  try simp only [lD,lE,lF,Act.put,lG,lH,lI]
  refine takes (b:=?_) [17,18] hH4 ?_ ?_
  rotate_left
  iterate 2 (first
   | (refine Sq.no rfl (by rfl) ?_)
   | (refine Sq.yes (v:=?_) rfl (by rfl) ?_ ?_;rotate_left;· (intro w' hw';go_simp;try with_reducible rfl));try simp only [lD,lE,lF,Act.put,lG,lH,lI])
  exact Sq.nil
  refine any_op 19 rfl (fun K hK=>?_)
  go_simp
  refine hK.out _ _ (hH4.trans (Fr.setCell _ ⟨fb,8,none⟩ (.int .i64 n) rfl)) (fun hH5=>?_)
  clear hK K 
  try simp only [lD,lE,lF,Act.put,lG,lH,lI]
  refine takes (b:=?_) [20,21] hH5 ?_ ?_
  rotate_left
  iterate 2 (first
   | (refine Sq.no rfl (by rfl) ?_)
   | (refine Sq.yes (v:=?_) rfl (by rfl) ?_ ?_;rotate_left;· (intro w' hw';go_simp;try with_reducible rfl));try simp only [lD,lE,lF,Act.put,lG,lH,lI])
  exact Sq.nil
  refine any_op 22 rfl (fun K hK=>?_)
  go_simp
  refine hK.out _ _ (hH5.trans (Fr.setCell _ ⟨fb,9,none⟩ (.bool false) rfl)) (fun hH6=>?_)
  clear hK K 
  try simp only [lD,lE,lF,Act.put,lG,lH,lI]
  refine any_done ?_
  have HPF9:=HPF8.out.fr0 hD
  have hDD:=hD
  clear hH hH2 hH3 hH4 hH5 hH6 HB9 x5 xf5 x6 xf6 x7 xf7 x8 xf8 x9 xf9
  go_wp2
  go_ret
  exact ⟨rfl,HPF9.cells (((((Fr.setCell (S:=fun q=>q = fb) w9 ⟨fb,5,none⟩ (.int .i64 1) rfl).trans (Fr.setCell _ ⟨fb,6,none⟩ (.int .i64 ((s.l.length : Int) + 1)) rfl)).trans (Fr.setCell _ ⟨fb,7,none⟩ (.int .i64 0) rfl)).trans (Fr.setCell _ ⟨fb,8,none⟩ (.int .i64 n) rfl)).trans (Fr.setCell _ ⟨fb,9,none⟩ (.bool false) rfl)) rfl rfl rfl (fun v hb=>(((((hb.set 5 (.int .i64 1)).set 6 (.int .i64 ((s.l.length : Int) + 1))).set 7 (.int .i64 0)).set 8 (.int .i64 n)).set 9 (.bool false))),((HF8.out.mono fun q e=>.inl e).trans (hDD.mono fun _ e=>e.elim)).trans ((((((Fr.setCell (S:=fun q=>q = fb) w9 ⟨fb,5,none⟩ (.int .i64 1) rfl).trans (Fr.setCell _ ⟨fb,6,none⟩ (.int .i64 ((s.l.length : Int) + 1)) rfl)).trans (Fr.setCell _ ⟨fb,7,none⟩ (.int .i64 0) rfl)).trans (Fr.setCell _ ⟨fb,8,none⟩ (.int .i64 n) rfl)).trans (Fr.setCell _ ⟨fb,9,none⟩ (.bool false) rfl)).mono fun q e=>.inl e)⟩
 ·subst hk
  clear HP
  go_upto_region 25 with (fail)
  clear e0
  have x5:=HB8.out.cell 5
  have xf5:=HB8.out.frozen 5
  have x7:=HB8.out.cell 7
  have xf7:=HB8.out.frozen 7
  have x9:=HB8.out.cell 9
  have xf9:=HB8.out.frozen 9
  simp only [fcells,lA,lB,lC] at x5 x7 x9
  have e2:=HE8.out.cell 2
  have e4:=HE8.out.cell 4
  have e5:=HE8.out.cell 5
  simp only [lA,lB,lC] at e2 e4 e5
  go_wp2
  go_ret
  exact ⟨rfl,HPF8.out.cells (((Fr.setCell (S:=fun q=>q = fb) w8 ⟨fb,5,none⟩ (.int .i64 2) rfl).trans (Fr.setCell _ ⟨fb,7,none⟩ (.int .i64 ((s.l.length : Int) + 1)) rfl)).trans (Fr.setCell _ ⟨fb,9,none⟩ (.bool false) rfl)) rfl rfl rfl (fun v hb=>(((hb.set 5 (.int .i64 2)).set 7 (.int .i64 ((s.l.length : Int) + 1))).set 9 (.bool false))),(HF8.out.mono fun q e=>.inl e).trans ((((Fr.setCell (S:=fun q=>q = fb) w8 ⟨fb,5,none⟩ (.int .i64 2) rfl).trans (Fr.setCell _ ⟨fb,7,none⟩ (.int .i64 ((s.l.length : Int) + 1)) rfl)).trans (Fr.setCell _ ⟨fb,9,none⟩ (.bool false) rfl)).mono fun q e=>.inl e)⟩
 ·subst hk
  clear HP
  go_upto_region 26 with (fail)
  clear e0
  have x5:=HB8.out.cell 5
  have xf5:=HB8.out.frozen 5
  have x8:=HB8.out.cell 8
  have xf8:=HB8.out.frozen 8
  simp only [fcells,lA,lB,lC] at x5 x8
  have e2:=HE8.out.cell 2
  have e4:=HE8.out.cell 4
  have e5:=HE8.out.cell 5
  simp only [lA,lB,lC] at e2 e4 e5
  go_wp2
  go_ret
  exact ⟨rfl,HPF8.out.cells ((Fr.setCell (S:=fun q=>q = fb) w8 ⟨fb,5,none⟩ (.int .i64 0) rfl).trans (Fr.setCell _ ⟨fb,8,none⟩ (.int .i64 0) rfl)) rfl rfl rfl (fun v hb=>((hb.set 5 (.int .i64 0)).set 8 (.int .i64 0))),(HF8.out.mono fun q e=>.inl e).trans (((Fr.setCell (S:=fun q=>q = fb) w8 ⟨fb,5,none⟩ (.int .i64 0) rfl).trans (Fr.setCell _ ⟨fb,8,none⟩ (.int .i64 0) rfl)).mono fun q e=>.inl e)⟩
 ·rcases hk with rfl | rfl
  ·clear HP
   go_upto_region 27 with (fail)
   clear e0
   have x5:=HB8.out.cell 5
   have xf5:=HB8.out.frozen 5
   have x8:=HB8.out.cell 8
   have xf8:=HB8.out.frozen 8
   simp only [fcells,lA,lB,lC] at x5 x8
   have e2:=HE8.out.cell 2
   have e4:=HE8.out.cell 4
   have e5:=HE8.out.cell 5
   simp only [lA,lB,lC] at e2 e4 e5
   go_wp2
   go_ret
   exact ⟨rfl,HPF8.out.cells ((Fr.setCell (S:=fun q=>q = fb) w8 ⟨fb,5,none⟩ (.int .i64 0) rfl).trans (Fr.setCell _ ⟨fb,8,none⟩ (.int .i64 (wrap64 (s.turn + 1))) rfl)) rfl rfl rfl (fun v hb=>((hb.set 5 (.int .i64 0)).set 8 (.int .i64 (wrap64 (s.turn + 1))))),(HF8.out.mono fun q e=>.inl e).trans (((Fr.setCell (S:=fun q=>q = fb) w8 ⟨fb,5,none⟩ (.int .i64 0) rfl).trans (Fr.setCell _ ⟨fb,8,none⟩ (.int .i64 (wrap64 (s.turn + 1))) rfl)).mono fun q e=>.inl e)⟩
  ·clear HP
   go_upto_region 27 with (fail)
   clear e0
   have x5:=HB8.out.cell 5
   have xf5:=HB8.out.frozen 5
   have x8:=HB8.out.cell 8
   have xf8:=HB8.out.frozen 8
   simp only [fcells,lA,lB,lC] at x5 x8
   have e2:=HE8.out.cell 2
   have e4:=HE8.out.cell 4
   have e5:=HE8.out.cell 5
   simp only [lA,lB,lC] at e2 e4 e5
   go_wp2
   go_ret
   exact ⟨rfl,HPF8.out.cells ((Fr.setCell (S:=fun q=>q = fb) w8 ⟨fb,5,none⟩ (.int .i64 0) rfl).trans (Fr.setCell _ ⟨fb,8,none⟩ (.int .i64 (wrap64 (s.turn + 1))) rfl)) rfl rfl rfl (fun v hb=>((hb.set 5 (.int .i64 0)).set 8 (.int .i64 (wrap64 (s.turn + 1))))),(HF8.out.mono fun q e=>.inl e).trans (((Fr.setCell (S:=fun q=>q = fb) w8 ⟨fb,5,none⟩ (.int .i64 0) rfl).trans (Fr.setCell _ ⟨fb,8,none⟩ (.int .i64 (wrap64 (s.turn + 1))) rfl)).mono fun q e=>.inl e)⟩
end Go.Proofs.YtnkelaohcbdjnaaGreat
