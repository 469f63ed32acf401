/- One event more -/
import Derived.Test.YtnkelaohcbdjnaaGreatGa
import Derived.Test.YtnkelaohcbdjnaaGreatRz
set_option linter.unusedVariables false
set_option linter.unusedSimpArgs false
namespace Go.Proofs.YtnkelaohcbdjnaaGreat.Ev
open Go.RowKit Go.Maps
theorem right_of {s : Hi} {e : Ev} (h : faultC s e = 0) : rightB e = true:=by
 cases hr : rightB e with
 | true=>rfl
 | false=>rw [fault1 hr] at h;cases h
theorem HS.cells {W W' : World} {hb kb ib ob fb : Nat} {s : Hi} (h : HS W hb kb ib ob fb s) (s' : Hi) (hb' : Blk W' hb 121 (hcells s' kb ib ob fb)) (hf : Fr (fun k=>k = hb) W W')
 (e1 : s'.kinds = s.kinds) (e2 : s'.ids = s.ids) (e3 : s'.of_ = s.of_) (e4 : s'.from_ = s.from_) (hn : s.n ≤ s'.n) (hn2 : s'.n ≤ 1000000) : HS W' hb kb ib ob fb s':=by
 obtain ⟨b,⟨ck,hck,mk⟩,⟨ci,hci,mi⟩,⟨co,hco,mo⟩,⟨cf,hcf,mf⟩,ne,few,dk,dv⟩:=h
 refine ⟨hb',⟨ck,by omega,?_⟩,⟨ci,by omega,?_⟩,⟨co,by omega,?_⟩,⟨cf,by omega,?_⟩,ne,hn2,?_,?_⟩
 ·rw [e1];exact mk.fr hf (mp_ne mk b).symm
 ·rw [e2];exact mi.fr hf (mp_ne mi b).symm
 ·rw [e3];exact mo.fr hf (mp_ne mo b).symm
 ·rw [e4];exact mf.fr hf (mp_ne mf b).symm
 ·rw [e1];intro x v hx;have:=dk x v hx;omega
 ·rw [e3];exact dv
theorem why_cases (c : Nat) (hc : c ≤ 7) : ∃ z : ByteArray,whyV c = .string z ∧ z.toList.isEmpty = (c == 0):=by
 have : c = 0 ∨ c = 1 ∨ c = 2 ∨ c = 3 ∨ c = 4 ∨ c = 5 ∨ c = 6 ∨ c = 7:=by omega
 rcases this with rfl | rfl | rfl | rfl | rfl | rfl | rfl | rfl <;> exact ⟨_,rfl,by kernel_rfl⟩
theorem fault_le (s : Hi) (e : Ev) : faultC s e ≤ 7:=by
 unfold faultC
 repeat' split
 all_goals omega
theorem range_of {e : Ev} (h : rightB e = true) : 1 ≤ e.k ∧ e.k ≤ 23 ∧ 0 ≤ e.ref ∧ e.ref ≤ 1099511627776:=by
 simp only [rightB,Bool.and_eq_true,decide_eq_true_eq,betB_iff] at h
 exact ⟨h.1,h.2.1,h.2.2.2.1.1,h.2.2.2.1.2⟩
/-- the five blocks of a history -/
def Own (hb kb ib ob fb : Nat) : Nat → Prop:=fun k=>k = hb ∨ k = kb ∨ k = ib ∨ k = ob ∨ k = fb
theorem frz {W : World} {hb kb ib ob fb : Nat} {s : Hi} (h : HS W hb kb ib ob fb s) (k : Nat) : W.frozen? ⟨hb,k,none⟩ = false:=h.b.frozen k
theorem ecs {W : World} {bb : Nat} {e : Ev} (h : Blk W bb 62 (evc e)) : W.cell? ⟨bb,0,none⟩ = some (.int .i64 e.k) ∧ W.cell? ⟨bb,1,none⟩ = some (.int .i64 e.at_) ∧ W.cell? ⟨bb,2,none⟩ = some (.int .i64 e.ref) ∧ W.cell? ⟨bb,3,none⟩ = some (.int .i64 e.id) ∧ W.cell? ⟨bb,4,none⟩ = some (.int .i64 e.list) ∧ W.cell? ⟨bb,5,none⟩ = some (.int .i64 e.n) ∧ W.cell? ⟨bb,6,none⟩ = some (.slice e.ao e.dl e.cp):=⟨h.cell 0,h.cell 1,h.cell 2,h.cell 3,h.cell 4,h.cell 5,h.cell 6⟩
theorem hcs {W : World} {hb kb ib ob fb : Nat} {s : Hi} (h : Blk W hb 121 (hcells s kb ib ob fb)) : (W.cell? ⟨hb,0,none⟩ = some (.int .i64 s.n) ∧ W.cell? ⟨hb,1,none⟩ = some (.int .i64 s.at_) ∧ W.cell? ⟨hb,2,none⟩ = some (.int .i64 s.closed) ∧ W.cell? ⟨hb,3,none⟩ = some (.map (some kb)) ∧ W.cell? ⟨hb,4,none⟩ = some (.map (some ib)) ∧ W.cell? ⟨hb,5,none⟩ = some (.int .i64 s.task) ∧ W.cell? ⟨hb,6,none⟩ = some (.bool s.begun) ∧ W.cell? ⟨hb,7,none⟩ = some (.map (some ob)) ∧ W.cell? ⟨hb,8,none⟩ = some (.map (some fb))) ∧ W.frozen? ⟨hb,0,none⟩ = false ∧ W.frozen? ⟨hb,1,none⟩ = false ∧ W.frozen? ⟨hb,2,none⟩ = false ∧ W.frozen? ⟨hb,5,none⟩ = false ∧ W.frozen? ⟨hb,6,none⟩ = false:=⟨⟨h.cell 0,h.cell 1,h.cell 2,h.cell 3,h.cell 4,h.cell 5,h.cell 6,h.cell 7,h.cell 8⟩,h.frozen 0,h.frozen 1,h.frozen 2,h.frozen 5,h.frozen 6⟩
set_option maxRecDepth 100000 in
set_option maxHeartbeats 4000000 in
theorem add_any (W : World) (hb kb ib ob fb : Nat) (s : Hi) (h : HS W hb kb ib ob fb s) (hn : s.n < 1000000) (e : Ev) :
 Calls Tryz.prog 49 #[.pointer (some ⟨hb,0,none⟩),.agg (evc e)] W fun r W'=>r = .returned (.tuple #[whyV (faultC s e),.bool (faultC s e == 0)]) ∧ HS W' hb kb ib ob fb (addO s e) ∧ Fr (Own hb kb ib ob fb) W W':=by
 have hB:=Blk.new W 62 (evc e)
 have hF : Fr (fun _=>False) W (W.alloc (.cells (evc e) 62)):=Fr.alloc _ _ _
 obtain ⟨w1,hw1⟩ : ∃ w1,W.alloc (.cells (evc e) 62) = w1:=⟨_,rfl⟩
 rw [hw1] at hB hF
 have hlt:=h.lt
 have HS1:=Lib.hid (h.fr0 hF)
 obtain ⟨bb,hbb⟩ : ∃ b,W.heap.size = b:=⟨_,rfl⟩
 have HBB : Hid (bb ≠ hb ∧ bb ≠ kb ∧ bb ≠ ib ∧ bb ≠ ob ∧ bb ≠ fb):=Lib.hid (by omega)
 rw [hbb] at hB
 have HB1:=Lib.hid hB
 have HF1:=Lib.hid hF
 clear h hB hF hlt
 have HN:=Lib.hid hn
 clear hn
 simp only [evc] at hw1
 rw [show Value.agg (evc e) = Value.agg #[.int .i64 e.k,.int .i64 e.at_,.int .i64 e.ref,.int .i64 e.id,.int .i64 e.list,.int .i64 e.n,.slice e.ao e.dl e.cp] from rfl]
 have HFA:=Lib.hid (fault_any w1 hb kb ib ob fb s HS1.out e)
 simp only [evc] at HFA
 obtain ⟨z,hz,hze⟩:=why_cases (faultC s e) (fault_le s e)
 have HZ:=Lib.hid hz
 rw [hz] at HFA
 clear hz
 obtain ⟨c,hc⟩ : ∃ c,faultC s e = c:=⟨_,rfl⟩
 have HC:=Lib.hid hc
 rw [hc] at hze
 clear hc
 obtain ⟨c0,c1,c2,c3,c4,c5,c6⟩:=ecs HB1.out
 go_enter Tryz.func49,Tryz.ntmps49
 go_upto_region 1 with (fail)
 try rw [hw1]
 try rw [hbb]
 clear hw1 hbb
 go_upto_region 2 with (first | (go_at_call 88;refine HFA.out.mono ?_;rintro e2 w2 ⟨rfl,hf2⟩) | go_in)
 clear c0 c1 c2 c3 c4 c5 c6
 have HS2:=Lib.hid (HS1.out.fr0 hf2)
 have HB2:=Lib.hid (HB1.out.fr hf2 id)
 have HF2:=Lib.hid (HF1.out.trans hf2)
 clear HS1 HB1 HF1 hf2 HFA
 obtain ⟨c0,c1,c2,c3,c4,c5,c6⟩:=ecs HB2.out
 obtain ⟨⟨d0,d1,d2,d3,d4,d5,d6,d7,d8⟩,f0,f1,f2,f5,f6⟩:=hcs HS2.out.b
 try dsimp only at d0 d1 d2 d3 d4 d5 d6 d7 d8
 by_cases hc0 : c = 0
 case neg=>
  have p1 : z.toList.isEmpty = false:=by rw [hze];simp [hc0]
  have HC0:=Lib.hid hc0
  clear hze hc0
  go_wp2
  go_ret2
  refine ⟨?_,?_,HF2.out.mono fun _ e=>e.elim⟩
  ·rw [HZ.out,HC.out,show (c == 0) = false by simp [HC0.out]];rfl
  ·rw [show addO s e = s from if_neg (by rw [HC.out];exact HC0.out)]
   exact HS2.out
 subst hc0
 have p1 : z.toList.isEmpty = true:=by rw [hze];rfl
 clear hze
 have HRT:=Lib.hid (right_of HC.out)
 have HW : Hid (wrap64 ((s.n : Int) + 1) = ((s.n + 1 : Nat) : Int)):=Lib.hid (by have:=HN.out;rw [wrap64];omega)
 have hb3 : Blk ((w2.setCell ⟨hb,0,none⟩ (.int .i64 ((s.n + 1 : Nat) : Int))).setCell ⟨hb,1,none⟩ (.int .i64 e.at_)) hb 121 (hcells (step1 s e) kb ib ob fb):=by
  have:=(HS2.out.b.set 0 (.int .i64 ((s.n + 1 : Nat) : Int))).set 1 (.int .i64 e.at_)
  simpa only [hcells,step1,lG,lH,lI] using this
 have hf3 : Fr (fun k=>k = hb) w2 ((w2.setCell ⟨hb,0,none⟩ (.int .i64 ((s.n + 1 : Nat) : Int))).setCell ⟨hb,1,none⟩ (.int .i64 e.at_)):=(Fr.setCell (S:=fun k=>k = hb) w2 ⟨hb,0,none⟩ _ rfl).trans (Fr.setCell _ ⟨hb,1,none⟩ _ rfl)
 go_upto_region 6 with (fail)
 rw [HW.out]
 obtain ⟨w3,hw3⟩ : ∃ w3,(w2.setCell ⟨hb,0,none⟩ (.int .i64 ((s.n + 1 : Nat) : Int))).setCell ⟨hb,1,none⟩ (.int .i64 e.at_) = w3:=⟨_,rfl⟩
 rw [hw3] at hb3 hf3 ⊢
 clear c0 c1 c2 c3 c4 c5 c6 d0 d1 d2 d3 d4 d5 d6 d7 d8 f0 f1 f2 f5 f6
 have HS3:=Lib.hid (HS2.out.cells (step1 s e) hb3 hf3 rfl rfl rfl rfl (by simp [step1]) (by have:=HN.out;simp [step1];omega))
 have HB3:=Lib.hid (HB2.out.fr hf3 HBB.out.1)
 have HF3 : Hid (Fr (Own hb kb ib ob fb) W w3):=Lib.hid ((HF2.out.mono fun _ e=>e.elim).trans (hf3.mono fun _ e=>.inl e))
 obtain ⟨s1,hs1⟩ : ∃ s1,step1 s e = s1:=⟨_,rfl⟩
 have HAD:=Lib.hid (addO_0 HC.out)
 have mfr : ∀ (b : Nat) (G : Int → Option Int),b ≠ hb → (∃ c,c ≤ s.n ∧ Mp iKE w2 b c (mI G)) → ∃ c,c ≤ s.n ∧ Mp iKE w3 b c (mI G):=fun b G hne h=>by obtain ⟨c,hc,hM⟩:=h;exact ⟨c,hc,hM.fr hf3 hne⟩
 have hne2 : kb ≠ hb ∧ ib ≠ hb ∧ ob ≠ hb ∧ fb ≠ hb:=by
  obtain ⟨_,_,m1⟩:=HS2.out.k
  obtain ⟨_,_,m2⟩:=HS2.out.i
  obtain ⟨_,_,m3⟩:=HS2.out.o
  obtain ⟨_,_,m4⟩:=HS2.out.f
  exact ⟨(mp_ne m1 HS2.out.b).symm,(mp_ne m2 HS2.out.b).symm,(mp_ne m3 HS2.out.b).symm,(mp_ne m4 HS2.out.b).symm⟩
 have HNE:=Lib.hid hne2
 have HM3 : Hid ((∃ c,c ≤ s.n ∧ Mp iKE w3 kb c (mI (step1 s e).kinds)) ∧ (∃ c,c ≤ s.n ∧ Mp iKE w3 ib c (mI (step1 s e).ids)) ∧ (∃ c,c ≤ s.n ∧ Mp iKE w3 ob c (mI (step1 s e).of_)) ∧ (∃ c,c ≤ s.n ∧ Mp iKE w3 fb c (mI (step1 s e).from_))):=Lib.hid ⟨mfr _ _ hne2.1 HS2.out.k,mfr _ _ hne2.2.1 HS2.out.i,mfr _ _ hne2.2.2.1 HS2.out.o,mfr _ _ hne2.2.2.2 HS2.out.f⟩
 clear mfr hne2
 clear hw3 hb3 hf3 HW HS2 HB2 HF2
 rw [hs1] at HS3 HAD HM3
 have HN1 : Hid (s1.n = s.n + 1):=Lib.hid (by rw [← hs1];rfl)
 clear hs1
 obtain ⟨c0,c1,c2,c3,c4,c5,c6⟩:=ecs HB3.out
 obtain ⟨⟨d0,d1,d2,d3,d4,d5,d6,d7,d8⟩,f0,f1,f2,f5,f6⟩:=hcs HS3.out.b
 try dsimp only at d0 d1 d2 d3 d4 d5 d6 d7 d8
 by_cases g : e.k = 2
 ·have HK:=Lib.hid g
  clear g
  have q2 : (e.k == 2) = true:=by rw [HK.out];rfl
  have q3 : (e.k == 3) = false:=by rw [HK.out];rfl
  have q4 : (e.k == 4) = false:=by rw [HK.out];rfl
  have q5 : (e.k == 5) = false:=by rw [HK.out];rfl
  have q6 : (e.k == 6) = false:=by rw [HK.out];rfl
  have q7 : (e.k == 7) = false:=by rw [HK.out];rfl
  have q8 : (e.k == 8) = false:=by rw [HK.out];rfl
  have q9 : (e.k == 9) = false:=by rw [HK.out];rfl
  have q10 : (e.k == 10) = false:=by rw [HK.out];rfl
  have q11 : (e.k == 11) = false:=by rw [HK.out];rfl
  have q12 : (e.k == 12) = false:=by rw [HK.out];rfl
  have q13 : (e.k == 13) = false:=by rw [HK.out];rfl
  have q14 : (e.k == 14) = false:=by rw [HK.out];rfl
  have q17 : (e.k == 17) = false:=by rw [HK.out];rfl
  have q18 : (e.k == 18) = false:=by rw [HK.out];rfl
  have pcl : closeB e.k = false:=by rw [HK.out];rfl
  go_upto_region 9 with (fail)
  have hfd : Fr (fun _=>False) w3 w3.drew:=Fr.drewN _ w3 1
  have HS4:=Lib.hid (HS3.out.fr0 hfd)
  have HB4:=Lib.hid (HB3.out.fr hfd id)
  have HF4:=Lib.hid (HF3.out.trans (hfd.mono fun _ e=>e.elim))
  obtain ⟨w4,hw4⟩ : ∃ w,w3.drew = w:=⟨_,rfl⟩
  rw [hw4] at HS4 HB4 HF4
  refine region_Z (fun (w' : World)=>w'.cell? ⟨hb,0,none⟩ = some (.int .i64 s1.n) ∧ w'.cell? ⟨bb,0,none⟩ = some (.int .i64 e.k)) 99 ⟨d0,c0⟩ (fun hH=>?_)
  rw [hw4] at hH ⊢
  refine takes (b:=?_) [0,1,2,3,4,5,6,7,8,9,10] hH ?_ ?_
  rotate_left
  iterate 11 ((refine Sq.yes (v:=?_) rfl (by rfl) ?_ ?_;rotate_left;· (intro w' hw';obtain ⟨s1,s2⟩:=hw';go_simp;try with_reducible rfl));try simp only [lD,lE,lF,Act.put,lG,lH,lI])
  exact Sq.nil
  clear hw4 hfd HS3 HB3 HF3 hH
  clear c0 c1 c2 c3 c4 c5 c6 d0 d1 d2 d3 d4 d5 d6 d7 d8 f0 f1 f2 f5 f6
  obtain ⟨c0,c1,c2,c3,c4,c5,c6⟩:=ecs HB4.out
  obtain ⟨⟨d0,d1,d2,d3,d4,d5,d6,d7,d8⟩,f0,f1,f2,f5,f6⟩:=hcs HS4.out.b
  try dsimp only at d0 d1 d2 d3 d4 d5 d6 d7 d8
  refine any_op 11 rfl (fun K hK=>?_)
  go_simp
  have hb5 : Blk (w4.setCell ⟨hb,5,none⟩ (.int .i64 s1.n)) hb 121 (hcells { s1 with task:=s1.n } kb ib ob fb):=by
   have:=HS4.out.b.set 5 (.int .i64 s1.n)
   simpa only [hcells,lG,lH,lI] using this
  have hf5 : Fr (fun k=>k = hb) w4 (w4.setCell ⟨hb,5,none⟩ (.int .i64 s1.n)):=Fr.setCell (S:=fun k=>k = hb) w4 ⟨hb,5,none⟩ _ rfl
  obtain ⟨w5,hw5⟩ : ∃ w,w4.setCell ⟨hb,5,none⟩ (.int .i64 s1.n) = w:=⟨_,rfl⟩
  rw [hw5] at hb5 hf5 ⊢
  have HS5:=Lib.hid (HS4.out.cells { s1 with task:=s1.n } hb5 hf5 rfl rfl rfl rfl (Nat.le_refl _) HS4.out.few)
  have HB5:=Lib.hid (HB4.out.fr hf5 HBB.out.1)
  have HF5:=Lib.hid (HF4.out.trans (hf5.mono fun _ e=>.inl e : Fr (Own hb kb ib ob fb) _ _))
  clear hw5 hb5 hf5 HS4 HB4 HF4
  clear c0 c1 c2 c3 c4 c5 c6 d0 d1 d2 d3 d4 d5 d6 d7 d8 f0 f1 f2 f5 f6
  obtain ⟨c0,c1,c2,c3,c4,c5,c6⟩:=ecs HB5.out
  obtain ⟨⟨d0,d1,d2,d3,d4,d5,d6,d7,d8⟩,f0,f1,f2,f5,f6⟩:=hcs HS5.out.b
  try dsimp only at d0 d1 d2 d3 d4 d5 d6 d7 d8
  refine hK.out _ _ ⟨d0,c0⟩ (fun hH2=>?_)
  clear hK K
  try simp only [lD,lE,lF,Act.put,lG,lH,lI]
  refine takes (b:=?_) [12,13] hH2 ?_ ?_
  rotate_left
  iterate 2 ((refine Sq.yes (v:=?_) rfl (by rfl) ?_ ?_;rotate_left;· (intro w' hw';obtain ⟨s1,s2⟩:=hw';go_simp;try with_reducible rfl));try simp only [lD,lE,lF,Act.put,lG,lH,lI])
  exact Sq.nil
  clear hH2
  refine any_op 14 rfl (fun K hK=>?_)
  go_simp
  have hb6 : Blk (w5.setCell ⟨hb,6,none⟩ (.bool false)) hb 121 (hcells { s1 with task:=s1.n,begun:=false } kb ib ob fb):=by
   have:=HS5.out.b.set 6 (.bool false)
   simpa only [hcells,lG,lH,lI] using this
  have hf6 : Fr (fun k=>k = hb) w5 (w5.setCell ⟨hb,6,none⟩ (.bool false)):=Fr.setCell (S:=fun k=>k = hb) w5 ⟨hb,6,none⟩ _ rfl
  obtain ⟨w6,hw6⟩ : ∃ w,w5.setCell ⟨hb,6,none⟩ (.bool false) = w:=⟨_,rfl⟩
  rw [hw6] at hb6 hf6 ⊢
  have HS6:=Lib.hid (HS5.out.cells { s1 with task:=s1.n,begun:=false } hb6 hf6 rfl rfl rfl rfl (Nat.le_refl _) HS5.out.few)
  have HB6:=Lib.hid (HB5.out.fr hf6 HBB.out.1)
  have HF6:=Lib.hid (HF5.out.trans (hf6.mono fun _ e=>.inl e : Fr (Own hb kb ib ob fb) _ _))
  clear hw6 hb6 hf6 HS5 HB5 HF5
  clear c0 c1 c2 c3 c4 c5 c6 d0 d1 d2 d3 d4 d5 d6 d7 d8 f0 f1 f2 f5 f6
  obtain ⟨c0,c1,c2,c3,c4,c5,c6⟩:=ecs HB6.out
  obtain ⟨⟨d0,d1,d2,d3,d4,d5,d6,d7,d8⟩,f0,f1,f2,f5,f6⟩:=hcs HS6.out.b
  try dsimp only at d0 d1 d2 d3 d4 d5 d6 d7 d8
  refine hK.out _ _ ⟨d0,c0⟩ (fun hH3=>?_)
  clear hK K
  try simp only [lD,lE,lF,Act.put,lG,lH,lI]
  refine any_done ?_
  clear hH3
  have HAD2 : Hid (addO s e = { s1 with task:=s1.n,begun:=false }):=Lib.hid (by rw [HAD.out,closes_no pcl];simp [turned,HK.out])
  clear HAD
  clear q2 q3 q4 q5 q6 q7 q8 q9 q10 q11 q12 q13 q14 q17 q18
  have HPC:=Lib.hid pcl
  go_wp2_with (first | (go_at_call 90;refine (closes_any _ _).mono ?_;rintro e3 w9 ⟨rfl,rfl⟩;rw [HPC.out]) | go_in)
  go_ret2
  refine ⟨?_,?_,HF6.out⟩
  ·rw [HC.out];rfl
  ·rw [HAD2.out];exact HS6.out
 have k2 : e.k ≠ 2:=fun h=>g (by simp [h])
 clear g
 have q2 : (e.k == 2) = false:=by simp [k2]
 by_cases g : e.k = 3
 ·have HK:=Lib.hid g
  clear g
  have q2 : (e.k == 2) = false:=by rw [HK.out];rfl
  have q3 : (e.k == 3) = true:=by rw [HK.out];rfl
  have q4 : (e.k == 4) = false:=by rw [HK.out];rfl
  have q5 : (e.k == 5) = false:=by rw [HK.out];rfl
  have q6 : (e.k == 6) = false:=by rw [HK.out];rfl
  have q7 : (e.k == 7) = false:=by rw [HK.out];rfl
  have q8 : (e.k == 8) = false:=by rw [HK.out];rfl
  have q9 : (e.k == 9) = false:=by rw [HK.out];rfl
  have q10 : (e.k == 10) = false:=by rw [HK.out];rfl
  have q11 : (e.k == 11) = false:=by rw [HK.out];rfl
  have q12 : (e.k == 12) = false:=by rw [HK.out];rfl
  have q13 : (e.k == 13) = false:=by rw [HK.out];rfl
  have q14 : (e.k == 14) = false:=by rw [HK.out];rfl
  have q17 : (e.k == 17) = false:=by rw [HK.out];rfl
  have q18 : (e.k == 18) = false:=by rw [HK.out];rfl
  have pcl : closeB e.k = false:=by rw [HK.out];rfl
  go_upto_region 9 with (fail)
  have hfd : Fr (fun _=>False) w3 w3.drew:=Fr.drewN _ w3 1
  have HS4:=Lib.hid (HS3.out.fr0 hfd)
  have HB4:=Lib.hid (HB3.out.fr hfd id)
  have HF4:=Lib.hid (HF3.out.trans (hfd.mono fun _ e=>e.elim))
  obtain ⟨w4,hw4⟩ : ∃ w,w3.drew = w:=⟨_,rfl⟩
  rw [hw4] at HS4 HB4 HF4
  refine region_Z (fun (w' : World)=>w'.cell? ⟨hb,0,none⟩ = some (.int .i64 s1.n) ∧ w'.cell? ⟨bb,0,none⟩ = some (.int .i64 e.k)) 99 ⟨d0,c0⟩ (fun hH=>?_)
  rw [hw4] at hH ⊢
  refine takes (b:=?_) [0,1,2,3,4,5,6,7,8,9,10] hH ?_ ?_
  rotate_left
  iterate 11 ((refine Sq.yes (v:=?_) rfl (by rfl) ?_ ?_;rotate_left;· (intro w' hw';obtain ⟨s1,s2⟩:=hw';go_simp;try with_reducible rfl));try simp only [lD,lE,lF,Act.put,lG,lH,lI])
  exact Sq.nil
  clear hw4 hfd HS3 HB3 HF3 hH
  clear c0 c1 c2 c3 c4 c5 c6 d0 d1 d2 d3 d4 d5 d6 d7 d8 f0 f1 f2 f5 f6
  obtain ⟨c0,c1,c2,c3,c4,c5,c6⟩:=ecs HB4.out
  obtain ⟨⟨d0,d1,d2,d3,d4,d5,d6,d7,d8⟩,f0,f1,f2,f5,f6⟩:=hcs HS4.out.b
  try dsimp only at d0 d1 d2 d3 d4 d5 d6 d7 d8
  refine any_op 11 rfl (fun K hK=>?_)
  go_simp
  have hb5 : Blk (w4.setCell ⟨hb,5,none⟩ (.int .i64 s1.n)) hb 121 (hcells { s1 with task:=s1.n } kb ib ob fb):=by
   have:=HS4.out.b.set 5 (.int .i64 s1.n)
   simpa only [hcells,lG,lH,lI] using this
  have hf5 : Fr (fun k=>k = hb) w4 (w4.setCell ⟨hb,5,none⟩ (.int .i64 s1.n)):=Fr.setCell (S:=fun k=>k = hb) w4 ⟨hb,5,none⟩ _ rfl
  obtain ⟨w5,hw5⟩ : ∃ w,w4.setCell ⟨hb,5,none⟩ (.int .i64 s1.n) = w:=⟨_,rfl⟩
  rw [hw5] at hb5 hf5 ⊢
  have HS5:=Lib.hid (HS4.out.cells { s1 with task:=s1.n } hb5 hf5 rfl rfl rfl rfl (Nat.le_refl _) HS4.out.few)
  have HB5:=Lib.hid (HB4.out.fr hf5 HBB.out.1)
  have HF5:=Lib.hid (HF4.out.trans (hf5.mono fun _ e=>.inl e : Fr (Own hb kb ib ob fb) _ _))
  clear hw5 hb5 hf5 HS4 HB4 HF4
  clear c0 c1 c2 c3 c4 c5 c6 d0 d1 d2 d3 d4 d5 d6 d7 d8 f0 f1 f2 f5 f6
  obtain ⟨c0,c1,c2,c3,c4,c5,c6⟩:=ecs HB5.out
  obtain ⟨⟨d0,d1,d2,d3,d4,d5,d6,d7,d8⟩,f0,f1,f2,f5,f6⟩:=hcs HS5.out.b
  try dsimp only at d0 d1 d2 d3 d4 d5 d6 d7 d8
  refine hK.out _ _ ⟨d0,c0⟩ (fun hH2=>?_)
  clear hK K
  try simp only [lD,lE,lF,Act.put,lG,lH,lI]
  refine takes (b:=?_) [12,13] hH2 ?_ ?_
  rotate_left
  iterate 2 ((refine Sq.yes (v:=?_) rfl (by rfl) ?_ ?_;rotate_left;· (intro w' hw';obtain ⟨s1,s2⟩:=hw';go_simp;try with_reducible rfl));try simp only [lD,lE,lF,Act.put,lG,lH,lI])
  exact Sq.nil
  clear hH2
  refine any_op 14 rfl (fun K hK=>?_)
  go_simp
  have hb6 : Blk (w5.setCell ⟨hb,6,none⟩ (.bool true)) hb 121 (hcells { s1 with task:=s1.n,begun:=true } kb ib ob fb):=by
   have:=HS5.out.b.set 6 (.bool true)
   simpa only [hcells,lG,lH,lI] using this
  have hf6 : Fr (fun k=>k = hb) w5 (w5.setCell ⟨hb,6,none⟩ (.bool true)):=Fr.setCell (S:=fun k=>k = hb) w5 ⟨hb,6,none⟩ _ rfl
  obtain ⟨w6,hw6⟩ : ∃ w,w5.setCell ⟨hb,6,none⟩ (.bool true) = w:=⟨_,rfl⟩
  rw [hw6] at hb6 hf6 ⊢
  have HS6:=Lib.hid (HS5.out.cells { s1 with task:=s1.n,begun:=true } hb6 hf6 rfl rfl rfl rfl (Nat.le_refl _) HS5.out.few)
  have HB6:=Lib.hid (HB5.out.fr hf6 HBB.out.1)
  have HF6:=Lib.hid (HF5.out.trans (hf6.mono fun _ e=>.inl e : Fr (Own hb kb ib ob fb) _ _))
  clear hw6 hb6 hf6 HS5 HB5 HF5
  clear c0 c1 c2 c3 c4 c5 c6 d0 d1 d2 d3 d4 d5 d6 d7 d8 f0 f1 f2 f5 f6
  obtain ⟨c0,c1,c2,c3,c4,c5,c6⟩:=ecs HB6.out
  obtain ⟨⟨d0,d1,d2,d3,d4,d5,d6,d7,d8⟩,f0,f1,f2,f5,f6⟩:=hcs HS6.out.b
  try dsimp only at d0 d1 d2 d3 d4 d5 d6 d7 d8
  refine hK.out _ _ ⟨d0,c0⟩ (fun hH3=>?_)
  clear hK K
  try simp only [lD,lE,lF,Act.put,lG,lH,lI]
  refine any_done ?_
  clear hH3
  have HAD2 : Hid (addO s e = { s1 with task:=s1.n,begun:=true }):=Lib.hid (by rw [HAD.out,closes_no pcl];simp [turned,HK.out])
  clear HAD
  clear q2 q3 q4 q5 q6 q7 q8 q9 q10 q11 q12 q13 q14 q17 q18
  have HPC:=Lib.hid pcl
  go_wp2_with (first | (go_at_call 90;refine (closes_any _ _).mono ?_;rintro e3 w9 ⟨rfl,rfl⟩;rw [HPC.out]) | go_in)
  go_ret2
  refine ⟨?_,?_,HF6.out⟩
  ·rw [HC.out];rfl
  ·rw [HAD2.out];exact HS6.out
 have k3 : e.k ≠ 3:=fun h=>g (by simp [h])
 clear g
 have q3 : (e.k == 3) = false:=by simp [k3]
 by_cases g : e.k = 4 ∨ e.k = 5 ∨ e.k = 6
 ·rcases g with g | g | g
  all_goals
   have HK:=Lib.hid g
   clear g
   have q2 : (e.k == 2) = false:=by rw [HK.out];rfl
   have q3 : (e.k == 3) = false:=by rw [HK.out];rfl
   first | have q4 : (e.k == 4) = true:=by rw [HK.out];rfl | have q4 : (e.k == 4) = false:=by rw [HK.out];rfl
   first | have q5 : (e.k == 5) = true:=by rw [HK.out];rfl | have q5 : (e.k == 5) = false:=by rw [HK.out];rfl
   first | have q6 : (e.k == 6) = true:=by rw [HK.out];rfl | have q6 : (e.k == 6) = false:=by rw [HK.out];rfl
   have q7 : (e.k == 7) = false:=by rw [HK.out];rfl
   have q8 : (e.k == 8) = false:=by rw [HK.out];rfl
   have q9 : (e.k == 9) = false:=by rw [HK.out];rfl
   have q10 : (e.k == 10) = false:=by rw [HK.out];rfl
   have q11 : (e.k == 11) = false:=by rw [HK.out];rfl
   have q12 : (e.k == 12) = false:=by rw [HK.out];rfl
   have q13 : (e.k == 13) = false:=by rw [HK.out];rfl
   have q14 : (e.k == 14) = false:=by rw [HK.out];rfl
   have q17 : (e.k == 17) = false:=by rw [HK.out];rfl
   have q18 : (e.k == 18) = false:=by rw [HK.out];rfl
   have pcl : closeB e.k = false:=by rw [HK.out];rfl
   go_upto_region 31 with (fail)
   have hb4 : Blk (w3.setCell ⟨hb,5,none⟩ (.int .i64 0)) hb 121 (hcells { s1 with task:=0 } kb ib ob fb):=by
    have:=HS3.out.b.set 5 (.int .i64 0)
    simpa only [hcells,lG,lH,lI] using this
   have hf4 : Fr (fun k=>k = hb) w3 (w3.setCell ⟨hb,5,none⟩ (.int .i64 0)):=Fr.setCell (S:=fun k=>k = hb) w3 ⟨hb,5,none⟩ _ rfl
   obtain ⟨w4,hw4⟩ : ∃ w,w3.setCell ⟨hb,5,none⟩ (.int .i64 0) = w:=⟨_,rfl⟩
   rw [hw4] at hb4 hf4 ⊢
   have HS4:=Lib.hid (HS3.out.cells { s1 with task:=0 } hb4 hf4 rfl rfl rfl rfl (Nat.le_refl _) HS3.out.few)
   have HB4:=Lib.hid (HB3.out.fr hf4 HBB.out.1)
   have HF4:=Lib.hid (HF3.out.trans (hf4.mono fun _ e=>.inl e : Fr (Own hb kb ib ob fb) _ _))
   clear hw4 hb4 hf4 HS3 HB3 HF3
   have hb5 : Blk (w4.setCell ⟨hb,6,none⟩ (.bool false)) hb 121 (hcells { s1 with task:=0,begun:=false } kb ib ob fb):=by
    have:=HS4.out.b.set 6 (.bool false)
    simpa only [hcells,lG,lH,lI] using this
   have hf5 : Fr (fun k=>k = hb) w4 (w4.setCell ⟨hb,6,none⟩ (.bool false)):=Fr.setCell (S:=fun k=>k = hb) w4 ⟨hb,6,none⟩ _ rfl
   obtain ⟨w5,hw5⟩ : ∃ w,w4.setCell ⟨hb,6,none⟩ (.bool false) = w:=⟨_,rfl⟩
   rw [hw5] at hb5 hf5 ⊢
   have HS5:=Lib.hid (HS4.out.cells { s1 with task:=0,begun:=false } hb5 hf5 rfl rfl rfl rfl (Nat.le_refl _) HS4.out.few)
   have HB5:=Lib.hid (HB4.out.fr hf5 HBB.out.1)
   have HF5:=Lib.hid (HF4.out.trans (hf5.mono fun _ e=>.inl e : Fr (Own hb kb ib ob fb) _ _))
   clear hw5 hb5 hf5 HS4 HB4 HF4
   clear c0 c1 c2 c3 c4 c5 c6 d0 d1 d2 d3 d4 d5 d6 d7 d8 f0 f1 f2 f5 f6
   obtain ⟨c0,c1,c2,c3,c4,c5,c6⟩:=ecs HB5.out
   obtain ⟨⟨d0,d1,d2,d3,d4,d5,d6,d7,d8⟩,f0,f1,f2,f5,f6⟩:=hcs HS5.out.b
   try dsimp only at d0 d1 d2 d3 d4 d5 d6 d7 d8
   have HAD2 : Hid (addO s e = { s1 with task:=0,begun:=false }):=Lib.hid (by rw [HAD.out,closes_no pcl];simp [turned,HK.out])
   clear HAD
   clear q2 q3 q4 q5 q6 q7 q8 q9 q10 q11 q12 q13 q14 q17 q18
   have HPC:=Lib.hid pcl
   go_wp2_with (first | (go_at_call 90;refine (closes_any _ _).mono ?_;rintro e3 w9 ⟨rfl,rfl⟩;rw [HPC.out]) | go_in)
   go_ret2
   refine ⟨?_,?_,HF5.out⟩
   ·rw [HC.out];rfl
   ·rw [HAD2.out];exact HS5.out
 have k4 : e.k ≠ 4:=fun h=>g (by simp [h])
 have k5 : e.k ≠ 5:=fun h=>g (by simp [h])
 have k6 : e.k ≠ 6:=fun h=>g (by simp [h])
 clear g
 have q4 : (e.k == 4) = false:=by simp [k4]
 have q5 : (e.k == 5) = false:=by simp [k5]
 have q6 : (e.k == 6) = false:=by simp [k6]
 by_cases g : e.k = 7 ∨ e.k = 12 ∨ e.k = 17
 ·rcases g with g | g | g
  all_goals
   have HK:=Lib.hid g
   clear g
   have q2 : (e.k == 2) = false:=by rw [HK.out];rfl
   have q3 : (e.k == 3) = false:=by rw [HK.out];rfl
   have q4 : (e.k == 4) = false:=by rw [HK.out];rfl
   have q5 : (e.k == 5) = false:=by rw [HK.out];rfl
   have q6 : (e.k == 6) = false:=by rw [HK.out];rfl
   first | have q7 : (e.k == 7) = true:=by rw [HK.out];rfl | have q7 : (e.k == 7) = false:=by rw [HK.out];rfl
   have q8 : (e.k == 8) = false:=by rw [HK.out];rfl
   have q9 : (e.k == 9) = false:=by rw [HK.out];rfl
   have q10 : (e.k == 10) = false:=by rw [HK.out];rfl
   have q11 : (e.k == 11) = false:=by rw [HK.out];rfl
   first | have q12 : (e.k == 12) = true:=by rw [HK.out];rfl | have q12 : (e.k == 12) = false:=by rw [HK.out];rfl
   have q13 : (e.k == 13) = false:=by rw [HK.out];rfl
   have q14 : (e.k == 14) = false:=by rw [HK.out];rfl
   first | have q17 : (e.k == 17) = true:=by rw [HK.out];rfl | have q17 : (e.k == 17) = false:=by rw [HK.out];rfl
   have q18 : (e.k == 18) = false:=by rw [HK.out];rfl
   have pcl : closeB e.k = false:=by rw [HK.out];rfl
   have HRG:=Lib.hid (range_of HRT.out)
   have HFEW:=Lib.hid HS3.out.few
   go_upto_region 17 with (fail)
   have hfd : Fr (fun _=>False) w3 w3.drew:=Fr.drewN _ w3 1
   have HS4:=Lib.hid (HS3.out.fr0 hfd)
   have HB4:=Lib.hid (HB3.out.fr hfd id)
   have HF4:=Lib.hid (HF3.out.trans (hfd.mono fun _ e=>e.elim))
   have HM4 : Hid ((∃ c,c ≤ s.n ∧ Mp iKE w3.drew kb c (mI s1.kinds)) ∧ (∃ c,c ≤ s.n ∧ Mp iKE w3.drew ib c (mI s1.ids))):=Lib.hid (by
    obtain ⟨m1,m2,m3,m4⟩:=HM3.out
    obtain ⟨c1,e1,g1⟩:=m1
    obtain ⟨c2,e2,g2⟩:=m2
    exact ⟨⟨c1,e1,g1.fr hfd id⟩,⟨c2,e2,g2.fr hfd id⟩⟩)
   obtain ⟨w4,hw4⟩ : ∃ w,w3.drew = w:=⟨_,rfl⟩
   rw [hw4] at HS4 HB4 HF4 HM4
   refine region_Z (fun (w' : World)=>w'.cell? ⟨hb,0,none⟩ = some (.int .i64 s1.n) ∧ w'.cell? ⟨hb,3,none⟩ = some (.map (some kb)) ∧ w'.cell? ⟨hb,4,none⟩ = some (.map (some ib)) ∧ w'.cell? ⟨bb,0,none⟩ = some (.int .i64 e.k) ∧ w'.cell? ⟨bb,3,none⟩ = some (.int .i64 e.id)) 99 ⟨d0,d3,d4,c0,c3⟩ (fun hH=>?_)
   rw [hw4] at hH ⊢
   refine takes (b:=?_) [0,1,2,3,4,5,6,7,8,9,10,11,12,13,14,15,16,17,18,19] hH ?_ ?_
   rotate_left
   iterate 20 ((refine Sq.yes (v:=?_) rfl (by rfl) ?_ ?_;rotate_left;· (intro w' hw';obtain ⟨s1,s2,s3,s4,s5⟩:=hw';go_simp;try with_reducible rfl));try simp only [lD,lE,lF,Act.put,lG,lH,lI])
   exact Sq.nil
   clear hw4 hfd HS3 HB3 HF3 HM3 hH
   clear c0 c1 c2 c3 c4 c5 c6 d0 d1 d2 d3 d4 d5 d6 d7 d8 f0 f1 f2 f5 f6
   have hok1 : iKE.ok ((s1.n : Int)):=wf_of (by omega) (by have:=HFEW.out;omega)
   have hne:=HNE.out
   have hbb:=HBB.out
   have hnn:=HS4.out.ne
   obtain ⟨v0,st0,w5,hrunA,hfA,hnA⟩:=mentry HM4.out.1 (by have:=HN.out;omega) hok1
   have bH5:=HS4.out.b.fr hfA (by omega)
   have bB5:=HB4.out.fr hfA (by omega)
   have HF5 : Hid (Fr (fun k=>k = kb) w4 w5):=Lib.hid hfA
   obtain ⟨w6,hrunB,hfB,hMB⟩:=hnA w5 (e.k) (Fr.refl _ _)
   have bH6:=bH5.fr hfB (by omega)
   have bB6:=bB5.fr hfB (by omega)
   have hok2 : iKE.ok ((s1.n : Int)):=wf_of (by omega) (by have:=HFEW.out;omega)
   have hm6 : ∃ c,c ≤ s.n ∧ Mp iKE w6 ib c (mI s1.ids):=by
    obtain ⟨c,hc,hM⟩:=HM4.out.2
    exact ⟨c,hc,(hM.fr hfA (by omega)).fr hfB (by omega)⟩
   obtain ⟨v1,st1,w7,hrunC,hfC,hnC⟩:=mentry hm6 (by have:=HN.out;omega) hok2
   have bH7:=bH6.fr hfC (by omega)
   have bB7:=bB6.fr hfC (by omega)
   obtain ⟨w8,hrunD,hfD,hMD⟩:=hnC w7 (e.id) (Fr.refl _ _)
   have bH8:=bH7.fr hfD (by omega)
   have bB8:=bB7.fr hfD (by omega)
   have hfr48 : Fr (fun k=>k = kb ∨ k = ib) w4 w8:=(((hfA.trans hfB).mono fun _ e=>.inl e).trans ((hfC.trans hfD).mono fun _ e=>.inr e))
   have hfr68 : Fr (fun k=>k = ib) w6 w8:=hfC.trans hfD
   have HS8 : Hid (HS w8 hb kb ib ob fb { s1 with kinds:=put1 s1.kinds s1.n (some e.k),ids:=put1 s1.ids s1.n (some e.id) }):=Lib.hid (by
    obtain ⟨n1,n2,n3,n4,n5,n6⟩:=hnn
    have h4:=HS4.out
    have hN1:=HN1.out
    have hMB' : ∃ c,c ≤ s1.n ∧ Mp iKE w8 kb c (mI (put1 s1.kinds ((s1.n : Int)) (some (e.k)))):=by
     obtain ⟨c,hc,hM⟩:=hMB
     exact ⟨c,by omega,hM.fr hfr68 (by omega)⟩
    have hMD' : ∃ c,c ≤ s1.n ∧ Mp iKE w8 ib c (mI (put1 s1.ids ((s1.n : Int)) (some (e.id)))):=by
     obtain ⟨c,hc,hM⟩:=hMD
     exact ⟨c,by omega,hM⟩
    have hrestm : ∀ (b : Nat) (G : Int → Option Int),b ≠ kb → b ≠ ib → (∃ c,c ≤ s1.n ∧ Mp iKE w4 b c (mI G)) → ∃ c,c ≤ s1.n ∧ Mp iKE w8 b c (mI G):=fun b G h1 h2 h=>by obtain ⟨c,hc,hM⟩:=h;exact ⟨c,hc,hM.fr hfr48 (by omega)⟩
    refine ⟨bH8,hMB',hMD',hrestm ob _ (by omega) (by omega) h4.o,hrestm fb _ (by omega) (by omega) h4.f,h4.ne,h4.few,?_,?_⟩
    ·intro x v hx;by_cases e2 : x = (s1.n : Int);(show 1 ≤ x ∧ x ≤ (s1.n : Int);omega);exact h4.dk x v (by simpa [put1,e2] using hx)
    ·exact h4.dv)
   have HB8:=Lib.hid bB8
   have HF8 : Hid (Fr (Own hb kb ib ob fb) W w8):=Lib.hid (HF4.out.trans (hfr48.mono fun _ e=>by rcases e with e | e <;> simp [Own,e]))
   clear hMB hMD hnA hnC hm6 hfr48 hfr68 hfA hfB hfC hfD HF5 hok1 hok2 hnn hbb hne HM4
   have d0:=bH5.cell 0
   have d3:=bH5.cell 3
   have d4:=bH5.cell 4
   have c0:=bB5.cell 0
   have c3:=bB5.cell 3
   simp only [hcells,evc,lA,lB,lC] at d0 d3 d4 c0 c3
   refine any_op 20 rfl (fun K hK=>?_)
   go_simp
   refine hK.out _ _ ⟨d0,d3,d4,c0,c3⟩ (fun hH2=>?_)
   clear hK K
   try simp only [lD,lE,lF,Act.put,lG,lH,lI]
   clear d0 d3 d4 c0 c3
   refine takes (b:=?_) [21] hH2 ?_ ?_
   rotate_left
   iterate 1 ((refine Sq.yes (v:=?_) rfl (by rfl) ?_ ?_;rotate_left;· (intro w' hw';obtain ⟨s1,s2,s3,s4,s5⟩:=hw';go_simp;try with_reducible rfl));try simp only [lD,lE,lF,Act.put,lG,lH,lI])
   exact Sq.nil
   clear hH2
   have d0:=bH6.cell 0
   have d3:=bH6.cell 3
   have d4:=bH6.cell 4
   have c0:=bB6.cell 0
   have c3:=bB6.cell 3
   simp only [hcells,evc,lA,lB,lC] at d0 d3 d4 c0 c3
   refine any_op 22 rfl (fun K hK=>?_)
   go_simp
   refine hK.out _ _ ⟨d0,d3,d4,c0,c3⟩ (fun hH3=>?_)
   clear hK K
   try simp only [lD,lE,lF,Act.put,lG,lH,lI]
   clear hH3
   clear d0 d3 d4 c0 c3
   have d0:=bH7.cell 0
   have d3:=bH7.cell 3
   have d4:=bH7.cell 4
   have c0:=bB7.cell 0
   have c3:=bB7.cell 3
   simp only [hcells,evc,lA,lB,lC] at d0 d3 d4 c0 c3
   refine any_op 23 rfl (fun K hK=>?_)
   go_simp
   refine hK.out _ _ ⟨d0,d3,d4,c0,c3⟩ (fun hH4=>?_)
   clear hK K
   try simp only [lD,lE,lF,Act.put,lG,lH,lI]
   clear d0 d3 d4 c0 c3
   refine takes (b:=?_) [24] hH4 ?_ ?_
   rotate_left
   iterate 1 ((refine Sq.yes (v:=?_) rfl (by rfl) ?_ ?_;rotate_left;· (intro w' hw';obtain ⟨s1,s2,s3,s4,s5⟩:=hw';go_simp;try with_reducible rfl));try simp only [lD,lE,lF,Act.put,lG,lH,lI])
   exact Sq.nil
   clear hH4
   have d0:=bH8.cell 0
   have d3:=bH8.cell 3
   have d4:=bH8.cell 4
   have c0:=bB8.cell 0
   have c3:=bB8.cell 3
   simp only [hcells,evc,lA,lB,lC] at d0 d3 d4 c0 c3
   refine any_op 25 rfl (fun K hK=>?_)
   go_simp
   refine hK.out _ _ ⟨d0,d3,d4,c0,c3⟩ (fun hH5=>?_)
   clear hK K
   try simp only [lD,lE,lF,Act.put,lG,lH,lI]
   clear d0 d3 d4 c0 c3
   refine any_done ?_
   clear hH5 bH5 bH6 bH7 bH8 bB5 bB6 bB7 bB8 hrunA hrunB hrunC hrunD HS4 HB4 HF4
   obtain ⟨c0,c1,c2,c3,c4,c5,c6⟩:=ecs HB8.out
   obtain ⟨⟨d0,d1,d2,d3,d4,d5,d6,d7,d8⟩,f0,f1,f2,f5,f6⟩:=hcs HS8.out.b
   try dsimp only at d0 d1 d2 d3 d4 d5 d6 d7 d8
   have HAD2 : Hid (addO s e = { s1 with kinds:=put1 s1.kinds s1.n (some e.k),ids:=put1 s1.ids s1.n (some e.id) }):=Lib.hid (by rw [HAD.out,closes_no pcl];simp [turned,HK.out])
   clear HAD
   clear q2 q3 q4 q5 q6 q7 q8 q9 q10 q11 q12 q13 q14 q17 q18
   have HPC:=Lib.hid pcl
   go_wp2_with (first | (go_at_call 90;refine (closes_any _ _).mono ?_;rintro e3 w9 ⟨rfl,rfl⟩;rw [HPC.out]) | go_in)
   go_ret2
   refine ⟨?_,?_,HF8.out⟩
   ·rw [HC.out];rfl
   ·rw [HAD2.out];exact HS8.out
 have k7 : e.k ≠ 7:=fun h=>g (by simp [h])
 have k12 : e.k ≠ 12:=fun h=>g (by simp [h])
 have k17 : e.k ≠ 17:=fun h=>g (by simp [h])
 clear g
 have q7 : (e.k == 7) = false:=by simp [k7]
 have q12 : (e.k == 12) = false:=by simp [k12]
 have q17 : (e.k == 17) = false:=by simp [k17]
 by_cases g : e.k = 8
 ·have HK:=Lib.hid g
  clear g
  have q2 : (e.k == 2) = false:=by rw [HK.out];rfl
  have q3 : (e.k == 3) = false:=by rw [HK.out];rfl
  have q4 : (e.k == 4) = false:=by rw [HK.out];rfl
  have q5 : (e.k == 5) = false:=by rw [HK.out];rfl
  have q6 : (e.k == 6) = false:=by rw [HK.out];rfl
  have q7 : (e.k == 7) = false:=by rw [HK.out];rfl
  have q8 : (e.k == 8) = true:=by rw [HK.out];rfl
  have q9 : (e.k == 9) = false:=by rw [HK.out];rfl
  have q10 : (e.k == 10) = false:=by rw [HK.out];rfl
  have q11 : (e.k == 11) = false:=by rw [HK.out];rfl
  have q12 : (e.k == 12) = false:=by rw [HK.out];rfl
  have q13 : (e.k == 13) = false:=by rw [HK.out];rfl
  have q14 : (e.k == 14) = false:=by rw [HK.out];rfl
  have q17 : (e.k == 17) = false:=by rw [HK.out];rfl
  have q18 : (e.k == 18) = false:=by rw [HK.out];rfl
  have pcl : closeB e.k = false:=by rw [HK.out];rfl
  have HRG:=Lib.hid (range_of HRT.out)
  have HFEW:=Lib.hid HS3.out.few
  go_upto_region 19 with (fail)
  have hfd : Fr (fun _=>False) w3 w3.drew:=Fr.drewN _ w3 1
  have HS4:=Lib.hid (HS3.out.fr0 hfd)
  have HB4:=Lib.hid (HB3.out.fr hfd id)
  have HF4:=Lib.hid (HF3.out.trans (hfd.mono fun _ e=>e.elim))
  have HM4 : Hid ((∃ c,c ≤ s.n ∧ Mp iKE w3.drew ob c (mI s1.of_)) ∧ (∃ c,c ≤ s.n ∧ Mp iKE w3.drew fb c (mI s1.from_))):=Lib.hid (by
   obtain ⟨m1,m2,m3,m4⟩:=HM3.out
   obtain ⟨c1,e1,g1⟩:=m3
   obtain ⟨c2,e2,g2⟩:=m4
   exact ⟨⟨c1,e1,g1.fr hfd id⟩,⟨c2,e2,g2.fr hfd id⟩⟩)
  obtain ⟨w4,hw4⟩ : ∃ w,w3.drew = w:=⟨_,rfl⟩
  rw [hw4] at HS4 HB4 HF4 HM4
  refine region_Z (fun (w' : World)=>w'.cell? ⟨hb,0,none⟩ = some (.int .i64 s1.n) ∧ w'.cell? ⟨hb,7,none⟩ = some (.map (some ob)) ∧ w'.cell? ⟨hb,8,none⟩ = some (.map (some fb)) ∧ w'.cell? ⟨bb,2,none⟩ = some (.int .i64 e.ref)) 99 ⟨d0,d7,d8,c2⟩ (fun hH=>?_)
  rw [hw4] at hH ⊢
  refine takes (b:=?_) [0,1,2,3,4,5,6,7,8,9,10,11,12,13,14,15,16,17,18,19] hH ?_ ?_
  rotate_left
  iterate 20 ((refine Sq.yes (v:=?_) rfl (by rfl) ?_ ?_;rotate_left;· (intro w' hw';obtain ⟨s1,s2,s3,s4⟩:=hw';go_simp;try with_reducible rfl));try simp only [lD,lE,lF,Act.put,lG,lH,lI])
  exact Sq.nil
  clear hw4 hfd HS3 HB3 HF3 HM3 hH
  clear c0 c1 c2 c3 c4 c5 c6 d0 d1 d2 d3 d4 d5 d6 d7 d8 f0 f1 f2 f5 f6
  have hok1 : iKE.ok ((s1.n : Int)):=wf_of (by omega) (by have:=HFEW.out;omega)
  have hne:=HNE.out
  have hbb:=HBB.out
  have hnn:=HS4.out.ne
  obtain ⟨v0,st0,w5,hrunA,hfA,hnA⟩:=mentry HM4.out.1 (by have:=HN.out;omega) hok1
  have bH5:=HS4.out.b.fr hfA (by omega)
  have bB5:=HB4.out.fr hfA (by omega)
  have HF5 : Hid (Fr (fun k=>k = ob) w4 w5):=Lib.hid hfA
  obtain ⟨w6,hrunB,hfB,hMB⟩:=hnA w5 (e.ref) (Fr.refl _ _)
  have bH6:=bH5.fr hfB (by omega)
  have bB6:=bB5.fr hfB (by omega)
  have hok2 : iKE.ok (e.ref):=ok_of HRT.out
  have hm6 : ∃ c,c ≤ s.n ∧ Mp iKE w6 fb c (mI s1.from_):=by
   obtain ⟨c,hc,hM⟩:=HM4.out.2
   exact ⟨c,hc,(hM.fr hfA (by omega)).fr hfB (by omega)⟩
  obtain ⟨v1,st1,w7,hrunC,hfC,hnC⟩:=mentry hm6 (by have:=HN.out;omega) hok2
  have bH7:=bH6.fr hfC (by omega)
  have bB7:=bB6.fr hfC (by omega)
  obtain ⟨w8,hrunD,hfD,hMD⟩:=hnC w7 ((s1.n : Int)) (Fr.refl _ _)
  have bH8:=bH7.fr hfD (by omega)
  have bB8:=bB7.fr hfD (by omega)
  have hfr48 : Fr (fun k=>k = ob ∨ k = fb) w4 w8:=(((hfA.trans hfB).mono fun _ e=>.inl e).trans ((hfC.trans hfD).mono fun _ e=>.inr e))
  have hfr68 : Fr (fun k=>k = fb) w6 w8:=hfC.trans hfD
  have HS8 : Hid (HS w8 hb kb ib ob fb { s1 with of_:=put1 s1.of_ s1.n (some e.ref),from_:=put1 s1.from_ e.ref (some s1.n) }):=Lib.hid (by
   obtain ⟨n1,n2,n3,n4,n5,n6⟩:=hnn
   have h4:=HS4.out
   have hN1:=HN1.out
   have hMB' : ∃ c,c ≤ s1.n ∧ Mp iKE w8 ob c (mI (put1 s1.of_ ((s1.n : Int)) (some (e.ref)))):=by
    obtain ⟨c,hc,hM⟩:=hMB
    exact ⟨c,by omega,hM.fr hfr68 (by omega)⟩
   have hMD' : ∃ c,c ≤ s1.n ∧ Mp iKE w8 fb c (mI (put1 s1.from_ (e.ref) (some ((s1.n : Int))))):=by
    obtain ⟨c,hc,hM⟩:=hMD
    exact ⟨c,by omega,hM⟩
   have hrestm : ∀ (b : Nat) (G : Int → Option Int),b ≠ ob → b ≠ fb → (∃ c,c ≤ s1.n ∧ Mp iKE w4 b c (mI G)) → ∃ c,c ≤ s1.n ∧ Mp iKE w8 b c (mI G):=fun b G h1 h2 h=>by obtain ⟨c,hc,hM⟩:=h;exact ⟨c,hc,hM.fr hfr48 (by omega)⟩
   refine ⟨bH8,hrestm kb _ (by omega) (by omega) h4.k,hrestm ib _ (by omega) (by omega) h4.i,hMB',hMD',h4.ne,h4.few,?_,?_⟩
   ·exact h4.dk
   ·intro x v hx;by_cases e2 : x = (s1.n : Int);(simp [put1,e2] at hx;have:=HRG.out;omega);exact h4.dv x v (by simpa [put1,e2] using hx))
  have HB8:=Lib.hid bB8
  have HF8 : Hid (Fr (Own hb kb ib ob fb) W w8):=Lib.hid (HF4.out.trans (hfr48.mono fun _ e=>by rcases e with e | e <;> simp [Own,e]))
  clear hMB hMD hnA hnC hm6 hfr48 hfr68 hfA hfB hfC hfD HF5 hok1 hok2 hnn hbb hne HM4
  have d0:=bH5.cell 0
  have d7:=bH5.cell 7
  have d8:=bH5.cell 8
  have c2:=bB5.cell 2
  simp only [hcells,evc,lA,lB,lC] at d0 d7 d8 c2
  refine any_op 20 rfl (fun K hK=>?_)
  go_simp
  refine hK.out _ _ ⟨d0,d7,d8,c2⟩ (fun hH2=>?_)
  clear hK K
  try simp only [lD,lE,lF,Act.put,lG,lH,lI]
  clear d0 d7 d8 c2
  refine takes (b:=?_) [21] hH2 ?_ ?_
  rotate_left
  iterate 1 ((refine Sq.yes (v:=?_) rfl (by rfl) ?_ ?_;rotate_left;· (intro w' hw';obtain ⟨s1,s2,s3,s4⟩:=hw';go_simp;try with_reducible rfl));try simp only [lD,lE,lF,Act.put,lG,lH,lI])
  exact Sq.nil
  clear hH2
  have d0:=bH6.cell 0
  have d7:=bH6.cell 7
  have d8:=bH6.cell 8
  have c2:=bB6.cell 2
  simp only [hcells,evc,lA,lB,lC] at d0 d7 d8 c2
  refine any_op 22 rfl (fun K hK=>?_)
  go_simp
  refine hK.out _ _ ⟨d0,d7,d8,c2⟩ (fun hH3=>?_)
  clear hK K
  try simp only [lD,lE,lF,Act.put,lG,lH,lI]
  clear hH3
  clear d0 d7 d8 c2
  have d0:=bH7.cell 0
  have d7:=bH7.cell 7
  have d8:=bH7.cell 8
  have c2:=bB7.cell 2
  simp only [hcells,evc,lA,lB,lC] at d0 d7 d8 c2
  refine any_op 23 rfl (fun K hK=>?_)
  go_simp
  refine hK.out _ _ ⟨d0,d7,d8,c2⟩ (fun hH4=>?_)
  clear hK K
  try simp only [lD,lE,lF,Act.put,lG,lH,lI]
  clear d0 d7 d8 c2
  refine takes (b:=?_) [24] hH4 ?_ ?_
  rotate_left
  iterate 1 ((refine Sq.yes (v:=?_) rfl (by rfl) ?_ ?_;rotate_left;· (intro w' hw';obtain ⟨s1,s2,s3,s4⟩:=hw';go_simp;try with_reducible rfl));try simp only [lD,lE,lF,Act.put,lG,lH,lI])
  exact Sq.nil
  clear hH4
  have d0:=bH8.cell 0
  have d7:=bH8.cell 7
  have d8:=bH8.cell 8
  have c2:=bB8.cell 2
  simp only [hcells,evc,lA,lB,lC] at d0 d7 d8 c2
  refine any_op 25 rfl (fun K hK=>?_)
  go_simp
  refine hK.out _ _ ⟨d0,d7,d8,c2⟩ (fun hH5=>?_)
  clear hK K
  try simp only [lD,lE,lF,Act.put,lG,lH,lI]
  clear d0 d7 d8 c2
  refine any_done ?_
  clear hH5 bH5 bH6 bH7 bH8 bB5 bB6 bB7 bB8 hrunA hrunB hrunC hrunD HS4 HB4 HF4
  obtain ⟨c0,c1,c2,c3,c4,c5,c6⟩:=ecs HB8.out
  obtain ⟨⟨d0,d1,d2,d3,d4,d5,d6,d7,d8⟩,f0,f1,f2,f5,f6⟩:=hcs HS8.out.b
  try dsimp only at d0 d1 d2 d3 d4 d5 d6 d7 d8
  have HAD2 : Hid (addO s e = { s1 with of_:=put1 s1.of_ s1.n (some e.ref),from_:=put1 s1.from_ e.ref (some s1.n) }):=Lib.hid (by rw [HAD.out,closes_no pcl];simp [turned,HK.out])
  clear HAD
  clear q2 q3 q4 q5 q6 q7 q8 q9 q10 q11 q12 q13 q14 q17 q18
  have HPC:=Lib.hid pcl
  go_wp2_with (first | (go_at_call 90;refine (closes_any _ _).mono ?_;rintro e3 w9 ⟨rfl,rfl⟩;rw [HPC.out]) | go_in)
  go_ret2
  refine ⟨?_,?_,HF8.out⟩
  ·rw [HC.out];rfl
  ·rw [HAD2.out];exact HS8.out
 have k8 : e.k ≠ 8:=fun h=>g (by simp [h])
 clear g
 have q8 : (e.k == 8) = false:=by simp [k8]
 by_cases g : e.k = 9 ∨ e.k = 10 ∨ e.k = 11
 ·rcases g with g | g | g
  all_goals
   have HK:=Lib.hid g
   clear g
   have q2 : (e.k == 2) = false:=by rw [HK.out];rfl
   have q3 : (e.k == 3) = false:=by rw [HK.out];rfl
   have q4 : (e.k == 4) = false:=by rw [HK.out];rfl
   have q5 : (e.k == 5) = false:=by rw [HK.out];rfl
   have q6 : (e.k == 6) = false:=by rw [HK.out];rfl
   have q7 : (e.k == 7) = false:=by rw [HK.out];rfl
   have q8 : (e.k == 8) = false:=by rw [HK.out];rfl
   first | have q9 : (e.k == 9) = true:=by rw [HK.out];rfl | have q9 : (e.k == 9) = false:=by rw [HK.out];rfl
   first | have q10 : (e.k == 10) = true:=by rw [HK.out];rfl | have q10 : (e.k == 10) = false:=by rw [HK.out];rfl
   first | have q11 : (e.k == 11) = true:=by rw [HK.out];rfl | have q11 : (e.k == 11) = false:=by rw [HK.out];rfl
   have q12 : (e.k == 12) = false:=by rw [HK.out];rfl
   have q13 : (e.k == 13) = false:=by rw [HK.out];rfl
   have q14 : (e.k == 14) = false:=by rw [HK.out];rfl
   have q17 : (e.k == 17) = false:=by rw [HK.out];rfl
   have q18 : (e.k == 18) = false:=by rw [HK.out];rfl
   have pcl : closeB e.k = false:=by rw [HK.out];rfl
   have hok:=ok_of HRT.out
   have HOK:=Lib.hid hok
   have ml : ∀ z,(Instr.lookup 119 (.map (some ob)) (.int .i64 e.ref) false).run Tryz.prog (w3.drewN z) = .ok (.int .i64 ((s1.of_ e.ref).getD 0)) (w3.drewN z):=fun z=>mlook (HS3.out.fr0 (Fr.drewN _ w3 z)).o hok
   obtain ⟨at9,hat9⟩ : ∃ z,((s1.of_ e.ref).getD 0) = z:=⟨_,rfl⟩
   have HAT:=Lib.hid hat9
   rw [hat9] at ml
   have hok9 : iKE.ok at9:=by
    rw [← hat9]
    cases ho : s1.of_ e.ref with
    | none=>exact wf_of (by decide) (by decide)
    | some v=>have:=HS3.out.dv _ _ ho;exact wf_of (by simp;omega) (by simp;omega)
   have HOK9:=Lib.hid hok9
   clear hok hok9 hat9
   go_upto_region 23 with (fail)
   go_quiet (fail)
   have hfd : Fr (fun _=>False) w3 (w3.drewN nq):=Fr.drewN _ w3 nq
   have HS4:=Lib.hid (HS3.out.fr0 hfd)
   have HB4:=Lib.hid (HB3.out.fr hfd id)
   have HF4:=Lib.hid (HF3.out.trans (hfd.mono fun _ e=>e.elim))
   obtain ⟨w4,hw4⟩ : ∃ w,w3.drewN nq = w:=⟨_,rfl⟩
   rw [hw4] at HS4 HB4 HF4 ⊢
   clear hw4 hfd ml HS3 HB3 HF3
   clear c0 c1 c2 c3 c4 c5 c6 d0 d1 d2 d3 d4 d5 d6 d7 d8 f0 f1 f2 f5 f6
   obtain ⟨c0,c1,c2,c3,c4,c5,c6⟩:=ecs HB4.out
   obtain ⟨⟨d0,d1,d2,d3,d4,d5,d6,d7,d8⟩,f0,f1,f2,f5,f6⟩:=hcs HS4.out.b
   try dsimp only at d0 d1 d2 d3 d4 d5 d6 d7 d8
   go_upto_region 24 with (fail)
   have hfd : Fr (fun _=>False) w4 w4.drew:=Fr.drewN _ w4 1
   have HS5:=Lib.hid (HS4.out.fr0 hfd)
   have HB5:=Lib.hid (HB4.out.fr hfd id)
   have HF5:=Lib.hid (HF4.out.trans (hfd.mono fun _ e=>e.elim))
   obtain ⟨w5,hw5⟩ : ∃ w,w4.drew = w:=⟨_,rfl⟩
   rw [hw5] at HS5 HB5 HF5
   refine region_Z (fun (w' : World)=>w'.cell? ⟨hb,7,none⟩ = some (.map (some ob)) ∧ w'.cell? ⟨bb,2,none⟩ = some (.int .i64 e.ref)) 99 ⟨d7,c2⟩ (fun hH=>?_)
   rw [hw5] at hH ⊢
   refine takes (b:=?_) [0,1,2,3,4,5] hH ?_ ?_
   rotate_left
   iterate 6 ((refine Sq.yes (v:=?_) rfl (by rfl) ?_ ?_;rotate_left;· (intro w' hw';obtain ⟨s1,s2⟩:=hw';go_simp;try with_reducible rfl));try simp only [lD,lE,lF,Act.put,lG,lH,lI])
   exact Sq.nil
   clear hw5 hfd HS4 HB4 HF4 hH
   clear c0 c1 c2 c3 c4 c5 c6 d0 d1 d2 d3 d4 d5 d6 d7 d8 f0 f1 f2 f5 f6
   obtain ⟨w6,hrun6,hM6,hf6⟩:=mdrop HS5.out.o HOK.out 0
   have HS6 : Hid (HS w6 hb kb ib ob fb { s1 with of_:=put1 s1.of_ e.ref none }):=Lib.hid (by
    have h:=HS5.out
    have hne:=HNE.out
    obtain ⟨n1,n2,n3,n4,n5,n6⟩:=h.ne
    refine ⟨h.b.fr hf6 (by omega),?_,?_,hM6,?_,h.ne,h.few,h.dk,fun x v hx=>?_⟩
    ·obtain ⟨c,hc,hM⟩:=h.k;exact ⟨c,hc,hM.fr hf6 (by omega)⟩
    ·obtain ⟨c,hc,hM⟩:=h.i;exact ⟨c,hc,hM.fr hf6 (by omega)⟩
    ·obtain ⟨c,hc,hM⟩:=h.f;exact ⟨c,hc,hM.fr hf6 (by omega)⟩
    ·by_cases ex : x = e.ref
     ·simp [put1,ex] at hx
     ·exact h.dv x v (by simpa [put1,ex] using hx))
   have HB6:=Lib.hid (HB5.out.fr hf6 (by have:=HBB.out;omega))
   have HF6 : Hid (Fr (Own hb kb ib ob fb) W w6):=Lib.hid (HF5.out.trans (hf6.mono fun _ e=>by simp [Own,e]))
   clear hM6 hf6 HS5 HB5 HF5
   obtain ⟨c0,c1,c2,c3,c4,c5,c6⟩:=ecs HB6.out
   obtain ⟨⟨d0,d1,d2,d3,d4,d5,d6,d7,d8⟩,f0,f1,f2,f5,f6⟩:=hcs HS6.out.b
   try dsimp only at d0 d1 d2 d3 d4 d5 d6 d7 d8
   refine any_op 6 rfl (fun K hK=>?_)
   go_simp
   refine hK.out _ _ ⟨d7,c2⟩ (fun hH2=>?_)
   clear hK K
   try simp only [lD,lE,lF,Act.put,lG,lH,lI]
   refine any_done ?_
   clear hH2 hrun6
   obtain ⟨w7,hrun7,hM7,hf7⟩:=mdrop HS6.out.f HOK9.out 0
   have HS7 : Hid (HS w7 hb kb ib ob fb { s1 with of_:=put1 s1.of_ e.ref none,from_:=put1 s1.from_ at9 none }):=Lib.hid (by
    have h:=HS6.out
    have hne:=HNE.out
    obtain ⟨n1,n2,n3,n4,n5,n6⟩:=h.ne
    refine ⟨h.b.fr hf7 (by omega),?_,?_,?_,hM7,h.ne,h.few,h.dk,h.dv⟩
    ·obtain ⟨c,hc,hM⟩:=h.k;exact ⟨c,hc,hM.fr hf7 (by omega)⟩
    ·obtain ⟨c,hc,hM⟩:=h.i;exact ⟨c,hc,hM.fr hf7 (by omega)⟩
    ·obtain ⟨c,hc,hM⟩:=h.o;exact ⟨c,hc,hM.fr hf7 (by omega)⟩)
   have HB7:=Lib.hid (HB6.out.fr hf7 (by have:=HBB.out;omega))
   have HF7 : Hid (Fr (Own hb kb ib ob fb) W w7):=Lib.hid (HF6.out.trans (hf7.mono fun _ e=>by simp [Own,e]))
   clear hM7 hf7 HB6 HF6
   go_upto_region 26 with (fail)
   clear hrun7
   have HDR:=Lib.hid (drop_any w7 hb kb ib ob fb _ HS7.out at9 HOK9.out)
   go_upto_region 31 with (first | (go_at_call 89;refine HDR.out.mono ?_;rintro e2 w8 ⟨rfl,hs8,hf8⟩) | go_in)
   have HS8:=Lib.hid hs8
   have HB8:=Lib.hid (HB7.out.fr hf8 (by have:=HBB.out;omega))
   have HF8 : Hid (Fr (Own hb kb ib ob fb) W w8):=Lib.hid (HF7.out.trans (hf8.mono fun _ e=>by rcases e with e | e <;> simp [Own,e]))
   clear HDR hs8 hf8 HS7 HB7 HF7 HS6
   clear c0 c1 c2 c3 c4 c5 c6 d0 d1 d2 d3 d4 d5 d6 d7 d8 f0 f1 f2 f5 f6
   obtain ⟨c0,c1,c2,c3,c4,c5,c6⟩:=ecs HB8.out
   obtain ⟨⟨d0,d1,d2,d3,d4,d5,d6,d7,d8⟩,f0,f1,f2,f5,f6⟩:=hcs HS8.out.b
   simp only [dropped] at d0 d1 d2 d3 d4 d5 d6 d7 d8
   have HAD2 : Hid (addO s e = dropped { s1 with of_:=put1 s1.of_ e.ref none,from_:=put1 s1.from_ at9 none } at9):=Lib.hid (by rw [HAD.out,closes_no pcl];simp only [turned,HK.out];simp [HAT.out])
   clear HAD
   clear q2 q3 q4 q5 q6 q7 q8 q9 q10 q11 q12 q13 q14 q17 q18
   have HPC:=Lib.hid pcl
   go_wp2_with (first | (go_at_call 90;refine (closes_any _ _).mono ?_;rintro e3 w9 ⟨rfl,rfl⟩;rw [HPC.out]) | go_in)
   go_ret2
   refine ⟨?_,?_,HF8.out⟩
   ·rw [HC.out];rfl
   ·rw [HAD2.out];exact HS8.out
 have k9 : e.k ≠ 9:=fun h=>g (by simp [h])
 have k10 : e.k ≠ 10:=fun h=>g (by simp [h])
 have k11 : e.k ≠ 11:=fun h=>g (by simp [h])
 clear g
 have q9 : (e.k == 9) = false:=by simp [k9]
 have q10 : (e.k == 10) = false:=by simp [k10]
 have q11 : (e.k == 11) = false:=by simp [k11]
 by_cases g : e.k = 13 ∨ e.k = 14 ∨ e.k = 18
 ·rcases g with g | g | g
  all_goals
   have HK:=Lib.hid g
   clear g
   have q2 : (e.k == 2) = false:=by rw [HK.out];rfl
   have q3 : (e.k == 3) = false:=by rw [HK.out];rfl
   have q4 : (e.k == 4) = false:=by rw [HK.out];rfl
   have q5 : (e.k == 5) = false:=by rw [HK.out];rfl
   have q6 : (e.k == 6) = false:=by rw [HK.out];rfl
   have q7 : (e.k == 7) = false:=by rw [HK.out];rfl
   have q8 : (e.k == 8) = false:=by rw [HK.out];rfl
   have q9 : (e.k == 9) = false:=by rw [HK.out];rfl
   have q10 : (e.k == 10) = false:=by rw [HK.out];rfl
   have q11 : (e.k == 11) = false:=by rw [HK.out];rfl
   have q12 : (e.k == 12) = false:=by rw [HK.out];rfl
   first | have q13 : (e.k == 13) = true:=by rw [HK.out];rfl | have q13 : (e.k == 13) = false:=by rw [HK.out];rfl
   first | have q14 : (e.k == 14) = true:=by rw [HK.out];rfl | have q14 : (e.k == 14) = false:=by rw [HK.out];rfl
   have q17 : (e.k == 17) = false:=by rw [HK.out];rfl
   first | have q18 : (e.k == 18) = true:=by rw [HK.out];rfl | have q18 : (e.k == 18) = false:=by rw [HK.out];rfl
   have pcl : closeB e.k = false:=by rw [HK.out];rfl
   have HRG:=Lib.hid (range_of HRT.out)
   have HDR:=Lib.hid (drop_any w3 hb kb ib ob fb s1 HS3.out e.ref (ok_of HRT.out))
   go_upto_region 31 with (first | (go_at_call 89;refine HDR.out.mono ?_;rintro e2 w4 ⟨rfl,hs4,hf4⟩) | go_in)
   have HS4:=Lib.hid hs4
   have HB4:=Lib.hid (HB3.out.fr hf4 (by have:=HBB.out;omega))
   have HF4:=Lib.hid (HF3.out.trans (hf4.mono fun _ e=>e.elim (fun e=>.inr (.inl e)) (fun e=>.inr (.inr (.inl e))) : Fr (Own hb kb ib ob fb) _ _))
   clear HDR HRG hs4 hf4 HS3 HB3 HF3
   clear c0 c1 c2 c3 c4 c5 c6 d0 d1 d2 d3 d4 d5 d6 d7 d8 f0 f1 f2 f5 f6
   obtain ⟨c0,c1,c2,c3,c4,c5,c6⟩:=ecs HB4.out
   obtain ⟨⟨d0,d1,d2,d3,d4,d5,d6,d7,d8⟩,f0,f1,f2,f5,f6⟩:=hcs HS4.out.b
   simp only [dropped] at d0 d1 d2 d3 d4 d5 d6 d7 d8
   have HAD2 : Hid (addO s e = dropped s1 e.ref):=Lib.hid (by rw [HAD.out,closes_no pcl];simp [turned,HK.out])
   clear HAD
   clear q2 q3 q4 q5 q6 q7 q8 q9 q10 q11 q12 q13 q14 q17 q18
   have HPC:=Lib.hid pcl
   go_wp2_with (first | (go_at_call 90;refine (closes_any _ _).mono ?_;rintro e3 w9 ⟨rfl,rfl⟩;rw [HPC.out]) | go_in)
   go_ret2
   refine ⟨?_,?_,HF4.out⟩
   ·rw [HC.out];rfl
   ·rw [HAD2.out];exact HS4.out
 have k13 : e.k ≠ 13:=fun h=>g (by simp [h])
 have k14 : e.k ≠ 14:=fun h=>g (by simp [h])
 have k18 : e.k ≠ 18:=fun h=>g (by simp [h])
 clear g
 have q13 : (e.k == 13) = false:=by simp [k13]
 have q14 : (e.k == 14) = false:=by simp [k14]
 have q18 : (e.k == 18) = false:=by simp [k18]
 have HAD2 : Hid (addO s e = closes s1 e):=Lib.hid (by rw [HAD.out];simp [turned,k2,k3,k4,k5,k6,k7,k8,k9,k10,k11,k12,k13,k14,k17,k18])
 clear HAD
 cases pcl : closeB e.k with
 | false=>
   have HPC:=Lib.hid pcl
   go_wp2_with (first | (go_at_call 90;refine (closes_any _ _).mono ?_;rintro e3 w9 ⟨rfl,rfl⟩;rw [HPC.out]) | go_in)
   go_ret2
   refine ⟨?_,?_,HF3.out⟩
   ·rw [HC.out];rfl
   ·rw [HAD2.out,closes_no HPC.out];exact HS3.out
 | true=>
   have HPC:=Lib.hid pcl
   go_upto_region 33 with (first | (go_at_call 90;refine (closes_any _ _).mono ?_;rintro e3 w9 ⟨rfl,rfl⟩;rw [HPC.out]) | go_in)
   have hb4 : Blk (w3.setCell ⟨hb,2,none⟩ (.int .i64 e.k)) hb 121 (hcells { s1 with closed:=e.k } kb ib ob fb):=by
    have:=HS3.out.b.set 2 (.int .i64 e.k)
    simpa only [hcells,lG,lH,lI] using this
   have hf4 : Fr (fun k=>k = hb) w3 (w3.setCell ⟨hb,2,none⟩ (.int .i64 e.k)):=Fr.setCell (S:=fun k=>k = hb) w3 ⟨hb,2,none⟩ _ rfl
   obtain ⟨w4,hw4⟩ : ∃ w,w3.setCell ⟨hb,2,none⟩ (.int .i64 e.k) = w:=⟨_,rfl⟩
   rw [hw4] at hb4 hf4 ⊢
   have HS4:=Lib.hid (HS3.out.cells { s1 with closed:=e.k } hb4 hf4 rfl rfl rfl rfl (Nat.le_refl _) HS3.out.few)
   have HB4:=Lib.hid (HB3.out.fr hf4 HBB.out.1)
   have HF4:=Lib.hid (HF3.out.trans (hf4.mono fun _ e=>.inl e : Fr (Own hb kb ib ob fb) _ _))
   clear hw4 hb4 hf4 HS3 HB3 HF3
   go_wp2
   go_ret2
   refine ⟨?_,?_,HF4.out⟩
   ·rw [HC.out];rfl
   ·rw [HAD2.out,closes_yes HPC.out];exact HS4.out
end Go.Proofs.YtnkelaohcbdjnaaGreat.Ev
