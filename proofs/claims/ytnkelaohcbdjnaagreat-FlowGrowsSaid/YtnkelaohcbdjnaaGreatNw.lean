/- New of both,Len,Result,known. -/
import Derived.Test.YtnkelaohcbdjnaaGreatHa
import Derived.Test.YtnkelaohcbdjnaaGreatRn
import Derived.Lib.SlBytesConst
import Derived.Laws.BytesArg
import Derived.Deep.QuietTactic
import Derived.BigQuiet
set_option linter.unusedVariables false
set_option linter.unusedSimpArgs false
namespace Go.Proofs.YtnkelaohcbdjnaaGreat
open Go.RowKit Go.Maps Ev
set_option maxRecDepth 100000 in
set_option maxHeartbeats 2000000 in
theorem new_any (W : World) (id run list n now : Int) (h1 : 0 ≤ id ∧ id ≤ 1048576) (h2 : 1 ≤ run ∧ run ≤ 1048576) (h3 : 0 ≤ list ∧ list ≤ 1048576) (h4 : 1 ≤ n ∧ n ≤ 1048576) (h5 : 0 ≤ now ∧ now ≤ 1099511627776)
 (ao : Option Addr) (dl cp : Nat) (ds : List Value) (hd : RowB (fun _=>False) W (.slice ao dl cp) ds) (hdl : dl ≤ 4096) (hd1 : ∀ u ∈ ds,u.oneCell' = true) :
 Calls Tryz.prog 6 #[.int .i64 id,.int .i64 run,.int .i64 list,.int .i64 n,.slice ao dl cp,.int .i64 now] W fun e W'=>∃ (v : Value) (fb mb : Nat),e = .returned (.tuple #[.pointer (some ⟨fb,0,none⟩),v,.int .i64 0]) ∧ W.heap.size ≤ fb ∧ W.heap.size ≤ mb ∧
  PF (fun k=>k = fb ∨ k = mb) W' fb mb (begun1 id run list n now ds) ∧ Outs W.heap.size W' v [⟨1,list,2,0,0,0,0,[]⟩] ∧ Fr (fun _=>False) W W':=by
 have hmm:=@run_makeMap Tryz.prog
 have hFA : Fr (fun _=>False) W ((W.alloc (.map #[] 0)).alloc (.cells (fcells (start id run) (.slice none 0 0) (.map (some W.heap.size))) 57)):=(Fr.alloc _ W _).trans (Fr.alloc _ _ _)
 have hFL : FL (fun k=>k = W.heap.size + 1 ∨ k = W.heap.size) ((W.alloc (.map #[] 0)).alloc (.cells (fcells (start id run) (.slice none 0 0) (.map (some W.heap.size))) 57)) (W.heap.size + 1) W.heap.size (start id run):=by
  refine ⟨⟨none,0,[],rfl,?_,⟨Nat.zero_le _,by decide,fun _=>⟨rfl,rfl⟩,fun a e=>(by cases e)⟩,fun i e v h=>(by simp [start] at h)⟩,(Mp.made iKE W).alloc _,fun r hr=>(by cases hr),Nat.zero_le _⟩
  have:=Blk.new (W.alloc (.map #[] 0)) 57 (fcells (start id run) (.slice none 0 0) (.map (some W.heap.size)))
  rw [World.size_alloc] at this
  exact this
 have HD:=Lib.hid hd
 have HD1:=Lib.hid hd1
 have HDS:=Lib.hid (And.intro hd.len hdl)
 have p1 : decide (0 ≤ id) = true:=decide_eq_true h1.1
 have p2 : decide (id ≤ 1048576) = true:=decide_eq_true h1.2
 have p3 : decide (1 ≤ run) = true:=decide_eq_true h2.1
 have p4 : decide (run ≤ 1048576) = true:=decide_eq_true h2.2
 have p5 : decide (0 ≤ list) = true:=decide_eq_true h3.1
 have p6 : decide (list ≤ 1048576) = true:=decide_eq_true h3.2
 have p7 : decide (1 ≤ n) = true:=decide_eq_true h4.1
 have p8 : decide (n ≤ 1048576) = true:=decide_eq_true h4.2
 simp only [fcells,start] at hFA hFL
 have HFL:=Lib.hid hFL
 have HFA:=Lib.hid hFA
 clear hd hd1 hFL hFA
 go_enter Tryz.func6,Tryz.ntmps6
 go_upto_region 2 with (fail)
 obtain ⟨w1,hw1⟩ : ∃ w1,(W.alloc (.map #[] 0)).alloc (.cells #[.int .i64 id,.int .i64 run,.int .i64 0,.int .i64 0,.slice none 0 0,.int .i64 0,.int .i64 0,.int .i64 0,.int .i64 0,.bool false,.bool false,.map (some W.heap.size)] 57) = w1:=⟨_,rfl⟩
 rw [hw1] at HFL HFA ⊢
 have hs1 : w1.heap.size = W.heap.size + 2:=by rw [← hw1];simp
 obtain ⟨fb,hfb⟩ : ∃ b,W.heap.size + 1 = b:=⟨_,rfl⟩
 rw [hfb] at HFL ⊢
 obtain ⟨mb,hmb⟩ : ∃ b,W.heap.size = b:=⟨_,rfl⟩
 rw [hmb] at HFL
 have HSZ : Hid (W.heap.size ≤ mb ∧ mb < fb ∧ fb < w1.heap.size):=Lib.hid (by omega)
 have HPF2 : Hid (PF (fun k=>k = fb ∨ k = mb) w1 fb mb (start id run)):=Lib.hid ⟨HFL.out,.inl rfl,.inr rfl,fun k e=>by have:=HSZ.out;rcases e with e | e <;> omega⟩
 have hrt:=fun z=>right_any _ (w1.drewN z) fb mb (start id run) (HPF2.out.fl.fr0 (Fr.drewN _ w1 z)) ao dl cp now
 have hrb : rightB (start id run).l dl now = true:=rightB_true ⟨hdl,h5.1,h5.2,fun e he=>(by simp [start] at he)⟩
 rw [hrb] at hrt
 have HRT:=Lib.hid hrt
 clear hrt hrb hdl
 clear hw1 hfb hmb HFL hs1 hmm
 go_upto_region 4 with (first | (go_at_call 20;refine (HRT.out 0).mono ?_;rintro e w2 ⟨rfl,z,rfl⟩) | go_in)
 have hfz : Fr (fun _=>False) w1 (w1.drewN z):=Fr.drewN _ w1 z
 obtain ⟨w2,hw2⟩ : ∃ w2,w1.drewN z = w2:=⟨_,rfl⟩
 rw [hw2] at hfz ⊢
 have HF2 : Hid (Fr (fun _=>False) W w2):=Lib.hid (HFA.out.trans hfz)
 have HPF3 : Hid (PF (fun k=>k = fb ∨ k = mb) w2 fb mb (start id run)):=Lib.hid (HPF2.out.fr0 hfz)
 clear hw2 hfz HPF2 HRT HFA
 go_wp2_with (first
  | (go_at_call 21;refine (put_any _ w2 fb mb (start id run) HPF3.out (by simp [start]) (by simp [start]) 1 now 0 0 list n ao dl cp ds (HD.out.fr HF2.out) (by have:=HDS.out;omega) HD1.out _ (.inl ⟨rfl,rfl⟩)).mono ?_;rintro e w4 ⟨rfl,hpf4,hf4⟩
     have HPF4:=Lib.hid hpf4
     have HF4 : Hid (Fr (fun _=>False) W w4):=Lib.hid (Fr.step HF2.out hf4 (fun k hk e=>by have:=HSZ.out;rcases e with e | e <;> omega))
     clear hpf4 hf4)
  | (go_at_call 22;refine (sched_any _ w4 fb mb _ HPF4.out (by simp [start]) (by simp [start]) now).mono ?_;rintro e w5 ⟨v,rfl,ho,hpf5,hf5⟩
     have HO5:=Lib.hid ho
     have HPF5:=Lib.hid hpf5
     have HF5 : Hid (Fr (fun _=>False) W w5):=Lib.hid (Fr.step HF4.out hf5 (fun k hk e=>by have:=HSZ.out;rcases e with e | e <;> omega))
     clear ho hpf5 hf5)
  | go_in)
 go_ret3
 exact ⟨v,fb,mb,rfl,by have:=HSZ.out;omega,HSZ.out.1,HPF5.out,HO5.out.weak HF4.out.size,HF5.out⟩
set_option maxRecDepth 100000 in
set_option maxHeartbeats 2000000 in
theorem rnew_any (S : Nat → Prop) (W : World) (hS : ∀ k,S k → k < W.heap.size) :
 Calls Tryz.prog 7 #[.int .i64 3,.int .i64 1,.int .i64 0,.int .i64 7,.slice none 0 0,.int .i64 0] W fun e W'=>∃ (v : Value) (rb : Nat) (S' R' : Nat → Prop),e = .returned (.tuple #[.pointer (some ⟨rb,0,none⟩),v,.int .i64 0]) ∧ W.heap.size ≤ rb ∧ (∀ k,k < W.heap.size → (S' k ↔ S k) ∧ ¬ R' k) ∧
  RF S' R' W' rb (begun1 3 1 0 7 0 []) ∧ Fr (fun _=>False) W W':=by
 have hFA : Fr (fun _=>False) W (W.alloc (.cells #[.int .i64 3,.int .i64 1,.int .i64 0,.int .i64 7,.slice none 0 0,.int .i64 0,.int .i64 0,.int .i64 0,.int .i64 0,.bool false,.bool false] 65)):=Fr.alloc _ W _
 have hB:=Blk.new W 65 #[.int .i64 3,.int .i64 1,.int .i64 0,.int .i64 7,.slice none 0 0,.int .i64 0,.int .i64 0,.int .i64 0,.int .i64 0,.bool false,.bool false]
 have HS:=Lib.hid hS
 clear hS
 go_enter Tryz.func7,Tryz.ntmps7
 go_upto_region 2 with (fail)
 obtain ⟨w1,hw1⟩ : ∃ w1,W.alloc (.cells #[.int .i64 3,.int .i64 1,.int .i64 0,.int .i64 7,.slice none 0 0,.int .i64 0,.int .i64 0,.int .i64 0,.int .i64 0,.bool false,.bool false] 65) = w1:=⟨_,rfl⟩
 rw [hw1] at hFA hB ⊢
 have hs1 : w1.heap.size = W.heap.size + 1:=by rw [← hw1];simp
 obtain ⟨rb,hrb⟩ : ∃ b,W.heap.size = b:=⟨_,rfl⟩
 rw [hrb] at hB ⊢
 have HFA:=Lib.hid hFA
 have HRB : Hid (W.heap.size = rb):=Lib.hid hrb
 have HX : Hid (RF (fun k=>S k ∨ k = rb) (fun k=>k = rb) w1 rb { start 3 1 with n:=7 }):=Lib.hid ⟨⟨.slice none 0 0,[],hB,OwnV.nil0 _ _,rfl,fun i e x h _=>by simp [start] at h,fun k e=>nomatch e⟩,rfl,fun k e=>.inr e,fun k e=>e.elim (fun e=>by have:=HS.out k e;omega) (fun e=>by omega),fun e he=>(by cases he),Nat.zero_le _⟩
 have hrt:=rright_any _ _ w1 rb _ HX.out none 0 0 0
 have hrbt : rightB ({ start 3 1 with n:=7 } : FSt).l 0 0 = true:=rightB_true ⟨by decide,by decide,by decide,fun e he=>(by simp [start] at he)⟩
 rw [hrbt] at hrt
 have HRT:=Lib.hid hrt
 clear hrt hrbt hw1 hrb hs1 hFA hB
 go_upto_region 4 with (first | (go_at_call 25;refine HRT.out.mono ?_;rintro e w2 ⟨rfl,zz,rfl⟩) | go_in)
 have hfz : Fr (fun _=>False) w1 (w1.drewN zz):=Fr.drewN _ w1 zz
 obtain ⟨w2,hw2⟩ : ∃ w2,w1.drewN zz = w2:=⟨_,rfl⟩
 rw [hw2] at hfz ⊢
 have HF2:=Lib.hid hfz
 have HX2:=Lib.hid (HX.out.fr0 hfz)
 clear hw2 hfz
 go_wp2_with (first
  | (go_at_call 26;refine (rput_any _ _ w2 rb _ HX2.out (by simp [start]) 1 0 0 0 0 7 none 0 0 [] (RowB.nil _ _) (by simp) (by simp)).mono ?_;rintro e w3 ⟨rfl,S1,R1,hs1,hrf,hfr⟩;have HS1:=Lib.hid hs1;have HX3:=Lib.hid hrf;have HF3:=Lib.hid hfr;clear hs1 hrf hfr)
  | (go_at_call 27;refine (rsched_any S1 R1 w3 rb _ HX3.out (by simp [start]) 0).mono ?_;rintro e w5 ⟨v,rfl,ho,S2,R2,hs2,hrf,hfr⟩;have HS2:=Lib.hid hs2;have HX5:=Lib.hid hrf;have HF5:=Lib.hid hfr;clear ho hs2 hrf hfr)
  | go_in)
 go_ret3
 have h12:=HFA.out.trans HF2.out
 have h13:=Fr.step h12 HF3.out (fun k hk e=>by have:=HRB.out;omega)
 have hR1 : ∀ k,k < W.heap.size → (S1 k ↔ S k) ∧ ¬ R1 k:=fun k hk=>by
  have:=HS1.out k (Nat.lt_of_lt_of_le hk h12.size)
  have hne : k ≠ rb:=by have:=HRB.out;omega
  exact ⟨this.1.trans ⟨fun e=>e.elim id (fun e=>absurd e hne),.inl⟩,fun e=>hne (this.2.1 e)⟩
 refine ⟨v,rb,S2,R2,rfl,by rw [HRB.out];exact Nat.le_refl _,fun k hk=>?_,HX5.out.core rfl,Fr.step h13 HF5.out (fun k hk e=>(hR1 k hk).2 e)⟩
 have h1:=hR1 k hk
 have h2:=HS2.out k (Nat.lt_of_lt_of_le hk h13.size)
 exact ⟨h2.1.trans h1.1,fun e=>h1.2 (h2.2.1 e)⟩
set_option maxRecDepth 100000 in
set_option maxHeartbeats 2000000 in
theorem result_any (S : Nat → Prop) (W : World) (fb mb : Nat) (s : FSt) (h : FL S W fb mb s) (x : Rv) (hr : s.l.getLast? = some x) (hs : statusK s.l ≠ 1) :
 Calls Tryz.prog 16 #[.pointer (some ⟨fb,0,none⟩)] W fun e W'=>∃ v,e = .returned v ∧ RowB (fun _=>False) W' v x.d ∧ Fr (fun _=>False) W W':=by
 have hst:=status_any S W fb mb s h
 obtain ⟨st,hst2⟩ : ∃ y,statusK s.l = y:=⟨_,rfl⟩
 rw [hst2] at hst hs
 have q1 : (st == 1) = false:=by simp [hs]
 have HST:=Lib.hid hst
 have hfew:=h.few
 have HX:=Lib.hid (h.ok x (List.mem_of_getLast? hr))
 obtain ⟨g,cp2,dv,h3,hpos,hcp,_,_,hd,hc⟩:=h.last hr
 have hdd:=hd
 obtain ⟨ao,cp,rfl,_⟩:=hdd
 obtain ⟨n,hnn⟩ : ∃ n,x.d.length = n:=⟨_,rfl⟩
 rw [hnn] at hd hc
 clear hst hst2 hs hnn
 have c4:=h3.cell 4
 simp only [fcells,lA,lB,lC] at c4
 have d6:=hc 6 (.slice ao n cp) rfl
 obtain ⟨q,hq⟩ : ∃ q,s.l.length = q + 1:=⟨s.l.length - 1,by omega⟩
 rw [hq] at c4 hcp hfew d6
 rw [show q + 1 - 1 = q from rfl] at d6
 have hw : IntKind.i64.wrap ((q : Nat) : Int) = ((q : Nat) : Int):=by
  simp [IntKind.wrap,IntKind.bits,IntKind.signed]
  omega
 have hw0 : (0 : Int) ≤ ((q : Nat) : Int) ∧ ((q : Nat) : Int) < ((q : Nat) : Int) + 1:=by omega
 have HD:=Lib.hid hd
 clear h h3 hr hc hq hd
 go_enter Tryz.func16,Tryz.ntmps16
 go_upto_region 3 with (first | (go_at_call 15;refine HST.out.mono ?_;rintro e w1 ⟨rfl,rfl⟩) | go_in)
 refine wp_region_held_drew (S:=fun (w' : World)=>w'.cell? ⟨fb,4,none⟩ = some (.slice (some ⟨g,0,none⟩) (q + 1) cp2) ∧ w'.cell? ⟨g,q * 7 + 6,none⟩ = some (.slice ao n cp)) (by kernel_rfl) ⟨c4,d6⟩ (fun hHeld=>?_)
 refine wpAnyH_take (i:=0) (oi:=_) (v:=?va0) rfl (by kernel_rfl) (by kernel_rfl) (by kernel_rfl) (fun _ _ _ h=>h) (Or.inl ⟨by rfl,?ya0⟩) (by assumption) ?ra0
 case ya0=>intro w1 hSw;obtain ⟨s1,s2⟩:=hSw;go_simp;try with_reducible rfl
 try simp only [lD,lE,lF,Act.put,lG,lH,lI]
 refine wpAnyH_take (i:=1) (oi:=_) (v:=?va1) rfl (by kernel_rfl) (by kernel_rfl) (by kernel_rfl) (fun _ _ _ h=>h) (Or.inl ⟨by rfl,?ya1⟩) (by assumption) ?ra1
 case ya1=>intro w1 hSw;obtain ⟨s1,s2⟩:=hSw;go_simp;try with_reducible rfl
 try simp only [lD,lE,lF,Act.put,lG,lH,lI]
 refine wpAnyH_take (i:=2) (oi:=_) (v:=?va2) rfl (by kernel_rfl) (by kernel_rfl) (by kernel_rfl) (fun _ _ _ h=>h) (Or.inl ⟨by rfl,?ya2⟩) (by assumption) ?ra2
 case ya2=>intro w1 hSw;obtain ⟨s1,s2⟩:=hSw;go_simp;try with_reducible rfl
 try simp only [lD,lE,lF,Act.put,lG,lH,lI]
 refine wpAnyH_take (i:=3) (oi:=_) (v:=?va3) rfl (by kernel_rfl) (by kernel_rfl) (by kernel_rfl) (fun _ _ _ h=>h) (Or.inl ⟨by rfl,?ya3⟩) (by assumption) ?ra3
 case ya3=>intro w1 hSw;obtain ⟨s1,s2⟩:=hSw;go_simp;try with_reducible rfl
 try simp only [lD,lE,lF,Act.put,lG,lH,lI]
 refine wpAnyH_take (i:=4) (oi:=_) (v:=?va4) rfl (by kernel_rfl) (by kernel_rfl) (by kernel_rfl) (fun _ _ _ h=>h) (Or.inl ⟨by rfl,?ya4⟩) (by assumption) ?ra4
 case ya4=>intro w1 hSw;obtain ⟨s1,s2⟩:=hSw;go_simp;try with_reducible rfl
 try simp only [lD,lE,lF,Act.put,lG,lH,lI]
 refine wpAnyH_take (i:=5) (oi:=_) (v:=?va5) rfl (by kernel_rfl) (by kernel_rfl) (by kernel_rfl) (fun _ _ _ h=>h) (Or.inl ⟨by rfl,?ya5⟩) (by assumption) ?ra5
 case ya5=>intro w1 hSw;obtain ⟨s1,s2⟩:=hSw;go_simp;try with_reducible rfl
 try simp only [lD,lE,lF,Act.put,lG,lH,lI]
 refine wpAnyH_take (i:=6) (oi:=_) (v:=?va6) rfl (by kernel_rfl) (by kernel_rfl) (by kernel_rfl) (fun _ _ _ h=>h) (Or.inl ⟨by rfl,?ya6⟩) (by assumption) ?ra6
 case ya6=>intro w1 hSw;obtain ⟨s1,s2⟩:=hSw;go_simp;try with_reducible rfl
 try simp only [lD,lE,lF,Act.put,lG,lH,lI]
 refine wpAnyH_take (i:=7) (oi:=_) (v:=?va7) rfl (by kernel_rfl) (by kernel_rfl) (by kernel_rfl) (fun _ _ _ h=>h) (Or.inl ⟨by rfl,?ya7⟩) (by assumption) ?ra7
 case ya7=>intro w1 hSw;obtain ⟨s1,s2⟩:=hSw;go_simp;try with_reducible rfl
 try simp only [lD,lE,lF,Act.put,lG,lH,lI]
 refine wpAnyH_take (i:=8) (oi:=_) (v:=?va8) rfl (by kernel_rfl) (by kernel_rfl) (by kernel_rfl) (fun _ _ _ h=>h) (Or.inl ⟨by rfl,?ya8⟩) (by assumption) ?ra8
 case ya8=>intro w1 hSw;obtain ⟨s1,s2⟩:=hSw;go_simp;try with_reducible rfl
 try simp only [lD,lE,lF,Act.put,lG,lH,lI]
 refine wpAnyH_take (i:=9) (oi:=_) (v:=?va9) rfl (by kernel_rfl) (by kernel_rfl) (by kernel_rfl) (fun _ _ _ h=>h) (Or.inl ⟨by rfl,?ya9⟩) (by assumption) ?ra9
 case ya9=>intro w1 hSw;obtain ⟨s1,s2⟩:=hSw;go_simp;try with_reducible rfl
 try simp only [lD,lE,lF,Act.put,lG,lH,lI]
 refine wpAnyH_take (i:=10) (oi:=_) (v:=?va10) rfl (by kernel_rfl) (by kernel_rfl) (by kernel_rfl) (fun _ _ _ h=>h) (Or.inl ⟨by rfl,?ya10⟩) (by assumption) ?ra10
 case ya10=>intro w1 hSw;obtain ⟨s1,s2⟩:=hSw;go_simp;try with_reducible rfl
 try simp only [lD,lE,lF,Act.put,lG,lH,lI]
 refine wpAnyH_take (i:=11) (oi:=_) (v:=?va11) rfl (by kernel_rfl) (by kernel_rfl) (by kernel_rfl) (fun _ _ _ h=>h) (Or.inl ⟨by rfl,?ya11⟩) (by assumption) ?ra11
 case ya11=>intro w1 hSw;obtain ⟨s1,s2⟩:=hSw;go_simp;try with_reducible rfl
 try simp only [lD,lE,lF,Act.put,lG,lH,lI]
 refine wpAnyH_take (i:=12) (oi:=_) (v:=?va12) rfl (by kernel_rfl) (by kernel_rfl) (by kernel_rfl) (fun _ _ _ h=>h) (Or.inl ⟨by rfl,?ya12⟩) (by assumption) ?ra12
 case ya12=>intro w1 hSw;obtain ⟨s1,s2⟩:=hSw;go_simp;try with_reducible rfl
 try simp only [lD,lE,lF,Act.put,lG,lH,lI]
 refine wpAnyH_ready (rs:=[13]) (by kernel_rfl) (by simp) ?_
 refine AllReadyH.cons (o:=_) rfl (fun K hK=>?_) AllReadyH.nil
 rw [if_pos (by rfl)]
 try simp only [lD,lE,lF]
 go_simp
 refine (clone_any (fun _=>False) (fun _=>False) _ _ x.d ((HD.out.to (S':=fun _=>False) (fun k _ e=>e.elim)).fr (Fr.drewN _ W 1)) (by have:=HX.out.1;omega) HX.out.2 (fun k e=>e.elim)).mono ?_
 rintro e w2 ⟨v,rfl,hr2,hf2⟩
 have hf2':=(Fr.drewN (fun _=>False) W 1).trans hf2
 refine hK.out _ _ ⟨(World.cell?_of_block (hf2'.block fb (lt_of_cell c4) id)).trans c4,(World.cell?_of_block (hf2'.block g (lt_of_cell d6) id)).trans d6⟩ (fun hHeld2=>?_)
 clear hK K
 try simp only [lD,lE,lF,Act.put,lG,lH,lI]
 refine wpAnyH_take (i:=14) (oi:=_) (v:=?va14) rfl (by kernel_rfl) (by kernel_rfl) (by kernel_rfl) (fun _ _ _ h=>h) (Or.inl ⟨by rfl,?ya14⟩) (by assumption) ?ra14
 case ya14=>intro w1 hSw;go_simp;try with_reducible rfl
 try simp only [lD,lE,lF,Act.put,lG,lH,lI]
 refine wpAnyH_done (by kernel_rfl) ?_ _
 clear hHeld hHeld2 c4 d6
 go_wp2
 go_ret
 exact ⟨v,rfl,hr2,hf2'⟩
theorem str_of {S : Nat → Prop} {W : World} {v : Value} (l : List UInt8) (h : RowB S W v (l.map fun b=>.int .u8 (b.toNat : Int))) : (convert 36 9 v).run Tryz.prog W = .ok (.string ⟨l.toArray⟩) W:=by
 obtain ⟨ao,cap,rfl,h1,h2,h3,h4⟩:=h
 have hl : (l.map fun b=>Value.int .u8 (b.toNat : Int)).length = l.length:=by simp
 rw [hl]
 cases ao with
 | none=>
   have:=h3 rfl
   have h0 : l = []:=List.eq_nil_of_length_eq_zero (by omega)
   subst h0
   exact run_convert_bytes_nil W 36 5 Tryz.underlying36 Tryz.underlying5 _ _ 9 Tryz.underlying9
 | some a=>
   refine run_convert_bytes_back W 36 9 5 a cap l Tryz.underlying36 Tryz.underlying5 Tryz.underlying9 (fun j hj=>?_)
   refine (h4 a rfl).2 j _ ?_
   simp [List.getElem?_eq_getElem hj]
theorem lit_row {S : Nat → Prop} (W : World) (C : Array Value) (n : Nat) (hn : C.size = n) (hm : n ≤ maxLen) (fr : Nat × Nat) (hS : ∀ k,S k → k < W.heap.size) : RowB S (W.alloc (.cells C 5 fr)) (.slice (some ⟨W.heap.size,0,none⟩) n n) C.toList:=by
 subst hn
 refine ⟨some ⟨W.heap.size,0,none⟩,C.size,by simp,by simp,hm,fun h=>(by cases h),fun a ha=>?_⟩
 cases ha
 refine ⟨fun _ e=>by have:=hS _ e;simp at this,fun j u hj=>?_⟩
 rw [off_add,Nat.zero_add]
 exact (World.cell?_alloc_mark W C 5 fr j).trans (by simpa using hj)
set_option maxRecDepth 100000 in
set_option maxHeartbeats 4000000 in
theorem known_any (W : World) : Calls Tryz.prog 4 #[] W fun e W'=>e = .returned (.bool true) ∧ Fr (fun _=>False) W W':=by
 have ki:=fun W : World=>Lib.run_convert_bytes_const (P:=Tryz.prog) W 36 5 #[.int .u8 105,.int .u8 110] 2 2 Tryz.underlying36 Tryz.underlying5
 have ko:=fun W : World=>Lib.run_convert_bytes_const (P:=Tryz.prog) W 36 5 #[.int .u8 111,.int .u8 117,.int .u8 116] 3 3 Tryz.underlying36 Tryz.underlying5
 have hW1 : Fr (fun _=>False) W (W.alloc (.cells #[.int .u8 105,.int .u8 110] 5 (2,3))):=Fr.alloc _ _ _
 have hd1:=lit_row (S:=fun _=>False) W #[.int .u8 105,.int .u8 110] 2 rfl (by decide) (2,3) (fun k e=>e.elim)
 obtain ⟨W1,hW1e⟩ : ∃ W1,W.alloc (.cells #[.int .u8 105,.int .u8 110] 5 (2,3)) = W1:=⟨_,rfl⟩
 rw [hW1e] at hW1 hd1
 have HNEW:=Lib.hid (new_any W1 1 1 2 10 0 (by omega) (by omega) (by omega) (by omega) (by omega) _ 2 2 _ hd1 (by omega) (by intro u hu;simp at hu;rcases hu with rfl | rfl <;> rfl))
 have HW1:=Lib.hid hW1
 obtain ⟨s0,hs0⟩ : ∃ s,begun1 1 1 2 10 0 [.int .u8 105,.int .u8 110] = s:=⟨_,rfl⟩
 have HI0 : Hid (FInv s0 ∧ statusK s0.l = 1 ∧ s0.l.length = 2 ∧ s0.task = 1 ∧ s0.at_ = 2 ∧ s0.turn = 0 ∧ s0.mc = 0 ∧ s0.late = false ∧ (∀ x,s0.l.getLast? = some x → x.a = 0)):=Lib.hid (by
  have:=begun1_inv (id:=1) (run:=1) (list:=2) (n:=10) (now:=0) (ds:=[.int .u8 105,.int .u8 110]) (by omega) (by omega) (by omega) ⟨by simp,by omega,by omega,fun e he=>(by cases he)⟩
  rw [hs0] at this
  refine ⟨this.1,this.2,?_⟩
  subst hs0
  exact ⟨rfl,rfl,rfl,rfl,rfl,rfl,fun x hx=>by simp [begun1,sched,start] at hx;rw [← hx]⟩)
 obtain ⟨s1,hs1⟩ : ∃ s,began s0 1 2 = s:=⟨_,rfl⟩
 have HD1 : Hid (tryC s0 0 1 (decidesC s0 2 0 1) = (s1,[⟨3,0,2,0,wrap64 (1 + s0.n),0,0,[]⟩],0) ∧ FInv s1 ∧ statusK s1.l = 1 ∧ s1.l.length = 3 ∧ s1.task = 2 ∧ s1.at_ = 2 ∧ s1.turn = 0 ∧ s1.mc = 0 ∧ s1.late = false ∧ (∀ x,s1.l.getLast? = some x → x.a = 1)):=Lib.hid (by
  obtain ⟨q1,q2,q3,q4,q5,q6,q7,q8,q9⟩:=HI0.out
  have hr : rightP s0.l 0 1:=⟨by omega,by omega,by omega,fun x hx=>by rw [q9 x hx];omega⟩
  have hb:=began_inv q1 q2 q4 hr (by omega)
  rw [q5,hs1] at hb
  refine ⟨?_,hb.1,hb.2,?_⟩
  ·have hd : decidesC s0 2 0 1 = (s1,[⟨3,0,2,0,wrap64 (1 + s0.n),0,0,[]⟩],0):=by
    unfold decidesC
    rw [if_pos ⟨by omega,q4,q5,q6⟩,hs1]
   unfold tryC
   rw [if_pos (rightB_true hr),if_pos q2,hd,if_neg (fun e=>e.1 rfl)]
  ·subst hs1
   exact ⟨by show (s0.l ++ _).length = 3;rw [List.length_append,q3];rfl,rfl,q5,q6,q7,rfl,fun x hx=>by
    have : ((began s0 1 2).l).getLast? = some x:=hx
    unfold began at this
    dsimp only at this
    rw [List.getLast?_concat] at this
    cases this;rfl⟩)
 have HD2 : Hid (tryC s1 0 3 (decideC s1 2 0 [⟨5,0,0,0,[.int .u8 111,.int .u8 117,.int .u8 116]⟩] 3) = (shut (decided s1 3) 20 3 [.int .u8 111,.int .u8 117,.int .u8 116],[⟨7,0,0,0,0,0,2,[.int .u8 111,.int .u8 117,.int .u8 116]⟩],0)):=Lib.hid (by
  obtain ⟨_,q1,q2,q3,q4,q5,q6,q7,q8,q9⟩:=HD1.out
  have hr : rightP s1.l 0 3:=⟨by omega,by omega,by omega,fun x hx=>by rw [q9 x hx];omega⟩
  have hbad : badS s1 [⟨5,0,0,0,[.int .u8 111,.int .u8 117,.int .u8 116]⟩] = false:=by
   unfold badS badL badL wrongD takeM
   simp [mayD,mayB,mayF,fnum,tick]
  have e1 : doneS (decided s1 3) ⟨5,0,0,0,[.int .u8 111,.int .u8 117,.int .u8 116]⟩ 3 = shut (decided s1 3) 20 3 [.int .u8 111,.int .u8 117,.int .u8 116]:=by
   unfold doneS
   rw [if_neg (by decide),if_neg (by decide),if_neg (by decide),if_neg (by decide),if_neg (by decide)]
   rfl
  have hd : decideC s1 2 0 [⟨5,0,0,0,[.int .u8 111,.int .u8 117,.int .u8 116]⟩] 3 = (shut (decided s1 3) 20 3 [.int .u8 111,.int .u8 117,.int .u8 116],[⟨7,0,0,0,0,0,2,[.int .u8 111,.int .u8 117,.int .u8 116]⟩],0):=by
   unfold decideC
   rw [if_pos ⟨q4,q5,q6⟩,if_neg (by rw [hbad];decide),if_neg (by rw [q8];rintro ⟨e,_⟩;cases e)]
   unfold fineC
   rw [decFold_cons,decFold_nil]
   dsimp only
   rw [e1,if_neg (by rw [q8];rintro ⟨e,_⟩;cases e)]
   rfl
  unfold tryC
  rw [if_pos (rightB_true hr),if_pos q2,hd,if_neg (fun e=>e.1 rfl)])
 have HS0:=Lib.hid hs0
 clear hW1 hd1 hs1 hs0
 go_enter Tryz.func4,Tryz.ntmps4
 go_upto_region 2 with (first | (go_at_call 6;refine HNEW.out.mono ?_;rintro e w2 ⟨v2,fb,mb,rfl,hfb,hmb,hpf,ho,hf2⟩) | go_in)
 rcases ho with ⟨_,ho⟩ | ⟨og,ocp,rfl,_,_,hol,_,hoc⟩
 ·cases ho
 obtain ⟨u0,_,hcell⟩:=hoc 0 _ rfl
 have o0:=hcell 0 _ rfl
 have o2:=hcell 2 _ rfl
 have hol1 : (1 : Nat) ≤ ocp:=hol
 simp only [Nat.zero_mul,Nat.zero_add] at o0 o2
 have HW2:=Lib.hid (HW1.out.trans hf2)
 have HPF2 : Hid (PF (fun k=>k = fb ∨ k = mb) w2 fb mb s0):=Lib.hid (by rw [← HS0.out];exact hpf)
 have HB2 : Hid (W.heap.size ≤ mb ∧ W.heap.size ≤ fb):=Lib.hid (by have:=HW1.out.size;omega)
 clear ki HNEW hf2 hpf hW1e HW1 hfb hmb hoc hcell hol
 have HDEC : Hid (Calls Tryz.prog 13 #[.pointer (some ⟨fb,0,none⟩),.int .i64 2,.int .i64 0,.int .i64 1] w2 fun e W'=>ActX (fun k=>k = fb ∨ k = mb) w2 fb (tryC s0 0 1 (decidesC s0 2 0 1)) e W'):=Lib.hid (decides_f _ w2 fb mb s0 HPF2.out 2 0 1 _ (fun hr hs=>⟨by have:=(decides_kept HI0.out.1 hs 2 0 hr (by have:=HI0.out.2.2.1;omega)).len;have:=HI0.out.2.2.1;omega,fun T w xb xm bref bturn bnow hT hf hTS hb1 n1 hb2 n2 hb3 n3=>decides_c T w xb xm s0 hT (by have:=HI0.out.2.2.2.2.2.2.1;omega) (by have:=HI0.out.2.2.1;omega) 2 0 1 bturn bref bnow hb2 n2 hb1 n1 hb3 n3⟩))
 rw [HD1.out.1] at HDEC
 go_upto_region 5 with (first | (go_at_call 13;refine HDEC.out.mono ?_;rintro e w3 ⟨v3,S3,xm3,rfl,_,hpf3,hf3,hS3⟩) | go_in)
 have HW3 : Hid (Fr (fun _=>False) W w3):=Lib.hid (Fr.step HW2.out hf3 (fun k hk e=>by have:=HB2.out;omega))
 have HPF3:=Lib.hid hpf3
 have HS3 : Hid (∀ k,k < W.heap.size → ¬ S3 k):=Lib.hid (fun k hk e=>by
  have:=(hS3 k (Nat.lt_of_lt_of_le hk HW2.out.size)).1 e
  have hb:=HB2.out
  rcases this with e | e <;> omega)
 clear o0 o2 HDEC hpf3 hf3 hS3 hol1
 go_upto_region 6 with (fail)
 have hrA:=lit_row (S:=S3) w3 #[.int .u8 111,.int .u8 117,.int .u8 116] 3 rfl (by decide) (3,4) HPF3.out.lt
 have hfA : Fr (fun _=>False) w3 (w3.alloc (.cells #[.int .u8 111,.int .u8 117,.int .u8 116] 5 (3,4))):=Fr.alloc _ _ _
 obtain ⟨w4,hw4⟩ : ∃ w4,w3.alloc (.cells #[.int .u8 111,.int .u8 117,.int .u8 116] 5 (3,4)) = w4:=⟨_,rfl⟩
 have hs4 : w4.heap.size = w3.heap.size + 1:=by rw [← hw4];simp
 rw [hw4] at hrA hfA ⊢
 have hfB : Fr (fun _=>False) w4 (w4.alloc (.cells #[.int .i64 5,.int .i64 0,.int .i64 0,.int .i64 0,.slice (some ⟨w3.heap.size,0,none⟩) 3 3] 52)):=Fr.alloc _ _ _
 have hLB:=Blk.new w4 52 #[.int .i64 5,.int .i64 0,.int .i64 0,.int .i64 0,.slice (some ⟨w3.heap.size,0,none⟩) 3 3]
 obtain ⟨w5,hw5⟩ : ∃ w5,w4.alloc (.cells #[.int .i64 5,.int .i64 0,.int .i64 0,.int .i64 0,.slice (some ⟨w3.heap.size,0,none⟩) 3 3] 52) = w5:=⟨_,rfl⟩
 rw [hs4] at hLB
 rw [hw5] at hfB hLB ⊢
 have hf35:=hfA.trans hfB
 have HW5:=Lib.hid (HW3.out.trans hf35)
 have HPF5:=Lib.hid (HPF3.out.fr0 hf35)
 have HROW : Hid (RowD S3 w5 (some ⟨w3.heap.size + 1,0,none⟩) [⟨5,0,0,0,[.int .u8 111,.int .u8 117,.int .u8 116]⟩]):=Lib.hid (.inr ⟨w3.heap.size + 1,0,rfl,hLB.lt,fun e=>by have:=HPF3.out.lt _ e;omega,fun i x hx=>by
  cases i with
  | zero=>
    cases hx
    refine ⟨_,3,hrA.fr (hfB.mono fun _ e=>e.elim),fun j u hj=>?_⟩
    have:=hLB.cell j
    rw [lA] at this
    rw [show 0 + 0 * 5 + j = j by omega,this]
    exact hj
  | succ i=>simp at hx⟩)
 have HDEC : Hid (Calls Tryz.prog 14 #[.pointer (some ⟨fb,0,none⟩),.int .i64 2,.int .i64 0,.slice (some ⟨w3.heap.size + 1,0,none⟩) 1 1,.int .i64 3] w5 fun e W'=>ActX S3 w5 fb (tryC s1 0 3 (decideC s1 2 0 [⟨5,0,0,0,[.int .u8 111,.int .u8 117,.int .u8 116]⟩] 3)) e W'):=Lib.hid (decide_f S3 w5 fb xm3 s1 HPF5.out 2 0 _ 1 1 3 _ (fun hr hs=>⟨by
  have h1:=HD1.out.2.2.2.1
  have:=(decide_same HD1.out.2.1 hs 2 0 [⟨5,0,0,0,[.int .u8 111,.int .u8 117,.int .u8 116]⟩] hr (by omega))
  have:=this.2.len
  rw [(decide_same HD1.out.2.1 hs 2 0 [⟨5,0,0,0,[.int .u8 111,.int .u8 117,.int .u8 116]⟩] hr (by omega)).1] at this
  omega,fun T w xb xm bref bturn bl bnow hT hf hTS hb1 n1 hb2 n2 hb3 n3 hb4 n4=>decide_c T w xb xm s1 hT (by have:=HD1.out.2.2.2.2.2.2.2.1;omega) (by have:=HD1.out.2.2.2.1;omega) 2 0 3 _ 1 [⟨5,0,0,0,[.int .u8 111,.int .u8 117,.int .u8 116]⟩] bref bturn bl bnow hb2 n2 hb1 n1 hb4 n4 hb3 n3 ((HROW.out.to (fun k hk e=>hTS k hk e)).fr (hf.mono fun _ e=>e.elim) (fun _ e=>e)) (Nat.le_refl _) (fun x hx u hu=>by simp at hx;subst hx;simp at hu;rcases hu with rfl | rfl | rfl <;> rfl) HD1.out.2.1.openOk HD1.out.2.1.uniq HD1.out.2.1.ids⟩))
 rw [HD2.out] at HDEC
 clear hw4 hw5 hrA hfA hfB hLB hf35 hs4 ko
 refine HDEC.out.mono ?_
 rintro e w6 ⟨v6,S6,xm6,rfl,ho6,hpf6,hf6,hS6⟩
 rcases ho6 with ⟨_,ho⟩ | ⟨og,ocp,rfl,_,_,hol,_,hoc⟩
 ·cases ho
 obtain ⟨u0,_,hcell⟩:=hoc 0 _ rfl
 have o0:=hcell 0 _ rfl
 have hol1 : (1 : Nat) ≤ ocp:=hol
 simp only [Nat.zero_mul,Nat.zero_add] at o0
 have HW6 : Hid (Fr (fun _=>False) W w6):=Lib.hid (Fr.step HW5.out hf6 (fun k hk e=>by have:=HB2.out;omega))
 have hst:=status_any _ w6 fb xm6 _ hpf6.fl
 have hsk : statusK (shut (decided s1 3) 20 3 [.int .u8 111,.int .u8 117,.int .u8 116]).l = 2:=status_snoc _ _
 rw [hsk] at hst
 have HST:=Lib.hid hst
 have HRES:=Lib.hid (result_any _ w6 fb xm6 _ hpf6.fl ⟨20,3,0,0,0,0,[.int .u8 111,.int .u8 117,.int .u8 116]⟩ (List.getLast?_concat) (by rw [hsk];decide))
 have hl5 : (shut (decided s1 3) 20 3 [.int .u8 111,.int .u8 117,.int .u8 116]).l.length = 5:=by have:=HD1.out.2.2.2.1;simp [shut,decided,this]
 have HLEN : Hid (∀ w7,Fr (fun _=>False) w6 w7 → Calls Tryz.prog 17 #[.pointer (some ⟨fb,0,none⟩)] w7 fun e W'=>e = .returned (.int .i64 5) ∧ w7 = W'):=Lib.hid (fun w7 hf7=>by
  have:=len_any _ w7 fb xm6 _ (hpf6.fr0 hf7).fl
  rw [hl5] at this
  exact this)
 clear HDEC hpf6 hf6 hst hS6 hoc hcell hol hsk hl5
 go_wp2_with (first
  | (go_at_call 15;refine HST.out.mono ?_;rintro e w7 ⟨rfl,rfl⟩)
  | (go_at_call 16;refine HRES.out.mono ?_;rintro e w7 ⟨v7,rfl,hr7,hf7⟩;have hst:=str_of [111,117,116] hr7)
  | (go_at_call 17;refine (HLEN.out _ hf7).mono ?_;rintro e w8 ⟨rfl,rfl⟩)
  | go_in)
 go_ret
 exact ⟨rfl,HW6.out.trans hf7⟩
end Go.Proofs.YtnkelaohcbdjnaaGreat
set_option linter.unusedVariables false
set_option linter.unusedSimpArgs false
namespace Go.Proofs.YtnkelaohcbdjnaaGreat
open Go.RowKit Go.Maps
/-- bytes -/
def Byt (ds : List Value) : Prop:=∃ l : List UInt8,ds = l.map fun b=>.int .u8 (b.toNat : Int)
theorem Byt.one {ds : List Value} (h : Byt ds) : ∀ u ∈ ds,u.oneCell' = true:=fun u hu=>by
 obtain ⟨l,rfl⟩:=h
 obtain ⟨b,_,rfl⟩:=List.mem_map.1 hu
 rfl
theorem Byt.nil : Byt []:=⟨[],rfl⟩
theorem Outs.look {B : Nat} {W : World} {v : Value} {os : List Ov} (h : Outs B W v os) : ∃ ao cp,v = .slice ao os.length cp ∧ os.length ≤ cp ∧ ∀ (i : Nat) (o : Ov),os[i]? = some o → ∃ g u,ao = some ⟨g,0,none⟩ ∧ RowB (fun _=>False) W u o.d ∧ ∀ w',Fr (fun _=>False) W w' → ∀ (j : Nat) (x : Value),(ovc o u)[j]? = some x → w'.cell? ⟨g,i * 8 + j,none⟩ = some x:=by
 rcases h with ⟨rfl,rfl⟩ | ⟨g,cp,rfl,_,hg,h1,_,h2⟩
 ·exact ⟨none,0,rfl,Nat.le_refl _,fun i o h=>by simp at h⟩
 ·refine ⟨_,cp,rfl,h1,fun i o ho=>?_⟩
  obtain ⟨u,h3,h4⟩:=h2 i o ho
  exact ⟨g,u,rfl,h3.to (fun _ _ e=>e.elim),fun w' hf j x hx=>(World.cell?_of_block (hf.block g hg id)).trans (h4 j x hx)⟩
theorem y_lt {W : World} {g : Nat} {o : Nat} {v : Value} (h : W.cell? ⟨g,o,none⟩ = some v) : g < W.heap.size:=by
 apply Classical.byContradiction
 intro hn
 have : W.heap[g]? = none:=Array.getElem?_eq_none (by omega)
 unfold World.cell? at h
 simp [this] at h
set_option maxRecDepth 100000 in
set_option maxHeartbeats 4000000 in
theorem outs_any (W : World) (B1 B2 : Nat) (v1 v2 : Value) (os : List Ov) (h1 : Outs B1 W v1 os) (h2 : Outs B2 W v2 os) (hb : ∀ o ∈ os,Byt o.d) (hn : os.length ≤ 1000) :
 Calls Tryz.prog 45 #[v1,v2] W fun e W'=>e = .returned (.bool true) ∧ Fr (fun _=>False) W W':=by
 obtain ⟨a1,c1,rfl,hc1,hl1⟩:=h1.look
 obtain ⟨a2,c2,rfl,hc2,hl2⟩:=h2.look
 obtain ⟨n,hnn⟩ : ∃ n,os.length = n:=⟨_,rfl⟩
 rw [hnn] at hc1 hc2 hn ⊢
 have HN:=Lib.hid hnn
 have HL1:=Lib.hid hl1
 have HL2:=Lib.hid hl2
 have HB:=Lib.hid hb
 have HLE:=Lib.hid hn
 have p0 : ((n : Int) != (n : Int)) = false:=by simp
 clear h1 h2 hl1 hl2 hb hnn hn
 go_enter Tryz.func45,Tryz.ntmps45
 go_upto_region 3 with (fail)
 go_upto_region 4 with (fail)
 go_wp2_with fail
 go_loopw [5] (fun ki wz=>∃ q : Nat,ki = .int .i64 q ∧ q ≤ n ∧ Fr (fun _=>False) W wz) (fun ki _=>n - (intOf ki).toNat)
 case atStart=>exact ⟨0,rfl,Nat.zero_le _,Fr.refl _ _⟩
 case round=>
  obtain ⟨q,rfl,hq,hfz⟩:=hrel
  have HQ:=Lib.hid hq
  have HFZ:=Lib.hid hfz
  clear hq hfz
  by_cases hlt : q < n
  rotate_left
  ·have p1 : decide ((q : Int) < (n : Int)) = false:=decide_eq_false (by omega)
   have p1' : decide (q < n) = false:=decide_eq_false (by omega)
   clear hlt
   go_wp2
   go_ret
   exact ⟨rfl,HFZ.out⟩
  obtain ⟨o,ho⟩ : ∃ o,os[q]? = some o:=⟨_,List.getElem?_eq_getElem (by rw [HN.out];exact hlt)⟩
  obtain ⟨g1,u1,rfl,hr1,hx1⟩:=HL1.out q o ho
  obtain ⟨g2,u2,rfl,hr2,hx2⟩:=HL2.out q o ho
  obtain ⟨bs,hbs⟩:=HB.out o (List.mem_of_getElem? ho)
  rw [hbs] at hr1 hr2
  obtain ⟨ok,olist,oref,oturn,oat_,oid,on,od⟩:=o
  obtain ⟨ao1,cp1,e1,_⟩:=id hr1
  obtain ⟨ao2,cp2,e2,_⟩:=id hr2
  obtain ⟨dl1,hdl1⟩ : ∃ m,(bs.map fun b=>Value.int .u8 (b.toNat : Int)).length = m:=⟨_,rfl⟩
  rw [hdl1] at e1 e2
  subst e1 e2
  have y10 : wr.cell? ⟨g1,q * 8,none⟩ = some (.int .i64 ok):=hx1 wr HFZ.out 0 _ rfl
  have y11 : wr.cell? ⟨g1,q * 8 + 1,none⟩ = some (.int .i64 olist):=hx1 wr HFZ.out 1 _ rfl
  have y12 : wr.cell? ⟨g1,q * 8 + 2,none⟩ = some (.int .i64 oref):=hx1 wr HFZ.out 2 _ rfl
  have y13 : wr.cell? ⟨g1,q * 8 + 3,none⟩ = some (.int .i64 oturn):=hx1 wr HFZ.out 3 _ rfl
  have y14 : wr.cell? ⟨g1,q * 8 + 4,none⟩ = some (.int .i64 oat_):=hx1 wr HFZ.out 4 _ rfl
  have y15 : wr.cell? ⟨g1,q * 8 + 5,none⟩ = some (.int .i64 oid):=hx1 wr HFZ.out 5 _ rfl
  have y16 : wr.cell? ⟨g1,q * 8 + 6,none⟩ = some (.int .i64 on):=hx1 wr HFZ.out 6 _ rfl
  have y17 : wr.cell? ⟨g1,q * 8 + 7,none⟩ = some (.slice ao1 dl1 cp1):=hx1 wr HFZ.out 7 _ rfl
  have y20 : wr.cell? ⟨g2,q * 8,none⟩ = some (.int .i64 ok):=hx2 wr HFZ.out 0 _ rfl
  have y21 : wr.cell? ⟨g2,q * 8 + 1,none⟩ = some (.int .i64 olist):=hx2 wr HFZ.out 1 _ rfl
  have y22 : wr.cell? ⟨g2,q * 8 + 2,none⟩ = some (.int .i64 oref):=hx2 wr HFZ.out 2 _ rfl
  have y23 : wr.cell? ⟨g2,q * 8 + 3,none⟩ = some (.int .i64 oturn):=hx2 wr HFZ.out 3 _ rfl
  have y24 : wr.cell? ⟨g2,q * 8 + 4,none⟩ = some (.int .i64 oat_):=hx2 wr HFZ.out 4 _ rfl
  have y25 : wr.cell? ⟨g2,q * 8 + 5,none⟩ = some (.int .i64 oid):=hx2 wr HFZ.out 5 _ rfl
  have y26 : wr.cell? ⟨g2,q * 8 + 6,none⟩ = some (.int .i64 on):=hx2 wr HFZ.out 6 _ rfl
  have y27 : wr.cell? ⟨g2,q * 8 + 7,none⟩ = some (.slice ao2 dl1 cp2):=hx2 wr HFZ.out 7 _ rfl
  have p1 : decide ((q : Int) < (n : Int)) = true:=decide_eq_true (by omega)
  have p1' : decide (q < n) = true:=decide_eq_true (by omega)
  have hq0 : (0 : Int) ≤ (q : Int) ∧ (q : Int) < (n : Int):=by omega
  have HLT:=Lib.hid hlt
  have HWQ : Hid (wrap64 ((q : Int) + 1) = ((q + 1 : Nat) : Int)):=Lib.hid (by have:=HLE.out;rw [wrap64];omega)
  have HR1:=Lib.hid hr1
  have HR2:=Lib.hid hr2
  clear ho hx1 hx2 hbs hr1 hr2 hlt hdl1
  go_upto_region 7 with (fail)
  have hB5:=Blk.new wr 47 #[.int .i64 ok,.int .i64 olist,.int .i64 oref,.int .i64 oturn,.int .i64 oat_,.int .i64 oid,.int .i64 on,.slice ao1 dl1 cp1]
  have hf5 : Fr (fun _=>False) wr (wr.alloc (.cells #[.int .i64 ok,.int .i64 olist,.int .i64 oref,.int .i64 oturn,.int .i64 oat_,.int .i64 oid,.int .i64 on,.slice ao1 dl1 cp1] 47)):=Fr.alloc _ _ _
  obtain ⟨w5,hw5⟩ : ∃ w,wr.alloc (.cells #[.int .i64 ok,.int .i64 olist,.int .i64 oref,.int .i64 oturn,.int .i64 oat_,.int .i64 oid,.int .i64 on,.slice ao1 dl1 cp1] 47) = w:=⟨_,rfl⟩
  rw [hw5] at hB5 hf5 ⊢
  obtain ⟨xb,hb5⟩ : ∃ b,wr.heap.size = b:=⟨_,rfl⟩
  rw [hb5] at hB5 ⊢
  have z0 : w5.cell? ⟨g2,q * 8,none⟩ = _:=(World.cell?_of_block (hf5.block g2 (y_lt y20) id)).trans y20
  have z1 : w5.cell? ⟨g2,q * 8 + 1,none⟩ = _:=(World.cell?_of_block (hf5.block g2 (y_lt y21) id)).trans y21
  have z2 : w5.cell? ⟨g2,q * 8 + 2,none⟩ = _:=(World.cell?_of_block (hf5.block g2 (y_lt y22) id)).trans y22
  have z3 : w5.cell? ⟨g2,q * 8 + 3,none⟩ = _:=(World.cell?_of_block (hf5.block g2 (y_lt y23) id)).trans y23
  have z4 : w5.cell? ⟨g2,q * 8 + 4,none⟩ = _:=(World.cell?_of_block (hf5.block g2 (y_lt y24) id)).trans y24
  have z5 : w5.cell? ⟨g2,q * 8 + 5,none⟩ = _:=(World.cell?_of_block (hf5.block g2 (y_lt y25) id)).trans y25
  have z6 : w5.cell? ⟨g2,q * 8 + 6,none⟩ = _:=(World.cell?_of_block (hf5.block g2 (y_lt y26) id)).trans y26
  have z7 : w5.cell? ⟨g2,q * 8 + 7,none⟩ = _:=(World.cell?_of_block (hf5.block g2 (y_lt y27) id)).trans y27
  clear y10 y11 y12 y13 y14 y15 y16 y17 y20 y21 y22 y23 y24 y25 y26 y27 hw5 hb5
  go_upto_region 8 with (fail)
  have hB6:=Blk.new w5 104 #[.int .i64 ok,.int .i64 olist,.int .i64 oref,.int .i64 oturn,.int .i64 oat_,.int .i64 oid,.int .i64 on,.slice ao2 dl1 cp2]
  have hf6 : Fr (fun _=>False) w5 (w5.alloc (.cells #[.int .i64 ok,.int .i64 olist,.int .i64 oref,.int .i64 oturn,.int .i64 oat_,.int .i64 oid,.int .i64 on,.slice ao2 dl1 cp2] 104)):=Fr.alloc _ _ _
  obtain ⟨w6,hw6⟩ : ∃ w,w5.alloc (.cells #[.int .i64 ok,.int .i64 olist,.int .i64 oref,.int .i64 oturn,.int .i64 oat_,.int .i64 oid,.int .i64 on,.slice ao2 dl1 cp2] 104) = w:=⟨_,rfl⟩
  rw [hw6] at hB6 hf6 ⊢
  obtain ⟨yb,hb6⟩ : ∃ b,w5.heap.size = b:=⟨_,rfl⟩
  rw [hb6] at hB6 ⊢
  have HF6 : Hid (Fr (fun _=>False) W w6):=Lib.hid ((HFZ.out.trans hf5).trans hf6)
  have hB5':=hB5.fr hf6 id
  have x0:=hB5'.cell 0
  have y0:=hB6.cell 0
  have x1:=hB5'.cell 1
  have y1:=hB6.cell 1
  have x2:=hB5'.cell 2
  have y2:=hB6.cell 2
  have x3:=hB5'.cell 3
  have y3:=hB6.cell 3
  have x4:=hB5'.cell 4
  have y4:=hB6.cell 4
  have x5:=hB5'.cell 5
  have y5:=hB6.cell 5
  have x6:=hB5'.cell 6
  have y6:=hB6.cell 6
  have x7:=hB5'.cell 7
  have y7:=hB6.cell 7
  simp only [lA,lB,lC] at x0 y0 x1 y1 x2 y2 x3 y3 x4 y4 x5 y5 x6 y6 x7 y7
  have s1:=str_of bs (HR1.out.fr HF6.out)
  have s2:=str_of bs (HR2.out.fr HF6.out)
  have e0 : (ok != ok) = false:=by simp
  have e1 : (olist != olist) = false:=by simp
  have e2 : (oref != oref) = false:=by simp
  have e3 : (oturn != oturn) = false:=by simp
  have e4 : (oat_ != oat_) = false:=by simp
  have e5 : (oid != oid) = false:=by simp
  have e6 : (on != on) = false:=by simp
  clear z0 z1 z2 z3 z4 z5 z6 z7 hw6 hb6 hB5 hB5' hB6 hf5 hf6
  go_wp2_with fail
  go_roundw
  case rel=>exact ⟨q + 1,congrArg (Value.int .i64) HWQ.out,HLT.out,HF6.out⟩
  case measure=>rw [HWQ.out];simp only [intOf];have:=HLT.out;omega
end Go.Proofs.YtnkelaohcbdjnaaGreat
