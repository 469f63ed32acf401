/- The document's Signal,Cancel,Terminate,Decides. -/
import Derived.Test.YtnkelaohcbdjnaaGreatRd
import Derived.Test.YtnkelaohcbdjnaaGreatCl
set_option linter.unusedVariables false
set_option linter.unusedSimpArgs false
namespace Go.Proofs.YtnkelaohcbdjnaaGreat
open Go.RowKit Go.Maps Ev
def RActX (S R : Nat → Prop) (W : World) (rb : Nat) (c : FSt × List Ov × Int) (e : Ending) (W' : World) : Prop:=
 ∃ v,e = .returned (.tuple #[v,.int .i64 c.2.2]) ∧ Outs W.heap.size W' v c.2.1 ∧ ROut S R W rb c.1 W'
/-- an act of the document's: first what is asked first -/
def rtryC (s : FSt) (n : Nat) (now : Int) (c : FSt × List Ov × Int) : FSt × List Ov × Int:=if readyE s n now = 0 then c else (s,[],readyE s n now)
theorem ready_dl {S : Nat → Prop} {W : World} {s : FSt} {ao : Option Addr} {dl cp : Nat} {now : Int} {ds : List Value} (h : readyE s dl now = 0) (hd : RowB S W (.slice ao dl cp) ds) : ds.length ≤ 100000:=by
 have:=hd.len
 unfold readyE at h
 split at h
 ·rename_i hb
  have:=(rightB_iff.1 hb).1
  omega
 ·cases h
theorem rwakeS_len (s : FSt) (now : Int) : (rwakeS s now).l.length ≤ s.l.length + 1:=by
 unfold rwakeS sched
 split
 ·simp
 ·split <;> simp
theorem rwake_core {s1 s' : FSt} (h : YtnkelaohcbdjnaaGreat.core s' = YtnkelaohcbdjnaaGreat.core { s1 with late:=lateB s1 }) (now : Int) : YtnkelaohcbdjnaaGreat.core (wakeS s' now) = YtnkelaohcbdjnaaGreat.core (rwakeS s1 now) ∧ wakeO s' now = wakeO s1 now:=by
 obtain ⟨a1,a2,a3,a4,a5,a6,a7,a8,a9,a10,a11,a12,a13⟩:=s1
 obtain ⟨b1,b2,b3,b4,b5,b6,b7,b8,b9,b10,b11,b12,b13⟩:=s'
 simp only [YtnkelaohcbdjnaaGreat.core,FSt.mk.injEq,lateB] at h
 obtain ⟨rfl,rfl,rfl,rfl,rfl,rfl,rfl,rfl,rfl,rfl,rfl,_,_⟩:=h
 unfold wakeS rwakeS wakeO sched YtnkelaohcbdjnaaGreat.core
 refine ⟨?_,rfl⟩
 dsimp only
 by_cases h0 : b5 = 0
 ·rw [if_pos h0,if_pos h0]
 ·rw [if_neg h0,if_neg h0]
  by_cases h2 : b5 = 2
  ·rw [if_pos h2]
   simp [h2]
  ·rw [if_neg h2]
   simp [h2]
set_option maxRecDepth 100000 in
set_option maxHeartbeats 2000000 in
theorem rsignal_any (S R : Nat → Prop) (W : World) (rb : Nat) (s : FSt) (h : RF S R W rb s) (hl : s.l.length ≤ 4000) (now : Int) (ao : Option Addr) (dl cp : Nat) (ds : List Value) (hd : RowB S W (.slice ao dl cp) ds) (hd1 : ∀ u ∈ ds,u.oneCell' = true)  :
 Calls Tryz.prog 30 #[.pointer (some ⟨rb,0,none⟩),.slice ao dl cp,.int .i64 now] W fun e W'=>RActX S R W rb (rtryC s dl now (signalC s ds now)) e W':=by
 have HRDY:=Lib.hid (rready_any S R W rb s h ao dl cp now)
 have HRF:=Lib.hid h
 have HL:=Lib.hid hl
 have HR:=Lib.hid hd
 have HD1:=Lib.hid hd1
 unfold rtryC
 obtain ⟨er,her⟩ : ∃ x,readyE s dl now = x:=⟨_,rfl⟩
 rw [her] at HRDY ⊢
 by_cases h0 : er = 0
 rotate_left
 ·rw [if_neg h0]
  have p0 : (er != 0) = true:=by simp [h0]
  clear h h0 her hl hd hd1
  go_enter Tryz.func30,Tryz.ntmps30
  go_wp2_with (first | (go_at_call 62;refine HRDY.out.mono ?_;rintro e w1 ⟨rfl,hf1⟩) | go_in)
  go_ret2
  exact ⟨_,rfl,Outs.nil _ _,ROut.refl HRF.out hf1⟩
 subst h0
 rw [if_pos rfl]
 have HD:=Lib.hid (And.intro (ready_dl her HR.out) HD1.out)
 clear h her hl
 have HDL:=Lib.hid hd.len
 clear hd hd1
 go_enter Tryz.func30,Tryz.ntmps30
 go_upto_region 5 with (first | (go_at_call 62;refine HRDY.out.mono ?_;rintro e w1 ⟨rfl,hf1⟩;have HF1:=Lib.hid hf1;clear hf1) | (go_at_call 63;refine (rtwin_any S R w1 rb s (HRF.out.fr0 HF1.out)).mono ?_;rintro e w2 ⟨⟨tb,rfl⟩,hf2⟩;have HF2:=Lib.hid (HF1.out.trans hf2);clear hf2) | go_in)
 have HX:=Lib.hid (HRF.out.fr0 HF2.out)
 have HR2:=Lib.hid ((HR.out.to (S':=fun _=>False) fun k _ e=>e.elim).fr HF2.out)
 go_wp2_with (first | (go_at_call 26;refine (rput_any S R w2 rb s (HX.out) (by have:=HL.out;show s.l.length ≤ _;omega) 15 now 0 0 0 0 ao dl cp ds HR2.out HD.out.1 HD.out.2).mono ?_;rintro e w3 ⟨rfl,S1,R1,hs1,hrf,hfr⟩;have HS1:=Lib.hid hs1;have HX1:=Lib.hid hrf;have HF3:=Lib.hid hfr;clear hs1 hrf hfr) | (go_at_call 65;refine (rwake_any S1 R1 w3 rb _ HX1.out (by rw [List.length_append];have:=HL.out;simp only [List.length_cons,List.length_nil];omega) now).mono ?_;rintro e w4 ⟨v,rfl,ho,S2,R2,hs2,hrf,hfr⟩;have HO:=Lib.hid ho;have HX2:=Lib.hid hrf;have HS2:=Lib.hid hs2;have HF4:=Lib.hid hfr;clear ho hs2 hrf hfr) | (go_at_call 64;refine (rsettle_any S2 R2 w4 rb _ HX2.out (Nat.le_trans (rwakeS_len _ _) (by simp only [List.length_append,List.length_cons,List.length_nil];have:=HL.out;omega)) _ v 0).mono ?_;rintro e w5 ⟨rfl,rfl⟩) | go_in)
 go_ret2
 obtain ⟨e1,e2⟩:=rwake_core (s1:={ s with l:=s.l ++ [⟨15,now,0,0,0,0,ds⟩] }) (s':=signaled s now ds) rfl now
 exact ⟨v,rfl,by rw [show (signalC s ds now).2.1 = wakeO (signaled s now ds) now from rfl,e2];exact HO.out.weak (Nat.le_trans HF2.out.size HF3.out.size),(ROut.behind HF2.out (ROut.then HS1.out HF3.out ⟨S2,R2,HS2.out,HX2.out,HF4.out⟩)).core e1⟩
set_option maxRecDepth 100000 in
set_option maxHeartbeats 2000000 in
theorem rcancel_any (S R : Nat → Prop) (W : World) (rb : Nat) (s : FSt) (h : RF S R W rb s) (hl : s.l.length ≤ 4000) (now : Int)  :
 Calls Tryz.prog 32 #[.pointer (some ⟨rb,0,none⟩),.int .i64 now] W fun e W'=>RActX S R W rb (rtryC s 0 now (cancelC s now)) e W':=by
 have HRDY:=Lib.hid (rready_any S R W rb s h none 0 0 now)
 have HRF:=Lib.hid h
 have HL:=Lib.hid hl
 unfold rtryC
 obtain ⟨er,her⟩ : ∃ x,readyE s 0 now = x:=⟨_,rfl⟩
 rw [her] at HRDY ⊢
 by_cases h0 : er = 0
 rotate_left
 ·rw [if_neg h0]
  have p0 : (er != 0) = true:=by simp [h0]
  clear h h0 her hl 
  go_enter Tryz.func32,Tryz.ntmps32
  go_wp2_with (first | (go_at_call 62;refine HRDY.out.mono ?_;rintro e w1 ⟨rfl,hf1⟩) | go_in)
  go_ret2
  exact ⟨_,rfl,Outs.nil _ _,ROut.refl HRF.out hf1⟩
 subst h0
 rw [if_pos rfl]
 skip
 clear h her hl
 obtain ⟨v0,hb⟩:=HRF.out.blk
 have FX : Hid (∀ w',Fr (fun _=>False) W w' → w'.cell? ⟨rb,10,none⟩ = some (.bool s.asked)):=Lib.hid (fun w' hf=>(hb.fr hf id).cell 10)
 clear hb
 unfold cancelC
 cases ha : s.asked with
 | true=>
   rw [ha] at FX
   rw [if_pos rfl]
   clear ha
   go_enter Tryz.func32,Tryz.ntmps32
   go_wp2_with (first | (go_at_call 62;refine HRDY.out.mono ?_;rintro e w1 ⟨rfl,hf1⟩;have HF1:=Lib.hid hf1;have x10:=FX.out _ hf1;clear hf1) | go_in)
   go_ret2
   exact ⟨_,rfl,Outs.nil _ _,ROut.refl HRF.out HF1.out⟩
 | false=>
   rw [ha] at FX
   rw [if_neg (by decide)]
   clear ha
   go_enter Tryz.func32,Tryz.ntmps32
   go_upto_region 7 with (first | (go_at_call 62;refine HRDY.out.mono ?_;rintro e w1 ⟨rfl,hf1⟩;have HF1:=Lib.hid hf1;have x10:=FX.out _ hf1;clear hf1) | (go_at_call 63;refine (rtwin_any S R w1 rb s (HRF.out.fr0 HF1.out)).mono ?_;rintro e w2 ⟨⟨tb,rfl⟩,hf2⟩;have HF2:=Lib.hid (HF1.out.trans hf2);clear hf2) | go_in)
   clear x10
   obtain ⟨v2,hb2⟩:=(HRF.out.fr0 HF2.out).blk
   have x10:=hb2.cell 10
   have xz10:=hb2.frozen 10
   simp only [rcells,lA,lB,lC] at x10
   clear hb2
   go_upto_region 8 with (fail)
   have hf3 : Fr (fun k=>k = rb) w2 (w2.setCell ⟨rb,10,none⟩ (.bool true)):=Fr.setCell (S:=fun k=>k = rb) w2 ⟨rb,10,none⟩ _ rfl
   have hx3:=(HRF.out.fr0 HF2.out).cells (s':={ s with asked:=true }) hf3 rfl (fun v hb=>by
    have:=hb.set 10 (.bool true)
    simpa only [rcells,lG,lH,lI] using this)
   obtain ⟨w6,hw6⟩ : ∃ w6,w2.setCell ⟨rb,10,none⟩ (.bool true) = w6:=⟨_,rfl⟩
   rw [hw6] at hf3 hx3 ⊢
   have HX:=Lib.hid hx3
   have HF6 : Hid (Fr R W w6):=Lib.hid (Fr.step (HF2.out.mono fun _ e=>e.elim) hf3 (fun k _ e=>e ▸ HRF.out.r))
   clear hw6 hf3 hx3 x10 xz10
   go_wp2_with (first | (go_at_call 26;refine (rput_any S R w6 rb _ (HX.out) (by have:=HL.out;show s.l.length ≤ _;omega) 16 now 0 0 0 0 none 0 0 [] (RowB.nil _ _) (by simp) (by simp)).mono ?_;rintro e w3 ⟨rfl,S1,R1,hs1,hrf,hfr⟩;have HS1:=Lib.hid hs1;have HX1:=Lib.hid hrf;have HF3:=Lib.hid hfr;clear hs1 hrf hfr) | (go_at_call 65;refine (rwake_any S1 R1 w3 rb _ HX1.out (by rw [List.length_append];have:=HL.out;simp only [List.length_cons,List.length_nil];omega) now).mono ?_;rintro e w4 ⟨v,rfl,ho,S2,R2,hs2,hrf,hfr⟩;have HO:=Lib.hid ho;have HX2:=Lib.hid hrf;have HS2:=Lib.hid hs2;have HF4:=Lib.hid hfr;clear ho hs2 hrf hfr) | (go_at_call 64;refine (rsettle_any S2 R2 w4 rb _ HX2.out (Nat.le_trans (rwakeS_len _ _) (by simp only [List.length_append,List.length_cons,List.length_nil];have:=HL.out;omega)) _ v 0).mono ?_;rintro e w5 ⟨rfl,rfl⟩) | go_in)
   go_ret2
   obtain ⟨e1,e2⟩:=rwake_core (s1:={ s with asked:=true,l:=s.l ++ [⟨16,now,0,0,0,0,[]⟩] }) (s':=canceled s now) rfl now
   exact ⟨v,rfl,by show Outs _ _ _ (wakeO (canceled s now) now);rw [e2];exact HO.out.weak (Nat.le_trans HF6.out.size HF3.out.size),(ROut.then (fun _ _=>⟨Iff.rfl,Iff.rfl⟩) HF6.out (ROut.then HS1.out HF3.out ⟨S2,R2,HS2.out,HX2.out,HF4.out⟩)).core e1⟩
set_option maxRecDepth 100000 in
set_option maxHeartbeats 2000000 in
theorem rterminate_any (S R : Nat → Prop) (W : World) (rb : Nat) (s : FSt) (h : RF S R W rb s) (hl : s.l.length ≤ 4000) (now : Int) (ao : Option Addr) (dl cp : Nat) (ds : List Value) (hd : RowB S W (.slice ao dl cp) ds) (hd1 : ∀ u ∈ ds,u.oneCell' = true)  :
 Calls Tryz.prog 34 #[.pointer (some ⟨rb,0,none⟩),.slice ao dl cp,.int .i64 now] W fun e W'=>RActX S R W rb (rtryC s dl now (terminateC s ds now)) e W':=by
 have HRDY:=Lib.hid (rready_any S R W rb s h ao dl cp now)
 have HRF:=Lib.hid h
 have HL:=Lib.hid hl
 have HR:=Lib.hid hd
 have HD1:=Lib.hid hd1
 unfold rtryC
 obtain ⟨er,her⟩ : ∃ x,readyE s dl now = x:=⟨_,rfl⟩
 rw [her] at HRDY ⊢
 by_cases h0 : er = 0
 rotate_left
 ·rw [if_neg h0]
  have p0 : (er != 0) = true:=by simp [h0]
  clear h h0 her hl hd hd1
  go_enter Tryz.func34,Tryz.ntmps34
  go_wp2_with (first | (go_at_call 62;refine HRDY.out.mono ?_;rintro e w1 ⟨rfl,hf1⟩) | go_in)
  go_ret2
  exact ⟨_,rfl,Outs.nil _ _,ROut.refl HRF.out hf1⟩
 subst h0
 rw [if_pos rfl]
 have HD:=Lib.hid (And.intro (ready_dl her HR.out) HD1.out)
 clear h her hl
 clear hd hd1
 go_enter Tryz.func34,Tryz.ntmps34
 go_upto_region 5 with (first | (go_at_call 62;refine HRDY.out.mono ?_;rintro e w1 ⟨rfl,hf1⟩;have HF1:=Lib.hid hf1;clear hf1) | (go_at_call 63;refine (rtwin_any S R w1 rb s (HRF.out.fr0 HF1.out)).mono ?_;rintro e w2 ⟨⟨tb,rfl⟩,hf2⟩;have HF2:=Lib.hid (HF1.out.trans hf2);clear hf2) | go_in)
 have HX:=Lib.hid (HRF.out.fr0 HF2.out)
 have HR2:=Lib.hid (HR.out.fr (HF2.out.mono fun _ e=>e.elim))
 go_wp2_with (first | (go_at_call 69;refine (rclose_any S R w2 rb s HX.out (by have:=HL.out;omega) 23 now ao dl cp ds HR2.out HD.out.1 HD.out.2).mono ?_;rintro e w4 ⟨v,rfl,ho,S2,R2,hs2,hrf,hfr⟩;have HO:=Lib.hid ho;have HX2:=Lib.hid hrf;have HS2:=Lib.hid hs2;have HF4:=Lib.hid hfr;clear ho hs2 hrf hfr) | (go_at_call 64;refine (rsettle_any S2 R2 w4 rb _ HX2.out (by show (s.l ++ _).length ≤ _;rw [List.length_append];have:=HL.out;simp only [List.length_cons,List.length_nil];omega) _ v 0).mono ?_;rintro e w5 ⟨rfl,rfl⟩) | go_in)
 go_ret2
 exact ⟨v,rfl,HO.out.weak HF2.out.size,ROut.behind HF2.out ⟨S2,R2,HS2.out,HX2.out,HF4.out⟩⟩
end Go.Proofs.YtnkelaohcbdjnaaGreat
set_option linter.unusedVariables false
set_option linter.unusedSimpArgs false
namespace Go.Proofs.YtnkelaohcbdjnaaGreat
open Go.RowKit Go.Maps Ev
def rdecidesC (s : FSt) (ref turn now : Int) : FSt × List Ov × Int:=if s.task = 1 ∧ s.at_ = ref ∧ s.turn = turn then (began s now ref,[⟨3,0,ref,turn,wrap64 (now + s.n),0,0,[]⟩],0) else (s,[],21)
theorem rdecidesC_eq {s : FSt} (h : 0 ≤ s.turn) (ref turn now : Int) : decidesC s ref turn now = rdecidesC s ref turn now:=by
 unfold decidesC rdecidesC
 by_cases h1 : s.task = 1 ∧ s.at_ = ref ∧ s.turn = turn
 ·rw [if_pos h1,if_pos ⟨by omega,h1⟩]
 ·rw [if_neg h1,if_neg (fun e=>h1 e.2)]
set_option maxRecDepth 100000 in
set_option maxHeartbeats 2000000 in
theorem rdecides_any (S R : Nat → Prop) (W : World) (rb : Nat) (s : FSt) (h : RF S R W rb s) (hl : s.l.length ≤ 4000) (ref turn now : Int)  :
 Calls Tryz.prog 35 #[.pointer (some ⟨rb,0,none⟩),.int .i64 ref,.int .i64 turn,.int .i64 now] W fun e W'=>RActX S R W rb (rtryC s 0 now (rdecidesC s ref turn now)) e W':=by
 have HRDY:=Lib.hid (rready_any S R W rb s h none 0 0 now)
 have HRF:=Lib.hid h
 have HL:=Lib.hid hl
 unfold rtryC
 obtain ⟨er,her⟩ : ∃ x,readyE s 0 now = x:=⟨_,rfl⟩
 rw [her] at HRDY ⊢
 by_cases h0 : er = 0
 rotate_left
 ·rw [if_neg h0]
  have p0 : (er != 0) = true:=by simp [h0]
  clear h h0 her hl 
  go_enter Tryz.func35,Tryz.ntmps35
  go_wp2_with (first | (go_at_call 62;refine HRDY.out.mono ?_;rintro e w1 ⟨rfl,hf1⟩) | go_in)
  go_ret2
  exact ⟨_,rfl,Outs.nil _ _,ROut.refl HRF.out hf1⟩
 subst h0
 rw [if_pos rfl]
 clear h her hl
 obtain ⟨v0,hb⟩:=HRF.out.blk
 unfold rdecidesC
 obtain ⟨ta,hta⟩ : ∃ x,s.task = x:=⟨_,rfl⟩
 obtain ⟨aa,haa⟩ : ∃ x,s.at_ = x:=⟨_,rfl⟩
 obtain ⟨tu,htu⟩ : ∃ x,s.turn = x:=⟨_,rfl⟩
 have FX : Hid (∀ w',Fr (fun _=>False) W w' → w'.cell? ⟨rb,5,none⟩ = some (.int .i64 ta) ∧ w'.cell? ⟨rb,6,none⟩ = some (.int .i64 aa) ∧ w'.cell? ⟨rb,8,none⟩ = some (.int .i64 tu)):=Lib.hid (fun w' hf=>by
  have h:=hb.fr hf id
  have h5:=h.cell 5
  have h6:=h.cell 6
  have h8:=h.cell 8
  simp only [rcells,lA,lB,lC] at h5 h6 h8
  rw [hta] at h5
  rw [haa] at h6
  rw [htu] at h8
  exact ⟨h5,h6,h8⟩)
 rw [hta,haa,htu]
 have HTT:=Lib.hid (And.intro hta (And.intro haa htu))
 clear hb hta haa htu
 by_cases h1 : ta = 1
 rotate_left
 ·rw [if_neg (fun e=>h1 e.1)]
  have p1 : (ta != 1) = true:=by simp [h1]
  clear h1
  go_enter Tryz.func35,Tryz.ntmps35
  go_wp2_with (first | (go_at_call 62;refine HRDY.out.mono ?_;rintro e w1 ⟨rfl,hf1⟩;have HF1:=Lib.hid hf1;obtain ⟨x5,x6,x8⟩:=FX.out _ hf1;clear hf1) | go_in)
  go_ret2
  exact ⟨_,rfl,Outs.nil _ _,ROut.refl HRF.out HF1.out⟩
 subst h1
 have p1 : ((1 : Int) != 1) = false:=rfl
 by_cases h2 : aa = ref
 rotate_left
 ·rw [if_neg (fun e=>h2 e.2.1)]
  have p2 : (aa != ref) = true:=by simp [h2]
  clear h2
  go_enter Tryz.func35,Tryz.ntmps35
  go_wp2_with (first | (go_at_call 62;refine HRDY.out.mono ?_;rintro e w1 ⟨rfl,hf1⟩;have HF1:=Lib.hid hf1;obtain ⟨x5,x6,x8⟩:=FX.out _ hf1;clear hf1) | go_in)
  go_ret2
  exact ⟨_,rfl,Outs.nil _ _,ROut.refl HRF.out HF1.out⟩
 subst h2
 have p2 : (aa != aa) = false:=by simp
 by_cases h3 : tu = turn
 rotate_left
 ·rw [if_neg (fun e=>h3 e.2.2)]
  have p3 : (tu != turn) = true:=by simp [h3]
  clear h3
  go_enter Tryz.func35,Tryz.ntmps35
  go_wp2_with (first | (go_at_call 62;refine HRDY.out.mono ?_;rintro e w1 ⟨rfl,hf1⟩;have HF1:=Lib.hid hf1;obtain ⟨x5,x6,x8⟩:=FX.out _ hf1;clear hf1) | go_in)
  go_ret2
  exact ⟨_,rfl,Outs.nil _ _,ROut.refl HRF.out HF1.out⟩
 subst h3
 have p3 : (tu != tu) = false:=by simp
 rw [if_pos ⟨rfl,rfl,rfl⟩]
 go_enter Tryz.func35,Tryz.ntmps35
 go_upto_region 7 with (first | (go_at_call 62;refine HRDY.out.mono ?_;rintro e w1 ⟨rfl,hf1⟩;have HF1:=Lib.hid hf1;obtain ⟨x5,x6,x8⟩:=FX.out _ hf1;clear hf1) | (go_at_call 63;refine (rtwin_any S R w1 rb s (HRF.out.fr0 HF1.out)).mono ?_;rintro e w2 ⟨⟨tb,rfl⟩,hf2⟩;have HF2:=Lib.hid (HF1.out.trans hf2);clear hf2) | go_in)
 have HX:=Lib.hid (HRF.out.fr0 HF2.out)
 obtain ⟨_,y6,_⟩:=FX.out _ HF2.out
 clear x5 x6 x8
 go_upto_region 8 with (first | (go_at_call 26;refine (rput_any S R w2 rb s HX.out (by have:=HL.out;omega) 3 now aa 0 0 0 none 0 0 [] (RowB.nil _ _) (by simp) (by simp)).mono ?_;rintro e w3 ⟨rfl,S1,R1,hs1,hrf,hfr⟩;have HS1:=Lib.hid hs1;have HX1:=Lib.hid hrf;have HF3:=Lib.hid hfr;obtain ⟨v3,hb3⟩:=hrf.blk;have x7:=hb3.cell 7;have xz7:=hb3.frozen 7;simp only [rcells,lA,lB,lC] at x7;clear hs1 hrf hfr hb3 y6) | go_in)
 have hf4 : Fr (fun k=>k = rb) w3 (w3.setCell ⟨rb,7,none⟩ (.int .i64 ((s.l.length : Int) + 1))):=Fr.setCell (S:=fun k=>k = rb) w3 ⟨rb,7,none⟩ _ rfl
 have hx4:=HX1.out.cells (s':={ s with bg:=(s.l.length : Int) + 1,l:=s.l ++ [⟨3,now,aa,0,0,0,[]⟩] }) hf4 rfl (fun v hb=>by
  have:=hb.set 7 (.int .i64 ((s.l.length : Int) + 1))
  simpa only [rcells,lG,lH,lI] using this)
 obtain ⟨w4,hw4⟩ : ∃ w4,w3.setCell ⟨rb,7,none⟩ (.int .i64 ((s.l.length : Int) + 1)) = w4:=⟨_,rfl⟩
 rw [hw4] at hf4 hx4 ⊢
 have HX4:=Lib.hid hx4
 have HF4 : Hid (Fr R1 w2 w4):=Lib.hid (Fr.step (R:=R1) ⟨HF3.out.os,HF3.out.tape,HF3.out.output,HF3.out.size,fun k hk hn=>HF3.out.block k hk (fun e=>hn ((HS1.out k hk).2.2 e))⟩ hf4 (fun k hk e=>e ▸ HX1.out.r))
 clear hw4 hf4 hx4 x7 xz7
 obtain ⟨v4,hb4⟩:=HX4.out.blk
 have x3:=hb4.cell 3
 have x5:=hb4.cell 5
 have x9:=hb4.cell 9
 have xz5:=hb4.frozen 5
 have xz9:=hb4.frozen 9
 simp only [rcells,lA,lB,lC] at x3 x5 x9
 clear hb4
 go_upto_region 10 with (fail)
 have hf5 : Fr (fun k=>k = rb) w4 ((w4.setCell ⟨rb,5,none⟩ (.int .i64 2)).setCell ⟨rb,9,none⟩ (.bool false)):=(Fr.setCell (S:=fun k=>k = rb) w4 ⟨rb,5,none⟩ _ rfl).trans (Fr.setCell (S:=fun k=>k = rb) _ ⟨rb,9,none⟩ _ rfl)
 have hx5:=HX4.out.cells (s':=began s now aa) hf5 rfl (fun v hb=>by
  have:=(hb.set 5 (.int .i64 2)).set 9 (.bool false)
  simpa only [rcells,began,lG,lH,lI] using this)
 obtain ⟨w5,hw5⟩ : ∃ w5,(w4.setCell ⟨rb,5,none⟩ (.int .i64 2)).setCell ⟨rb,9,none⟩ (.bool false) = w5:=⟨_,rfl⟩
 rw [hw5] at hf5 hx5 ⊢
 have HX5:=Lib.hid hx5
 have HF5 : Hid (Fr R W w5):=Lib.hid (Fr.step (HF2.out.mono fun _ e=>e.elim) (HF4.out.trans (hf5.mono fun k e=>e ▸ HX1.out.r)) (fun k hk e=>(HS1.out k (Nat.lt_of_lt_of_le hk HF2.out.size)).2.1 e))
 obtain ⟨v5,hb5⟩:=hx5.blk
 clear hw5 hf5 x3 x5 x9 xz5 xz9 hx5
 have x3:=hb5.cell 3
 simp only [rcells,lA,lB,lC] at x3
 clear hb5
 go_wp2_with (first | (go_at_call 64;refine (rsettle_any S1 R1 _ rb _ (HX5.out.fr0 (Fr.alloc _ _ _)) (by show (s.l ++ _).length ≤ _;rw [List.length_append];have:=HL.out;simp only [List.length_cons,List.length_nil];omega) _ _ 0).mono ?_;rintro e w6 ⟨rfl,rfl⟩) | go_in)
 go_ret2
 exact ⟨_,rfl,Outs.one HF5.out.size ⟨3,0,aa,tu,wrap64 (now + s.n),0,0,[]⟩ (.slice none 0 0) (RowB.nil _ _) (Blk.new _ _ _),S1,R1,fun k hk=>HS1.out k (Nat.lt_of_lt_of_le hk HF2.out.size),HX5.out.fr0 (Fr.alloc _ _ _),HF5.out.trans (Fr.alloc _ _ _)⟩
end Go.Proofs.YtnkelaohcbdjnaaGreat
