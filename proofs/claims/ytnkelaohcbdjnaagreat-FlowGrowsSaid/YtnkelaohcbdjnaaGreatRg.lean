/- The document's scans. -/
import Derived.Test.YtnkelaohcbdjnaaGreatRd
import Derived.Deep.QuietTactic
import Derived.BigQuiet
import Derived.Test.YtnkelaohcbdjnaaGreatEvP
set_option linter.unusedVariables false
set_option linter.unusedSimpArgs false
namespace Go.Proofs.YtnkelaohcbdjnaaGreat
open Go.RowKit Go.Maps Ev
theorem RF.look {S R : Nat → Prop} {W : World} {rb : Nat} {s : FSt} (h : RF S R W rb s) : ∃ ao cp,Blk W rb 65 (rcells s (.slice ao s.l.length cp)) ∧ s.l.length ≤ cp ∧ ∀ i e,s.l[i]? = some e → ∃ g x,ao = some ⟨g,0,none⟩ ∧ ∀ w',Fr (fun _=>False) W w' → ∀ j u,(tev e x)[j]? = some u → w'.cell? ⟨g,i * 7 + j,none⟩ = some u:=by
 obtain ⟨ao,cp,L,hb,hL,ht,hrow,hcp,_,hz,hg⟩:=h.rows
 refine ⟨ao,cp,hb,hcp,fun i e he=>?_⟩
 obtain ⟨x,hx⟩ : ∃ x,L[i]? = some x:=⟨_,List.getElem?_eq_getElem (by have:=(List.getElem?_eq_some_iff.1 he).1;omega)⟩
 obtain ⟨b,of,hao,hc⟩:=hrow.at_ hx
 obtain ⟨g,e1,_⟩:=hg _ hao
 refine ⟨g,x,by rw [hao,e1],fun w' hf j u hu=>?_⟩
 cases e1
 have:=hc w' hf j u (by rw [ht.cells he hx,lA];exact hu)
 rwa [Nat.zero_add] at this
theorem Gs_len (l : List Rv) : (Gs l).length = l.length:=by unfold Gs;simp
theorem Gs_at {l : List Rv} {i : Nat} {e : Rv} (h : l[i]? = some e) : (Gs l)[i]? = some (ge e):=by unfold Gs;rw [List.getElem?_map,h];rfl
/-- an event's kind by its place -/
def kindR (l : List Rv) (at_ : Int) : Int:=rKind (Gs l) at_
theorem kindR_at {l : List Rv} {i : Nat} {e : Rv} (h : l[i]? = some e) : kindR l ((i : Int) + 1) = e.k:=rKind_at (Gs_at h)
theorem kindR_out {l : List Rv} {at_ : Int} (h : at_ < 1 ∨ (l.length : Int) < at_) : kindR l at_ = 0:=rKind_out (by rw [Gs_len];exact h)
def worksGo (at_ : Int) : Nat → List Rv → Int → Int × Bool
 | _,[],w=>(w,true)
 | i,e :: l,w=>if e.k = 8 ∧ e.r = at_ then worksGo at_ (i + 1) l ((i : Int) + 1) else if 0 < w ∧ e.r = w ∧ (e.k = 9 ∨ e.k = 10 ∨ e.k = 11) then (0,false) else worksGo at_ (i + 1) l w
/-- the place of an open activity's EWorks;is it open? -/
def worksR (l : List Rv) (at_ : Int) : Int × Bool:=if kindR l at_ = 7 then worksGo at_ at_.toNat (l.drop at_.toNat) 0 else (0,false)
def timerGo (at_ : Int) : List Rv → Bool
 | []=>true
 | e :: l=>if e.r = at_ ∧ (e.k = 13 ∨ e.k = 14) then false else timerGo at_ l
def timerR (l : List Rv) (at_ : Int) : Bool:=if kindR l at_ = 12 then timerGo at_ (l.drop at_.toNat) else false
def beganGo (l : List Rv) (k id : Int) : Nat → Int
 | 0=>0
 | n + 1=>match l[n]? with
   | some e=>if e.k = k ∧ e.i = id then (n : Int) + 1 else beganGo l k id n
   | none=>beganGo l k id n
def beganR (l : List Rv) (k id : Int) : Int:=beganGo l k id l.length
set_option maxRecDepth 100000 in
theorem rkind_any (S R : Nat → Prop) (W : World) (rb : Nat) (s : FSt) (h : RF S R W rb s) (at_ : Int) :
 Calls Tryz.prog 97 #[.pointer (some ⟨rb,0,none⟩),.int .i64 at_] W fun e W'=>e = .returned (.int .i64 (kindR s.l at_)) ∧ W = W':=by
 obtain ⟨ao,cp,hb,hcp,hlook⟩:=h.look
 have hfew:=h.few
 have x4:=hb.cell 4
 simp only [rcells,lA,lB,lC] at x4
 obtain ⟨n,hn⟩ : ∃ n,s.l.length = n:=⟨_,rfl⟩
 have HN:=Lib.hid hn
 by_cases h1 : at_ < 1
 ·have p1 : decide (at_ < 1) = true:=decide_eq_true h1
  rw [kindR_out (.inl h1)]
  clear h hb hlook hn hfew h1 hcp x4
  go_enter Tryz.func97,Tryz.ntmps97
  go_wp2
  go_ret
  exact ⟨rfl,rfl⟩
 have p1 : decide (at_ < 1) = false:=decide_eq_false h1
 by_cases h2 : (n : Int) < at_
 ·have p2 : decide (at_ > (n : Int)) = true:=decide_eq_true h2
  have p3 : decide ((n : Int) < at_) = true:=decide_eq_true h2
  rw [kindR_out (.inr (by rw [hn];exact h2))]
  rw [hn] at x4
  clear h hb hlook hn hfew h1 hcp
  go_enter Tryz.func97,Tryz.ntmps97
  go_wp2
  go_ret
  exact ⟨rfl,rfl⟩
 have p2 : decide (at_ > (n : Int)) = false:=decide_eq_false h2
 have p3 : decide ((n : Int) < at_) = false:=decide_eq_false h2
 obtain ⟨q,hq⟩ : ∃ q : Nat,at_ = (q : Int) + 1:=⟨(at_ - 1).toNat,by omega⟩
 obtain ⟨e,he⟩ : ∃ e,s.l[q]? = some e:=⟨_,List.getElem?_eq_getElem (by omega)⟩
 obtain ⟨g,x,rfl,hc⟩:=hlook q e he
 have c0 : W.cell? ⟨g,q * 7,none⟩ = some (.int .i64 e.k):=hc W (Fr.refl _ _) 0 _ rfl
 have hk : kindR s.l at_ = e.k:=by rw [hq];exact kindR_at he
 have hw : wrap64 (at_ - 1) = (q : Int):=by rw [wrap64];omega
 have hq0 : (0 : Int) ≤ (q : Int) ∧ (q : Int) < (n : Int):=by omega
 rw [hn] at x4
 obtain ⟨kk,hkk⟩ : ∃ k,e.k = k:=⟨_,rfl⟩
 rw [hkk] at hk c0
 rw [hk]
 clear h hb hlook hn hfew h1 h2 hcp hq he hc hk hkk
 go_enter Tryz.func97,Tryz.ntmps97
 go_wp2
 go_ret
 exact ⟨rfl,rfl⟩
set_option maxRecDepth 100000 in
set_option maxHeartbeats 4000000 in
theorem rworks_any (S R : Nat → Prop) (W : World) (rb : Nat) (s : FSt) (h : RF S R W rb s) (at_ : Int) :
 Calls Tryz.prog 75 #[.pointer (some ⟨rb,0,none⟩),.int .i64 at_] W fun e W'=>e = .returned (.tuple #[.int .i64 (worksR s.l at_).1,.bool (worksR s.l at_).2]) ∧ Fr (fun _=>False) W W':=by
 obtain ⟨ao,cp,hb,hcp,hlook⟩:=h.look
 have hfew:=h.few
 have x4:=hb.cell 4
 simp only [rcells,lA,lB,lC] at x4
 obtain ⟨n,hn⟩ : ∃ n,s.l.length = n:=⟨_,rfl⟩
 have HN:=Lib.hid hn
 have HLOOK:=Lib.hid hlook
 have HB:=Lib.hid hb
 have HRF:=Lib.hid h
 have HFEW : Hid (n ≤ 100000):=Lib.hid (by omega)
 have HK:=rkind_any S R W rb s h at_
 obtain ⟨kd,hkd⟩ : ∃ k,kindR s.l at_ = k:=⟨_,rfl⟩
 rw [hkd] at HK
 have HKD:=Lib.hid HK
 rw [hn] at x4
 by_cases h7 : kd = 7
 rotate_left
 ·have hr : worksR s.l at_ = (0,false):=by unfold worksR;rw [hkd,if_neg h7]
  rw [hr]
  have p1 : (kd != 7) = true:=by simp [h7]
  clear h hb hlook hn hfew h7 hkd hr HK hcp x4
  go_enter Tryz.func75,Tryz.ntmps75
  go_wp2_with (first | (go_at_call 97;refine HKD.out.mono ?_;rintro e w1 ⟨rfl,rfl⟩) | go_in)
  go_ret2
  exact ⟨rfl,Fr.refl _ _⟩
 subst h7
 have p1 : ((7 : Int) != 7) = false:=rfl
 have hin : ¬ (at_ < 1 ∨ (n : Int) < at_):=fun e=>by
  have:=kindR_out (l:=s.l) (by rw [hn];exact e)
  rw [hkd] at this
  cases this
 obtain ⟨a,ha⟩ : ∃ a : Nat,at_ = (a : Int):=⟨at_.toNat,by omega⟩
 subst ha
 have hr : worksR s.l (a : Int) = worksGo (a : Int) a (s.l.drop a) 0:=by unfold worksR;rw [if_pos hkd];rfl
 rw [hr]
 obtain ⟨res,hres⟩ : ∃ r,worksGo (a : Int) a (s.l.drop a) 0 = r:=⟨_,rfl⟩
 have HRES:=Lib.hid hres
 rw [hres]
 have HIN : Hid (1 ≤ a ∧ a ≤ n):=Lib.hid (by omega)
 clear h hb hlook hn hfew hkd hr HK hcp hres hin
 go_enter Tryz.func75,Tryz.ntmps75
 go_upto_region 4 with (first | (go_at_call 97;refine HKD.out.mono ?_;rintro e w1 ⟨rfl,rfl⟩) | go_in)
 go_wp2_with fail
 go_loopw [6,7] (fun kw ki wz=>∃ (q : Nat) (w : Int),ki = .int .i64 q ∧ kw = .int .i64 w ∧ a ≤ q ∧ q ≤ n ∧ 0 ≤ w ∧ w ≤ q ∧ worksGo (a : Int) q (s.l.drop q) w = res ∧ Fr (fun _=>False) W wz) (fun _ ki _=>n - (intOf ki).toNat)
 case atStart=>exact ⟨a,0,rfl,rfl,Nat.le_refl _,HIN.out.2,by omega,by omega,HRES.out,Fr.refl _ _⟩
 case round=>
  obtain ⟨q,w,rfl,rfl,hq1,hq2,hw1,hw2,hgo,hfz⟩:=hrel
  have HGO:=Lib.hid hgo
  have HFZ:=Lib.hid hfz
  have HQ:=Lib.hid (And.intro hq1 (And.intro hq2 (And.intro hw1 hw2)))
  have x4':=(HB.out.fr hfz id).cell 4
  simp only [rcells,lA,lB,lC] at x4'
  rw [HN.out] at x4'
  clear hq1 hq2 hw1 hw2 hgo hfz x4
  by_cases hlt : q < n
  rotate_left
  ·have hqn : q = n:=by have:=HQ.out;omega
   have p2 : decide ((q : Int) < (n : Int)) = false:=decide_eq_false (by omega)
   have p2' : decide (q < n) = false:=decide_eq_false (by omega)
   have hR : Hid (res = (w,true)):=Lib.hid (by
    rw [← HGO.out,List.drop_eq_nil_of_le (by rw [HN.out];omega)]
    unfold worksGo
    rfl)
   clear hlt
   go_wp2
   go_ret2
   exact ⟨by rw [hR.out];rfl,HFZ.out⟩
  obtain ⟨e,he⟩ : ∃ e,s.l[q]? = some e:=⟨_,List.getElem?_eq_getElem (by rw [HN.out];exact hlt)⟩
  obtain ⟨g,x,hao,hc⟩:=HLOOK.out q e he
  obtain ⟨⟨ek,ea,er,ei,el,en,ed⟩,hee⟩ : ∃ e',e = e':=⟨e,rfl⟩
  subst hee
  subst hao
  have hdr : s.l.drop q = ⟨ek,ea,er,ei,el,en,ed⟩ :: s.l.drop (q + 1):=by
   rw [List.drop_eq_getElem_cons (by rw [HN.out];exact hlt)]
   have:=(List.getElem?_eq_some_iff.1 he).2
   rw [this]
  have HSTEP : Hid (res = if ek = 8 ∧ er = (a : Int) then worksGo (a : Int) (q + 1) (s.l.drop (q + 1)) ((q : Int) + 1) else if 0 < w ∧ er = w ∧ (ek = 9 ∨ ek = 10 ∨ ek = 11) then (0,false) else worksGo (a : Int) (q + 1) (s.l.drop (q + 1)) w):=Lib.hid (by
   rw [← HGO.out,hdr,worksGo])
  have c0 : wr.cell? ⟨g,q * 7,none⟩ = some (.int .i64 ek):=hc wr HFZ.out 0 _ rfl
  have c1 : wr.cell? ⟨g,q * 7 + 1,none⟩ = some (.int .i64 ea):=hc wr HFZ.out 1 _ rfl
  have c2 : wr.cell? ⟨g,q * 7 + 2,none⟩ = some (.int .i64 er):=hc wr HFZ.out 2 _ rfl
  have c3 : wr.cell? ⟨g,q * 7 + 3,none⟩ = some (.int .i64 ei):=hc wr HFZ.out 3 _ rfl
  have c4 : wr.cell? ⟨g,q * 7 + 4,none⟩ = some (.int .i64 el):=hc wr HFZ.out 4 _ rfl
  have c5 : wr.cell? ⟨g,q * 7 + 5,none⟩ = some (.int .i64 en):=hc wr HFZ.out 5 _ rfl
  have c6 : wr.cell? ⟨g,q * 7 + 6,none⟩ = some (.slice x.ao ed.length x.cp):=hc wr HFZ.out 6 _ rfl
  obtain ⟨dl,hdl⟩ : ∃ m,ed.length = m:=⟨_,rfl⟩
  rw [hdl] at c6
  have hq0 : (0 : Int) ≤ (q : Int) ∧ (q : Int) < (n : Int):=by omega
  have p2 : decide ((q : Int) < (n : Int)) = true:=decide_eq_true (by omega)
  have p2' : decide (q < n) = true:=decide_eq_true hlt
  have HLT:=Lib.hid hlt
  have HWQ : Hid (wrap64 ((q : Int) + 1) = ((q + 1 : Nat) : Int)):=Lib.hid (by have:=HFEW.out;rw [wrap64];omega)
  have HWQ2 : Hid (wrap64 ((q : Int) + 1) = (q : Int) + 1):=Lib.hid (by have:=HFEW.out;rw [wrap64];omega)
  clear he hc hdr hdl hlt
  go_upto_region 8 with (fail)
  have hEB:=Blk.new wr 62 #[.int .i64 ek,.int .i64 ea,.int .i64 er,.int .i64 ei,.int .i64 el,.int .i64 en,.slice x.ao dl x.cp]
  have hf5 : Fr (fun _=>False) wr (wr.alloc (.cells #[.int .i64 ek,.int .i64 ea,.int .i64 er,.int .i64 ei,.int .i64 el,.int .i64 en,.slice x.ao dl x.cp] 62)):=Fr.alloc _ _ _
  obtain ⟨w5,hw5⟩ : ∃ w5,wr.alloc (.cells #[.int .i64 ek,.int .i64 ea,.int .i64 er,.int .i64 ei,.int .i64 el,.int .i64 en,.slice x.ao dl x.cp] 62) = w5:=⟨_,rfl⟩
  rw [hw5] at hEB hf5 ⊢
  obtain ⟨eb,heb⟩ : ∃ b,wr.heap.size = b:=⟨_,rfl⟩
  rw [heb] at hEB ⊢
  have HF5 : Hid (Fr (fun _=>False) W w5):=Lib.hid (HFZ.out.trans hf5)
  have d0:=hEB.cell 0
  have d2:=hEB.cell 2
  simp only [lA,lB,lC] at d0 d2
  clear hw5 heb hEB hf5 c0 c1 c2 c3 c4 c5 c6 x4'
  by_cases h8 : ek = 8
  ·skip
   subst h8
   by_cases hra : er = (a : Int)
   ·have p4 : (er == (a : Int)) = true:=by simp [hra]
    have p6 : (er == (q : Int) + 1) = false:=by simp;have:=HQ.out;omega
    have p6' : (er == wrap64 ((q : Int) + 1)) = false:=by rw [HWQ2.out];exact p6
    have p5 : decide ((q : Int) + 1 > 0) = true:=decide_eq_true (by omega)
    have p5' : decide (0 < (q : Int) + 1) = true:=decide_eq_true (by omega)
    have hwq2:=HWQ2.out
    have HRN : Hid (worksGo (a : Int) (q + 1) (s.l.drop (q + 1)) ((q : Int) + 1) = res):=Lib.hid (by rw [HSTEP.out];rw [if_pos ⟨rfl,hra⟩])
    clear hra
    go_wp2_with fail
    go_roundw
    case rel=>
     exact ⟨q + 1,((q : Int) + 1),(by first | rfl | exact congrArg (Value.int .i64) HWQ.out),(by first | rfl | exact congrArg (Value.int .i64) HWQ2.out),by have:=HQ.out;omega,by have:=HLT.out;omega,by have:=HQ.out;omega,by have:=HQ.out;omega,HRN.out,HF5.out⟩
    case measure=>rw [HWQ.out];simp only [intOf];have:=HLT.out;omega
   have p4 : (er == (a : Int)) = false:=by simp [hra]
   have hk8 : ¬ ((8 : Int) = 8 ∧ er = (a : Int)):=fun e=>hra e.2
   by_cases hw0 : 0 < w
   rotate_left
   ·have p5 : decide (w > 0) = false:=decide_eq_false hw0
    have p5' : decide (0 < w) = false:=decide_eq_false hw0
    have HRN : Hid (worksGo (a : Int) (q + 1) (s.l.drop (q + 1)) w = res):=Lib.hid (by rw [HSTEP.out];rw [if_neg (by rintro ⟨e1,e2⟩;exact hk8 ⟨e1,e2⟩),if_neg (fun e=>hw0 e.1)])
    clear hw0 hk8 hra
    go_wp2_with fail
    go_roundw
    case rel=>exact ⟨q + 1,w,congrArg (Value.int .i64) HWQ.out,rfl,by have:=HQ.out;omega,by have:=HLT.out;omega,by have:=HQ.out;omega,by have:=HQ.out;omega,HRN.out,HF5.out⟩
    case measure=>rw [HWQ.out];simp only [intOf];have:=HLT.out;omega
   have p5 : decide (w > 0) = true:=decide_eq_true hw0
   have p5' : decide (0 < w) = true:=decide_eq_true hw0
   by_cases hrw : er = w
   rotate_left
   ·have p6 : (er == w) = false:=by simp [hrw]
    have HRN : Hid (worksGo (a : Int) (q + 1) (s.l.drop (q + 1)) w = res):=Lib.hid (by rw [HSTEP.out];rw [if_neg (by rintro ⟨e1,e2⟩;exact hk8 ⟨e1,e2⟩),if_neg (fun e=>hrw e.2.1)])
    clear hw0 hrw hk8 hra
    go_wp2_with fail
    go_roundw
    case rel=>exact ⟨q + 1,w,congrArg (Value.int .i64) HWQ.out,rfl,by have:=HQ.out;omega,by have:=HLT.out;omega,by have:=HQ.out;omega,by have:=HQ.out;omega,HRN.out,HF5.out⟩
    case measure=>rw [HWQ.out];simp only [intOf];have:=HLT.out;omega
   have p6 : (er == w) = true:=by simp [hrw]
   have HRN : Hid (worksGo (a : Int) (q + 1) (s.l.drop (q + 1)) w = res):=Lib.hid (by rw [HSTEP.out];rw [if_neg (by rintro ⟨e1,e2⟩;exact hk8 ⟨e1,e2⟩),if_neg (fun e=>by rcases e.2.2 with e | e | e <;> cases e)])
   clear hw0 hrw hk8 hra
   go_wp2_with fail
   go_roundw
   case rel=>exact ⟨q + 1,w,congrArg (Value.int .i64) HWQ.out,rfl,by have:=HQ.out;omega,by have:=HLT.out;omega,by have:=HQ.out;omega,by have:=HQ.out;omega,HRN.out,HF5.out⟩
   case measure=>rw [HWQ.out];simp only [intOf];have:=HLT.out;omega
  have p3 : (ek == 8) = false:=by simp [h8]
  have hk8 : ¬ (ek = 8 ∧ er = (a : Int)):=fun e=>h8 e.1
  clear h8
  by_cases hw0 : 0 < w
  rotate_left
  ·have p5 : decide (w > 0) = false:=decide_eq_false hw0
   have p5' : decide (0 < w) = false:=decide_eq_false hw0
   have HRN : Hid (worksGo (a : Int) (q + 1) (s.l.drop (q + 1)) w = res):=Lib.hid (by rw [HSTEP.out];rw [if_neg (by rintro ⟨e1,e2⟩;exact hk8 ⟨e1,e2⟩),if_neg (fun e=>hw0 e.1)])
   clear hw0 hk8
   go_wp2_with fail
   go_roundw
   case rel=>exact ⟨q + 1,w,congrArg (Value.int .i64) HWQ.out,rfl,by have:=HQ.out;omega,by have:=HLT.out;omega,by have:=HQ.out;omega,by have:=HQ.out;omega,HRN.out,HF5.out⟩
   case measure=>rw [HWQ.out];simp only [intOf];have:=HLT.out;omega
  have p5 : decide (w > 0) = true:=decide_eq_true hw0
  have p5' : decide (0 < w) = true:=decide_eq_true hw0
  by_cases hrw : er = w
  rotate_left
  ·have p6 : (er == w) = false:=by simp [hrw]
   have HRN : Hid (worksGo (a : Int) (q + 1) (s.l.drop (q + 1)) w = res):=Lib.hid (by rw [HSTEP.out];rw [if_neg (by rintro ⟨e1,e2⟩;exact hk8 ⟨e1,e2⟩),if_neg (fun e=>hrw e.2.1)])
   clear hw0 hrw hk8
   go_wp2_with fail
   go_roundw
   case rel=>exact ⟨q + 1,w,congrArg (Value.int .i64) HWQ.out,rfl,by have:=HQ.out;omega,by have:=HLT.out;omega,by have:=HQ.out;omega,by have:=HQ.out;omega,HRN.out,HF5.out⟩
   case measure=>rw [HWQ.out];simp only [intOf];have:=HLT.out;omega
  have p6 : (er == w) = true:=by simp [hrw]
  by_cases h9 : ek = 9
  ·subst h9
   have hR : Hid (res = (0,false)):=Lib.hid (by rw [HSTEP.out];rw [if_neg (by rintro ⟨e1,e2⟩;exact hk8 ⟨e1,e2⟩),if_pos ⟨hw0,hrw,.inl rfl⟩])
   clear hw0 hrw hk8
   go_wp2
   go_ret2
   exact ⟨by rw [hR.out];rfl,HF5.out⟩
  have p9 : (ek == 9) = false:=by simp [h9]
  by_cases h10 : ek = 10
  ·subst h10
   have hR : Hid (res = (0,false)):=Lib.hid (by rw [HSTEP.out];rw [if_neg (by rintro ⟨e1,e2⟩;exact hk8 ⟨e1,e2⟩),if_pos ⟨hw0,hrw,.inr (.inl rfl)⟩])
   clear hw0 hrw hk8 h9
   go_wp2
   go_ret2
   exact ⟨by rw [hR.out];rfl,HF5.out⟩
  have p10 : (ek == 10) = false:=by simp [h10]
  by_cases h11 : ek = 11
  ·subst h11
   have hR : Hid (res = (0,false)):=Lib.hid (by rw [HSTEP.out];rw [if_neg (by rintro ⟨e1,e2⟩;exact hk8 ⟨e1,e2⟩),if_pos ⟨hw0,hrw,.inr (.inr rfl)⟩])
   clear hw0 hrw hk8 h9 h10
   go_wp2
   go_ret2
   exact ⟨by rw [hR.out];rfl,HF5.out⟩
  have p11 : (ek == 11) = false:=by simp [h11]
  have HRN : Hid (worksGo (a : Int) (q + 1) (s.l.drop (q + 1)) w = res):=Lib.hid (by rw [HSTEP.out];rw [if_neg (by rintro ⟨e1,e2⟩;exact hk8 ⟨e1,e2⟩),if_neg (fun e=>by rcases e.2.2 with e | e | e;exact h9 e;exact h10 e;exact h11 e)])
  clear hw0 hrw hk8 h9 h10 h11
  go_wp2_with fail
  go_roundw
  case rel=>exact ⟨q + 1,w,congrArg (Value.int .i64) HWQ.out,rfl,by have:=HQ.out;omega,by have:=HLT.out;omega,by have:=HQ.out;omega,by have:=HQ.out;omega,HRN.out,HF5.out⟩
  case measure=>rw [HWQ.out];simp only [intOf];have:=HLT.out;omega
set_option maxRecDepth 100000 in
set_option maxHeartbeats 4000000 in
theorem rtimer_any (S R : Nat → Prop) (W : World) (rb : Nat) (s : FSt) (h : RF S R W rb s) (at_ : Int) :
 Calls Tryz.prog 81 #[.pointer (some ⟨rb,0,none⟩),.int .i64 at_] W fun e W'=>e = .returned (.bool (timerR s.l at_)) ∧ W = W':=by
 obtain ⟨ao,cp,hb,hcp,hlook⟩:=h.look
 have hfew:=h.few
 have x4:=hb.cell 4
 simp only [rcells,lA,lB,lC] at x4
 obtain ⟨n,hn⟩ : ∃ n,s.l.length = n:=⟨_,rfl⟩
 have HN:=Lib.hid hn
 have HLOOK:=Lib.hid hlook
 have HB:=Lib.hid hb
 have HRF:=Lib.hid h
 have HFEW : Hid (n ≤ 100000):=Lib.hid (by omega)
 have HK:=rkind_any S R W rb s h at_
 obtain ⟨kd,hkd⟩ : ∃ k,kindR s.l at_ = k:=⟨_,rfl⟩
 rw [hkd] at HK
 have HKD:=Lib.hid HK
 rw [hn] at x4
 by_cases h7 : kd = 12
 rotate_left
 ·have hr : timerR s.l at_ = false:=by unfold timerR;rw [hkd,if_neg h7]
  rw [hr]
  have p1 : (kd != 12) = true:=by simp [h7]
  clear h hb hlook hn hfew h7 hkd hr HK hcp x4
  go_enter Tryz.func81,Tryz.ntmps81
  go_wp2_with (first | (go_at_call 97;refine HKD.out.mono ?_;rintro e w1 ⟨rfl,rfl⟩) | go_in)
  go_ret
  exact ⟨rfl,rfl⟩
 subst h7
 have p1 : ((12 : Int) != 12) = false:=rfl
 have hin : ¬ (at_ < 1 ∨ (n : Int) < at_):=fun e=>by
  have:=kindR_out (l:=s.l) (by rw [hn];exact e)
  rw [hkd] at this
  cases this
 obtain ⟨a,ha⟩ : ∃ a : Nat,at_ = (a : Int):=⟨at_.toNat,by omega⟩
 subst ha
 have hr : timerR s.l (a : Int) = timerGo (a : Int) (s.l.drop a):=by unfold timerR;rw [if_pos hkd];rfl
 rw [hr]
 obtain ⟨res,hres⟩ : ∃ r,timerGo (a : Int) (s.l.drop a) = r:=⟨_,rfl⟩
 have HRES:=Lib.hid hres
 rw [hres]
 have HIN : Hid (1 ≤ a ∧ a ≤ n):=Lib.hid (by omega)
 clear h hb hlook hn hfew hkd hr HK hcp hres hin
 go_enter Tryz.func81,Tryz.ntmps81
 go_upto_region 3 with (first | (go_at_call 97;refine HKD.out.mono ?_;rintro e w1 ⟨rfl,rfl⟩) | go_in)
 go_wp2_with fail
 go_loopw [5] (fun ki wz=>∃ (q : Nat),ki = .int .i64 q ∧ q ≤ n ∧ timerGo (a : Int) (s.l.drop q) = res ∧ W = wz) (fun ki _=>n - (intOf ki).toNat)
 case atStart=>exact ⟨a,rfl,HIN.out.2,HRES.out,rfl⟩
 case round=>
  obtain ⟨q,rfl,hq,hgo,rfl⟩:=hrel
  have HGO:=Lib.hid hgo
  have HQ:=Lib.hid hq
  clear hq hgo
  by_cases hlt : q < n
  rotate_left
  ·have hqn : q = n:=by have:=HQ.out;omega
   have p2 : decide ((q : Int) < (n : Int)) = false:=decide_eq_false (by omega)
   have p2' : decide (q < n) = false:=decide_eq_false (by omega)
   have hR : Hid (res = true):=Lib.hid (by
    rw [← HGO.out,List.drop_eq_nil_of_le (by rw [HN.out];omega)]
    unfold timerGo
    rfl)
   clear hlt
   go_wp2
   go_ret
   exact ⟨by rw [hR.out];rfl,rfl⟩
  obtain ⟨e,he⟩ : ∃ e,s.l[q]? = some e:=⟨_,List.getElem?_eq_getElem (by rw [HN.out];exact hlt)⟩
  obtain ⟨g,x,hao,hc⟩:=HLOOK.out q e he
  obtain ⟨⟨ek,ea,er,ei,el,en,ed⟩,hee⟩ : ∃ e',e = e':=⟨e,rfl⟩
  subst hee
  subst hao
  have hdr : s.l.drop q = ⟨ek,ea,er,ei,el,en,ed⟩ :: s.l.drop (q + 1):=by
   rw [List.drop_eq_getElem_cons (by rw [HN.out];exact hlt)]
   have:=(List.getElem?_eq_some_iff.1 he).2
   rw [this]
  have HSTEP : Hid (res = if er = (a : Int) ∧ (ek = 13 ∨ ek = 14) then false else timerGo (a : Int) (s.l.drop (q + 1))):=Lib.hid (by
   rw [← HGO.out,hdr,timerGo])
  have c0 : W.cell? ⟨g,q * 7,none⟩ = some (.int .i64 ek):=hc W (Fr.refl _ _) 0 _ rfl
  have c2 : W.cell? ⟨g,q * 7 + 2,none⟩ = some (.int .i64 er):=hc W (Fr.refl _ _) 2 _ rfl
  have hq0 : (0 : Int) ≤ (q : Int) ∧ (q : Int) < (n : Int):=by omega
  have p2 : decide ((q : Int) < (n : Int)) = true:=decide_eq_true (by omega)
  have p2' : decide (q < n) = true:=decide_eq_true hlt
  have HLT:=Lib.hid hlt
  have HWQ : Hid (wrap64 ((q : Int) + 1) = ((q + 1 : Nat) : Int)):=Lib.hid (by have:=HFEW.out;rw [wrap64];omega)
  clear he hc hdr hlt
  by_cases hra : er = (a : Int)
  rotate_left
  ·have p4 : (er == (a : Int)) = false:=by simp [hra]
   have HRN : Hid (timerGo (a : Int) (s.l.drop (q + 1)) = res):=Lib.hid (by rw [HSTEP.out];rw [if_neg (fun e=>hra e.1)])
   clear hra
   go_wp2_with fail
   go_roundw
   case rel=>exact ⟨q + 1,congrArg (Value.int .i64) HWQ.out,HLT.out,HRN.out,trivial⟩
   case measure=>rw [HWQ.out];simp only [intOf];have:=HLT.out;omega
  have p4 : (er == (a : Int)) = true:=by simp [hra]
  by_cases h13 : ek = 13
  ·subst h13
   have hR : Hid (res = false):=Lib.hid (by rw [HSTEP.out];rw [if_pos ⟨hra,.inl rfl⟩])
   clear hra
   go_wp2
   go_ret
   exact ⟨by rw [hR.out];rfl,rfl⟩
  have p13 : (ek == 13) = false:=by simp [h13]
  by_cases h14 : ek = 14
  ·subst h14
   have hR : Hid (res = false):=Lib.hid (by rw [HSTEP.out];rw [if_pos ⟨hra,.inr rfl⟩])
   clear hra h13
   go_wp2
   go_ret
   exact ⟨by rw [hR.out];rfl,rfl⟩
  have p14 : (ek == 14) = false:=by simp [h14]
  have HRN : Hid (timerGo (a : Int) (s.l.drop (q + 1)) = res):=Lib.hid (by rw [HSTEP.out];rw [if_neg (fun e=>by rcases e.2 with e | e;exact h13 e;exact h14 e)])
  clear hra h13 h14
  go_wp2_with fail
  go_roundw
  case rel=>exact ⟨q + 1,congrArg (Value.int .i64) HWQ.out,HLT.out,HRN.out,trivial⟩
  case measure=>rw [HWQ.out];simp only [intOf];have:=HLT.out;omega
set_option maxRecDepth 100000 in
set_option maxHeartbeats 4000000 in
theorem rbegan_any (S R : Nat → Prop) (W : World) (rb : Nat) (s : FSt) (h : RF S R W rb s) (kd idn : Int) :
 Calls Tryz.prog 86 #[.pointer (some ⟨rb,0,none⟩),.int .i64 kd,.int .i64 idn] W fun e W'=>e = .returned (.int .i64 (beganR s.l kd idn)) ∧ W = W':=by
 obtain ⟨ao,cp,hb,hcp,hlook⟩:=h.look
 have hfew:=h.few
 have x4:=hb.cell 4
 simp only [rcells,lA,lB,lC] at x4
 obtain ⟨n,hn⟩ : ∃ n,s.l.length = n:=⟨_,rfl⟩
 have HN:=Lib.hid hn
 have HLOOK:=Lib.hid hlook
 have HB:=Lib.hid hb
 have HRF:=Lib.hid h
 have HFEW : Hid (n ≤ 100000):=Lib.hid (by omega)
 obtain ⟨res,hres⟩ : ∃ r,beganR s.l kd idn = r:=⟨_,rfl⟩
 have HRES:=Lib.hid hres
 rw [hres]
 rw [hn] at x4
 clear h hb hlook hn hfew hcp hres
 go_enter Tryz.func86,Tryz.ntmps86
 go_upto_region 2 with (fail)
 go_loopw [7] (fun ki wz=>∃ (q : Nat),ki = .int .i64 q ∧ q ≤ n ∧ beganGo s.l kd idn q = res ∧ W = wz) (fun ki _=>(intOf ki).toNat)
 case atStart=>exact ⟨n,rfl,Nat.le_refl _,by rw [← HRES.out,← HN.out];rfl,rfl⟩
 case round=>
  obtain ⟨q,rfl,hq,hgo,rfl⟩:=hrel
  have HGO:=Lib.hid hgo
  have HQ:=Lib.hid hq
  clear hq hgo
  cases q with
  | zero=>
    have hR : Hid (res = 0):=Lib.hid (by rw [← HGO.out];rfl)
    have p2 : decide (((0 : Nat) : Int) > 0) = false:=rfl
    go_wp2
    go_ret
    exact ⟨by rw [hR.out];rfl,rfl⟩
  | succ q=>
  have hlt : q < n:=HQ.out
  obtain ⟨e,he⟩ : ∃ e,s.l[q]? = some e:=⟨_,List.getElem?_eq_getElem (by rw [HN.out];exact hlt)⟩
  obtain ⟨g,x,hao,hc⟩:=HLOOK.out q e he
  obtain ⟨⟨ek,ea,er,ei,el,en,ed⟩,hee⟩ : ∃ e',e = e':=⟨e,rfl⟩
  subst hee
  subst hao
  have HSTEP : Hid (res = if ek = kd ∧ ei = idn then (q : Int) + 1 else beganGo s.l kd idn q):=Lib.hid (by
   rw [← HGO.out,beganGo,he])
  have c0 : W.cell? ⟨g,q * 7,none⟩ = some (.int .i64 ek):=hc W (Fr.refl _ _) 0 _ rfl
  have c3 : W.cell? ⟨g,q * 7 + 3,none⟩ = some (.int .i64 ei):=hc W (Fr.refl _ _) 3 _ rfl
  have hq0 : (0 : Int) ≤ (q : Int) ∧ (q : Int) < (n : Int):=by omega
  have HLT:=Lib.hid hlt
  obtain ⟨y,hy⟩ : ∃ y : Int,((q + 1 : Nat) : Int) = y:=⟨_,rfl⟩
  have p2 : decide (y > 0) = true:=decide_eq_true (by omega)
  have p2' : decide (0 < y) = true:=decide_eq_true (by omega)
  have HY:=Lib.hid hy
  have HWQ : Hid (wrap64 (y - 1) = (q : Int)):=Lib.hid (by have:=HFEW.out;rw [wrap64];omega)
  have hwq:=HWQ.out
  rw [hy]
  clear he hc hlt hy
  by_cases hk : ek = kd
  rotate_left
  ·have p4 : (ek == kd) = false:=by simp [hk]
   have HRN : Hid (beganGo s.l kd idn q = res):=Lib.hid (by rw [HSTEP.out];rw [if_neg (fun e=>hk e.1)])
   clear hk
   go_wp2_with fail
   go_roundw
   case rel=>exact ⟨q,congrArg (Value.int .i64) HWQ.out,Nat.le_of_lt HLT.out,HRN.out,trivial⟩
   case measure=>rw [HWQ.out,← HY.out];simp only [intOf];omega
  have p4 : (ek == kd) = true:=by simp [hk]
  by_cases hi : ei = idn
  rotate_left
  ·have p5 : (ei == idn) = false:=by simp [hi]
   have HRN : Hid (beganGo s.l kd idn q = res):=Lib.hid (by rw [HSTEP.out];rw [if_neg (fun e=>hi e.2)])
   clear hk hi
   go_wp2_with fail
   go_roundw
   case rel=>exact ⟨q,congrArg (Value.int .i64) HWQ.out,Nat.le_of_lt HLT.out,HRN.out,trivial⟩
   case measure=>rw [HWQ.out,← HY.out];simp only [intOf];omega
  have p5 : (ei == idn) = true:=by simp [hi]
  have hR : Hid (res = y):=Lib.hid (by rw [HSTEP.out,if_pos ⟨hk,hi⟩,← HY.out];rfl)
  clear hk hi
  go_wp2
  go_ret
  exact ⟨by rw [hR.out];rfl,rfl⟩
end Go.Proofs.YtnkelaohcbdjnaaGreat
set_option linter.unusedVariables false
set_option linter.unusedSimpArgs false
namespace Go.Proofs.YtnkelaohcbdjnaaGreat
open Go.RowKit Go.Maps Ev
def hasB (xs : List Int) (v : Int) : Bool:=xs.any (fun x=>x == v)
def withoutL (xs : List Int) (v : Int) : List Int:=xs.filter (fun x=>x != v)
set_option maxRecDepth 100000 in
set_option maxHeartbeats 4000000 in
theorem has_any (W : World) (ao : Option Addr) (cp n : Nat) (xs : List Int) (hr : RowI W ao xs) (hn : xs.length = n) (hle : n ≤ 100000) (hcp : n ≤ cp) (v : Int) :
 Calls Tryz.prog 84 #[.slice ao n cp,.int .i64 v] W fun e W'=>e = .returned (.bool (hasB xs v)) ∧ W = W':=by
 obtain ⟨res,hres⟩ : ∃ r,hasB xs v = r:=⟨_,rfl⟩
 have HRES:=Lib.hid hres
 have HR:=Lib.hid hr
 have HN:=Lib.hid hn
 have HLE:=Lib.hid (And.intro hle hcp)
 rw [hres]
 clear hres hr hn hle hcp
 go_enter Tryz.func84,Tryz.ntmps84
 go_upto_region 2 with (fail)
 go_loopw [5] (fun ki wz=>∃ (q : Nat),ki = .int .i64 q ∧ q ≤ n ∧ hasB (xs.drop q) v = res ∧ W = wz) (fun ki _=>n - (intOf ki).toNat)
 case atStart=>exact ⟨0,rfl,Nat.zero_le _,HRES.out,rfl⟩
 case round=>
  obtain ⟨q,rfl,hq,hgo,rfl⟩:=hrel
  have HGO:=Lib.hid hgo
  have HQ:=Lib.hid hq
  clear hq hgo
  by_cases hlt : q < n
  rotate_left
  ·have hqn : q = n:=by have:=HQ.out;omega
   have p2 : decide ((q : Int) < (n : Int)) = false:=decide_eq_false (by omega)
   have p2' : decide (q < n) = false:=decide_eq_false (by omega)
   have hR : Hid (res = false):=Lib.hid (by
    rw [← HGO.out,List.drop_eq_nil_of_le (by rw [HN.out];omega)]
    rfl)
   clear hlt
   go_wp2
   go_ret
   exact ⟨by rw [hR.out];rfl,rfl⟩
  obtain ⟨x,hx⟩ : ∃ x,xs[q]? = some x:=⟨_,List.getElem?_eq_getElem (by rw [HN.out];exact hlt)⟩
  obtain ⟨b,of,hao,hc⟩:=HR.out.at_ hx
  subst hao
  have HSTEP : Hid (res = ((x == v) || hasB (xs.drop (q + 1)) v)):=Lib.hid (by
   rw [← HGO.out]
   have e1 : xs.drop q = x :: xs.drop (q + 1):=by
    rw [List.drop_eq_getElem_cons (by rw [HN.out];exact hlt)]
    have:=(List.getElem?_eq_some_iff.1 hx).2
    rw [this]
   rw [e1]
   rfl)
  have hq0 : (0 : Int) ≤ (q : Int) ∧ (q : Int) < (n : Int):=by omega
  have p2 : decide ((q : Int) < (n : Int)) = true:=decide_eq_true (by omega)
  have p2' : decide (q < n) = true:=decide_eq_true hlt
  have HLT:=Lib.hid hlt
  have HWQ : Hid (wrap64 ((q : Int) + 1) = ((q + 1 : Nat) : Int)):=Lib.hid (by have:=HLE.out;rw [wrap64];omega)
  clear hx hlt
  by_cases hv : x = v
  ·have p3 : (x == v) = true:=by simp [hv]
   have hR : Hid (res = true):=Lib.hid (by rw [HSTEP.out,p3];rfl)
   clear hv
   go_wp2
   go_ret
   exact ⟨by rw [hR.out];rfl,rfl⟩
  ·have p3 : (x == v) = false:=by simp [hv]
   have HRN : Hid (hasB (xs.drop (q + 1)) v = res):=Lib.hid (by rw [HSTEP.out,p3];rfl)
   clear hv
   go_wp2_with fail
   go_roundw
   case rel=>exact ⟨q + 1,congrArg (Value.int .i64) HWQ.out,HLT.out,HRN.out,trivial⟩
   case measure=>rw [HWQ.out];simp only [intOf];have:=HLT.out;omega
set_option maxRecDepth 100000 in
set_option maxHeartbeats 4000000 in
theorem without_any (W : World) (ao : Option Addr) (cp n : Nat) (xs : List Int) (hr : RowI W ao xs) (hn : xs.length = n) (hle : n ≤ 10000) (hcp : n ≤ cp) (v : Int) :
 Calls Tryz.prog 95 #[.slice ao n cp,.int .i64 v] W fun e W'=>∃ u,e = .returned u ∧ OwnI W' W.heap.size u (withoutL xs v) ∧ Fr (fun _=>False) W W':=by
 obtain ⟨res,hres⟩ : ∃ r,withoutL xs v = r:=⟨_,rfl⟩
 have HRES:=Lib.hid hres
 have HR:=Lib.hid hr
 have HN:=Lib.hid hn
 have HLE:=Lib.hid (And.intro hle hcp)
 obtain ⟨B,hB⟩ : ∃ B,W.heap.size = B:=⟨_,rfl⟩
 have HB:=Lib.hid hB
 rw [hres]
 rw [hB]
 clear hres hr hn hle hcp hB
 go_enter Tryz.func95,Tryz.ntmps95
 go_upto_region 3 with (fail)
 go_loopw [5,6] (fun vo ki wz=>∃ (q : Nat) (ys : List Int),ki = .int .i64 q ∧ q ≤ n ∧ ys ++ withoutL (xs.drop q) v = res ∧ ys.length ≤ q ∧ OwnI wz B vo ys ∧ Fr (fun _=>False) W wz) (fun _ ki _=>n - (intOf ki).toNat)
 case atStart=>exact ⟨0,[],rfl,Nat.zero_le _,HRES.out,Nat.le_refl _,OwnI.none _ _,Fr.refl _ _⟩
 case round=>
  obtain ⟨q,ys,rfl,hq,hgo,hyl,hown,hfz⟩:=hrel
  have HGO:=Lib.hid hgo
  have HQ:=Lib.hid (And.intro hq hyl)
  have HOWN:=Lib.hid hown
  have HFZ:=Lib.hid hfz
  clear hq hgo hyl hown hfz
  by_cases hlt : q < n
  rotate_left
  ·have hqn : q = n:=by have:=HQ.out.1;omega
   have p2 : decide ((q : Int) < (n : Int)) = false:=decide_eq_false (by omega)
   have p2' : decide (q < n) = false:=decide_eq_false (by omega)
   have hR : Hid (res = ys):=Lib.hid (by
    rw [← HGO.out,List.drop_eq_nil_of_le (by rw [HN.out];omega)]
    exact (List.append_nil _).symm ▸ rfl)
   clear hlt
   go_wp2
   go_ret
   exact ⟨u5,rfl,by rw [hR.out];exact HOWN.out,HFZ.out⟩
  obtain ⟨x,hx⟩ : ∃ x,xs[q]? = some x:=⟨_,List.getElem?_eq_getElem (by rw [HN.out];exact hlt)⟩
  have hrow : RowI wr ao xs:=HR.out.fr HFZ.out (fun _ _ e=>e)
  obtain ⟨b,of,hao,hc⟩:=hrow.at_ hx
  subst hao
  have HSTEP : Hid (res = ys ++ (if x = v then withoutL (xs.drop (q + 1)) v else x :: withoutL (xs.drop (q + 1)) v)):=Lib.hid (by
   rw [← HGO.out]
   have e1 : xs.drop q = x :: xs.drop (q + 1):=by
    rw [List.drop_eq_getElem_cons (by rw [HN.out];exact hlt)]
    have:=(List.getElem?_eq_some_iff.1 hx).2
    rw [this]
   rw [e1]
   unfold withoutL
   rw [List.filter_cons]
   by_cases h : x = v
   ·simp [h]
   ·simp [h])
  have hq0 : (0 : Int) ≤ (q : Int) ∧ (q : Int) < (n : Int):=by omega
  have p2 : decide ((q : Int) < (n : Int)) = true:=decide_eq_true (by omega)
  have p2' : decide (q < n) = true:=decide_eq_true hlt
  have HLT:=Lib.hid hlt
  have HWQ : Hid (wrap64 ((q : Int) + 1) = ((q + 1 : Nat) : Int)):=Lib.hid (by have:=HLE.out;rw [wrap64];omega)
  clear hx hlt hrow
  by_cases hv : x = v
  ·have p3 : (x != v) = false:=by simp [hv]
   have HRN : Hid (ys ++ withoutL (xs.drop (q + 1)) v = res):=Lib.hid (by rw [HSTEP.out,if_pos hv])
   clear hv
   go_wp2_with fail
   go_roundw
   case rel=>exact ⟨q + 1,ys,congrArg (Value.int .i64) HWQ.out,HLT.out,HRN.out,Nat.le_succ_of_le HQ.out.2,HOWN.out,HFZ.out⟩
   case measure=>rw [HWQ.out];simp only [intOf];have:=HLT.out;omega
  ·have p3 : (x != v) = true:=by simp [hv]
   have HRN : Hid ((ys ++ [x]) ++ withoutL (xs.drop (q + 1)) v = res):=Lib.hid (by rw [HSTEP.out,if_neg hv,List.append_assoc];rfl)
   clear hv
   have hf5 : Fr (fun _=>False) wr (wr.alloc (.cells #[.int .i64 x] 3)):=Fr.alloc _ _ _
   have hown5:=HOWN.out.fr hf5 (fun _ _ e=>e)
   obtain ⟨v',W',hrun,hown',hfa,hob⟩:=app_i (wr.alloc (.cells #[.int .i64 x] 3)) B u5 ys [x] 116 (by have:=HFZ.out.size;have:=HB.out;simp;omega) hown5 (some ⟨wr.heap.size,0,none⟩) 1 1 (.inr ⟨_,0,rfl,by simp,fun i z hz=>by
    cases i with
    | zero=>cases hz;exact (Blk.new wr 3 #[.int .i64 x]).cell 0
    | succ i=>simp at hz⟩) rfl (by have:=HQ.out;have:=HLE.out;omega)
   have HOWN':=Lib.hid hown'
   have HFA:=Lib.hid hfa
   have HF5:=Lib.hid hf5
   clear hown5 hown' hfa hf5 hob
   go_wp2_with (first | (at_builtin;refine wpList_appRunV rfl _ _ _ rfl _ _ _ rfl rfl hrun ?_) | go_in)
   go_roundw
   case rel=>
    have h1:=HFZ.out.trans HF5.out
    exact ⟨q + 1,ys ++ [x],congrArg (Value.int .i64) HWQ.out,HLT.out,HRN.out,by rw [List.length_append];have:=HQ.out.2;simp;omega,HOWN'.out,HFA.out.os.trans h1.os,HFA.out.tape.trans h1.tape,HFA.out.output.trans h1.output,Nat.le_trans h1.size HFA.out.size,fun k hk _=>(HFA.out.block k (Nat.lt_of_lt_of_le hk h1.size) (fun e=>by have:=(HOWN.out.ob e).1;have:=HB.out;omega)).trans (h1.block k hk id)⟩
   case measure=>rw [HWQ.out];simp only [intOf];have:=HLT.out;omega
end Go.Proofs.YtnkelaohcbdjnaaGreat
