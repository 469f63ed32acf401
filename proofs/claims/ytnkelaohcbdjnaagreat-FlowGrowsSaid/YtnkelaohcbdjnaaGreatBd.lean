/- bad: whether decisions may not be. -/
import Derived.Test.YtnkelaohcbdjnaaGreatDw
set_option linter.unusedVariables false
set_option linter.unusedSimpArgs false
namespace Go.Proofs.YtnkelaohcbdjnaaGreat
open Go.RowKit Go.Maps
set_option maxRecDepth 100000 in
set_option maxHeartbeats 60000000 in
theorem bad_any (T : Nat → Prop) (W : World) (xb xm : Nat) (s : FSt) (h : PF T W xb xm s) (hok : OpenOk s) (hoi : ∀ x k i w,s.mp x = some (opv k i w) → kKE.ok (k,i)) (hmc : s.mc ≤ 50000) (hl : s.l.length ≤ 100000) (ao : Option Addr) (cp : Nat) (l : List Dv) (hrow : RowD T W ao l) (hcp : l.length ≤ cp) :
 Calls Tryz.prog 54 #[.pointer (some ⟨xb,0,none⟩),.slice ao l.length cp] W fun e W'=>e = .returned (.bool (badS s l)) ∧ Fr (fun _=>False) W W':=by
 obtain ⟨n,hn⟩ : ∃ n,l.length = n:=⟨_,rfl⟩
 rw [hn] at hcp ⊢
 have HN:=Lib.hid hn
 by_cases h32 : 32 < n
 ·have HB : Hid (badS s l = true):=Lib.hid (by unfold badS;rw [hn];simp [h32])
  have p1 : decide ((n : Int) > 32) = true:=decide_eq_true (by omega)
  have p2 : decide (32 < (n : Int)) = true:=decide_eq_true (by omega)
  have p3 : decide (32 < n) = true:=decide_eq_true h32
  clear h hok hoi hrow hn h32
  go_enter Tryz.func54,Tryz.ntmps54
  go_wp2
  go_ret
  exact ⟨by rw [HB.out];rfl,Fr.refl _ _⟩
 have HBS : Hid (badS s l = badL s.id s.asked (openM s) l):=Lib.hid (by unfold badS;rw [hn];simp [h32])
 have p1 : decide ((n : Int) > 32) = false:=decide_eq_false (by omega)
 have p2 : decide (32 < (n : Int)) = false:=decide_eq_false (by omega)
 have p3 : decide (32 < n) = false:=decide_eq_false h32
 have H32 : Hid (n ≤ 32):=Lib.hid (by omega)
 have hmm:=@run_makeMap Tryz.prog
 have hf1 : Fr (fun _=>False) W (W.alloc (.map #[] 0)):=Fr.alloc _ _ _
 have HPF:=Lib.hid h
 have HOK:=Lib.hid hok
 have HOI:=Lib.hid hoi
 have HROW:=Lib.hid hrow
 have HMC:=Lib.hid (And.intro hmc hl)
 have hset:=IsSet.new W
 obtain ⟨D,hown,hsize,hD⟩:=h.fl.m.fr hf1 id
 obtain ⟨ao2,cp2,hb⟩:=(h.fr0 hf1).blk
 have c11:=hb.cell 11
 simp only [fcells,lA,lB,lC] at c11
 obtain ⟨w1,hw1⟩ : ∃ w1,W.alloc (.map #[] 0) = w1:=⟨_,rfl⟩
 rw [hw1] at hf1 hown hset c11
 obtain ⟨g,hg⟩ : ∃ b,W.heap.size = b:=⟨_,rfl⟩
 rw [hg] at hset
 have HG:=Lib.hid hg
 have HDD:=Lib.hid hD
 have HF1:=Lib.hid hf1
 have HSET:=Lib.hid hset
 have HGL : Hid (g < w1.heap.size):=Lib.hid (Mp.lt hset)
 clear h hb hD hf1 hset hok hoi hrow hmc hl hn h32
 go_enter Tryz.func54,Tryz.ntmps54
 go_upto_region 4 with (fail)
 try rw [hw1]
 try rw [hg]
 clear hmm hw1 hg p1 p2 p3
 go_wp2_with (first
  | (at_range;refine wpList_range_own _ rfl _ 55 rfl 3 102 (int_keyed under3) Tryz.underlying55 rawR xm s.mc D rfl hown ?_;intro w7 hrg7 hg7 hs7)
  | go_in)
 have HF7 : Hid (Fr (fun _=>False) W w7):=Lib.hid (HF1.out.trans (.grown hg7 (fun k e=>nomatch e)))
 have HSET7 : Hid (IsSet w7 g 0 fun _=>false):=Lib.hid (HSET.out.fr (S:=fun _=>False) (.grown hg7 (fun k e=>nomatch e)) id)
 go_frame
 go_loopw [7] (fun _ wz=>∃ left cnt c M,wz.ranges Tryz.prog 3 rawR xm w1.heap.size s.mc D left cnt ∧ c + cnt ≤ s.mc ∧ IsSet wz g c M ∧ Seen s left M ∧ Fr (fun _=>False) W wz) (fun _ wz=>wz.rangeLeft xm w1.heap.size)
 case atStart=>
  refine ⟨_,_,0,fun _=>false,hrg7,by have:=ranges_le hrg7;omega,HSET7.out,⟨fun x k i w hx hl=>?_,fun y hy=>(by cases hy)⟩,HF7.out⟩
  have hok : iKE.ok x:=by have:=HOK.out x _ hx;have:=HMC.out;exact ikey (by omega)
  have:=(HDD.out x hok).1
  have e : Maps.has D (.int .i64 x) = (s.mp x).isSome:=this
  rw [e,hx] at hl
  simp at hl
 case round=>
  obtain ⟨left,cnt,c,M,hrg,hcc,hM,hC,hf8⟩:=hrel
  clear hrg7 hg7 hs7
  have HFZ:=Lib.hid hf8
  have HC:=Lib.hid hC
  have HM:=Lib.hid hM
  have HCC:=Lib.hid hcc
  clear hf8 hC hM hcc
  go_wp2_with (first
   | (at_next;refine wpList_next_ranges _ rfl _ rfl 3 (int_keyed under3) rawR (Value.int .i64) _root_.id (fun key kl h=>by obtain ⟨x,rfl,_⟩:=Maps.keyOf_int_inv under3 h;exact ⟨x,rfl⟩) (fun v y _=>⟨v,rfl⟩) xm w1.heap.size s.mc D left cnt rfl hrg ?_ ?_)
   | go_in)
  case _=>
   intro hc0 hl0
   have HMM : Hid (M = openM s):=Lib.hid (by
    funext y
    rw [Bool.eq_iff_iff,openM_iff]
    exact ⟨HC.out.2 y,fun ⟨x,w,hx⟩=>HC.out.1 x y.1 y.2 w hx (hl0 _)⟩)
   have HCB : Hid (c ≤ 50000):=Lib.hid (by have:=HCC.out;have:=HMC.out;omega)
   clear hc0 hl0 hown hrg
   go_wp2_with fail
   go_loopw [31] (fun kv wz=>∃ (q : Nat) (c : Nat) (M : Int × Int → Bool),q ≤ n ∧ kv = .int .i64 q ∧ c ≤ 50000 + q ∧ IsSet wz g c M ∧ badL s.id s.asked M (l.drop q) = badL s.id s.asked (openM s) l ∧ Fr (fun _=>False) W wz) (fun kv _=>n - (intOf kv).toNat)
   case atStart=>exact ⟨0,c,M,Nat.zero_le _,rfl,HCB.out,HM.out,by rw [HMM.out];rfl,HFZ.out⟩
   case round=>
    obtain ⟨q,c,M,hq,rfl,hc,hM,hbl,hfz⟩:=hrel
    have HQ:=Lib.hid hq
    have HCQ:=Lib.hid hc
    have HMQ:=Lib.hid hM
    have HBL:=Lib.hid hbl
    have HFQ:=Lib.hid hfz
    clear hq hc hM hbl hfz
    by_cases hlt : q < n
    rotate_left
    ·have hqn : q = n:=by have:=HQ.out;omega
     subst hqn
     have p0 : decide ((q : Int) < (q : Int)) = false:=by simp
     have p0' : decide (q < q) = false:=by simp
     have HR : Hid (badS s l = false):=Lib.hid (by rw [HBS.out,← HBL.out,List.drop_eq_nil_of_le (by rw [HN.out];exact Nat.le_refl _)];rfl)
     clear hlt
     go_wp2
     go_ret
     exact ⟨by rw [HR.out];rfl,HFQ.out⟩
    obtain ⟨d,hd⟩ : ∃ d,l[q]? = some d:=⟨_,List.getElem?_eq_getElem (by rw [HN.out];exact hlt)⟩
    obtain ⟨b,of,va,vc,hao,hdr,hcell⟩:=HROW.out.at_ hd
    have HDROP : Hid (badL s.id s.asked M (l.drop q) = (wrongD s.id s.asked M d (decide (q + 1 < n)) || badL s.id s.asked (takeM M d.k d.i).1 (l.drop (q + 1)))):=Lib.hid (by
     have e1 : l.drop q = d :: l.drop (q + 1):=by
      rw [List.drop_eq_getElem_cons (by rw [HN.out];exact hlt)]
      have:=(List.getElem?_eq_some_iff.1 hd).2
      rw [this]
     rw [e1]
     show (wrongD s.id s.asked M d (!(l.drop (q + 1)).isEmpty) || _) = _
     congr 2
     by_cases h : q + 1 < n
     ·rw [decide_eq_true h]
      have : (l.drop (q + 1)).length ≠ 0:=by rw [List.length_drop,HN.out];omega
      cases hx : l.drop (q + 1) with
      | nil=>rw [hx] at this;exact absurd rfl this
      | cons a r=>rfl
     ·rw [decide_eq_false h,List.drop_eq_nil_of_le (by rw [HN.out];omega)];rfl)
    obtain ⟨⟨kk,ii,ll,nn,dd⟩,hde⟩ : ∃ d',d = d':=⟨d,rfl⟩
    subst hde
    obtain ⟨dl,hdl⟩ : ∃ m,dd.length = m:=⟨_,rfl⟩
    dsimp only at hdr hcell HDROP
    have HMAY : Hid (∀ w',Calls Tryz.prog 92 #[.agg #[.int .i64 kk,.int .i64 ii,.int .i64 ll,.int .i64 nn,.slice va dl vc]] w' fun e W'=>e = .returned (.bool (mayB kk ii ll nn dl)) ∧ Fr (fun _=>False) w' W'):=Lib.hid (fun w'=>may9_any kk ii ll nn va dl vc w')
    rw [hdl] at hcell
    have c0 : wr.cell? ⟨b,of + q * 5,none⟩ = some (.int .i64 kk):=hcell wr HFQ.out 0 _ rfl
    have c1 : wr.cell? ⟨b,of + q * 5 + 1,none⟩ = some (.int .i64 ii):=hcell wr HFQ.out 1 _ rfl
    have c2 : wr.cell? ⟨b,of + q * 5 + 2,none⟩ = some (.int .i64 ll):=hcell wr HFQ.out 2 _ rfl
    have c3 : wr.cell? ⟨b,of + q * 5 + 3,none⟩ = some (.int .i64 nn):=hcell wr HFQ.out 3 _ rfl
    have c4 : wr.cell? ⟨b,of + q * 5 + 4,none⟩ = some (.slice va dl vc):=hcell wr HFQ.out 4 _ rfl
    have p0 : decide ((q : Int) < (n : Int)) = true:=decide_eq_true (by omega)
    have p0' : decide (q < n) = true:=decide_eq_true hlt
    have hq0 : (0 : Int) ≤ (q : Int) ∧ (q : Int) < (n : Int):=by omega
    have HMD : Hid (mayD ⟨kk,ii,ll,nn,dd⟩ = mayB kk ii ll nn dl):=Lib.hid (by show mayB kk ii ll nn dd.length = _;rw [hdl])
    have HLT:=Lib.hid hlt
    subst hao
    clear hcell hdr hd hdl hlt
    go_upto_region 11 with (fail)
    have hDB:=Blk.new wr 52 #[.int .i64 kk,.int .i64 ii,.int .i64 ll,.int .i64 nn,.slice va dl vc]
    have hf5 : Fr (fun _=>False) wr (wr.alloc (.cells #[.int .i64 kk,.int .i64 ii,.int .i64 ll,.int .i64 nn,.slice va dl vc] 52)):=Fr.alloc _ _ _
    have hM5:=HMQ.out.fr hf5 id
    obtain ⟨w5,hw5⟩ : ∃ w5,wr.alloc (.cells #[.int .i64 kk,.int .i64 ii,.int .i64 ll,.int .i64 nn,.slice va dl vc] 52) = w5:=⟨_,rfl⟩
    rw [hw5] at hDB hf5 hM5 ⊢
    obtain ⟨db,hdb⟩ : ∃ b,wr.heap.size = b:=⟨_,rfl⟩
    rw [hdb] at hDB ⊢
    have hgdb : g ≠ db:=fun e=>by have:=Mp.lt HMQ.out;omega
    have HM5:=Lib.hid hM5
    have HF5:=Lib.hid (HFQ.out.trans hf5)
    obtain ⟨_,_,hbx⟩:=HPF.out.blk
    have hgxb : g ≠ xb:=fun e=>by have:=HPF.out.fl.lt.1;have:=HG.out;omega
    have FX : Hid (∀ w',Fr (fun e=>e = g) w5 w' → w'.cell? ⟨xb,0,none⟩ = some (.int .i64 s.id) ∧ w'.cell? ⟨xb,10,none⟩ = some (.bool s.asked) ∧ w'.cell? ⟨db,0,none⟩ = some (.int .i64 kk) ∧ w'.cell? ⟨db,1,none⟩ = some (.int .i64 ii) ∧ w'.cell? ⟨db,2,none⟩ = some (.int .i64 ll) ∧ w'.cell? ⟨db,3,none⟩ = some (.int .i64 nn) ∧ w'.cell? ⟨db,4,none⟩ = some (.slice va dl vc)):=Lib.hid (fun w' hf=>by
     have h1:=(hbx.fr HF5.out id).fr hf (fun e=>hgxb e.symm)
     have h2:=hDB.fr hf (fun e=>hgdb e.symm)
     exact ⟨h1.cell 0,h1.cell 10,h2.cell 0,h2.cell 1,h2.cell 2,h2.cell 3,h2.cell 4⟩)
    have hwq : wrap64 ((n : Int) - 1) = (n : Int) - 1:=by have:=H32.out;rw [wrap64];omega
    have hwq2 : IntKind.i64.wrap ((n : Int) - 1) = (n : Int) - 1:=by have:=H32.out;rw [wrap_i64',wrap64];omega
    have hwz : wrap64 ((q : Int) + 1) = ((q + 1 : Nat) : Int):=by have:=H32.out;rw [wrap64];omega
    have HWQ:=Lib.hid (And.intro hwq (And.intro hwq2 hwz))
    clear c0 c1 c2 c3 c4 hw5 hdb hDB hf5 hM5 hgdb hgxb hbx hwq hwq2 hwz p0 p0'
    by_cases hm : mayB kk ii ll nn dl = true
    rotate_left
    ·replace hm : mayB kk ii ll nn dl = false:=by simpa using hm
     have HBAD : Hid (badS s l = true):=Lib.hid (by rw [HBS.out,← HBL.out,HDROP.out];unfold wrongD;rw [HMD.out];simp [hm])
     rw [hm] at HMAY
     clear hm HWQ HM5 HM HMM HC HCC
     refine region_Z (fun w'=>Fr (fun e=>e = g) w5 w') 99 (Fr.drewN _ w5 1) (fun hH=>?_)
     refine takes (b:=?_) [0] hH ?_ ?_
     rotate_left
     (refine Sq.yes (v:=?_) rfl (by rfl) ?_ ?_;rotate_left;· (intro w' hw';obtain ⟨f0,f1,f2,f3,f4,f5,f6⟩:=FX.out w' hw';go_simp;try with_reducible rfl))
     try simp only [lD,lE,lF,Act.put,lG,lH,lI]
     exact Sq.nil
     refine any_op 1 rfl (fun K hK=>?_)
     go_simp
     refine (HMAY.out _).mono ?_
     rintro e w6 ⟨rfl,hf6⟩
     have HF6 : Hid (Fr (fun _=>False) w5 w6):=Lib.hid ((Fr.drewN (fun _=>False) w5 1).trans hf6)
     refine hK.out _ _ (HF6.out.mono fun _ e=>e.elim) (fun hH2=>?_)
     clear hK K hf6
     try simp only [lD,lE,lF,Act.put,lG,lH,lI]
     refine takes (b:=?_) [2,3,4,5,6,7,8,9,10,11,12,13,14,15,16,17] hH2 ?_ ?_
     rotate_left
     iterate 2 ((refine Sq.yes (v:=?_) rfl (by rfl) ?_ ?_;rotate_left;· (intro w' hw';obtain ⟨f0,f1,f2,f3,f4,f5,f6⟩:=FX.out w' hw';go_simp;try with_reducible rfl));try simp only [lD,lE,lF,Act.put,lG,lH,lI])
     iterate 10 (refine Sq.no rfl (by rfl) ?_;try simp only [lD,lE,lF,Act.put,lG,lH,lI])
     iterate 2 ((refine Sq.yes (v:=?_) rfl (by rfl) ?_ ?_;rotate_left;· (intro w' hw';obtain ⟨f0,f1,f2,f3,f4,f5,f6⟩:=FX.out w' hw';go_simp;try with_reducible rfl));try simp only [lD,lE,lF,Act.put,lG,lH,lI])
     iterate 2 (refine Sq.no rfl (by rfl) ?_;try simp only [lD,lE,lF,Act.put,lG,lH,lI])
     exact Sq.nil
     refine takes (b:=?_) [18,19,20,21,22,23,24,25,26,27,28,29,30,31,32,33,34,35,36,37,38,39,40,41,42,43,44,45,46] hH2 ?_ ?_
     rotate_left
     iterate 2 (refine Sq.no rfl (by rfl) ?_;try simp only [lD,lE,lF,Act.put,lG,lH,lI])
     iterate 2 ((refine Sq.yes (v:=?_) rfl (by rfl) ?_ ?_;rotate_left;· (intro w' hw';obtain ⟨f0,f1,f2,f3,f4,f5,f6⟩:=FX.out w' hw';go_simp;try with_reducible rfl));try simp only [lD,lE,lF,Act.put,lG,lH,lI])
     iterate 12 (refine Sq.no rfl (by rfl) ?_;try simp only [lD,lE,lF,Act.put,lG,lH,lI])
     iterate 2 ((refine Sq.yes (v:=?_) rfl (by rfl) ?_ ?_;rotate_left;· (intro w' hw';obtain ⟨f0,f1,f2,f3,f4,f5,f6⟩:=FX.out w' hw';go_simp;try with_reducible rfl));try simp only [lD,lE,lF,Act.put,lG,lH,lI])
     iterate 10 (refine Sq.no rfl (by rfl) ?_;try simp only [lD,lE,lF,Act.put,lG,lH,lI])
     (refine Sq.yes (v:=?_) rfl (by rfl) ?_ ?_;rotate_left;· (intro w' hw';obtain ⟨f0,f1,f2,f3,f4,f5,f6⟩:=FX.out w' hw';go_simp;try with_reducible rfl))
     try simp only [lD,lE,lF,Act.put,lG,lH,lI]
     exact Sq.nil
     refine any_done ?_
     have HFE:=HF6
     go_wp2
     go_ret
     exact ⟨by rw [HBAD.out];rfl,(HF5.out.trans HF6.out)⟩
    have HID : Hid (0 ≤ ii ∧ ii ≤ 1048576):=Lib.hid (mayD_id (x:=⟨kk,ii,ll,nn,dd⟩) (by rw [HMD.out];exact hm))
    have HMT:=Lib.hid hm
    rw [hm] at HMAY
    rw [hm] at HMD
    clear hm
    by_cases h5 : 5 ≤ kk
    ·skip
     have p5 : decide (kk ≥ 5) = true:=decide_eq_true h5
     have p5' : decide (5 ≤ kk) = true:=decide_eq_true h5
     have hwq:=HWQ.out.1
     have hwq2:=HWQ.out.2.1
     by_cases hq1 : q + 1 < n
     ·skip
      have HBAD : Hid (badS s l = true):=Lib.hid (by rw [HBS.out,← HBL.out,HDROP.out];unfold wrongD;rw [HMD.out];simp [h5,hq1])
      have p6 : decide ((q : Int) < (n : Int) - 1) = true:=decide_eq_true (by omega)
      clear h5 hq1
      refine region_Z (fun w'=>Fr (fun e=>e = g) w5 w') 99 (Fr.drewN _ w5 1) (fun hH=>?_)
      refine takes (b:=?_) [0] hH ?_ ?_
      rotate_left
      (refine Sq.yes (v:=?_) rfl (by rfl) ?_ ?_;rotate_left;· (intro w' hw';obtain ⟨f0,f1,f2,f3,f4,f5,f6⟩:=FX.out w' hw';go_simp;try with_reducible rfl))
      try simp only [lD,lE,lF,Act.put,lG,lH,lI]
      exact Sq.nil
      refine any_op 1 rfl (fun K hK=>?_)
      go_simp
      refine (HMAY.out _).mono ?_
      rintro e w6 ⟨rfl,hf6⟩
      have HF6 : Hid (Fr (fun _=>False) w5 w6):=Lib.hid ((Fr.drewN (fun _=>False) w5 1).trans hf6)
      refine hK.out _ _ (HF6.out.mono fun _ e=>e.elim) (fun hH2=>?_)
      clear hK K hf6
      try simp only [lD,lE,lF,Act.put,lG,lH,lI]
      refine takes (b:=?_) [2,3,4,5,6,7,8,9,10,11,12,13,14,15,16,17] hH2 ?_ ?_
      rotate_left
      iterate 14 ((refine Sq.yes (v:=?_) rfl (by rfl) ?_ ?_;rotate_left;· (intro w' hw';obtain ⟨f0,f1,f2,f3,f4,f5,f6⟩:=FX.out w' hw';go_simp;try with_reducible rfl));try simp only [lD,lE,lF,Act.put,lG,lH,lI])
      iterate 2 (refine Sq.no rfl (by rfl) ?_;try simp only [lD,lE,lF,Act.put,lG,lH,lI])
      exact Sq.nil
      refine takes (b:=?_) [18,19,20,21,22,23,24,25,26,27,28,29,30,31,32,33,34,35,36,37,38,39,40,41,42,43,44,45,46] hH2 ?_ ?_
      rotate_left
      iterate 2 (refine Sq.no rfl (by rfl) ?_;try simp only [lD,lE,lF,Act.put,lG,lH,lI])
      iterate 2 ((refine Sq.yes (v:=?_) rfl (by rfl) ?_ ?_;rotate_left;· (intro w' hw';obtain ⟨f0,f1,f2,f3,f4,f5,f6⟩:=FX.out w' hw';go_simp;try with_reducible rfl));try simp only [lD,lE,lF,Act.put,lG,lH,lI])
      iterate 12 (refine Sq.no rfl (by rfl) ?_;try simp only [lD,lE,lF,Act.put,lG,lH,lI])
      iterate 2 ((refine Sq.yes (v:=?_) rfl (by rfl) ?_ ?_;rotate_left;· (intro w' hw';obtain ⟨f0,f1,f2,f3,f4,f5,f6⟩:=FX.out w' hw';go_simp;try with_reducible rfl));try simp only [lD,lE,lF,Act.put,lG,lH,lI])
      iterate 10 (refine Sq.no rfl (by rfl) ?_;try simp only [lD,lE,lF,Act.put,lG,lH,lI])
      (refine Sq.yes (v:=?_) rfl (by rfl) ?_ ?_;rotate_left;· (intro w' hw';obtain ⟨f0,f1,f2,f3,f4,f5,f6⟩:=FX.out w' hw';go_simp;try with_reducible rfl))
      try simp only [lD,lE,lF,Act.put,lG,lH,lI]
      exact Sq.nil
      refine any_done ?_
      have HFE:=HF6
      go_wp2
      go_ret
      exact ⟨by rw [HBAD.out];rfl,(HF5.out.trans HF6.out)⟩
     have hq2 : decide (q + 1 < n) = false:=decide_eq_false hq1
     have p6 : decide ((q : Int) < (n : Int) - 1) = false:=decide_eq_false (by omega)
     have HTK : Hid (takeM M kk ii = (M,true)):=Lib.hid (by unfold takeM;rw [if_neg (by omega),if_neg (by omega),if_neg (by omega),if_neg (by omega)])
     have pt : (takeM M kk ii).2 = true:=by rw [HTK.out]
     by_cases h7 : kk = 7
     ·skip
      subst h7
      cases ha : s.asked with
      | false=>
        have HBAD : Hid (badS s l = true):=Lib.hid (by rw [HBS.out,← HBL.out,HDROP.out];unfold wrongD;rw [HMD.out];simp [ha])
        rw [ha] at FX
        clear h5 hq1 ha
        refine region_Z (fun w'=>Fr (fun e=>e = g) w5 w') 99 (Fr.drewN _ w5 1) (fun hH=>?_)
        refine takes (b:=?_) [0] hH ?_ ?_
        rotate_left
        (refine Sq.yes (v:=?_) rfl (by rfl) ?_ ?_;rotate_left;· (intro w' hw';obtain ⟨f0,f1,f2,f3,f4,f5,f6⟩:=FX.out w' hw';go_simp;try with_reducible rfl))
        try simp only [lD,lE,lF,Act.put,lG,lH,lI]
        exact Sq.nil
        refine any_op 1 rfl (fun K hK=>?_)
        go_simp
        refine (HMAY.out _).mono ?_
        rintro e w6 ⟨rfl,hf6⟩
        have HF6 : Hid (Fr (fun _=>False) w5 w6):=Lib.hid ((Fr.drewN (fun _=>False) w5 1).trans hf6)
        refine hK.out _ _ (HF6.out.mono fun _ e=>e.elim) (fun hH2=>?_)
        clear hK K hf6
        try simp only [lD,lE,lF,Act.put,lG,lH,lI]
        refine takes (b:=?_) [2,3,4,5,6,7,8,9,10,11,12,13,14,15,16,17] hH2 ?_ ?_
        rotate_left
        iterate 16 ((refine Sq.yes (v:=?_) rfl (by rfl) ?_ ?_;rotate_left;· (intro w' hw';obtain ⟨f0,f1,f2,f3,f4,f5,f6⟩:=FX.out w' hw';go_simp;try with_reducible rfl));try simp only [lD,lE,lF,Act.put,lG,lH,lI])
        exact Sq.nil
        refine any_op 18 rfl (fun K hK=>?_)
        go_simp
        refine (take_any w6 g c M (HM5.out.fr HF6.out id) (by have:=HCQ.out;have:=H32.out;have:=HLT.out;omega) 7 ii ll nn HID.out va dl vc).mono ?_
        rintro e w7 ⟨c7,hc7,rfl,hM7,hf7⟩
        have HF7 : Hid (Fr (fun e=>e = g) w5 w7):=Lib.hid ((HF6.out.mono fun _ e=>e.elim).trans hf7)
        have HM7:=Lib.hid hM7
        have HC7:=Lib.hid hc7
        refine hK.out _ _ HF7.out (fun hH3=>?_)
        clear hK K hf7 hM7 hc7
        try simp only [lD,lE,lF,Act.put,lG,lH,lI]
        refine takes (b:=?_) [19,20,21,22,23,24,25,26,27,28,29,30,31,32,33,34,35,36,37,38,39,40,41,42,43,44,45,46] hH3 ?_ ?_
        rotate_left
        iterate 7 ((refine Sq.yes (v:=?_) rfl (by rfl) ?_ ?_;rotate_left;· (intro w' hw';obtain ⟨f0,f1,f2,f3,f4,f5,f6⟩:=FX.out w' hw';go_simp;try with_reducible rfl));try simp only [lD,lE,lF,Act.put,lG,lH,lI])
        iterate 7 (refine Sq.no rfl (by rfl) ?_;try simp only [lD,lE,lF,Act.put,lG,lH,lI])
        iterate 14 ((refine Sq.yes (v:=?_) rfl (by rfl) ?_ ?_;rotate_left;· (intro w' hw';obtain ⟨f0,f1,f2,f3,f4,f5,f6⟩:=FX.out w' hw';go_simp;try with_reducible rfl));try simp only [lD,lE,lF,Act.put,lG,lH,lI])
        exact Sq.nil
        refine any_done ?_
        go_wp2
        go_ret
        exact ⟨by rw [HBAD.out];rfl,(gfr HF5.out HF7.out (by have:=HG.out;omega))⟩
      | true=>
        have HWR : Hid (wrongD s.id s.asked M ⟨7,ii,ll,nn,dd⟩ (decide (q + 1 < n)) = false):=Lib.hid (by unfold wrongD;rw [HMD.out];simp [ha,pt,hq1])
        rw [ha] at FX
        clear h5 hq1 ha
        refine region_Z (fun w'=>Fr (fun e=>e = g) w5 w') 99 (Fr.drewN _ w5 1) (fun hH=>?_)
        refine takes (b:=?_) [0] hH ?_ ?_
        rotate_left
        (refine Sq.yes (v:=?_) rfl (by rfl) ?_ ?_;rotate_left;· (intro w' hw';obtain ⟨f0,f1,f2,f3,f4,f5,f6⟩:=FX.out w' hw';go_simp;try with_reducible rfl))
        try simp only [lD,lE,lF,Act.put,lG,lH,lI]
        exact Sq.nil
        refine any_op 1 rfl (fun K hK=>?_)
        go_simp
        refine (HMAY.out _).mono ?_
        rintro e w6 ⟨rfl,hf6⟩
        have HF6 : Hid (Fr (fun _=>False) w5 w6):=Lib.hid ((Fr.drewN (fun _=>False) w5 1).trans hf6)
        refine hK.out _ _ (HF6.out.mono fun _ e=>e.elim) (fun hH2=>?_)
        clear hK K hf6
        try simp only [lD,lE,lF,Act.put,lG,lH,lI]
        refine takes (b:=?_) [2,3,4,5,6,7,8,9,10,11,12,13,14,15,16,17] hH2 ?_ ?_
        rotate_left
        iterate 16 ((refine Sq.yes (v:=?_) rfl (by rfl) ?_ ?_;rotate_left;· (intro w' hw';obtain ⟨f0,f1,f2,f3,f4,f5,f6⟩:=FX.out w' hw';go_simp;try with_reducible rfl));try simp only [lD,lE,lF,Act.put,lG,lH,lI])
        exact Sq.nil
        refine any_op 18 rfl (fun K hK=>?_)
        go_simp
        refine (take_any w6 g c M (HM5.out.fr HF6.out id) (by have:=HCQ.out;have:=H32.out;have:=HLT.out;omega) 7 ii ll nn HID.out va dl vc).mono ?_
        rintro e w7 ⟨c7,hc7,rfl,hM7,hf7⟩
        have HF7 : Hid (Fr (fun e=>e = g) w5 w7):=Lib.hid ((HF6.out.mono fun _ e=>e.elim).trans hf7)
        have HM7:=Lib.hid hM7
        have HC7:=Lib.hid hc7
        refine hK.out _ _ HF7.out (fun hH3=>?_)
        clear hK K hf7 hM7 hc7
        try simp only [lD,lE,lF,Act.put,lG,lH,lI]
        refine takes (b:=?_) [19,20,21,22,23,24,25,26,27,28,29,30,31,32,33,34,35,36,37,38,39,40,41,42,43,44,45,46] hH3 ?_ ?_
        rotate_left
        iterate 7 ((refine Sq.yes (v:=?_) rfl (by rfl) ?_ ?_;rotate_left;· (intro w' hw';obtain ⟨f0,f1,f2,f3,f4,f5,f6⟩:=FX.out w' hw';go_simp;try with_reducible rfl));try simp only [lD,lE,lF,Act.put,lG,lH,lI])
        iterate 7 (refine Sq.no rfl (by rfl) ?_;try simp only [lD,lE,lF,Act.put,lG,lH,lI])
        iterate 14 ((refine Sq.yes (v:=?_) rfl (by rfl) ?_ ?_;rotate_left;· (intro w' hw';obtain ⟨f0,f1,f2,f3,f4,f5,f6⟩:=FX.out w' hw';go_simp;try with_reducible rfl));try simp only [lD,lE,lF,Act.put,lG,lH,lI])
        exact Sq.nil
        refine any_done ?_
        go_wp2_with fail
        go_roundw
        case rel=>exact ⟨q + 1,c7,(takeM M 7 ii).1,HLT.out,congrArg (Value.int .i64) HWQ.out.2.2,by have:=HC7.out;have:=HCQ.out;omega,HM7.out,by rw [← HBL.out,HDROP.out,HWR.out];rfl,(gfr HF5.out HF7.out (by have:=HG.out;omega))⟩
        case measure=>rw [HWQ.out.2.2];simp only [intOf];have:=HLT.out;omega
     have p7 : (kk == 7) = false:=by simp [h7]
     have p4 : (kk == 4) = false:=by simp;omega
     have HWR : Hid (wrongD s.id s.asked M ⟨kk,ii,ll,nn,dd⟩ (decide (q + 1 < n)) = false):=Lib.hid (by unfold wrongD;rw [HMD.out];simp [p7,p4,pt,hq1])
     clear h5 hq1 h7
     refine region_Z (fun w'=>Fr (fun e=>e = g) w5 w') 99 (Fr.drewN _ w5 1) (fun hH=>?_)
     refine takes (b:=?_) [0] hH ?_ ?_
     rotate_left
     (refine Sq.yes (v:=?_) rfl (by rfl) ?_ ?_;rotate_left;· (intro w' hw';obtain ⟨f0,f1,f2,f3,f4,f5,f6⟩:=FX.out w' hw';go_simp;try with_reducible rfl))
     try simp only [lD,lE,lF,Act.put,lG,lH,lI]
     exact Sq.nil
     refine any_op 1 rfl (fun K hK=>?_)
     go_simp
     refine (HMAY.out _).mono ?_
     rintro e w6 ⟨rfl,hf6⟩
     have HF6 : Hid (Fr (fun _=>False) w5 w6):=Lib.hid ((Fr.drewN (fun _=>False) w5 1).trans hf6)
     refine hK.out _ _ (HF6.out.mono fun _ e=>e.elim) (fun hH2=>?_)
     clear hK K hf6
     try simp only [lD,lE,lF,Act.put,lG,lH,lI]
     refine takes (b:=?_) [2,3,4,5,6,7,8,9,10,11,12,13,14,15,16,17] hH2 ?_ ?_
     rotate_left
     iterate 16 ((refine Sq.yes (v:=?_) rfl (by rfl) ?_ ?_;rotate_left;· (intro w' hw';obtain ⟨f0,f1,f2,f3,f4,f5,f6⟩:=FX.out w' hw';go_simp;try with_reducible rfl));try simp only [lD,lE,lF,Act.put,lG,lH,lI])
     exact Sq.nil
     refine any_op 18 rfl (fun K hK=>?_)
     go_simp
     refine (take_any w6 g c M (HM5.out.fr HF6.out id) (by have:=HCQ.out;have:=H32.out;have:=HLT.out;omega) kk ii ll nn HID.out va dl vc).mono ?_
     rintro e w7 ⟨c7,hc7,rfl,hM7,hf7⟩
     have HF7 : Hid (Fr (fun e=>e = g) w5 w7):=Lib.hid ((HF6.out.mono fun _ e=>e.elim).trans hf7)
     have HM7:=Lib.hid hM7
     have HC7:=Lib.hid hc7
     refine hK.out _ _ HF7.out (fun hH3=>?_)
     clear hK K hf7 hM7 hc7
     try simp only [lD,lE,lF,Act.put,lG,lH,lI]
     refine takes (b:=?_) [19,20,21,22,23,24,25,26,27,28,29,30,31,32,33,34,35,36,37,38,39,40,41,42,43,44,45,46] hH3 ?_ ?_
     rotate_left
     iterate 7 ((refine Sq.yes (v:=?_) rfl (by rfl) ?_ ?_;rotate_left;· (intro w' hw';obtain ⟨f0,f1,f2,f3,f4,f5,f6⟩:=FX.out w' hw';go_simp;try with_reducible rfl));try simp only [lD,lE,lF,Act.put,lG,lH,lI])
     iterate 7 (refine Sq.no rfl (by rfl) ?_;try simp only [lD,lE,lF,Act.put,lG,lH,lI])
     iterate 7 ((refine Sq.yes (v:=?_) rfl (by rfl) ?_ ?_;rotate_left;· (intro w' hw';obtain ⟨f0,f1,f2,f3,f4,f5,f6⟩:=FX.out w' hw';go_simp;try with_reducible rfl));try simp only [lD,lE,lF,Act.put,lG,lH,lI])
     iterate 5 (refine Sq.no rfl (by rfl) ?_;try simp only [lD,lE,lF,Act.put,lG,lH,lI])
     iterate 2 ((refine Sq.yes (v:=?_) rfl (by rfl) ?_ ?_;rotate_left;· (intro w' hw';obtain ⟨f0,f1,f2,f3,f4,f5,f6⟩:=FX.out w' hw';go_simp;try with_reducible rfl));try simp only [lD,lE,lF,Act.put,lG,lH,lI])
     exact Sq.nil
     refine any_done ?_
     go_wp2_with fail
     go_roundw
     case rel=>exact ⟨q + 1,c7,(takeM M kk ii).1,HLT.out,congrArg (Value.int .i64) HWQ.out.2.2,by have:=HC7.out;have:=HCQ.out;omega,HM7.out,by rw [← HBL.out,HDROP.out,HWR.out];rfl,(gfr HF5.out HF7.out (by have:=HG.out;omega))⟩
     case measure=>rw [HWQ.out.2.2];simp only [intOf];have:=HLT.out;omega
    have p5 : decide (kk ≥ 5) = false:=decide_eq_false (by omega)
    have p5' : decide (5 ≤ kk) = false:=decide_eq_false h5
    have hwq:=HWQ.out.1
    have hwq2:=HWQ.out.2.1
    cases pt : (takeM M kk ii).2 with
    | false=>
      have HBAD : Hid (badS s l = true):=Lib.hid (by rw [HBS.out,← HBL.out,HDROP.out];unfold wrongD;rw [HMD.out];simp [pt])
      clear h5
      refine region_Z (fun w'=>Fr (fun e=>e = g) w5 w') 99 (Fr.drewN _ w5 1) (fun hH=>?_)
      refine takes (b:=?_) [0] hH ?_ ?_
      rotate_left
      (refine Sq.yes (v:=?_) rfl (by rfl) ?_ ?_;rotate_left;· (intro w' hw';obtain ⟨f0,f1,f2,f3,f4,f5,f6⟩:=FX.out w' hw';go_simp;try with_reducible rfl))
      try simp only [lD,lE,lF,Act.put,lG,lH,lI]
      exact Sq.nil
      refine any_op 1 rfl (fun K hK=>?_)
      go_simp
      refine (HMAY.out _).mono ?_
      rintro e w6 ⟨rfl,hf6⟩
      have HF6 : Hid (Fr (fun _=>False) w5 w6):=Lib.hid ((Fr.drewN (fun _=>False) w5 1).trans hf6)
      refine hK.out _ _ (HF6.out.mono fun _ e=>e.elim) (fun hH2=>?_)
      clear hK K hf6
      try simp only [lD,lE,lF,Act.put,lG,lH,lI]
      refine takes (b:=?_) [2,3,4,5,6,7,8,9,10,11,12,13,14,15,16,17] hH2 ?_ ?_
      rotate_left
      iterate 6 ((refine Sq.yes (v:=?_) rfl (by rfl) ?_ ?_;rotate_left;· (intro w' hw';obtain ⟨f0,f1,f2,f3,f4,f5,f6⟩:=FX.out w' hw';go_simp;try with_reducible rfl));try simp only [lD,lE,lF,Act.put,lG,lH,lI])
      iterate 5 (refine Sq.no rfl (by rfl) ?_;try simp only [lD,lE,lF,Act.put,lG,lH,lI])
      iterate 5 ((refine Sq.yes (v:=?_) rfl (by rfl) ?_ ?_;rotate_left;· (intro w' hw';obtain ⟨f0,f1,f2,f3,f4,f5,f6⟩:=FX.out w' hw';go_simp;try with_reducible rfl));try simp only [lD,lE,lF,Act.put,lG,lH,lI])
      exact Sq.nil
      refine any_op 18 rfl (fun K hK=>?_)
      go_simp
      refine (take_any w6 g c M (HM5.out.fr HF6.out id) (by have:=HCQ.out;have:=H32.out;have:=HLT.out;omega) kk ii ll nn HID.out va dl vc).mono ?_
      rintro e w7 ⟨c7,hc7,rfl,hM7,hf7⟩
      have HF7 : Hid (Fr (fun e=>e = g) w5 w7):=Lib.hid ((HF6.out.mono fun _ e=>e.elim).trans hf7)
      have HM7:=Lib.hid hM7
      have HC7:=Lib.hid hc7
      refine hK.out _ _ HF7.out (fun hH3=>?_)
      clear hK K hf7 hM7 hc7
      try simp only [lD,lE,lF,Act.put,lG,lH,lI]
      refine takes (b:=?_) [19,20,21,22,23,24,25,26,27,28,29,30,31,32,33,34,35,36,37,38,39,40,41,42,43,44,45,46] hH3 ?_ ?_
      rotate_left
      iterate 3 ((refine Sq.yes (v:=?_) rfl (by rfl) ?_ ?_;rotate_left;· (intro w' hw';obtain ⟨f0,f1,f2,f3,f4,f5,f6⟩:=FX.out w' hw';go_simp;try with_reducible rfl));try simp only [lD,lE,lF,Act.put,lG,lH,lI])
      iterate 12 (refine Sq.no rfl (by rfl) ?_;try simp only [lD,lE,lF,Act.put,lG,lH,lI])
      iterate 2 ((refine Sq.yes (v:=?_) rfl (by rfl) ?_ ?_;rotate_left;· (intro w' hw';obtain ⟨f0,f1,f2,f3,f4,f5,f6⟩:=FX.out w' hw';go_simp;try with_reducible rfl));try simp only [lD,lE,lF,Act.put,lG,lH,lI])
      iterate 10 (refine Sq.no rfl (by rfl) ?_;try simp only [lD,lE,lF,Act.put,lG,lH,lI])
      (refine Sq.yes (v:=?_) rfl (by rfl) ?_ ?_;rotate_left;· (intro w' hw';obtain ⟨f0,f1,f2,f3,f4,f5,f6⟩:=FX.out w' hw';go_simp;try with_reducible rfl))
      try simp only [lD,lE,lF,Act.put,lG,lH,lI]
      exact Sq.nil
      refine any_done ?_
      go_wp2
      go_ret
      exact ⟨by rw [HBAD.out];rfl,(gfr HF5.out HF7.out (by have:=HG.out;omega))⟩
    | true=>
      by_cases h4 : kk = 4
      ·skip
       subst h4
       by_cases hi : ii = s.id
       ·skip
        have pi : (ii == s.id) = true:=by simp [hi]
        have HBAD : Hid (badS s l = true):=Lib.hid (by rw [HBS.out,← HBL.out,HDROP.out];unfold wrongD;rw [HMD.out];simp [pi])
        clear h5 hi
        refine region_Z (fun w'=>Fr (fun e=>e = g) w5 w') 99 (Fr.drewN _ w5 1) (fun hH=>?_)
        refine takes (b:=?_) [0] hH ?_ ?_
        rotate_left
        (refine Sq.yes (v:=?_) rfl (by rfl) ?_ ?_;rotate_left;· (intro w' hw';obtain ⟨f0,f1,f2,f3,f4,f5,f6⟩:=FX.out w' hw';go_simp;try with_reducible rfl))
        try simp only [lD,lE,lF,Act.put,lG,lH,lI]
        exact Sq.nil
        refine any_op 1 rfl (fun K hK=>?_)
        go_simp
        refine (HMAY.out _).mono ?_
        rintro e w6 ⟨rfl,hf6⟩
        have HF6 : Hid (Fr (fun _=>False) w5 w6):=Lib.hid ((Fr.drewN (fun _=>False) w5 1).trans hf6)
        refine hK.out _ _ (HF6.out.mono fun _ e=>e.elim) (fun hH2=>?_)
        clear hK K hf6
        try simp only [lD,lE,lF,Act.put,lG,lH,lI]
        refine takes (b:=?_) [2,3,4,5,6,7,8,9,10,11,12,13,14,15,16,17] hH2 ?_ ?_
        rotate_left
        iterate 6 ((refine Sq.yes (v:=?_) rfl (by rfl) ?_ ?_;rotate_left;· (intro w' hw';obtain ⟨f0,f1,f2,f3,f4,f5,f6⟩:=FX.out w' hw';go_simp;try with_reducible rfl));try simp only [lD,lE,lF,Act.put,lG,lH,lI])
        iterate 5 (refine Sq.no rfl (by rfl) ?_;try simp only [lD,lE,lF,Act.put,lG,lH,lI])
        iterate 5 ((refine Sq.yes (v:=?_) rfl (by rfl) ?_ ?_;rotate_left;· (intro w' hw';obtain ⟨f0,f1,f2,f3,f4,f5,f6⟩:=FX.out w' hw';go_simp;try with_reducible rfl));try simp only [lD,lE,lF,Act.put,lG,lH,lI])
        exact Sq.nil
        refine any_op 18 rfl (fun K hK=>?_)
        go_simp
        refine (take_any w6 g c M (HM5.out.fr HF6.out id) (by have:=HCQ.out;have:=H32.out;have:=HLT.out;omega) 4 ii ll nn HID.out va dl vc).mono ?_
        rintro e w7 ⟨c7,hc7,rfl,hM7,hf7⟩
        have HF7 : Hid (Fr (fun e=>e = g) w5 w7):=Lib.hid ((HF6.out.mono fun _ e=>e.elim).trans hf7)
        have HM7:=Lib.hid hM7
        have HC7:=Lib.hid hc7
        refine hK.out _ _ HF7.out (fun hH3=>?_)
        clear hK K hf7 hM7 hc7
        try simp only [lD,lE,lF,Act.put,lG,lH,lI]
        refine takes (b:=?_) [19,20,21,22,23,24,25,26,27,28,29,30,31,32,33,34,35,36,37,38,39,40,41,42,43,44,45,46] hH3 ?_ ?_
        rotate_left
        iterate 17 ((refine Sq.yes (v:=?_) rfl (by rfl) ?_ ?_;rotate_left;· (intro w' hw';obtain ⟨f0,f1,f2,f3,f4,f5,f6⟩:=FX.out w' hw';go_simp;try with_reducible rfl));try simp only [lD,lE,lF,Act.put,lG,lH,lI])
        iterate 10 (refine Sq.no rfl (by rfl) ?_;try simp only [lD,lE,lF,Act.put,lG,lH,lI])
        (refine Sq.yes (v:=?_) rfl (by rfl) ?_ ?_;rotate_left;· (intro w' hw';obtain ⟨f0,f1,f2,f3,f4,f5,f6⟩:=FX.out w' hw';go_simp;try with_reducible rfl))
        try simp only [lD,lE,lF,Act.put,lG,lH,lI]
        exact Sq.nil
        refine any_done ?_
        go_wp2
        go_ret
        exact ⟨by rw [HBAD.out];rfl,(gfr HF5.out HF7.out (by have:=HG.out;omega))⟩
       have pi : (ii == s.id) = false:=by simp [hi]
       have HWR : Hid (wrongD s.id s.asked M ⟨4,ii,ll,nn,dd⟩ (decide (q + 1 < n)) = false):=Lib.hid (by unfold wrongD;rw [HMD.out];simp [pt,pi])
       clear h5 hi
       refine region_Z (fun w'=>Fr (fun e=>e = g) w5 w') 99 (Fr.drewN _ w5 1) (fun hH=>?_)
       refine takes (b:=?_) [0] hH ?_ ?_
       rotate_left
       (refine Sq.yes (v:=?_) rfl (by rfl) ?_ ?_;rotate_left;· (intro w' hw';obtain ⟨f0,f1,f2,f3,f4,f5,f6⟩:=FX.out w' hw';go_simp;try with_reducible rfl))
       try simp only [lD,lE,lF,Act.put,lG,lH,lI]
       exact Sq.nil
       refine any_op 1 rfl (fun K hK=>?_)
       go_simp
       refine (HMAY.out _).mono ?_
       rintro e w6 ⟨rfl,hf6⟩
       have HF6 : Hid (Fr (fun _=>False) w5 w6):=Lib.hid ((Fr.drewN (fun _=>False) w5 1).trans hf6)
       refine hK.out _ _ (HF6.out.mono fun _ e=>e.elim) (fun hH2=>?_)
       clear hK K hf6
       try simp only [lD,lE,lF,Act.put,lG,lH,lI]
       refine takes (b:=?_) [2,3,4,5,6,7,8,9,10,11,12,13,14,15,16,17] hH2 ?_ ?_
       rotate_left
       iterate 6 ((refine Sq.yes (v:=?_) rfl (by rfl) ?_ ?_;rotate_left;· (intro w' hw';obtain ⟨f0,f1,f2,f3,f4,f5,f6⟩:=FX.out w' hw';go_simp;try with_reducible rfl));try simp only [lD,lE,lF,Act.put,lG,lH,lI])
       iterate 5 (refine Sq.no rfl (by rfl) ?_;try simp only [lD,lE,lF,Act.put,lG,lH,lI])
       iterate 5 ((refine Sq.yes (v:=?_) rfl (by rfl) ?_ ?_;rotate_left;· (intro w' hw';obtain ⟨f0,f1,f2,f3,f4,f5,f6⟩:=FX.out w' hw';go_simp;try with_reducible rfl));try simp only [lD,lE,lF,Act.put,lG,lH,lI])
       exact Sq.nil
       refine any_op 18 rfl (fun K hK=>?_)
       go_simp
       refine (take_any w6 g c M (HM5.out.fr HF6.out id) (by have:=HCQ.out;have:=H32.out;have:=HLT.out;omega) 4 ii ll nn HID.out va dl vc).mono ?_
       rintro e w7 ⟨c7,hc7,rfl,hM7,hf7⟩
       have HF7 : Hid (Fr (fun e=>e = g) w5 w7):=Lib.hid ((HF6.out.mono fun _ e=>e.elim).trans hf7)
       have HM7:=Lib.hid hM7
       have HC7:=Lib.hid hc7
       refine hK.out _ _ HF7.out (fun hH3=>?_)
       clear hK K hf7 hM7 hc7
       try simp only [lD,lE,lF,Act.put,lG,lH,lI]
       refine takes (b:=?_) [19,20,21,22,23,24,25,26,27,28,29,30,31,32,33,34,35,36,37,38,39,40,41,42,43,44,45,46] hH3 ?_ ?_
       rotate_left
       iterate 21 ((refine Sq.yes (v:=?_) rfl (by rfl) ?_ ?_;rotate_left;· (intro w' hw';obtain ⟨f0,f1,f2,f3,f4,f5,f6⟩:=FX.out w' hw';go_simp;try with_reducible rfl));try simp only [lD,lE,lF,Act.put,lG,lH,lI])
       iterate 5 (refine Sq.no rfl (by rfl) ?_;try simp only [lD,lE,lF,Act.put,lG,lH,lI])
       iterate 2 ((refine Sq.yes (v:=?_) rfl (by rfl) ?_ ?_;rotate_left;· (intro w' hw';obtain ⟨f0,f1,f2,f3,f4,f5,f6⟩:=FX.out w' hw';go_simp;try with_reducible rfl));try simp only [lD,lE,lF,Act.put,lG,lH,lI])
       exact Sq.nil
       refine any_done ?_
       go_wp2_with fail
       go_roundw
       case rel=>exact ⟨q + 1,c7,(takeM M 4 ii).1,HLT.out,congrArg (Value.int .i64) HWQ.out.2.2,by have:=HC7.out;have:=HCQ.out;omega,HM7.out,by rw [← HBL.out,HDROP.out,HWR.out];rfl,(gfr HF5.out HF7.out (by have:=HG.out;omega))⟩
       case measure=>rw [HWQ.out.2.2];simp only [intOf];have:=HLT.out;omega
      have p7 : (kk == 7) = false:=by simp;omega
      have p4 : (kk == 4) = false:=by simp [h4]
      have HWR : Hid (wrongD s.id s.asked M ⟨kk,ii,ll,nn,dd⟩ (decide (q + 1 < n)) = false):=Lib.hid (by unfold wrongD;rw [HMD.out];simp [pt,p7,p4,p5'])
      clear h5 h4
      refine region_Z (fun w'=>Fr (fun e=>e = g) w5 w') 99 (Fr.drewN _ w5 1) (fun hH=>?_)
      refine takes (b:=?_) [0] hH ?_ ?_
      rotate_left
      (refine Sq.yes (v:=?_) rfl (by rfl) ?_ ?_;rotate_left;· (intro w' hw';obtain ⟨f0,f1,f2,f3,f4,f5,f6⟩:=FX.out w' hw';go_simp;try with_reducible rfl))
      try simp only [lD,lE,lF,Act.put,lG,lH,lI]
      exact Sq.nil
      refine any_op 1 rfl (fun K hK=>?_)
      go_simp
      refine (HMAY.out _).mono ?_
      rintro e w6 ⟨rfl,hf6⟩
      have HF6 : Hid (Fr (fun _=>False) w5 w6):=Lib.hid ((Fr.drewN (fun _=>False) w5 1).trans hf6)
      refine hK.out _ _ (HF6.out.mono fun _ e=>e.elim) (fun hH2=>?_)
      clear hK K hf6
      try simp only [lD,lE,lF,Act.put,lG,lH,lI]
      refine takes (b:=?_) [2,3,4,5,6,7,8,9,10,11,12,13,14,15,16,17] hH2 ?_ ?_
      rotate_left
      iterate 6 ((refine Sq.yes (v:=?_) rfl (by rfl) ?_ ?_;rotate_left;· (intro w' hw';obtain ⟨f0,f1,f2,f3,f4,f5,f6⟩:=FX.out w' hw';go_simp;try with_reducible rfl));try simp only [lD,lE,lF,Act.put,lG,lH,lI])
      iterate 5 (refine Sq.no rfl (by rfl) ?_;try simp only [lD,lE,lF,Act.put,lG,lH,lI])
      iterate 5 ((refine Sq.yes (v:=?_) rfl (by rfl) ?_ ?_;rotate_left;· (intro w' hw';obtain ⟨f0,f1,f2,f3,f4,f5,f6⟩:=FX.out w' hw';go_simp;try with_reducible rfl));try simp only [lD,lE,lF,Act.put,lG,lH,lI])
      exact Sq.nil
      refine any_op 18 rfl (fun K hK=>?_)
      go_simp
      refine (take_any w6 g c M (HM5.out.fr HF6.out id) (by have:=HCQ.out;have:=H32.out;have:=HLT.out;omega) kk ii ll nn HID.out va dl vc).mono ?_
      rintro e w7 ⟨c7,hc7,rfl,hM7,hf7⟩
      have HF7 : Hid (Fr (fun e=>e = g) w5 w7):=Lib.hid ((HF6.out.mono fun _ e=>e.elim).trans hf7)
      have HM7:=Lib.hid hM7
      have HC7:=Lib.hid hc7
      refine hK.out _ _ HF7.out (fun hH3=>?_)
      clear hK K hf7 hM7 hc7
      try simp only [lD,lE,lF,Act.put,lG,lH,lI]
      refine takes (b:=?_) [19,20,21,22,23,24,25,26,27,28,29,30,31,32,33,34,35,36,37,38,39,40,41,42,43,44,45,46] hH3 ?_ ?_
      rotate_left
      iterate 7 ((refine Sq.yes (v:=?_) rfl (by rfl) ?_ ?_;rotate_left;· (intro w' hw';obtain ⟨f0,f1,f2,f3,f4,f5,f6⟩:=FX.out w' hw';go_simp;try with_reducible rfl));try simp only [lD,lE,lF,Act.put,lG,lH,lI])
      iterate 7 (refine Sq.no rfl (by rfl) ?_;try simp only [lD,lE,lF,Act.put,lG,lH,lI])
      iterate 7 ((refine Sq.yes (v:=?_) rfl (by rfl) ?_ ?_;rotate_left;· (intro w' hw';obtain ⟨f0,f1,f2,f3,f4,f5,f6⟩:=FX.out w' hw';go_simp;try with_reducible rfl));try simp only [lD,lE,lF,Act.put,lG,lH,lI])
      iterate 5 (refine Sq.no rfl (by rfl) ?_;try simp only [lD,lE,lF,Act.put,lG,lH,lI])
      iterate 2 ((refine Sq.yes (v:=?_) rfl (by rfl) ?_ ?_;rotate_left;· (intro w' hw';obtain ⟨f0,f1,f2,f3,f4,f5,f6⟩:=FX.out w' hw';go_simp;try with_reducible rfl));try simp only [lD,lE,lF,Act.put,lG,lH,lI])
      exact Sq.nil
      refine any_done ?_
      go_wp2_with fail
      go_roundw
      case rel=>exact ⟨q + 1,c7,(takeM M kk ii).1,HLT.out,congrArg (Value.int .i64) HWQ.out.2.2,by have:=HC7.out;have:=HCQ.out;omega,HM7.out,by rw [← HBL.out,HDROP.out,HWR.out];rfl,(gfr HF5.out HF7.out (by have:=HG.out;omega))⟩
      case measure=>rw [HWQ.out.2.2];simp only [intOf];have:=HLT.out;omega
  case _=>
   intro x cv kl y1 y2 w8 cnt8 hkey hlk hR hat hrg8 hlt8 hg8 hs8 hen
   obtain ⟨rfl,hxk,hxt⟩:=next_raw HDD.out hkey hR hat
   obtain ⟨_,_,k1,i1,o1,rfl⟩:=HOK.out x cv hxt
   have hgl:=HGL.out
   have hgx : g ≠ xm:=fun e=>by have:=HPF.out.fl.lt.2;have:=HG.out;omega
   have HF8 : Hid (Fr (fun _=>False) W w8):=Lib.hid (⟨hg8.os.trans HFZ.out.os,hg8.tape.trans HFZ.out.tape,hg8.output.trans HFZ.out.output,Nat.le_trans HFZ.out.size hg8.size,fun k hk hn=>(hg8.block k (Nat.lt_of_lt_of_le hk HFZ.out.size) (fun e=>by have:=Option.some.inj e;have:=HF1.out.size;omega)).trans (HFZ.out.block k hk hn)⟩)
   have hM8 : IsSet w8 g c M:=HM.out.fr (S:=fun q=>q = w1.heap.size) (.grown hg8 (fun k e=>(Option.some.inj e).symm)) (fun e=>by omega)
   have hx2 : kKE.ok (k1,i1):=HOI.out x k1 i1 o1 hxt
   have hcm : c < maxLen:=by have:=HCC.out;have:=HMC.out;unfold maxLen;omega
   have HRG8:=Lib.hid hrg8
   have HLT8:=Lib.hid hlt8
   have HRG:=Lib.hid hrg
   have HXT:=Lib.hid hxt
   have HGN : Hid (g ≠ xm ∧ g < w1.heap.size ∧ g < w8.heap.size):=Lib.hid ⟨hgx,hgl,Mp.lt hM8⟩
   have HM8A : Hid (Mp kKE (w8.alloc (.cells #[.int .i64 k1,.int .i64 i1,.int .i64 o1] 102)) g c (bM M)):=Lib.hid (hM8.fr (Fr.alloc (fun _=>False) _ _) id)
   have hM9:=HM8A.out
   clear hkey hlk hR hat hrg8 hg8 hs8 hxt hrg hlt8 hown hM8 hgx hgl
   unfold opv at hen ⊢
   go_wp2_with (first | (at_mapUpdate;refine wpStore rfl _ _ _ rfl Tryz.underlying127 hM9 hcm rfl (x:=(k1,i1)) rfl hx2 (u:=.bool true) rfl ?_;intro W4 hM4 ht4;have HM4:=Lib.hid hM4;have HT4:=Lib.hid ht4;clear hM4 ht4) | go_in)
   have hf84 : Fr (fun q=>q = g) w8 W4:=((Fr.alloc (fun _=>False) w8 _).mono fun _ e=>e.elim).trans (.grown HT4.out.grown (fun q e=>(Option.some.inj e).symm))
   go_roundw
   case rel=>
    have hM4:=HM4.out
    rw [bM_put] at hM4
    refine ⟨_,_,_,_,_,_,_,_,_,_,_,?_,rfl⟩
    refine ⟨_,_,_,sput M (k1,i1) true,ranges_fr HRG8.out hf84 (fun e=>HGN.out.1 e.symm) (fun e=>by have:=HGN.out.2.1;omega),by have h1:=HCC.out;have h2:=HLT8.out;split <;> omega,hM4,⟨fun y k i w hy hl=>?_,fun y hy=>?_⟩,⟨hf84.os.trans HF8.out.os,hf84.tape.trans HF8.out.tape,hf84.output.trans HF8.out.output,Nat.le_trans HF8.out.size hf84.size,fun k hk hn=>(hf84.block k (Nat.lt_of_lt_of_le hk HF8.out.size) (by have:=HG.out;omega)).trans (HF8.out.block k hk hn)⟩⟩
    ·unfold sput
     by_cases e : y = x
     ·subst e
      have:=HXT.out.symm.trans hy
      unfold opv at this
      cases this
      simp
     ·split
      ·rfl
      ·refine HC.out.1 y k i w hy ?_
       have hk : (Lit.int .i64 y).sameKey (.int .i64 x) = false:=by simp [Lit.sameKey,e]
       simpa [hk] using hl
    ·unfold sput at hy
     split at hy
     ·rename_i e
      subst e
      exact ⟨x,o1,HXT.out⟩
     ·exact HC.out.2 y hy
   case measure=>rw [(ranges_fr HRG8.out hf84 (fun e=>HGN.out.1 e.symm) (fun e=>by have:=HGN.out.2.1;omega)).left_eq,HRG.out.left_eq];exact HLT8.out
end Go.Proofs.YtnkelaohcbdjnaaGreat
