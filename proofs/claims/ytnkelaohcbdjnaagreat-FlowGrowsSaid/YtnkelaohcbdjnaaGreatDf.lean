/- Decide's own function. -/
import Derived.Test.YtnkelaohcbdjnaaGreatOw
import Derived.Test.YtnkelaohcbdjnaaGreatDe
import Derived.Test.YtnkelaohcbdjnaaGreatBd
import Derived.Deep.QuietTactic
import Derived.BigQuiet
set_option linter.unusedVariables false
set_option linter.unusedSimpArgs false
namespace Go.Proofs.YtnkelaohcbdjnaaGreat
open Go.RowKit Go.Maps
theorem decFold_nil (now : Int) (s : FSt) : decFold now s [] = (s,[]):=by unfold decFold;rfl
theorem decFold_cons (now : Int) (s : FSt) (x : Dv) (l : List Dv) : decFold now s (x :: l) = ((decFold now (doneS s x now) l).1,doneO s x now ++ (decFold now (doneS s x now) l).2):=by rw [decFold]
theorem mayD_len {x : Dv} (h : mayD x = true) : x.d.length ≤ 100000:=by
 unfold mayD mayB at h
 have key : ∀ a b c d,mayF a b c d x.i x.l x.n x.d.length = true → x.d.length ≤ 100000:=fun a b c d hm=>by
  unfold mayF at hm
  split at hm
  ·cases hm
  ·simp only [Bool.and_eq_true,decide_eq_true_eq] at hm
   omega
 repeat' (split at h)
 all_goals first
  | exact key _ _ _ _ h
  | cases h
set_option maxRecDepth 100000 in
set_option maxHeartbeats 8000000 in
theorem decide_stale (T : Nat → Prop) (W : World) (xb xm : Nat) (s : FSt) (h : PF T W xb xm s) (hmc : s.mc ≤ 40000) (hl : s.l.length ≤ 40000) (ref turn now : Int) (ao : Option Addr) (cp : Nat) (l : List Dv) (bref bturn bl bnow : Nat) (hturn : Blk W bturn 3 #[.int .i64 turn]) (nturn : ¬ T bturn) (href : Blk W bref 3 #[.int .i64 ref]) (nref : ¬ T bref) (hnow : Blk W bnow 3 #[.int .i64 now]) (nnow : ¬ T bnow) (hll : Blk W bl 37 #[.slice ao l.length cp]) (nl : ¬ T bl) (hrow : RowD T W ao l) (hcp : l.length ≤ cp) (hdd : ∀ x ∈ l,∀ u ∈ x.d,u.oneCell' = true) (hok : OpenOk s) (hu : UniqO s) (hi : IdOk s) (hs : ¬ (s.task = 2 ∧ s.at_ = ref ∧ s.turn = turn)) :
 Calls Tryz.prog 53 #[.pointer (some ⟨xb,0,none⟩),.pointer (some ⟨bref,0,none⟩),.pointer (some ⟨bturn,0,none⟩),.pointer (some ⟨bl,0,none⟩),.pointer (some ⟨bnow,0,none⟩)] W fun e W'=>ClX T W xb xm (decideC s ref turn l now) e W':=by
 have HPF:=Lib.hid h
 have HLM:=Lib.hid (And.intro hl hmc)
 have HNB:=Lib.hid (And.intro hnow (And.intro href (And.intro hturn hll)))
 have HNE:=Lib.hid (And.intro nnow (And.intro nref (And.intro nturn nl)))
 have HROW:=Lib.hid (And.intro hrow (And.intro hcp hdd))
 have HINV:=Lib.hid (And.intro hok (And.intro hu hi))
 obtain ⟨ao2,cp2,hb⟩:=h.blk
 have HB:=Lib.hid hb
 have FX : Hid (∀ w',Fr (fun _=>False) W w' → w'.cell? ⟨bref,0,none⟩ = some (.int .i64 ref) ∧ w'.cell? ⟨bturn,0,none⟩ = some (.int .i64 turn) ∧ w'.cell? ⟨bnow,0,none⟩ = some (.int .i64 now) ∧ w'.cell? ⟨xb,5,none⟩ = some (.int .i64 s.task) ∧ w'.cell? ⟨xb,6,none⟩ = some (.int .i64 s.at_) ∧ w'.cell? ⟨xb,8,none⟩ = some (.int .i64 s.turn) ∧ w'.cell? ⟨bl,0,none⟩ = some (.slice ao l.length cp) ∧ w'.cell? ⟨xb,9,none⟩ = some (.bool s.late)):=Lib.hid (fun w' hf=>⟨(href.fr hf id).cell 0,(hturn.fr hf id).cell 0,(hnow.fr hf id).cell 0,(hb.fr hf id).cell 5,(hb.fr hf id).cell 6,(hb.fr hf id).cell 8,(hll.fr hf id).cell 0,(hb.fr hf id).cell 9⟩)
 obtain ⟨ta,hta⟩ : ∃ x,s.task = x:=⟨_,rfl⟩
 obtain ⟨aa,haa⟩ : ∃ x,s.at_ = x:=⟨_,rfl⟩
 obtain ⟨tu,htu⟩ : ∃ x,s.turn = x:=⟨_,rfl⟩
 obtain ⟨n,hn⟩ : ∃ n,l.length = n:=⟨_,rfl⟩
 obtain ⟨c,hc⟩ : ∃ c,decideC s ref turn l now = c:=⟨_,rfl⟩
 have HC:=Lib.hid hc
 have HN:=Lib.hid hn
 have HTT:=Lib.hid (And.intro hta (And.intro haa htu))
 rw [hta,haa,htu,hn] at FX
 rw [hc]
 rw [hta,haa,htu] at hs
 clear hta haa htu h hb href hturn hnow hll nref nturn nnow nl hrow hcp hdd hok hu hi hmc hl hn hc
 by_cases h1 : ta = 2
 rotate_left
 ·have p1 : (ta != 2) = true:=by simp [h1]
  go_enter Tryz.func53,Tryz.ntmps53
  go_upto_region 1 with (fail)
  refine region_Z (fun w'=>Fr (fun _=>False) W w') 99 (Fr.drewN _ W 1) (fun hH=>?_)
  refine takes (b:=?_) [0,1,2,3,4,5,6,7,8,9,10,11,12,13,14,15,16,17,18,19,20,21] hH ?_ ?_
  rotate_left
  iterate 6 ((refine Sq.yes (v:=?_) rfl (by rfl) ?_ ?_;rotate_left;· (intro w' hw';obtain ⟨f0,f1,f2,f3,f4,f5,f6,f7⟩:=FX.out w' hw';go_simp;try with_reducible rfl));try simp only [lD,lE,lF,Act.put,lG,lH,lI])
  iterate 6 (refine Sq.no rfl (by rfl) ?_;try simp only [lD,lE,lF,Act.put,lG,lH,lI])
  iterate 2 ((refine Sq.yes (v:=?_) rfl (by rfl) ?_ ?_;rotate_left;· (intro w' hw';obtain ⟨f0,f1,f2,f3,f4,f5,f6,f7⟩:=FX.out w' hw';go_simp;try with_reducible rfl));try simp only [lD,lE,lF,Act.put,lG,lH,lI])
  iterate 6 (refine Sq.no rfl (by rfl) ?_;try simp only [lD,lE,lF,Act.put,lG,lH,lI])
  iterate 2 ((refine Sq.yes (v:=?_) rfl (by rfl) ?_ ?_;rotate_left;· (intro w' hw';obtain ⟨f0,f1,f2,f3,f4,f5,f6,f7⟩:=FX.out w' hw';go_simp;try with_reducible rfl));try simp only [lD,lE,lF,Act.put,lG,lH,lI])
  exact Sq.nil
  refine any_done ?_
  have HH:=Lib.hid hH
  have HCE : Hid (c = (s,[],21)):=Lib.hid (by
   rw [← HC.out]
   unfold decideC
   rw [if_neg]
   intro e
   obtain ⟨e1,e2,e3⟩:=HTT.out
   rw [e1,e2,e3] at e
   exact hs e)
  clear hH FX h1
  go_wp2
  go_ret2
  rw [HCE.out]
  exact ⟨_,rfl,Outs.nil _ _,HPF.out.fr0 HH.out,HH.out.mono fun _ e=>e.elim⟩
 subst h1
 have p1 : ((2 : Int) != 2) = false:=rfl
 by_cases h2 : aa = ref
 rotate_left
 ·have p2 : (aa != ref) = true:=by simp [h2]
  go_enter Tryz.func53,Tryz.ntmps53
  go_upto_region 1 with (fail)
  refine region_Z (fun w'=>Fr (fun _=>False) W w') 99 (Fr.drewN _ W 1) (fun hH=>?_)
  refine takes (b:=?_) [0,1,2,3,4,5,6,7,8,9,10,11,12,13,14,15,16,17,18,19,20,21] hH ?_ ?_
  rotate_left
  iterate 14 ((refine Sq.yes (v:=?_) rfl (by rfl) ?_ ?_;rotate_left;· (intro w' hw';obtain ⟨f0,f1,f2,f3,f4,f5,f6,f7⟩:=FX.out w' hw';go_simp;try with_reducible rfl));try simp only [lD,lE,lF,Act.put,lG,lH,lI])
  iterate 6 (refine Sq.no rfl (by rfl) ?_;try simp only [lD,lE,lF,Act.put,lG,lH,lI])
  iterate 2 ((refine Sq.yes (v:=?_) rfl (by rfl) ?_ ?_;rotate_left;· (intro w' hw';obtain ⟨f0,f1,f2,f3,f4,f5,f6,f7⟩:=FX.out w' hw';go_simp;try with_reducible rfl));try simp only [lD,lE,lF,Act.put,lG,lH,lI])
  exact Sq.nil
  refine any_done ?_
  have HH:=Lib.hid hH
  have HCE : Hid (c = (s,[],21)):=Lib.hid (by
   rw [← HC.out]
   unfold decideC
   rw [if_neg]
   intro e
   obtain ⟨e1,e2,e3⟩:=HTT.out
   rw [e1,e2,e3] at e
   exact hs e)
  clear hH FX h2
  go_wp2
  go_ret2
  rw [HCE.out]
  exact ⟨_,rfl,Outs.nil _ _,HPF.out.fr0 HH.out,HH.out.mono fun _ e=>e.elim⟩
 subst h2
 have p2 : (aa != aa) = false:=by simp
 have h3 : tu ≠ turn:=fun e=>hs ⟨rfl,rfl,e⟩
 have p3 : (tu != turn) = true:=by simp [h3]
 go_enter Tryz.func53,Tryz.ntmps53
 go_upto_region 1 with (fail)
 refine region_Z (fun w'=>Fr (fun _=>False) W w') 99 (Fr.drewN _ W 1) (fun hH=>?_)
 refine takes (b:=?_) [0,1,2,3,4,5,6,7,8,9,10,11,12,13,14,15,16,17,18,19,20,21] hH ?_ ?_
 rotate_left
 iterate 22 ((refine Sq.yes (v:=?_) rfl (by rfl) ?_ ?_;rotate_left;· (intro w' hw';obtain ⟨f0,f1,f2,f3,f4,f5,f6,f7⟩:=FX.out w' hw';go_simp;try with_reducible rfl));try simp only [lD,lE,lF,Act.put,lG,lH,lI])
 exact Sq.nil
 refine any_done ?_
 have HH:=Lib.hid hH
 have HCE : Hid (c = (s,[],21)):=Lib.hid (by
  rw [← HC.out]
  unfold decideC
  rw [if_neg]
  intro e
  obtain ⟨e1,e2,e3⟩:=HTT.out
  rw [e1,e2,e3] at e
  exact hs e)
 clear hH FX h3
 go_wp2
 go_ret2
 rw [HCE.out]
 exact ⟨_,rfl,Outs.nil _ _,HPF.out.fr0 HH.out,HH.out.mono fun _ e=>e.elim⟩
set_option maxRecDepth 100000 in
set_option maxHeartbeats 8000000 in
theorem decide_bad (T : Nat → Prop) (W : World) (xb xm : Nat) (s : FSt) (h : PF T W xb xm s) (hmc : s.mc ≤ 40000) (hl : s.l.length ≤ 40000) (ref turn now : Int) (ao : Option Addr) (cp : Nat) (l : List Dv) (bref bturn bl bnow : Nat) (hturn : Blk W bturn 3 #[.int .i64 turn]) (nturn : ¬ T bturn) (href : Blk W bref 3 #[.int .i64 ref]) (nref : ¬ T bref) (hnow : Blk W bnow 3 #[.int .i64 now]) (nnow : ¬ T bnow) (hll : Blk W bl 37 #[.slice ao l.length cp]) (nl : ¬ T bl) (hrow : RowD T W ao l) (hcp : l.length ≤ cp) (hdd : ∀ x ∈ l,∀ u ∈ x.d,u.oneCell' = true) (hok : OpenOk s) (hu : UniqO s) (hi : IdOk s) (hs : s.task = 2 ∧ s.at_ = ref ∧ s.turn = turn) (hb1 : badS s l = true) :
 Calls Tryz.prog 53 #[.pointer (some ⟨xb,0,none⟩),.pointer (some ⟨bref,0,none⟩),.pointer (some ⟨bturn,0,none⟩),.pointer (some ⟨bl,0,none⟩),.pointer (some ⟨bnow,0,none⟩)] W fun e W'=>ClX T W xb xm (decideC s ref turn l now) e W':=by
 have HBV:=Lib.hid hb1
 have HPF:=Lib.hid h
 have HLM:=Lib.hid (And.intro hl hmc)
 have HNB:=Lib.hid (And.intro hnow (And.intro href (And.intro hturn hll)))
 have HNE:=Lib.hid (And.intro nnow (And.intro nref (And.intro nturn nl)))
 have HROW:=Lib.hid (And.intro hrow (And.intro hcp hdd))
 have HINV:=Lib.hid (And.intro hok (And.intro hu hi))
 obtain ⟨ao2,cp2,hb⟩:=h.blk
 have HB:=Lib.hid hb
 have FX : Hid (∀ w',Fr (fun _=>False) W w' → w'.cell? ⟨bref,0,none⟩ = some (.int .i64 ref) ∧ w'.cell? ⟨bturn,0,none⟩ = some (.int .i64 turn) ∧ w'.cell? ⟨bnow,0,none⟩ = some (.int .i64 now) ∧ w'.cell? ⟨xb,5,none⟩ = some (.int .i64 s.task) ∧ w'.cell? ⟨xb,6,none⟩ = some (.int .i64 s.at_) ∧ w'.cell? ⟨xb,8,none⟩ = some (.int .i64 s.turn) ∧ w'.cell? ⟨bl,0,none⟩ = some (.slice ao l.length cp) ∧ w'.cell? ⟨xb,9,none⟩ = some (.bool s.late)):=Lib.hid (fun w' hf=>⟨(href.fr hf id).cell 0,(hturn.fr hf id).cell 0,(hnow.fr hf id).cell 0,(hb.fr hf id).cell 5,(hb.fr hf id).cell 6,(hb.fr hf id).cell 8,(hll.fr hf id).cell 0,(hb.fr hf id).cell 9⟩)
 obtain ⟨n,hn⟩ : ∃ n,l.length = n:=⟨_,rfl⟩
 obtain ⟨c,hc⟩ : ∃ c,decideC s ref turn l now = c:=⟨_,rfl⟩
 have HC:=Lib.hid hc
 have HN:=Lib.hid hn
 have HTT:=Lib.hid hs
 rw [hs.1,hs.2.1,hs.2.2,hn] at FX
 rw [hc]
 clear hs h hb href hturn hnow hll nref nturn nnow nl hrow hcp hdd hok hu hi hmc hl hn hc
 have HCE : Hid (c = faultC s 1 now 22):=Lib.hid (by rw [← HC.out];unfold decideC;rw [if_pos HTT.out,if_pos HBV.out])
 have HBAD : Hid (∀ w,Fr (fun _=>False) W w → Calls Tryz.prog 54 #[.pointer (some ⟨xb,0,none⟩),.slice ao n cp] w fun e W'=>e = .returned (.bool true) ∧ Fr (fun _=>False) w W'):=Lib.hid (fun w hf=>by
  have:=bad_any T w xb xm s (HPF.out.fr0 hf) HINV.out.1 HINV.out.2.2.key (by have:=HLM.out;omega) (by have:=HLM.out;omega) ao cp l (HROW.out.1.fr hf (fun _ e=>e.elim)) HROW.out.2.1
  rw [HN.out,HBV.out] at this
  exact this)
 have p1 : ((2 : Int) != 2) = false:=rfl
 have p2 : (ref != ref) = false:=by simp
 have p3 : (turn != turn) = false:=by simp
 go_enter Tryz.func53,Tryz.ntmps53
 go_upto_region 1 with (fail)
 refine region_Z (fun w'=>Fr (fun _=>False) W w') 99 (Fr.drewN _ W 1) (fun hH=>?_)
 refine takes (b:=?_) [0,1,2,3,4,5,6,7,8,9,10,11,12,13,14,15,16,17,18,19,20,21] hH ?_ ?_
 rotate_left
 iterate 22 ((refine Sq.yes (v:=?_) rfl (by rfl) ?_ ?_;rotate_left;· (intro w' hw';obtain ⟨f0,f1,f2,f3,f4,f5,f6,f7⟩:=FX.out w' hw';go_simp;try with_reducible rfl));try simp only [lD,lE,lF,Act.put,lG,lH,lI])
 exact Sq.nil
 refine any_done ?_
 have HF1 : Hid (Fr (fun _=>False) W W.drew):=Lib.hid hH
 generalize W.drew = w1 at HF1 ⊢
 clear hH
 go_upto_region 3 with (fail)
 obtain ⟨_,_,_,_,_,_,f6,_⟩:=FX.out _ HF1.out
 go_wp2_with (first | (go_at_call 54;refine (HBAD.out _ HF1.out).mono ?_;rintro e w2 ⟨rfl,hf2⟩;have HF2:=Lib.hid (HF1.out.trans hf2);clear hf2 HBAD f6;obtain ⟨_,_,f2,_,_,_,f6,f7⟩:=FX.out _ HF2.out;skip) | (go_at_call 55;refine (faulty_any T w2 xb xm s (HPF.out.fr0 HF2.out) (by have:=HLM.out;omega) (by have:=HLM.out;omega) 1 now).mono ?_;rintro e w3 ⟨v,rfl,ho,hpf,hf3⟩) | go_in)
 go_ret2
 rw [HCE.out]
 exact ⟨v,rfl,ho.weak HF2.out.size,hpf,(HF2.out.mono fun _ e=>e.elim).trans hf3⟩
set_option maxRecDepth 100000 in
set_option maxHeartbeats 8000000 in
theorem decide_late (T : Nat → Prop) (W : World) (xb xm : Nat) (s : FSt) (h : PF T W xb xm s) (hmc : s.mc ≤ 40000) (hl : s.l.length ≤ 40000) (ref turn now : Int) (ao : Option Addr) (cp : Nat) (l : List Dv) (bref bturn bl bnow : Nat) (hturn : Blk W bturn 3 #[.int .i64 turn]) (nturn : ¬ T bturn) (href : Blk W bref 3 #[.int .i64 ref]) (nref : ¬ T bref) (hnow : Blk W bnow 3 #[.int .i64 now]) (nnow : ¬ T bnow) (hll : Blk W bl 37 #[.slice ao l.length cp]) (nl : ¬ T bl) (hrow : RowD T W ao l) (hcp : l.length ≤ cp) (hdd : ∀ x ∈ l,∀ u ∈ x.d,u.oneCell' = true) (hok : OpenOk s) (hu : UniqO s) (hi : IdOk s) (hs : s.task = 2 ∧ s.at_ = ref ∧ s.turn = turn) (hb1 : badS s l = false) (hlate : s.late = true) (hn0 : 0 < l.length) (he5 : endsB l = true) :
 Calls Tryz.prog 53 #[.pointer (some ⟨xb,0,none⟩),.pointer (some ⟨bref,0,none⟩),.pointer (some ⟨bturn,0,none⟩),.pointer (some ⟨bl,0,none⟩),.pointer (some ⟨bnow,0,none⟩)] W fun e W'=>ClX T W xb xm (decideC s ref turn l now) e W':=by
 have HBV:=Lib.hid hb1
 have HLT:=Lib.hid hlate
 have HE5:=Lib.hid he5
 have HPF:=Lib.hid h
 have HLM:=Lib.hid (And.intro hl hmc)
 have HNB:=Lib.hid (And.intro hnow (And.intro href (And.intro hturn hll)))
 have HNE:=Lib.hid (And.intro nnow (And.intro nref (And.intro nturn nl)))
 have HROW:=Lib.hid (And.intro hrow (And.intro hcp hdd))
 have HINV:=Lib.hid (And.intro hok (And.intro hu hi))
 obtain ⟨ao2,cp2,hb⟩:=h.blk
 have HB:=Lib.hid hb
 have FX : Hid (∀ w',Fr (fun _=>False) W w' → w'.cell? ⟨bref,0,none⟩ = some (.int .i64 ref) ∧ w'.cell? ⟨bturn,0,none⟩ = some (.int .i64 turn) ∧ w'.cell? ⟨bnow,0,none⟩ = some (.int .i64 now) ∧ w'.cell? ⟨xb,5,none⟩ = some (.int .i64 s.task) ∧ w'.cell? ⟨xb,6,none⟩ = some (.int .i64 s.at_) ∧ w'.cell? ⟨xb,8,none⟩ = some (.int .i64 s.turn) ∧ w'.cell? ⟨bl,0,none⟩ = some (.slice ao l.length cp) ∧ w'.cell? ⟨xb,9,none⟩ = some (.bool s.late)):=Lib.hid (fun w' hf=>⟨(href.fr hf id).cell 0,(hturn.fr hf id).cell 0,(hnow.fr hf id).cell 0,(hb.fr hf id).cell 5,(hb.fr hf id).cell 6,(hb.fr hf id).cell 8,(hll.fr hf id).cell 0,(hb.fr hf id).cell 9⟩)
 obtain ⟨n,hn⟩ : ∃ n,l.length = n:=⟨_,rfl⟩
 obtain ⟨c,hc⟩ : ∃ c,decideC s ref turn l now = c:=⟨_,rfl⟩
 have HC:=Lib.hid hc
 have HN:=Lib.hid hn
 have HTT:=Lib.hid hs
 rw [hs.1,hs.2.1,hs.2.2,hn] at FX
 rw [hlate] at FX
 rw [hn] at hn0
 rw [hc]
 clear hlate he5 hs h hb href hturn hnow hll nref nturn nnow nl hrow hcp hdd hok hu hi hmc hl hn hc
 have HCE : Hid (c = faultC s 2 now 23):=Lib.hid (by rw [← HC.out];unfold decideC;rw [if_pos HTT.out,if_neg (by rw [HBV.out];decide),if_pos ⟨HLT.out,HE5.out⟩])
 obtain ⟨x,hx⟩ : ∃ x,l[n - 1]? = some x:=⟨_,List.getElem?_eq_getElem (by have:=HN.out;omega)⟩
 have hex : endsB l = decide (5 ≤ x.k):=by
  unfold endsB
  rw [List.getLast?_eq_getElem?,HN.out,hx]
 obtain ⟨b,of,va,vc,hao,_,hcell⟩:=HROW.out.1.at_ hx
 obtain ⟨m,hm⟩ : ∃ m,n - 1 = m:=⟨_,rfl⟩
 have hn32 : n ≤ 32:=by have:=(decided_mid (now:=0) HINV.out.1 HINV.out.2.1 HINV.out.2.2 HBV.out).2;rw [HN.out] at this;exact this
 obtain ⟨kk,hkk⟩ : ∃ k,x.k = k:=⟨_,rfl⟩
 rw [hkk] at hex
 have HK5:=Lib.hid hex
 have HMN : Hid (n = m + 1):=Lib.hid (by omega)
 have hwm : wrap64 ((n : Int) - 1) = (m : Int):=by have:=HMN.out;clear hx hcell hao;rw [wrap64];omega
 have hm0 : (0 : Int) ≤ (m : Int) ∧ (m : Int) < (n : Int):=by have:=HMN.out;omega
 have hng : decide ((n : Int) > 0) = true:=decide_eq_true (by omega)
 have hng2 : decide (0 < n) = true:=decide_eq_true (by omega)
 have FL : Hid (∀ w',Fr (fun _=>False) W w' → w'.cell? ⟨b,of + m * 5,none⟩ = some (.int .i64 kk)):=Lib.hid (fun w' hf=>by
  have:=hcell w' hf 0 _ rfl
  rw [hm,hkk] at this
  exact this)
 subst hao
 clear hx hcell hm hkk hex hn0 hn32
 have p5 : decide (kk ≥ 5) = true:=by rw [← HE5.out,HK5.out]
 have p6 : decide (5 ≤ kk) = true:=p5
 have HBAD : Hid (∀ w,Fr (fun _=>False) W w → Calls Tryz.prog 54 #[.pointer (some ⟨xb,0,none⟩),.slice (some ⟨b,of,none⟩) n cp] w fun e W'=>e = .returned (.bool false) ∧ Fr (fun _=>False) w W'):=Lib.hid (fun w hf=>by
  have:=bad_any T w xb xm s (HPF.out.fr0 hf) HINV.out.1 HINV.out.2.2.key (by have:=HLM.out;omega) (by have:=HLM.out;omega) _ cp l (HROW.out.1.fr hf (fun _ e=>e.elim)) HROW.out.2.1
  rw [HN.out,HBV.out] at this
  exact this)
 have p1 : ((2 : Int) != 2) = false:=rfl
 have p2 : (ref != ref) = false:=by simp
 have p3 : (turn != turn) = false:=by simp
 go_enter Tryz.func53,Tryz.ntmps53
 go_upto_region 1 with (fail)
 refine region_Z (fun w'=>Fr (fun _=>False) W w') 99 (Fr.drewN _ W 1) (fun hH=>?_)
 refine takes (b:=?_) [0,1,2,3,4,5,6,7,8,9,10,11,12,13,14,15,16,17,18,19,20,21] hH ?_ ?_
 rotate_left
 iterate 22 ((refine Sq.yes (v:=?_) rfl (by rfl) ?_ ?_;rotate_left;· (intro w' hw';obtain ⟨f0,f1,f2,f3,f4,f5,f6,f7⟩:=FX.out w' hw';go_simp;try with_reducible rfl));try simp only [lD,lE,lF,Act.put,lG,lH,lI])
 exact Sq.nil
 refine any_done ?_
 have HF1 : Hid (Fr (fun _=>False) W W.drew):=Lib.hid hH
 generalize W.drew = w1 at HF1 ⊢
 clear hH
 go_upto_region 3 with (fail)
 obtain ⟨_,_,_,_,_,_,f6,_⟩:=FX.out _ HF1.out
 go_wp2_with (first | (go_at_call 54;refine (HBAD.out _ HF1.out).mono ?_;rintro e w2 ⟨rfl,hf2⟩;have HF2:=Lib.hid (HF1.out.trans hf2);clear hf2 HBAD f6;obtain ⟨_,_,f2,_,_,_,f6,f7⟩:=FX.out _ HF2.out;have f9:=FL.out _ HF2.out) | (go_at_call 55;refine (faulty_any T w2 xb xm s (HPF.out.fr0 HF2.out) (by have:=HLM.out;omega) (by have:=HLM.out;omega) 2 now).mono ?_;rintro e w3 ⟨v,rfl,ho,hpf,hf3⟩) | go_in)
 go_ret2
 rw [HCE.out]
 exact ⟨v,rfl,ho.weak HF2.out.size,hpf,(HF2.out.mono fun _ e=>e.elim).trans hf3⟩
set_option maxRecDepth 100000 in
set_option maxHeartbeats 8000000 in
theorem decide_fine_a (T : Nat → Prop) (W : World) (xb xm : Nat) (s : FSt) (h : PF T W xb xm s) (hmc : s.mc ≤ 40000) (hl : s.l.length ≤ 40000) (ref turn now : Int) (ao : Option Addr) (cp : Nat) (l : List Dv) (bref bturn bl bnow : Nat) (hturn : Blk W bturn 3 #[.int .i64 turn]) (nturn : ¬ T bturn) (href : Blk W bref 3 #[.int .i64 ref]) (nref : ¬ T bref) (hnow : Blk W bnow 3 #[.int .i64 now]) (nnow : ¬ T bnow) (hll : Blk W bl 37 #[.slice ao l.length cp]) (nl : ¬ T bl) (hrow : RowD T W ao l) (hcp : l.length ≤ cp) (hdd : ∀ x ∈ l,∀ u ∈ x.d,u.oneCell' = true) (hok : OpenOk s) (hu : UniqO s) (hi : IdOk s) (hs : s.task = 2 ∧ s.at_ = ref ∧ s.turn = turn) (hb1 : badS s l = false) (hlate : s.late = false) :
 Calls Tryz.prog 53 #[.pointer (some ⟨xb,0,none⟩),.pointer (some ⟨bref,0,none⟩),.pointer (some ⟨bturn,0,none⟩),.pointer (some ⟨bl,0,none⟩),.pointer (some ⟨bnow,0,none⟩)] W fun e W'=>ClX T W xb xm (decideC s ref turn l now) e W':=by
 have HBV:=Lib.hid hb1
 have HLT:=Lib.hid hlate
 have HPF:=Lib.hid h
 have HLM:=Lib.hid (And.intro hl hmc)
 have HNB:=Lib.hid (And.intro hnow (And.intro href (And.intro hturn hll)))
 have HNE:=Lib.hid (And.intro nnow (And.intro nref (And.intro nturn nl)))
 have HROW:=Lib.hid (And.intro hrow (And.intro hcp hdd))
 have HINV:=Lib.hid (And.intro hok (And.intro hu hi))
 obtain ⟨ao2,cp2,hb⟩:=h.blk
 have HB:=Lib.hid hb
 have FX : Hid (∀ w',Fr (fun _=>False) W w' → w'.cell? ⟨bref,0,none⟩ = some (.int .i64 ref) ∧ w'.cell? ⟨bturn,0,none⟩ = some (.int .i64 turn) ∧ w'.cell? ⟨bnow,0,none⟩ = some (.int .i64 now) ∧ w'.cell? ⟨xb,5,none⟩ = some (.int .i64 s.task) ∧ w'.cell? ⟨xb,6,none⟩ = some (.int .i64 s.at_) ∧ w'.cell? ⟨xb,8,none⟩ = some (.int .i64 s.turn) ∧ w'.cell? ⟨bl,0,none⟩ = some (.slice ao l.length cp) ∧ w'.cell? ⟨xb,9,none⟩ = some (.bool s.late)):=Lib.hid (fun w' hf=>⟨(href.fr hf id).cell 0,(hturn.fr hf id).cell 0,(hnow.fr hf id).cell 0,(hb.fr hf id).cell 5,(hb.fr hf id).cell 6,(hb.fr hf id).cell 8,(hll.fr hf id).cell 0,(hb.fr hf id).cell 9⟩)
 obtain ⟨n,hn⟩ : ∃ n,l.length = n:=⟨_,rfl⟩
 obtain ⟨c,hc⟩ : ∃ c,decideC s ref turn l now = c:=⟨_,rfl⟩
 have HC:=Lib.hid hc
 have HN:=Lib.hid hn
 have HTT:=Lib.hid hs
 rw [hs.1,hs.2.1,hs.2.2,hn] at FX
 rw [hlate] at FX
 rw [hc]
 clear hlate hs h hb href hturn hnow hll nref nturn nnow nl hrow hcp hdd hok hu hi hmc hl hn hc
 have HCE : Hid (c = fineC s l now):=Lib.hid (by rw [← HC.out];unfold decideC;rw [if_pos HTT.out,if_neg (by rw [HBV.out];decide),if_neg (by rw [HLT.out];rintro ⟨e,_⟩;cases e)])
 have HBAD : Hid (∀ w,Fr (fun _=>False) W w → Calls Tryz.prog 54 #[.pointer (some ⟨xb,0,none⟩),.slice ao n cp] w fun e W'=>e = .returned (.bool false) ∧ Fr (fun _=>False) w W'):=Lib.hid (fun w hf=>by
  have:=bad_any T w xb xm s (HPF.out.fr0 hf) HINV.out.1 HINV.out.2.2.key (by have:=HLM.out;omega) (by have:=HLM.out;omega) _ cp l (HROW.out.1.fr hf (fun _ e=>e.elim)) HROW.out.2.1
  rw [HN.out,HBV.out] at this
  exact this)
 have p1 : ((2 : Int) != 2) = false:=rfl
 have p2 : (ref != ref) = false:=by simp
 have p3 : (turn != turn) = false:=by simp
 go_enter Tryz.func53,Tryz.ntmps53
 go_upto_region 1 with (fail)
 refine region_Z (fun w'=>Fr (fun _=>False) W w') 99 (Fr.drewN _ W 1) (fun hH=>?_)
 refine takes (b:=?_) [0,1,2,3,4,5,6,7,8,9,10,11,12,13,14,15,16,17,18,19,20,21] hH ?_ ?_
 rotate_left
 iterate 22 ((refine Sq.yes (v:=?_) rfl (by rfl) ?_ ?_;rotate_left;· (intro w' hw';obtain ⟨f0,f1,f2,f3,f4,f5,f6,f7⟩:=FX.out w' hw';go_simp;try with_reducible rfl));try simp only [lD,lE,lF,Act.put,lG,lH,lI])
 exact Sq.nil
 refine any_done ?_
 have HF1 : Hid (Fr (fun _=>False) W W.drew):=Lib.hid hH
 generalize W.drew = w1 at HF1 ⊢
 clear hH
 go_upto_region 3 with (fail)
 obtain ⟨_,_,_,_,_,_,f6,_⟩:=FX.out _ HF1.out
 go_upto_region 7 with (first | (go_at_call 54;refine (HBAD.out _ HF1.out).mono ?_;rintro e w2 ⟨rfl,hf2⟩;have HF2:=Lib.hid (HF1.out.trans hf2);clear hf2 f6;obtain ⟨_,_,f2,_,_,_,f6,f7⟩:=FX.out _ HF2.out;skip) | go_in)
 have hfm:=HF2.out
 have HF2:=Lib.hid hfm
 clear hfm
 have HPUT : Hid (∀ w,Fr (fun _=>False) W w → Calls Tryz.prog 21 #[.pointer (some ⟨xb,0,none⟩),.agg #[.int .i64 4,.int .i64 now,.int .i64 s.bg,.int .i64 0,.int .i64 0,.int .i64 0,.slice none 0 0]] w fun e W'=>e = .returned (.int .i64 ((s.l.length : Int) + 1)) ∧ PF T W' xb xm (decided s now) ∧ Fr (fun q=>q = xb ∨ q = xm) w W'):=Lib.hid (fun w hf=>put_any T w xb xm s (HPF.out.fr0 hf) (by have:=HLM.out;omega) (by have:=HLM.out;omega) 4 now s.bg 0 0 0 none 0 0 [] (RowB.nil _ _) (by simp) (by simp) _ (by unfold PutP;simp [decided]))
 go_upto_region 8 with (fail)
 obtain ⟨_,_,g2,_⟩:=FX.out _ (HF2.out.trans (Fr.drewN _ w2 1))
 refine region_Z (fun w'=>w'.cell? ⟨bnow,0,none⟩ = some (.int .i64 now) ∧ w'.cell? ⟨xb,7,none⟩ = some (.int .i64 s.bg)) 99 ⟨g2,(HB.out.fr (HF2.out.trans (Fr.drewN _ w2 1)) id).cell 7⟩ (fun hH=>?_)
 refine takes (b:=?_) [0,1,2,3,4,5,6] hH ?_ ?_
 rotate_left
 iterate 7 ((refine Sq.yes (v:=?_) rfl (by rfl) ?_ ?_;rotate_left;· (intro w' hw';obtain ⟨f0,f1⟩:=hw';go_simp;try with_reducible rfl));try simp only [lD,lE,lF,Act.put,lG,lH,lI])
 exact Sq.nil
 refine any_op 7 rfl (fun K hK=>?_)
 go_simp
 refine (HPUT.out _ (HF2.out.trans (Fr.drewN _ w2 1))).mono ?_
 rintro e w3 ⟨rfl,hpf,hf3⟩
 have HPF3:=Lib.hid hpf
 have HTX : Hid (∀ q,(q = xb ∨ q = xm) → T q):=Lib.hid (fun q e=>e.elim (fun e=>e ▸ HPF.out.f) (fun e=>e ▸ HPF.out.m))
 have HF3 : Hid (Fr (fun q=>q = xb ∨ q = xm) W w3):=Lib.hid (((HF2.out.trans (Fr.drewN _ w2 1)).mono fun _ e=>e.elim).trans hf3)
 have FN : Hid (∀ w',Fr (fun q=>q = xb ∨ q = xm) W w' → w'.cell? ⟨bnow,0,none⟩ = some (.int .i64 now) ∧ w'.cell? ⟨bl,0,none⟩ = some (.slice ao n cp)):=Lib.hid (fun w' hf=>⟨(HNB.out.1.fr hf (fun e=>HNE.out.1 (HTX.out _ e))).cell 0,by
  have:=(HNB.out.2.2.2.fr hf (fun e=>HNE.out.2.2.2 (HTX.out _ e))).cell 0
  rw [HN.out] at this
  exact this⟩)
 refine hK.out _ _ ⟨(FN.out _ HF3.out).1,by
  obtain ⟨_,_,hb3⟩:=hpf.blk
  exact hb3.cell 7⟩ (fun hH2=>?_)
 clear hK K hpf hf3 g2
 try simp only [lD,lE,lF,Act.put,lG,lH,lI]
 refine any_done ?_
 have HMID : Hid (Mid (decided s now) l ∧ l.length ≤ 32):=Lib.hid (decided_mid HINV.out.1 HINV.out.2.1 HINV.out.2.2 HBV.out)
 obtain ⟨_,l3⟩:=FN.out _ HF3.out
 clear hH hH2 HPUT FX HBAD
 go_wp2_with fail
 go_loopw [9,78] (fun u9 kv wz=>∃ (q : Nat) (sq : FSt) (oq : List Ov),q ≤ n ∧ kv = .int .i64 q ∧ OwnO 47 wz W.heap.size u9 oq ∧ PF (fun k=>T k ∨ u9.ownBlock = some k) wz xb xm sq ∧ Mid sq (l.drop q) ∧ decFold now (decided s now) l = ((decFold now sq (l.drop q)).1,oq ++ (decFold now sq (l.drop q)).2) ∧ sq.mc ≤ s.mc + q ∧ sq.l.length = s.l.length + 1 + q ∧ oq.length ≤ q ∧ Fr (fun e=>e = xb ∨ e = xm) W wz) (fun u9 kv _=>n - (intOf kv).toNat)
 case atStart=>exact ⟨0,_,[],Nat.zero_le _,rfl,OwnO.nil _ _ _,HPF3.out.to (fun k _ e=>e.elim id (fun e=>nomatch e)) (.inl HPF.out.f) (.inl HPF.out.m) (fun k e=>e.elim (HPF3.out.lt k) (fun e=>nomatch e)),HMID.out.1,by rw [List.drop_zero,List.nil_append],Nat.le_refl _,by simp [decided],Nat.le_refl _,HF3.out⟩
 case round=>
  obtain ⟨q,sq,oq,hq,rfl,hown,hpf,hmid,hfold,hmc,hlen,hol,hfz⟩:=hrel
  have HQ:=Lib.hid hq
  have HOWN:=Lib.hid hown
  have HPQ:=Lib.hid hpf
  have HMQ:=Lib.hid hmid
  have HFO:=Lib.hid hfold
  have HCQ:=Lib.hid (And.intro hmc (And.intro hlen hol))
  have HFQ:=Lib.hid hfz
  have HQ32 : Hid (q ≤ 32):=Lib.hid (by have:=HMID.out.2;have:=HN.out;omega)
  clear hq hown hpf hmid hfold hmc hlen hol hfz l3
  by_cases hlt : q < n
  rotate_left
  ·have hqn : q = n:=by have:=HQ.out;omega
   have p0 : decide ((q : Int) < (n : Int)) = false:=decide_eq_false (by omega)
   have p0' : decide (q < n) = false:=decide_eq_false (by omega)
   have hdr : l.drop q = []:=List.drop_eq_nil_of_le (by rw [HN.out];omega)
   have HFE : Hid (decFold now (decided s now) l = (sq,oq)):=Lib.hid (by
    have:=HFO.out
    rw [hdr,decFold_nil,List.append_nil] at this
    exact this)
   have HPQT : Hid (PF T wr xb xm sq):=Lib.hid (HPQ.out.to (fun k _ e=>.inl e) HPF.out.f HPF.out.m (fun k e=>HPQ.out.lt k (.inl e)))
   subst hqn
   clear hlt hdr
   go_wp2
   go_ret2
   rw [HCE.out]
   have e1 : fineC s l now = (sq,oq,0):=by
    unfold fineC
    rw [HFE.out,if_neg (by rw [HLT.out];rintro ⟨e,_⟩;cases e)]
   rw [e1]
   exact ⟨u9,rfl,HOWN.out.outs,HPQT.out,HFQ.out⟩
  obtain ⟨x,hx⟩ : ∃ x,l[q]? = some x:=⟨_,List.getElem?_eq_getElem (by rw [HN.out];exact hlt)⟩
  have HDR : Hid (l.drop q = x :: l.drop (q + 1)):=Lib.hid (by
   rw [List.drop_eq_getElem_cons (by rw [HN.out];exact hlt)]
   have:=(List.getElem?_eq_some_iff.1 hx).2
   rw [this])
  have hmem : x ∈ l:=List.mem_of_getElem? hx
  obtain ⟨b,of,va,vc,hao,hdr,hcell⟩:=((HROW.out.1.to (S':=fun k=>T k ∨ u9.ownBlock = some k) (fun k hk e=>e.elim id (fun e=>by have:=(HOWN.out.lt e).1;omega))).fr HFQ.out (fun k e=>.inl (HTX.out k e))).at_ hx
  have HST : Hid (Mid (doneS sq x now) (l.drop (q + 1)) ∧ (doneS sq x now).mc ≤ sq.mc + 1 ∧ (doneS sq x now).l.length = sq.l.length + 1 ∧ 1 ≤ x.k ∧ x.k ≤ 8):=Lib.hid (by
   have:=HMQ.out
   rw [HDR.out] at this
   exact this.step)
  have HRB:=Lib.hid hdr
  have HXD : Hid (x.d.length ≤ 100000 ∧ ∀ u ∈ x.d,u.oneCell' = true):=Lib.hid ⟨by have:=HMQ.out.bad;rw [HDR.out] at this;unfold badL at this;rw [Bool.or_eq_false_iff] at this;exact mayD_len (wrongD_of this.1).1,HROW.out.2.2 x hmem⟩
  obtain ⟨dl,hdl⟩ : ∃ m,x.d.length = m:=⟨_,rfl⟩
  rw [hdl] at HRB hcell
  have HDO : Hid (∀ w,Fr (fun _=>False) wr w → Calls Tryz.prog 56 #[.pointer (some ⟨xb,0,none⟩),.agg #[.int .i64 x.k,.int .i64 x.i,.int .i64 x.l,.int .i64 x.n,.slice va dl vc],.int .i64 now] w fun e W'=>Meth (fun k=>T k ∨ u9.ownBlock = some k) w xb xm (doneS sq x now) (doneO sq x now) e W'):=Lib.hid (fun w hf=>done_any _ w xb xm sq (HPQ.out.fr0 hf) (by have:=HCQ.out;have:=HLM.out;have:=HQ32.out;omega) (by have:=HCQ.out;have:=HLM.out;have:=HQ32.out;omega) HMQ.out.ok HMQ.out.uniq x.k ⟨HST.out.2.2.2.1,HST.out.2.2.2.2⟩ x.i x.l x.n now va dl vc x.d (HRB.out.fr (hf.mono fun _ e=>e.elim)) HXD.out.1 HXD.out.2)
  have hq0 : (0 : Int) ≤ (q : Int) ∧ (q : Int) < (n : Int):=by omega
  have p0 : decide ((q : Int) < (n : Int)) = true:=decide_eq_true (by omega)
  have p0' : decide (q < n) = true:=decide_eq_true (by omega)
  have HQW : Hid (wrap64 ((q : Int) + 1) = ((q + 1 : Nat) : Int)):=Lib.hid (by have:=HQ32.out;rw [wrap64];omega)
  have HLT2:=Lib.hid hlt
  obtain rfl : ao = some ⟨b,of,none⟩:=hao
  have c0 : wr.cell? ⟨b,of + q * 5,none⟩ = some (.int .i64 x.k):=hcell wr (Fr.refl _ _) 0 _ rfl
  have c1 : wr.cell? ⟨b,of + q * 5 + 1,none⟩ = some (.int .i64 x.i):=hcell wr (Fr.refl _ _) 1 _ rfl
  have c2 : wr.cell? ⟨b,of + q * 5 + 2,none⟩ = some (.int .i64 x.l):=hcell wr (Fr.refl _ _) 2 _ rfl
  have c3 : wr.cell? ⟨b,of + q * 5 + 3,none⟩ = some (.int .i64 x.n):=hcell wr (Fr.refl _ _) 3 _ rfl
  have c4 : wr.cell? ⟨b,of + q * 5 + 4,none⟩ = some (.slice va dl vc):=hcell wr (Fr.refl _ _) 4 _ rfl
  clear hlt hx hmem hdr hcell hdl
  go_upto_region 13 with (fail)
  have hDB:=Blk.new wr 52 #[.int .i64 x.k,.int .i64 x.i,.int .i64 x.l,.int .i64 x.n,.slice va dl vc]
  have hf5 : Fr (fun _=>False) wr (wr.alloc (.cells #[.int .i64 x.k,.int .i64 x.i,.int .i64 x.l,.int .i64 x.n,.slice va dl vc] 52)):=Fr.alloc _ _ _
  obtain ⟨w5,hw5⟩ : ∃ w5,wr.alloc (.cells #[.int .i64 x.k,.int .i64 x.i,.int .i64 x.l,.int .i64 x.n,.slice va dl vc] 52) = w5:=⟨_,rfl⟩
  rw [hw5] at hDB hf5 ⊢
  obtain ⟨db,hdb⟩ : ∃ b,wr.heap.size = b:=⟨_,rfl⟩
  rw [hdb] at hDB ⊢
  have HF5:=Lib.hid hf5
  have HFW5 : Hid (Fr (fun e=>e = xb ∨ e = xm) W w5):=Lib.hid (HFQ.out.trans (hf5.mono fun _ e=>e.elim))
  obtain ⟨n5,_⟩:=FN.out _ HFW5.out
  have d0:=hDB.cell 0
  have d1:=hDB.cell 1
  have d2:=hDB.cell 2
  have d3:=hDB.cell 3
  have d4:=hDB.cell 4
  simp only [lA,lB,lC] at d0 d1 d2 d3 d4
  clear hw5 hdb hDB hf5 c0 c1 c2 c3 c4 p0 p0'
  go_wp2_with (first
   | (go_at_call 56;refine (HDO.out _ HF5.out).mono ?_;rintro e w6 ⟨vo,rfl,ho,hp6,hf6⟩
      obtain ⟨v',W',hrun,hown',hfa,hob⟩:=app_o infoO28 28 w6 W.heap.size w5.heap.size u9 vo oq (doneO sq x now) (Nat.le_trans HFW5.out.size hf6.size) (((HOWN.out.fr HF5.out (fun _ e=>e.elim)).fr hf6 (fun k e=>HPF.out.lt k (HTX.out k e)))) ho HFW5.out.size (fun k hk=>(Nat.lt_of_lt_of_le (HOWN.out.lt hk).2 HF5.out.size)) (by have:=HCQ.out;have:=HQ32.out;have:=doneO_len sq x now;omega)
      have HOB:=Lib.hid hob
      have HOWN':=Lib.hid hown'
      have HP6:=Lib.hid hp6
      have HF6:=Lib.hid hf6
      have HFA:=Lib.hid hfa
      clear ho hp6 hf6 hown' hfa hob HDO d0 d1 d2 d3 d4 n5)
   | (at_builtin;refine wpList_appRunV rfl _ _ _ rfl _ _ _ rfl rfl hrun ?_)
   | go_in)
  go_roundw
  case rel=>
   have hfin : Fr (fun e=>e = xb ∨ e = xm) W W':=by
    have h1:=HFW5.out.trans HF6.out
    exact ⟨HFA.out.os.trans h1.os,HFA.out.tape.trans h1.tape,HFA.out.output.trans h1.output,Nat.le_trans h1.size HFA.out.size,fun k hk hn=>(HFA.out.block k (Nat.lt_of_lt_of_le hk h1.size) (fun e=>by have:=(HOWN.out.lt e).1;omega)).trans (h1.block k hk hn)⟩
   refine ⟨q + 1,doneS sq x now,oq ++ doneO sq x now,HLT2.out,congrArg (Value.int .i64) HQW.out,HOWN'.out,?_,HST.out.1,?_,by have:=HCQ.out;have:=HST.out.2.1;omega,by have:=HCQ.out;have:=HST.out.2.2.1;omega,by have:=HCQ.out;have:=doneO_len sq x now;rw [List.length_append];omega,hfin⟩
   ·exact HP6.out.app HPF.out.f HPF.out.m HFA.out (fun k e=>HPF.out.lt k e) (fun k e=>(HOWN.out.lt e).1) HOB.out (fun k e=>(HOWN'.out.lt e).2)
   ·rw [HFO.out,HDR.out,decFold_cons,List.append_assoc]
  case measure=>rw [HQW.out];simp only [intOf];have:=HLT2.out;omega
set_option maxRecDepth 100000 in
set_option maxHeartbeats 8000000 in
theorem decide_fine_b (T : Nat → Prop) (W : World) (xb xm : Nat) (s : FSt) (h : PF T W xb xm s) (hmc : s.mc ≤ 40000) (hl : s.l.length ≤ 40000) (ref turn now : Int) (ao : Option Addr) (cp : Nat) (l : List Dv) (bref bturn bl bnow : Nat) (hturn : Blk W bturn 3 #[.int .i64 turn]) (nturn : ¬ T bturn) (href : Blk W bref 3 #[.int .i64 ref]) (nref : ¬ T bref) (hnow : Blk W bnow 3 #[.int .i64 now]) (nnow : ¬ T bnow) (hll : Blk W bl 37 #[.slice ao l.length cp]) (nl : ¬ T bl) (hrow : RowD T W ao l) (hcp : l.length ≤ cp) (hdd : ∀ x ∈ l,∀ u ∈ x.d,u.oneCell' = true) (hok : OpenOk s) (hu : UniqO s) (hi : IdOk s) (hs : s.task = 2 ∧ s.at_ = ref ∧ s.turn = turn) (hb1 : badS s l = false) (hlate : s.late = true) (hn0 : l.length = 0) :
 Calls Tryz.prog 53 #[.pointer (some ⟨xb,0,none⟩),.pointer (some ⟨bref,0,none⟩),.pointer (some ⟨bturn,0,none⟩),.pointer (some ⟨bl,0,none⟩),.pointer (some ⟨bnow,0,none⟩)] W fun e W'=>ClX T W xb xm (decideC s ref turn l now) e W':=by
 have HBV:=Lib.hid hb1
 have HLT:=Lib.hid hlate
 have HPF:=Lib.hid h
 have HLM:=Lib.hid (And.intro hl hmc)
 have HNB:=Lib.hid (And.intro hnow (And.intro href (And.intro hturn hll)))
 have HNE:=Lib.hid (And.intro nnow (And.intro nref (And.intro nturn nl)))
 have HROW:=Lib.hid (And.intro hrow (And.intro hcp hdd))
 have HINV:=Lib.hid (And.intro hok (And.intro hu hi))
 obtain ⟨ao2,cp2,hb⟩:=h.blk
 have HB:=Lib.hid hb
 have FX : Hid (∀ w',Fr (fun _=>False) W w' → w'.cell? ⟨bref,0,none⟩ = some (.int .i64 ref) ∧ w'.cell? ⟨bturn,0,none⟩ = some (.int .i64 turn) ∧ w'.cell? ⟨bnow,0,none⟩ = some (.int .i64 now) ∧ w'.cell? ⟨xb,5,none⟩ = some (.int .i64 s.task) ∧ w'.cell? ⟨xb,6,none⟩ = some (.int .i64 s.at_) ∧ w'.cell? ⟨xb,8,none⟩ = some (.int .i64 s.turn) ∧ w'.cell? ⟨bl,0,none⟩ = some (.slice ao l.length cp) ∧ w'.cell? ⟨xb,9,none⟩ = some (.bool s.late)):=Lib.hid (fun w' hf=>⟨(href.fr hf id).cell 0,(hturn.fr hf id).cell 0,(hnow.fr hf id).cell 0,(hb.fr hf id).cell 5,(hb.fr hf id).cell 6,(hb.fr hf id).cell 8,(hll.fr hf id).cell 0,(hb.fr hf id).cell 9⟩)
 obtain ⟨n,hn⟩ : ∃ n,l.length = n:=⟨_,rfl⟩
 obtain ⟨c,hc⟩ : ∃ c,decideC s ref turn l now = c:=⟨_,rfl⟩
 have HC:=Lib.hid hc
 have HN:=Lib.hid hn
 have HTT:=Lib.hid hs
 rw [hs.1,hs.2.1,hs.2.2,hn] at FX
 rw [hlate] at FX
 rw [hn] at hn0
 rw [hc]
 clear hlate hs h hb href hturn hnow hll nref nturn nnow nl hrow hcp hdd hok hu hi hmc hl hn hc
 have HCE : Hid (c = fineC s l now):=Lib.hid (by rw [← HC.out];unfold decideC;rw [if_pos HTT.out,if_neg (by rw [HBV.out];decide),if_neg (by rintro ⟨_,e⟩;unfold endsB at e;rw [List.length_eq_zero_iff.1 (HN.out.trans hn0)] at e;cases e)])
 have hng : decide ((n : Int) > 0) = false:=decide_eq_false (by omega)
 have hng2 : decide (0 < n) = false:=decide_eq_false (by omega)
 have HN0:=Lib.hid hn0
 clear hn0
 have HBAD : Hid (∀ w,Fr (fun _=>False) W w → Calls Tryz.prog 54 #[.pointer (some ⟨xb,0,none⟩),.slice ao n cp] w fun e W'=>e = .returned (.bool false) ∧ Fr (fun _=>False) w W'):=Lib.hid (fun w hf=>by
  have:=bad_any T w xb xm s (HPF.out.fr0 hf) HINV.out.1 HINV.out.2.2.key (by have:=HLM.out;omega) (by have:=HLM.out;omega) _ cp l (HROW.out.1.fr hf (fun _ e=>e.elim)) HROW.out.2.1
  rw [HN.out,HBV.out] at this
  exact this)
 have p1 : ((2 : Int) != 2) = false:=rfl
 have p2 : (ref != ref) = false:=by simp
 have p3 : (turn != turn) = false:=by simp
 go_enter Tryz.func53,Tryz.ntmps53
 go_upto_region 1 with (fail)
 refine region_Z (fun w'=>Fr (fun _=>False) W w') 99 (Fr.drewN _ W 1) (fun hH=>?_)
 refine takes (b:=?_) [0,1,2,3,4,5,6,7,8,9,10,11,12,13,14,15,16,17,18,19,20,21] hH ?_ ?_
 rotate_left
 iterate 22 ((refine Sq.yes (v:=?_) rfl (by rfl) ?_ ?_;rotate_left;· (intro w' hw';obtain ⟨f0,f1,f2,f3,f4,f5,f6,f7⟩:=FX.out w' hw';go_simp;try with_reducible rfl));try simp only [lD,lE,lF,Act.put,lG,lH,lI])
 exact Sq.nil
 refine any_done ?_
 have HF1 : Hid (Fr (fun _=>False) W W.drew):=Lib.hid hH
 generalize W.drew = w1 at HF1 ⊢
 clear hH
 go_upto_region 3 with (fail)
 obtain ⟨_,_,_,_,_,_,f6,_⟩:=FX.out _ HF1.out
 go_upto_region 7 with (first | (go_at_call 54;refine (HBAD.out _ HF1.out).mono ?_;rintro e w2 ⟨rfl,hf2⟩;have HF2:=Lib.hid (HF1.out.trans hf2);clear hf2 f6;obtain ⟨_,_,f2,_,_,_,f6,f7⟩:=FX.out _ HF2.out;skip) | go_in)
 have hfm:=HF2.out
 have HF2:=Lib.hid hfm
 clear hfm
 have HPUT : Hid (∀ w,Fr (fun _=>False) W w → Calls Tryz.prog 21 #[.pointer (some ⟨xb,0,none⟩),.agg #[.int .i64 4,.int .i64 now,.int .i64 s.bg,.int .i64 0,.int .i64 0,.int .i64 0,.slice none 0 0]] w fun e W'=>e = .returned (.int .i64 ((s.l.length : Int) + 1)) ∧ PF T W' xb xm (decided s now) ∧ Fr (fun q=>q = xb ∨ q = xm) w W'):=Lib.hid (fun w hf=>put_any T w xb xm s (HPF.out.fr0 hf) (by have:=HLM.out;omega) (by have:=HLM.out;omega) 4 now s.bg 0 0 0 none 0 0 [] (RowB.nil _ _) (by simp) (by simp) _ (by unfold PutP;simp [decided]))
 go_upto_region 8 with (fail)
 obtain ⟨_,_,g2,_⟩:=FX.out _ (HF2.out.trans (Fr.drewN _ w2 1))
 refine region_Z (fun w'=>w'.cell? ⟨bnow,0,none⟩ = some (.int .i64 now) ∧ w'.cell? ⟨xb,7,none⟩ = some (.int .i64 s.bg)) 99 ⟨g2,(HB.out.fr (HF2.out.trans (Fr.drewN _ w2 1)) id).cell 7⟩ (fun hH=>?_)
 refine takes (b:=?_) [0,1,2,3,4,5,6] hH ?_ ?_
 rotate_left
 iterate 7 ((refine Sq.yes (v:=?_) rfl (by rfl) ?_ ?_;rotate_left;· (intro w' hw';obtain ⟨f0,f1⟩:=hw';go_simp;try with_reducible rfl));try simp only [lD,lE,lF,Act.put,lG,lH,lI])
 exact Sq.nil
 refine any_op 7 rfl (fun K hK=>?_)
 go_simp
 refine (HPUT.out _ (HF2.out.trans (Fr.drewN _ w2 1))).mono ?_
 rintro e w3 ⟨rfl,hpf,hf3⟩
 have HPF3:=Lib.hid hpf
 have HTX : Hid (∀ q,(q = xb ∨ q = xm) → T q):=Lib.hid (fun q e=>e.elim (fun e=>e ▸ HPF.out.f) (fun e=>e ▸ HPF.out.m))
 have HF3 : Hid (Fr (fun q=>q = xb ∨ q = xm) W w3):=Lib.hid (((HF2.out.trans (Fr.drewN _ w2 1)).mono fun _ e=>e.elim).trans hf3)
 have FN : Hid (∀ w',Fr (fun q=>q = xb ∨ q = xm) W w' → w'.cell? ⟨bnow,0,none⟩ = some (.int .i64 now) ∧ w'.cell? ⟨bl,0,none⟩ = some (.slice ao n cp)):=Lib.hid (fun w' hf=>⟨(HNB.out.1.fr hf (fun e=>HNE.out.1 (HTX.out _ e))).cell 0,by
  have:=(HNB.out.2.2.2.fr hf (fun e=>HNE.out.2.2.2 (HTX.out _ e))).cell 0
  rw [HN.out] at this
  exact this⟩)
 refine hK.out _ _ ⟨(FN.out _ HF3.out).1,by
  obtain ⟨_,_,hb3⟩:=hpf.blk
  exact hb3.cell 7⟩ (fun hH2=>?_)
 clear hK K hpf hf3 g2
 try simp only [lD,lE,lF,Act.put,lG,lH,lI]
 refine any_done ?_
 have HMID : Hid (Mid (decided s now) l ∧ l.length ≤ 32):=Lib.hid (decided_mid HINV.out.1 HINV.out.2.1 HINV.out.2.2 HBV.out)
 obtain ⟨_,l3⟩:=FN.out _ HF3.out
 clear hH hH2 HPUT FX HBAD
 go_wp2_with fail
 go_loopw [9,78] (fun u9 kv wz=>∃ (q : Nat) (sq : FSt) (oq : List Ov),q ≤ n ∧ kv = .int .i64 q ∧ OwnO 47 wz W.heap.size u9 oq ∧ PF (fun k=>T k ∨ u9.ownBlock = some k) wz xb xm sq ∧ Mid sq (l.drop q) ∧ decFold now (decided s now) l = ((decFold now sq (l.drop q)).1,oq ++ (decFold now sq (l.drop q)).2) ∧ sq.mc ≤ s.mc + q ∧ sq.l.length = s.l.length + 1 + q ∧ oq.length ≤ q ∧ Fr (fun e=>e = xb ∨ e = xm) W wz) (fun u9 kv _=>n - (intOf kv).toNat)
 case atStart=>exact ⟨0,_,[],Nat.zero_le _,rfl,OwnO.nil _ _ _,HPF3.out.to (fun k _ e=>e.elim id (fun e=>nomatch e)) (.inl HPF.out.f) (.inl HPF.out.m) (fun k e=>e.elim (HPF3.out.lt k) (fun e=>nomatch e)),HMID.out.1,by rw [List.drop_zero,List.nil_append],Nat.le_refl _,by simp [decided],Nat.le_refl _,HF3.out⟩
 case round=>
  obtain ⟨q,sq,oq,hq,rfl,hown,hpf,hmid,hfold,hmc,hlen,hol,hfz⟩:=hrel
  have HQ:=Lib.hid hq
  have HOWN:=Lib.hid hown
  have HPQ:=Lib.hid hpf
  have HMQ:=Lib.hid hmid
  have HFO:=Lib.hid hfold
  have HCQ:=Lib.hid (And.intro hmc (And.intro hlen hol))
  have HFQ:=Lib.hid hfz
  have HQ32 : Hid (q ≤ 32):=Lib.hid (by have:=HMID.out.2;have:=HN.out;omega)
  clear hq hown hpf hmid hfold hmc hlen hol hfz l3
  by_cases hlt : q < n
  rotate_left
  ·have hqn : q = n:=by have:=HQ.out;omega
   have p0 : decide ((q : Int) < (n : Int)) = false:=decide_eq_false (by omega)
   have p0' : decide (q < n) = false:=decide_eq_false (by omega)
   have hdr : l.drop q = []:=List.drop_eq_nil_of_le (by rw [HN.out];omega)
   have HFE : Hid (decFold now (decided s now) l = (sq,oq)):=Lib.hid (by
    have:=HFO.out
    rw [hdr,decFold_nil,List.append_nil] at this
    exact this)
   have HPQT : Hid (PF T wr xb xm sq):=Lib.hid (HPQ.out.to (fun k _ e=>.inl e) HPF.out.f HPF.out.m (fun k e=>HPQ.out.lt k (.inl e)))
   subst hqn
   clear hlt hdr
   have HSTAT:=status_any T wr xb xm sq HPQT.out.fl
   obtain ⟨z,hz⟩ : ∃ z,statusK sq.l = z:=⟨_,rfl⟩
   rw [hz] at HSTAT
   have HSTA:=Lib.hid HSTAT
   clear HSTAT
   by_cases hst : z = 1
   rotate_left
   ·have p7 : (z == 1) = false:=by simp [hst]
    have e1 : Hid (fineC s l now = (sq,oq,0)):=Lib.hid (by
     unfold fineC
     rw [HFE.out,if_neg]
     rintro ⟨_,e⟩
     exact hst (hz.symm.trans e))
    clear hst hz
    go_wp2_with (first | (go_at_call 15;refine HSTA.out.mono ?_;rintro e w9 ⟨rfl,rfl⟩) | go_in)
    go_ret2
    rw [HCE.out,e1.out]
    exact ⟨u9,rfl,HOWN.out.outs,HPQT.out,HFQ.out⟩
   subst hst
   have e1 : Hid (fineC s l now = (sched sq now,oq ++ [⟨1,sq.list,(sq.l.length : Int) + 1,sq.turn,0,0,0,[]⟩],0)):=Lib.hid (by
    unfold fineC
    rw [HFE.out,if_pos ⟨HLT.out,hz⟩])
   obtain ⟨n9,_⟩:=FN.out _ HFQ.out
   have HSC:=Lib.hid (sched_any _ wr xb xm sq HPQ.out (by have:=HCQ.out;have:=HLM.out;have:=HQ32.out;omega) (by have:=HCQ.out;have:=HLM.out;have:=HQ32.out;omega) now)
   clear hz
   go_wp2_with (first
    | (go_at_call 15;refine HSTA.out.mono ?_;rintro e w9 ⟨rfl,rfl⟩)
    | (go_at_call 22;refine HSC.out.mono ?_;rintro e w6 ⟨vo,rfl,ho,hp6,hf6⟩
       obtain ⟨v',W',hrun,hown',hfa,hob⟩:=app_o infoO28 28 w6 W.heap.size wr.heap.size u9 vo oq _ (Nat.le_trans HFQ.out.size hf6.size) (HOWN.out.fr hf6 (fun k e=>HPF.out.lt k (HTX.out k e))) ho HFQ.out.size (fun k hk=>(HOWN.out.lt hk).2) (by have:=HCQ.out;have:=HQ32.out;simp only [List.length_cons,List.length_nil];omega)
       have HOB:=Lib.hid hob
       have HOWN':=Lib.hid hown'
       have HP6:=Lib.hid hp6
       have HF6:=Lib.hid hf6
       have HFA:=Lib.hid hfa
       clear ho hp6 hf6 hown' hfa hob n9)
    | (at_builtin;refine wpList_appRunV rfl _ _ _ rfl _ _ _ rfl rfl hrun ?_)
    | go_in)
   go_ret2
   rw [HCE.out,e1.out]
   have hfin : Fr (fun e=>e = xb ∨ e = xm) W W':=by
    have h1:=HFQ.out.trans HF6.out
    exact ⟨HFA.out.os.trans h1.os,HFA.out.tape.trans h1.tape,HFA.out.output.trans h1.output,Nat.le_trans h1.size HFA.out.size,fun k hk hn=>(HFA.out.block k (Nat.lt_of_lt_of_le hk h1.size) (fun e=>by have:=(HOWN.out.lt e).1;omega)).trans (h1.block k hk hn)⟩
   have hp:=HP6.out.app HPF.out.f HPF.out.m HFA.out (fun k e=>HPF.out.lt k e) (fun k e=>(HOWN.out.lt e).1) HOB.out (fun k e=>(HOWN'.out.lt e).2)
   exact ⟨v',rfl,HOWN'.out.outs,hp.to (fun k _ e=>.inl e) HPF.out.f HPF.out.m (fun k e=>hp.lt k (.inl e)),hfin⟩
  exact absurd hlt (by have:=HN0.out;omega)
set_option maxRecDepth 100000 in
set_option maxHeartbeats 8000000 in
theorem decide_fine_c (T : Nat → Prop) (W : World) (xb xm : Nat) (s : FSt) (h : PF T W xb xm s) (hmc : s.mc ≤ 40000) (hl : s.l.length ≤ 40000) (ref turn now : Int) (ao : Option Addr) (cp : Nat) (l : List Dv) (bref bturn bl bnow : Nat) (hturn : Blk W bturn 3 #[.int .i64 turn]) (nturn : ¬ T bturn) (href : Blk W bref 3 #[.int .i64 ref]) (nref : ¬ T bref) (hnow : Blk W bnow 3 #[.int .i64 now]) (nnow : ¬ T bnow) (hll : Blk W bl 37 #[.slice ao l.length cp]) (nl : ¬ T bl) (hrow : RowD T W ao l) (hcp : l.length ≤ cp) (hdd : ∀ x ∈ l,∀ u ∈ x.d,u.oneCell' = true) (hok : OpenOk s) (hu : UniqO s) (hi : IdOk s) (hs : s.task = 2 ∧ s.at_ = ref ∧ s.turn = turn) (hb1 : badS s l = false) (hlate : s.late = true) (hn0 : 0 < l.length) (he5 : endsB l = false) :
 Calls Tryz.prog 53 #[.pointer (some ⟨xb,0,none⟩),.pointer (some ⟨bref,0,none⟩),.pointer (some ⟨bturn,0,none⟩),.pointer (some ⟨bl,0,none⟩),.pointer (some ⟨bnow,0,none⟩)] W fun e W'=>ClX T W xb xm (decideC s ref turn l now) e W':=by
 have HBV:=Lib.hid hb1
 have HLT:=Lib.hid hlate
 have HE5:=Lib.hid he5
 have HPF:=Lib.hid h
 have HLM:=Lib.hid (And.intro hl hmc)
 have HNB:=Lib.hid (And.intro hnow (And.intro href (And.intro hturn hll)))
 have HNE:=Lib.hid (And.intro nnow (And.intro nref (And.intro nturn nl)))
 have HROW:=Lib.hid (And.intro hrow (And.intro hcp hdd))
 have HINV:=Lib.hid (And.intro hok (And.intro hu hi))
 obtain ⟨ao2,cp2,hb⟩:=h.blk
 have HB:=Lib.hid hb
 have FX : Hid (∀ w',Fr (fun _=>False) W w' → w'.cell? ⟨bref,0,none⟩ = some (.int .i64 ref) ∧ w'.cell? ⟨bturn,0,none⟩ = some (.int .i64 turn) ∧ w'.cell? ⟨bnow,0,none⟩ = some (.int .i64 now) ∧ w'.cell? ⟨xb,5,none⟩ = some (.int .i64 s.task) ∧ w'.cell? ⟨xb,6,none⟩ = some (.int .i64 s.at_) ∧ w'.cell? ⟨xb,8,none⟩ = some (.int .i64 s.turn) ∧ w'.cell? ⟨bl,0,none⟩ = some (.slice ao l.length cp) ∧ w'.cell? ⟨xb,9,none⟩ = some (.bool s.late)):=Lib.hid (fun w' hf=>⟨(href.fr hf id).cell 0,(hturn.fr hf id).cell 0,(hnow.fr hf id).cell 0,(hb.fr hf id).cell 5,(hb.fr hf id).cell 6,(hb.fr hf id).cell 8,(hll.fr hf id).cell 0,(hb.fr hf id).cell 9⟩)
 obtain ⟨n,hn⟩ : ∃ n,l.length = n:=⟨_,rfl⟩
 obtain ⟨c,hc⟩ : ∃ c,decideC s ref turn l now = c:=⟨_,rfl⟩
 have HC:=Lib.hid hc
 have HN:=Lib.hid hn
 have HTT:=Lib.hid hs
 rw [hs.1,hs.2.1,hs.2.2,hn] at FX
 rw [hlate] at FX
 rw [hn] at hn0
 rw [hc]
 clear hlate he5 hs h hb href hturn hnow hll nref nturn nnow nl hrow hcp hdd hok hu hi hmc hl hn hc
 have HCE : Hid (c = fineC s l now):=Lib.hid (by rw [← HC.out];unfold decideC;rw [if_pos HTT.out,if_neg (by rw [HBV.out];decide),if_neg (by rw [HE5.out];rintro ⟨_,e⟩;cases e)])
 obtain ⟨x,hx⟩ : ∃ x,l[n - 1]? = some x:=⟨_,List.getElem?_eq_getElem (by have:=HN.out;omega)⟩
 have hex : endsB l = decide (5 ≤ x.k):=by
  unfold endsB
  rw [List.getLast?_eq_getElem?,HN.out,hx]
 obtain ⟨b,of,va,vc,hao,_,hcell⟩:=HROW.out.1.at_ hx
 obtain ⟨m,hm⟩ : ∃ m,n - 1 = m:=⟨_,rfl⟩
 have hn32 : n ≤ 32:=by have:=(decided_mid (now:=0) HINV.out.1 HINV.out.2.1 HINV.out.2.2 HBV.out).2;rw [HN.out] at this;exact this
 obtain ⟨kk,hkk⟩ : ∃ k,x.k = k:=⟨_,rfl⟩
 rw [hkk] at hex
 have HK5:=Lib.hid hex
 have HMN : Hid (n = m + 1):=Lib.hid (by omega)
 have hwm : wrap64 ((n : Int) - 1) = (m : Int):=by have:=HMN.out;clear hx hcell hao;rw [wrap64];omega
 have hm0 : (0 : Int) ≤ (m : Int) ∧ (m : Int) < (n : Int):=by have:=HMN.out;omega
 have hng : decide ((n : Int) > 0) = true:=decide_eq_true (by omega)
 have hng2 : decide (0 < n) = true:=decide_eq_true (by omega)
 have FL : Hid (∀ w',Fr (fun _=>False) W w' → w'.cell? ⟨b,of + m * 5,none⟩ = some (.int .i64 kk)):=Lib.hid (fun w' hf=>by
  have:=hcell w' hf 0 _ rfl
  rw [hm,hkk] at this
  exact this)
 subst hao
 clear hx hcell hm hkk hex hn0 hn32
 have p5 : decide (kk ≥ 5) = false:=by rw [← HE5.out,HK5.out]
 have p6 : decide (5 ≤ kk) = false:=p5
 have HBAD : Hid (∀ w,Fr (fun _=>False) W w → Calls Tryz.prog 54 #[.pointer (some ⟨xb,0,none⟩),.slice (some ⟨b,of,none⟩) n cp] w fun e W'=>e = .returned (.bool false) ∧ Fr (fun _=>False) w W'):=Lib.hid (fun w hf=>by
  have:=bad_any T w xb xm s (HPF.out.fr0 hf) HINV.out.1 HINV.out.2.2.key (by have:=HLM.out;omega) (by have:=HLM.out;omega) _ cp l (HROW.out.1.fr hf (fun _ e=>e.elim)) HROW.out.2.1
  rw [HN.out,HBV.out] at this
  exact this)
 have p1 : ((2 : Int) != 2) = false:=rfl
 have p2 : (ref != ref) = false:=by simp
 have p3 : (turn != turn) = false:=by simp
 go_enter Tryz.func53,Tryz.ntmps53
 go_upto_region 1 with (fail)
 refine region_Z (fun w'=>Fr (fun _=>False) W w') 99 (Fr.drewN _ W 1) (fun hH=>?_)
 refine takes (b:=?_) [0,1,2,3,4,5,6,7,8,9,10,11,12,13,14,15,16,17,18,19,20,21] hH ?_ ?_
 rotate_left
 iterate 22 ((refine Sq.yes (v:=?_) rfl (by rfl) ?_ ?_;rotate_left;· (intro w' hw';obtain ⟨f0,f1,f2,f3,f4,f5,f6,f7⟩:=FX.out w' hw';go_simp;try with_reducible rfl));try simp only [lD,lE,lF,Act.put,lG,lH,lI])
 exact Sq.nil
 refine any_done ?_
 have HF1 : Hid (Fr (fun _=>False) W W.drew):=Lib.hid hH
 generalize W.drew = w1 at HF1 ⊢
 clear hH
 go_upto_region 3 with (fail)
 obtain ⟨_,_,_,_,_,_,f6,_⟩:=FX.out _ HF1.out
 go_upto_region 7 with (first | (go_at_call 54;refine (HBAD.out _ HF1.out).mono ?_;rintro e w2 ⟨rfl,hf2⟩;have HF2:=Lib.hid (HF1.out.trans hf2);clear hf2 f6;obtain ⟨_,_,f2,_,_,_,f6,f7⟩:=FX.out _ HF2.out;have f9:=FL.out _ HF2.out) | go_in)
 have hfm:=HF2.out
 have HF2:=Lib.hid hfm
 clear hfm
 have HPUT : Hid (∀ w,Fr (fun _=>False) W w → Calls Tryz.prog 21 #[.pointer (some ⟨xb,0,none⟩),.agg #[.int .i64 4,.int .i64 now,.int .i64 s.bg,.int .i64 0,.int .i64 0,.int .i64 0,.slice none 0 0]] w fun e W'=>e = .returned (.int .i64 ((s.l.length : Int) + 1)) ∧ PF T W' xb xm (decided s now) ∧ Fr (fun q=>q = xb ∨ q = xm) w W'):=Lib.hid (fun w hf=>put_any T w xb xm s (HPF.out.fr0 hf) (by have:=HLM.out;omega) (by have:=HLM.out;omega) 4 now s.bg 0 0 0 none 0 0 [] (RowB.nil _ _) (by simp) (by simp) _ (by unfold PutP;simp [decided]))
 go_upto_region 8 with (fail)
 obtain ⟨_,_,g2,_⟩:=FX.out _ (HF2.out.trans (Fr.drewN _ w2 1))
 refine region_Z (fun w'=>w'.cell? ⟨bnow,0,none⟩ = some (.int .i64 now) ∧ w'.cell? ⟨xb,7,none⟩ = some (.int .i64 s.bg)) 99 ⟨g2,(HB.out.fr (HF2.out.trans (Fr.drewN _ w2 1)) id).cell 7⟩ (fun hH=>?_)
 refine takes (b:=?_) [0,1,2,3,4,5,6] hH ?_ ?_
 rotate_left
 iterate 7 ((refine Sq.yes (v:=?_) rfl (by rfl) ?_ ?_;rotate_left;· (intro w' hw';obtain ⟨f0,f1⟩:=hw';go_simp;try with_reducible rfl));try simp only [lD,lE,lF,Act.put,lG,lH,lI])
 exact Sq.nil
 refine any_op 7 rfl (fun K hK=>?_)
 go_simp
 refine (HPUT.out _ (HF2.out.trans (Fr.drewN _ w2 1))).mono ?_
 rintro e w3 ⟨rfl,hpf,hf3⟩
 have HPF3:=Lib.hid hpf
 have HTX : Hid (∀ q,(q = xb ∨ q = xm) → T q):=Lib.hid (fun q e=>e.elim (fun e=>e ▸ HPF.out.f) (fun e=>e ▸ HPF.out.m))
 have HF3 : Hid (Fr (fun q=>q = xb ∨ q = xm) W w3):=Lib.hid (((HF2.out.trans (Fr.drewN _ w2 1)).mono fun _ e=>e.elim).trans hf3)
 have FN : Hid (∀ w',Fr (fun q=>q = xb ∨ q = xm) W w' → w'.cell? ⟨bnow,0,none⟩ = some (.int .i64 now) ∧ w'.cell? ⟨bl,0,none⟩ = some (.slice (some ⟨b,of,none⟩) n cp)):=Lib.hid (fun w' hf=>⟨(HNB.out.1.fr hf (fun e=>HNE.out.1 (HTX.out _ e))).cell 0,by
  have:=(HNB.out.2.2.2.fr hf (fun e=>HNE.out.2.2.2 (HTX.out _ e))).cell 0
  rw [HN.out] at this
  exact this⟩)
 refine hK.out _ _ ⟨(FN.out _ HF3.out).1,by
  obtain ⟨_,_,hb3⟩:=hpf.blk
  exact hb3.cell 7⟩ (fun hH2=>?_)
 clear hK K hpf hf3 g2
 try simp only [lD,lE,lF,Act.put,lG,lH,lI]
 refine any_done ?_
 have HMID : Hid (Mid (decided s now) l ∧ l.length ≤ 32):=Lib.hid (decided_mid HINV.out.1 HINV.out.2.1 HINV.out.2.2 HBV.out)
 obtain ⟨_,l3⟩:=FN.out _ HF3.out
 clear hH hH2 HPUT FX HBAD
 go_wp2_with fail
 go_loopw [9,78] (fun u9 kv wz=>∃ (q : Nat) (sq : FSt) (oq : List Ov),q ≤ n ∧ kv = .int .i64 q ∧ OwnO 47 wz W.heap.size u9 oq ∧ PF (fun k=>T k ∨ u9.ownBlock = some k) wz xb xm sq ∧ Mid sq (l.drop q) ∧ decFold now (decided s now) l = ((decFold now sq (l.drop q)).1,oq ++ (decFold now sq (l.drop q)).2) ∧ sq.mc ≤ s.mc + q ∧ sq.l.length = s.l.length + 1 + q ∧ oq.length ≤ q ∧ Fr (fun e=>e = xb ∨ e = xm) W wz) (fun u9 kv _=>n - (intOf kv).toNat)
 case atStart=>exact ⟨0,_,[],Nat.zero_le _,rfl,OwnO.nil _ _ _,HPF3.out.to (fun k _ e=>e.elim id (fun e=>nomatch e)) (.inl HPF.out.f) (.inl HPF.out.m) (fun k e=>e.elim (HPF3.out.lt k) (fun e=>nomatch e)),HMID.out.1,by rw [List.drop_zero,List.nil_append],Nat.le_refl _,by simp [decided],Nat.le_refl _,HF3.out⟩
 case round=>
  obtain ⟨q,sq,oq,hq,rfl,hown,hpf,hmid,hfold,hmc,hlen,hol,hfz⟩:=hrel
  have HQ:=Lib.hid hq
  have HOWN:=Lib.hid hown
  have HPQ:=Lib.hid hpf
  have HMQ:=Lib.hid hmid
  have HFO:=Lib.hid hfold
  have HCQ:=Lib.hid (And.intro hmc (And.intro hlen hol))
  have HFQ:=Lib.hid hfz
  have HQ32 : Hid (q ≤ 32):=Lib.hid (by have:=HMID.out.2;have:=HN.out;omega)
  clear hq hown hpf hmid hfold hmc hlen hol hfz l3
  by_cases hlt : q < n
  rotate_left
  ·have hqn : q = n:=by have:=HQ.out;omega
   have p0 : decide ((q : Int) < (n : Int)) = false:=decide_eq_false (by omega)
   have p0' : decide (q < n) = false:=decide_eq_false (by omega)
   have hdr : l.drop q = []:=List.drop_eq_nil_of_le (by rw [HN.out];omega)
   have HFE : Hid (decFold now (decided s now) l = (sq,oq)):=Lib.hid (by
    have:=HFO.out
    rw [hdr,decFold_nil,List.append_nil] at this
    exact this)
   have HPQT : Hid (PF T wr xb xm sq):=Lib.hid (HPQ.out.to (fun k _ e=>.inl e) HPF.out.f HPF.out.m (fun k e=>HPQ.out.lt k (.inl e)))
   subst hqn
   clear hlt hdr
   have HSTAT:=status_any T wr xb xm sq HPQT.out.fl
   obtain ⟨z,hz⟩ : ∃ z,statusK sq.l = z:=⟨_,rfl⟩
   rw [hz] at HSTAT
   have HSTA:=Lib.hid HSTAT
   clear HSTAT
   by_cases hst : z = 1
   rotate_left
   ·have p7 : (z == 1) = false:=by simp [hst]
    have e1 : Hid (fineC s l now = (sq,oq,0)):=Lib.hid (by
     unfold fineC
     rw [HFE.out,if_neg]
     rintro ⟨_,e⟩
     exact hst (hz.symm.trans e))
    clear hst hz
    go_wp2_with (first | (go_at_call 15;refine HSTA.out.mono ?_;rintro e w9 ⟨rfl,rfl⟩) | go_in)
    go_ret2
    rw [HCE.out,e1.out]
    exact ⟨u9,rfl,HOWN.out.outs,HPQT.out,HFQ.out⟩
   subst hst
   have e1 : Hid (fineC s l now = (sched sq now,oq ++ [⟨1,sq.list,(sq.l.length : Int) + 1,sq.turn,0,0,0,[]⟩],0)):=Lib.hid (by
    unfold fineC
    rw [HFE.out,if_pos ⟨HLT.out,hz⟩])
   obtain ⟨n9,_⟩:=FN.out _ HFQ.out
   have HSC:=Lib.hid (sched_any _ wr xb xm sq HPQ.out (by have:=HCQ.out;have:=HLM.out;have:=HQ32.out;omega) (by have:=HCQ.out;have:=HLM.out;have:=HQ32.out;omega) now)
   clear hz
   go_wp2_with (first
    | (go_at_call 15;refine HSTA.out.mono ?_;rintro e w9 ⟨rfl,rfl⟩)
    | (go_at_call 22;refine HSC.out.mono ?_;rintro e w6 ⟨vo,rfl,ho,hp6,hf6⟩
       obtain ⟨v',W',hrun,hown',hfa,hob⟩:=app_o infoO28 28 w6 W.heap.size wr.heap.size u9 vo oq _ (Nat.le_trans HFQ.out.size hf6.size) (HOWN.out.fr hf6 (fun k e=>HPF.out.lt k (HTX.out k e))) ho HFQ.out.size (fun k hk=>(HOWN.out.lt hk).2) (by have:=HCQ.out;have:=HQ32.out;simp only [List.length_cons,List.length_nil];omega)
       have HOB:=Lib.hid hob
       have HOWN':=Lib.hid hown'
       have HP6:=Lib.hid hp6
       have HF6:=Lib.hid hf6
       have HFA:=Lib.hid hfa
       clear ho hp6 hf6 hown' hfa hob n9)
    | (at_builtin;refine wpList_appRunV rfl _ _ _ rfl _ _ _ rfl rfl hrun ?_)
    | go_in)
   go_ret2
   rw [HCE.out,e1.out]
   have hfin : Fr (fun e=>e = xb ∨ e = xm) W W':=by
    have h1:=HFQ.out.trans HF6.out
    exact ⟨HFA.out.os.trans h1.os,HFA.out.tape.trans h1.tape,HFA.out.output.trans h1.output,Nat.le_trans h1.size HFA.out.size,fun k hk hn=>(HFA.out.block k (Nat.lt_of_lt_of_le hk h1.size) (fun e=>by have:=(HOWN.out.lt e).1;omega)).trans (h1.block k hk hn)⟩
   have hp:=HP6.out.app HPF.out.f HPF.out.m HFA.out (fun k e=>HPF.out.lt k e) (fun k e=>(HOWN.out.lt e).1) HOB.out (fun k e=>(HOWN'.out.lt e).2)
   exact ⟨v',rfl,HOWN'.out.outs,hp.to (fun k _ e=>.inl e) HPF.out.f HPF.out.m (fun k e=>hp.lt k (.inl e)),hfin⟩
  obtain ⟨x,hx⟩ : ∃ x,l[q]? = some x:=⟨_,List.getElem?_eq_getElem (by rw [HN.out];exact hlt)⟩
  have HDR : Hid (l.drop q = x :: l.drop (q + 1)):=Lib.hid (by
   rw [List.drop_eq_getElem_cons (by rw [HN.out];exact hlt)]
   have:=(List.getElem?_eq_some_iff.1 hx).2
   rw [this])
  have hmem : x ∈ l:=List.mem_of_getElem? hx
  obtain ⟨b',of',va,vc,hao,hdr,hcell⟩:=((HROW.out.1.to (S':=fun k=>T k ∨ u9.ownBlock = some k) (fun k hk e=>e.elim id (fun e=>by have:=(HOWN.out.lt e).1;omega))).fr HFQ.out (fun k e=>.inl (HTX.out k e))).at_ hx
  have HST : Hid (Mid (doneS sq x now) (l.drop (q + 1)) ∧ (doneS sq x now).mc ≤ sq.mc + 1 ∧ (doneS sq x now).l.length = sq.l.length + 1 ∧ 1 ≤ x.k ∧ x.k ≤ 8):=Lib.hid (by
   have:=HMQ.out
   rw [HDR.out] at this
   exact this.step)
  have HRB:=Lib.hid hdr
  have HXD : Hid (x.d.length ≤ 100000 ∧ ∀ u ∈ x.d,u.oneCell' = true):=Lib.hid ⟨by have:=HMQ.out.bad;rw [HDR.out] at this;unfold badL at this;rw [Bool.or_eq_false_iff] at this;exact mayD_len (wrongD_of this.1).1,HROW.out.2.2 x hmem⟩
  obtain ⟨dl,hdl⟩ : ∃ m,x.d.length = m:=⟨_,rfl⟩
  rw [hdl] at HRB hcell
  have HDO : Hid (∀ w,Fr (fun _=>False) wr w → Calls Tryz.prog 56 #[.pointer (some ⟨xb,0,none⟩),.agg #[.int .i64 x.k,.int .i64 x.i,.int .i64 x.l,.int .i64 x.n,.slice va dl vc],.int .i64 now] w fun e W'=>Meth (fun k=>T k ∨ u9.ownBlock = some k) w xb xm (doneS sq x now) (doneO sq x now) e W'):=Lib.hid (fun w hf=>done_any _ w xb xm sq (HPQ.out.fr0 hf) (by have:=HCQ.out;have:=HLM.out;have:=HQ32.out;omega) (by have:=HCQ.out;have:=HLM.out;have:=HQ32.out;omega) HMQ.out.ok HMQ.out.uniq x.k ⟨HST.out.2.2.2.1,HST.out.2.2.2.2⟩ x.i x.l x.n now va dl vc x.d (HRB.out.fr (hf.mono fun _ e=>e.elim)) HXD.out.1 HXD.out.2)
  have hq0 : (0 : Int) ≤ (q : Int) ∧ (q : Int) < (n : Int):=by omega
  have p0 : decide ((q : Int) < (n : Int)) = true:=decide_eq_true (by omega)
  have p0' : decide (q < n) = true:=decide_eq_true (by omega)
  have HQW : Hid (wrap64 ((q : Int) + 1) = ((q + 1 : Nat) : Int)):=Lib.hid (by have:=HQ32.out;rw [wrap64];omega)
  have HLT2:=Lib.hid hlt
  obtain ⟨rfl,rfl⟩ : b = b' ∧ of = of':=by cases hao;exact ⟨rfl,rfl⟩
  have c0 : wr.cell? ⟨b,of + q * 5,none⟩ = some (.int .i64 x.k):=hcell wr (Fr.refl _ _) 0 _ rfl
  have c1 : wr.cell? ⟨b,of + q * 5 + 1,none⟩ = some (.int .i64 x.i):=hcell wr (Fr.refl _ _) 1 _ rfl
  have c2 : wr.cell? ⟨b,of + q * 5 + 2,none⟩ = some (.int .i64 x.l):=hcell wr (Fr.refl _ _) 2 _ rfl
  have c3 : wr.cell? ⟨b,of + q * 5 + 3,none⟩ = some (.int .i64 x.n):=hcell wr (Fr.refl _ _) 3 _ rfl
  have c4 : wr.cell? ⟨b,of + q * 5 + 4,none⟩ = some (.slice va dl vc):=hcell wr (Fr.refl _ _) 4 _ rfl
  clear hlt hx hmem hdr hcell hdl
  go_upto_region 13 with (fail)
  have hDB:=Blk.new wr 52 #[.int .i64 x.k,.int .i64 x.i,.int .i64 x.l,.int .i64 x.n,.slice va dl vc]
  have hf5 : Fr (fun _=>False) wr (wr.alloc (.cells #[.int .i64 x.k,.int .i64 x.i,.int .i64 x.l,.int .i64 x.n,.slice va dl vc] 52)):=Fr.alloc _ _ _
  obtain ⟨w5,hw5⟩ : ∃ w5,wr.alloc (.cells #[.int .i64 x.k,.int .i64 x.i,.int .i64 x.l,.int .i64 x.n,.slice va dl vc] 52) = w5:=⟨_,rfl⟩
  rw [hw5] at hDB hf5 ⊢
  obtain ⟨db,hdb⟩ : ∃ b,wr.heap.size = b:=⟨_,rfl⟩
  rw [hdb] at hDB ⊢
  have HF5:=Lib.hid hf5
  have HFW5 : Hid (Fr (fun e=>e = xb ∨ e = xm) W w5):=Lib.hid (HFQ.out.trans (hf5.mono fun _ e=>e.elim))
  obtain ⟨n5,_⟩:=FN.out _ HFW5.out
  have d0:=hDB.cell 0
  have d1:=hDB.cell 1
  have d2:=hDB.cell 2
  have d3:=hDB.cell 3
  have d4:=hDB.cell 4
  simp only [lA,lB,lC] at d0 d1 d2 d3 d4
  clear hw5 hdb hDB hf5 c0 c1 c2 c3 c4 p0 p0'
  go_wp2_with (first
   | (go_at_call 56;refine (HDO.out _ HF5.out).mono ?_;rintro e w6 ⟨vo,rfl,ho,hp6,hf6⟩
      obtain ⟨v',W',hrun,hown',hfa,hob⟩:=app_o infoO28 28 w6 W.heap.size w5.heap.size u9 vo oq (doneO sq x now) (Nat.le_trans HFW5.out.size hf6.size) (((HOWN.out.fr HF5.out (fun _ e=>e.elim)).fr hf6 (fun k e=>HPF.out.lt k (HTX.out k e)))) ho HFW5.out.size (fun k hk=>(Nat.lt_of_lt_of_le (HOWN.out.lt hk).2 HF5.out.size)) (by have:=HCQ.out;have:=HQ32.out;have:=doneO_len sq x now;omega)
      have HOB:=Lib.hid hob
      have HOWN':=Lib.hid hown'
      have HP6:=Lib.hid hp6
      have HF6:=Lib.hid hf6
      have HFA:=Lib.hid hfa
      clear ho hp6 hf6 hown' hfa hob HDO d0 d1 d2 d3 d4 n5)
   | (at_builtin;refine wpList_appRunV rfl _ _ _ rfl _ _ _ rfl rfl hrun ?_)
   | go_in)
  go_roundw
  case rel=>
   have hfin : Fr (fun e=>e = xb ∨ e = xm) W W':=by
    have h1:=HFW5.out.trans HF6.out
    exact ⟨HFA.out.os.trans h1.os,HFA.out.tape.trans h1.tape,HFA.out.output.trans h1.output,Nat.le_trans h1.size HFA.out.size,fun k hk hn=>(HFA.out.block k (Nat.lt_of_lt_of_le hk h1.size) (fun e=>by have:=(HOWN.out.lt e).1;omega)).trans (h1.block k hk hn)⟩
   refine ⟨q + 1,doneS sq x now,oq ++ doneO sq x now,HLT2.out,congrArg (Value.int .i64) HQW.out,HOWN'.out,?_,HST.out.1,?_,by have:=HCQ.out;have:=HST.out.2.1;omega,by have:=HCQ.out;have:=HST.out.2.2.1;omega,by have:=HCQ.out;have:=doneO_len sq x now;rw [List.length_append];omega,hfin⟩
   ·exact HP6.out.app HPF.out.f HPF.out.m HFA.out (fun k e=>HPF.out.lt k e) (fun k e=>(HOWN.out.lt e).1) HOB.out (fun k e=>(HOWN'.out.lt e).2)
   ·rw [HFO.out,HDR.out,decFold_cons,List.append_assoc]
  case measure=>rw [HQW.out];simp only [intOf];have:=HLT2.out;omega
theorem decide_c (T : Nat → Prop) (W : World) (xb xm : Nat) (s : FSt) (h : PF T W xb xm s) (hmc : s.mc ≤ 40000) (hl : s.l.length ≤ 40000) (ref turn now : Int) (ao : Option Addr) (cp : Nat) (l : List Dv) (bref bturn bl bnow : Nat) (hturn : Blk W bturn 3 #[.int .i64 turn]) (nturn : ¬ T bturn) (href : Blk W bref 3 #[.int .i64 ref]) (nref : ¬ T bref) (hnow : Blk W bnow 3 #[.int .i64 now]) (nnow : ¬ T bnow) (hll : Blk W bl 37 #[.slice ao l.length cp]) (nl : ¬ T bl) (hrow : RowD T W ao l) (hcp : l.length ≤ cp) (hdd : ∀ x ∈ l,∀ u ∈ x.d,u.oneCell' = true) (hok : OpenOk s) (hu : UniqO s) (hi : IdOk s)  :
 Calls Tryz.prog 53 #[.pointer (some ⟨xb,0,none⟩),.pointer (some ⟨bref,0,none⟩),.pointer (some ⟨bturn,0,none⟩),.pointer (some ⟨bl,0,none⟩),.pointer (some ⟨bnow,0,none⟩)] W fun e W'=>ClX T W xb xm (decideC s ref turn l now) e W':=by
 by_cases hs : s.task = 2 ∧ s.at_ = ref ∧ s.turn = turn
 rotate_left
 ·exact decide_stale T W xb xm s h hmc hl ref turn now ao cp l bref bturn bl bnow hturn nturn href nref hnow nnow hll nl hrow hcp hdd hok hu hi hs
 cases hb : badS s l with
 | true=>exact decide_bad T W xb xm s h hmc hl ref turn now ao cp l bref bturn bl bnow hturn nturn href nref hnow nnow hll nl hrow hcp hdd hok hu hi hs hb
 | false=>
   cases hla : s.late with
   | false=>exact decide_fine_a T W xb xm s h hmc hl ref turn now ao cp l bref bturn bl bnow hturn nturn href nref hnow nnow hll nl hrow hcp hdd hok hu hi hs hb hla
   | true=>
     by_cases hn : l.length = 0
     ·exact decide_fine_b T W xb xm s h hmc hl ref turn now ao cp l bref bturn bl bnow hturn nturn href nref hnow nnow hll nl hrow hcp hdd hok hu hi hs hb hla hn
     cases he : endsB l with
     | false=>exact decide_fine_c T W xb xm s h hmc hl ref turn now ao cp l bref bturn bl bnow hturn nturn href nref hnow nnow hll nl hrow hcp hdd hok hu hi hs hb hla (by omega) he
     | true=>exact decide_late T W xb xm s h hmc hl ref turn now ao cp l bref bturn bl bnow hturn nturn href nref hnow nnow hll nl hrow hcp hdd hok hu hi hs hb hla (by omega) he
end Go.Proofs.YtnkelaohcbdjnaaGreat
