/- The document's run in memory. -/
import Derived.Test.YtnkelaohcbdjnaaGreatRz
import Derived.Test.YtnkelaohcbdjnaaGreatBx
import Derived.Test.YtnkelaohcbdjnaaGreatWy
import Derived.Test.YtnkelaohcbdjnaaGreatHy
import Derived.Deep.RegionHeld3
import Derived.Deep.Cut
import Derived.Deep.CutBlock
import Derived.Deep.DeepCutAuto
import Derived.Test.YtnkelaohcbdjnaaGreatEvP
import Derived.Deep.QuietTactic
import Derived.BigQuiet
set_option linter.unusedVariables false
set_option linter.unusedSimpArgs false
namespace Go.Proofs.YtnkelaohcbdjnaaGreat
open Go.RowKit Go.Maps Ev
def rcells (s : FSt) (v : Value) : Array Value:=#[.int .i64 s.id,.int .i64 s.run,.int .i64 s.list,.int .i64 s.n,v,.int .i64 s.task,.int .i64 s.at_,.int .i64 s.bg,.int .i64 s.turn,.bool s.late,.bool s.asked]
/-- an event as the looks read it -/
def ge (e : Rv) : Ev.Ev:=⟨e.k,e.a,e.r,e.i,e.l,e.n,none,e.d.length,0⟩
def Gs (l : List Rv) : List Ev.Ev:=l.map ge
/-- a row tells events;their bytes lie in no block of S -/
def Tells (S : Nat → Prop) (W : World) (l : List Rv) (L : List Ev.Ev) : Prop:=∀ (i : Nat) (e : Rv) (x : Ev.Ev),l[i]? = some e → L[i]? = some x → x.k = e.k ∧ x.at_ = e.a ∧ x.ref = e.r ∧ x.id = e.i ∧ x.list = e.l ∧ x.n = e.n ∧ x.dl = e.d.length ∧ RowB S W (.slice x.ao x.dl x.cp) e.d
theorem Tells.fr {S S0 : Nat → Prop} {W W' : World} {l : List Rv} {L : List Ev.Ev} (h : Tells S W l L) (hf : Fr S0 W W') (hS : ∀ k,S0 k → S k) : Tells S W' l L:=fun i e x h1 h2=>by
 obtain ⟨a,b,c,d,f,g,q,r⟩:=h i e x h1 h2
 exact ⟨a,b,c,d,f,g,q,r.fr (hf.mono hS)⟩
theorem Tells.to {S S' : Nat → Prop} {W : World} {l : List Rv} {L : List Ev.Ev} (h : Tells S W l L) (hs : ∀ k,k < W.heap.size → S' k → S k) : Tells S' W l L:=fun i e x h1 h2=>by
 obtain ⟨a,b,c,d,f,g,q,r⟩:=h i e x h1 h2
 exact ⟨a,b,c,d,f,g,q,r.to hs⟩
theorem Tells.snoc {S : Nat → Prop} {W : World} {l : List Rv} {L : List Ev.Ev} (h : Tells S W l L) (hl : L.length = l.length) (e : Rv) (x : Ev.Ev) (hx : x.k = e.k ∧ x.at_ = e.a ∧ x.ref = e.r ∧ x.id = e.i ∧ x.list = e.l ∧ x.n = e.n ∧ x.dl = e.d.length ∧ RowB S W (.slice x.ao x.dl x.cp) e.d) : Tells S W (l ++ [e]) (L ++ [x]):=fun i e' x' h1 h2=>by
 rcases Nat.lt_or_ge i l.length with hi | hi
 ·rw [List.getElem?_append_left hi] at h1
  rw [List.getElem?_append_left (by omega)] at h2
  exact h i e' x' h1 h2
 ·rw [List.getElem?_append_right hi] at h1
  rw [List.getElem?_append_right (by omega)] at h2
  have h3:=(List.getElem?_eq_some_iff.1 h1).1
  simp only [List.length_cons,List.length_nil] at h3
  have e1 : i - l.length = 0:=by omega
  have e2 : i - L.length = 0:=by omega
  rw [e1] at h1
  rw [e2] at h2
  cases h1
  cases h2
  exact hx
/-- THE DOCUMENT's RUN in block rb;what it may turn is in R;bytes lie in no block of S -/
structure RF (S R : Nat → Prop) (W : World) (rb : Nat) (s : FSt) : Prop where
 f : ∃ v L,Blk W rb 65 (rcells s v) ∧ OwnV W 0 v L ∧ L.length = s.l.length ∧ Tells S W s.l L ∧ ∀ k,v.ownBlock = some k → R k
 r : R rb
 rs : ∀ k,R k → S k
 lt : ∀ k,S k → k < W.heap.size
 ok : ∀ e ∈ s.l,e.d.length ≤ 100000 ∧ ∀ u ∈ e.d,u.oneCell' = true
 few : s.l.length ≤ 100000
theorem own_ne {W : World} {B : Nat} {v : Value} {L : List Ev.Ev} (h : OwnV W B v L) {k b : Nat} {t : TypeId} {cs : Array Value} (hb : Blk W b t cs) (ht : t ≠ 62) (hk : v.ownBlock = some k) : b ≠ k:=by
 rintro rfl
 obtain ⟨_,_,cs',h3⟩:=h.ob hk
 have:=hb.symm.trans h3
 injection this with this
 injection this with _ h5
 exact ht h5
theorem RF.fr {S R S0 : Nat → Prop} {W W' : World} {rb : Nat} {s : FSt} (h : RF S R W rb s) (hf : Fr S0 W W') (h0 : ∀ k,S0 k → S k) (h1 : ¬ S0 rb) (h2 : ∀ k cs,S0 k → W.heap[k]? ≠ some (.cells cs 62 (0,0))) : RF S R W' rb s:=by
 obtain ⟨⟨v,L,hb,ho,hl,ht,hk⟩,h3,h4,h5,h6,h7⟩:=h
 exact ⟨⟨v,L,hb.fr hf h1,ho.fr hf (fun k hk hs=>by obtain ⟨_,_,cs,hc⟩:=ho.ob hk;exact h2 k cs hs hc),hl,ht.fr hf h0,hk⟩,h3,h4,fun k hk=>Nat.lt_of_lt_of_le (h5 k hk) hf.size,h6,h7⟩
theorem RF.fr0 {S R : Nat → Prop} {W W' : World} {rb : Nat} {s : FSt} (h : RF S R W rb s) (hf : Fr (fun _=>False) W W') : RF S R W' rb s:=h.fr hf (fun _ e=>e.elim) id (fun _ _ e=>e.elim)
/-- S,R behind what was done: of the blocks that were there,the same -/
def Same2 (W : World) (S R S' R' : Nat → Prop) : Prop:=∀ k,k < W.heap.size → (S' k ↔ S k) ∧ (R' k ↔ R k)
/-- the run behind a call of the document's -/
def ROut (S R : Nat → Prop) (W : World) (rb : Nat) (s' : FSt) (W' : World) : Prop:=∃ S' R',Same2 W S R S' R' ∧ RF S' R' W' rb s' ∧ Fr R W W'
theorem ROut.refl {S R : Nat → Prop} {W W' : World} {rb : Nat} {s : FSt} (h : RF S R W rb s) (hf : Fr (fun _=>False) W W') : ROut S R W rb s W':=⟨S,R,fun k _=>⟨Iff.rfl,Iff.rfl⟩,h.fr0 hf,hf.mono fun _ e=>e.elim⟩
theorem Fr.step {R R1 : Nat → Prop} {W W1 W2 : World} (h1 : Fr R W W1) (h2 : Fr R1 W1 W2) (hR : ∀ k,k < W.heap.size → R1 k → R k) : Fr R W W2:=
 ⟨h2.os.trans h1.os,h2.tape.trans h1.tape,h2.output.trans h1.output,Nat.le_trans h1.size h2.size,fun k hk hn=>(h2.block k (Nat.lt_of_lt_of_le hk h1.size) (fun e=>hn (hR k hk e))).trans (h1.block k hk hn)⟩
/-- one behind the other -/
theorem ROut.then {S R S1 R1 : Nat → Prop} {W W1 W2 : World} {rb : Nat} {s : FSt} (hs : Same2 W S R S1 R1) (hf : Fr R W W1) (h : ROut S1 R1 W1 rb s W2) : ROut S R W rb s W2:=by
 obtain ⟨S2,R2,h1,h2,h3⟩:=h
 exact ⟨S2,R2,fun k hk=>⟨(h1 k (Nat.lt_of_lt_of_le hk hf.size)).1.trans (hs k hk).1,(h1 k (Nat.lt_of_lt_of_le hk hf.size)).2.trans (hs k hk).2⟩,h2,hf.step h3 fun k hk e=>(hs k hk).2.1 e⟩
theorem ROut.behind {S R : Nat → Prop} {W W1 W2 : World} {rb : Nat} {s : FSt} (hf : Fr (fun _=>False) W W1) (h : ROut S R W1 rb s W2) : ROut S R W rb s W2:=ROut.then (fun _ _=>⟨Iff.rfl,Iff.rfl⟩) (hf.mono fun _ e=>e.elim) h
theorem ROut.more {S R : Nat → Prop} {W W1 W2 : World} {rb : Nat} {s : FSt} (h : ROut S R W rb s W1) (hf : Fr (fun _=>False) W1 W2) : ROut S R W rb s W2:=by
 obtain ⟨S2,R2,h1,h2,h3⟩:=h
 exact ⟨S2,R2,h1,h2.fr0 hf,h3.trans (hf.mono fun _ e=>e.elim)⟩
/-- cells turned in the run's own block -/
theorem RF.cells {S R : Nat → Prop} {W W' : World} {rb : Nat} {s s' : FSt} (h : RF S R W rb s) (hf : Fr (fun k=>k = rb) W W') (hl : s'.l = s.l) (hb : ∀ v,Blk W rb 65 (rcells s v) → Blk W' rb 65 (rcells s' v)) : RF S R W' rb s':=by
 obtain ⟨⟨v,L,hb0,ho,hle,ht,hk⟩,h3,h4,h5,h6,h7⟩:=h
 refine ⟨⟨v,L,hb v hb0,ho.fr hf (fun k hk e=>own_ne ho hb0 (by decide) hk e.symm),by rw [hl];exact hle,by rw [hl];exact ht.fr hf (fun k e=>h4 k (e ▸ h3)),hk⟩,h3,h4,fun k hk=>Nat.lt_of_lt_of_le (h5 k hk) hf.size,by rw [hl];exact h6,by rw [hl];exact h7⟩
end Go.Proofs.YtnkelaohcbdjnaaGreat
set_option linter.unusedVariables false
set_option linter.unusedSimpArgs false
namespace Go.Proofs.YtnkelaohcbdjnaaGreat
open Go.RowKit Go.Maps Ev
theorem infoB : (Tryz.prog.info? 5).map (fun i=>(i.zero,i.size,i.bytes)) = some (some (.int .u8 0),1,1):=by kernel_rfl
theorem RowB.len {S : Nat → Prop} {W : World} {ao : Option Addr} {n cap : Nat} {l : List Value} (h : RowB S W (.slice ao n cap) l) : l.length = n:=by
 obtain ⟨_,_,he,_⟩:=h
 cases he
 rfl
/-- bytes behind an empty row -/
theorem app_bytes (ty : TypeId) (S S' : Nat → Prop) (W : World) (ao : Option Addr) (n cap : Nat) (l : List Value) (h : RowB S W (.slice ao n cap) l) (hle : l.length ≤ 1000000) (hone : ∀ u ∈ l,u.oneCell' = true) (hS : ∀ k,S' k → k < W.heap.size) :
 ∃ va vc W',(Builtin.append_ #[36,36] ty #[.slice (some ⟨W.heap.size,0,none⟩) 0 0,.slice ao n cap]).run Tryz.prog (W.alloc (.cells #[] 5)) = .ok (.slice va n vc) W' ∧ RowB S' W' (.slice va n vc) l ∧ Fr (fun _=>False) W W':=by
 obtain ⟨ao',cap',he,h1,h2,h3,h4⟩:=h
 cases he
 obtain ⟨i0,hi,hz0,hz1,hz2⟩:=info_parts infoB
 have hown : (W.alloc (.cells #[] 5)).ownsRow W.heap.size 5 1 (.slice (some ⟨W.heap.size,0,none⟩) 0 0) 0 []:=⟨rfl,.inr ⟨_,0,#[],rfl,Nat.le_refl _,World.alloc_heap_new _ _,Nat.le_refl _,by decide,rfl,rfl⟩⟩
 have hnew : ∀ k,S' k → k ≠ W.heap.size:=fun k hk e=>by have:=hS k hk;omega
 by_cases hl : l = []
 ·subst hl
  have hsrc : Go.Src Tryz.prog i0.size 36 (.slice ao 0 cap) 0 [] (W.alloc (.cells #[] 5)):=by
   cases ao with
   | none=>exact Go.Src.ofNil _ Tryz.underlying36 cap
   | some a=>exact Go.Src.ofSlice _ Tryz.underlying36 a 0 cap [] (by simp) (by simp) (by simp)
  refine ⟨_,0,_,Go.run_append_nothing (W.alloc (.cells #[] 5)) 36 36 ty 5 i0 Tryz.underlying36 hi _ _ 0 (Nat.le_refl _) _ hsrc,⟨_,0,rfl,Nat.le_refl _,by decide,fun e=>(by cases e),fun a e=>⟨fun hne=>absurd rfl hne,fun j u hj=>(by simp at hj)⟩⟩,Fr.alloc _ _ _⟩
 ·cases ao with
  | none=>exact absurd (List.eq_nil_of_length_eq_zero (by have:=h3 rfl;omega)) hl
  | some a=>
    have hnews : ∀ (j : Nat) (u : Value),l[j]? = some u → (W.alloc (.cells #[] 5)).cell? (a.add j) = some u:=fun j u h=>by
     have h2:=(h4 a rfl).2 j u h
     rw [← h2]
     unfold World.cell?
     have:=lt_of_cell h2
     rw [Below.heap_alloc W _ _ this]
    have hpos : 0 < l.length:=List.length_pos_iff.2 hl
    obtain ⟨v',W',hrun,hown2,hgr,_⟩:=run_append_own (P:=Tryz.prog) (W.alloc (.cells #[] 5)) W.heap.size 36 ty 5 i0 (.int .u8 0) 1 1 Tryz.underlying36 hi hz0 hz1 hz2 rfl (by decide) (.slice (some ⟨W.heap.size,0,none⟩) 0 0) 0 [] hown a l.length cap l (by omega) hnews hone (by unfold maxLen;omega) (by omega) (by simp)
    obtain ⟨_,hown3⟩:=hown2
    rcases hown3 with ⟨_,h0⟩ | ⟨g,cp,cur,rfl,hb,hgb,hnc,hcm,hsz',ht⟩
    ·omega
    ·have hfr : Fr (fun _=>False) W W':=⟨hgr.os,hgr.tape,hgr.output,Nat.le_trans (by simp) hgr.size,fun k hk _=>(hgr.block k (by simp;omega) (fun e=>by have:=Option.some.inj e;simp at this;omega)).trans (Below.heap_alloc W _ k hk)⟩
     rw [Nat.zero_add] at hrun hnc ht
     refine ⟨_,cp,W',hrun,⟨_,cp,rfl,hnc,hcm,fun e=>(by cases e),fun x hx=>?_⟩,hfr⟩
     cases hx
     refine ⟨fun _ e=>by have:=hS _ e;simp at this;omega,fun j u hj=>?_⟩
     rw [off_add]
     simp only [List.nil_append,Nat.zero_add,Nat.mul_one] at ht
     have hj' : j < l.length:=(List.getElem?_eq_some_iff.1 hj).1
     rw [← ht,List.getElem?_take_of_lt hj'] at hj
     simp only [World.cell?,hgb]
     simpa using hj
theorem own_form {W : World} {B : Nat} {v : Value} {L : List Ev.Ev} (h : OwnV W B v L) : ∃ ao cp,v = .slice ao L.length cp:=by
 rcases h.form with ⟨rfl,rfl⟩ | ⟨g,cap,h1,_⟩
 ·exact ⟨none,0,rfl⟩
 ·exact ⟨_,_,h1⟩
set_option maxRecDepth 100000 in
set_option maxHeartbeats 4000000 in
theorem rput_any (S R : Nat → Prop) (W : World) (rb : Nat) (s : FSt) (h : RF S R W rb s) (hl : s.l.length ≤ 50000) (k a r i l n : Int) (ao : Option Addr) (dl cp : Nat) (ds : List Value) (hd : RowB (fun _=>False) W (.slice ao dl cp) ds) (hdl : ds.length ≤ 100000) (hd1 : ∀ u ∈ ds,u.oneCell' = true) :
 Calls Tryz.prog 26 #[.pointer (some ⟨rb,0,none⟩),.agg #[.int .i64 k,.int .i64 a,.int .i64 r,.int .i64 i,.int .i64 l,.int .i64 n,.slice ao dl cp]] W fun e W'=>e = .returned (.int .i64 ((s.l.length : Int) + 1)) ∧ ROut S R W rb { s with l:=s.l ++ [⟨k,a,r,i,l,n,ds⟩] } W':=by
 have HRF:=Lib.hid h
 have HDD:=Lib.hid (And.intro hdl hd1)
 have HDL:=Lib.hid hd.len
 have HL:=Lib.hid hl
 -- the event's box,a block for its bytes
 have hB1:=Blk.new W 62 #[.int .i64 k,.int .i64 a,.int .i64 r,.int .i64 i,.int .i64 l,.int .i64 n,.slice ao dl cp]
 have hF1 : Fr (fun _=>False) W (W.alloc (.cells #[.int .i64 k,.int .i64 a,.int .i64 r,.int .i64 i,.int .i64 l,.int .i64 n,.slice ao dl cp] 62)):=Fr.alloc _ _ _
 obtain ⟨w1,hw1⟩ : ∃ w,W.alloc (.cells #[.int .i64 k,.int .i64 a,.int .i64 r,.int .i64 i,.int .i64 l,.int .i64 n,.slice ao dl cp] 62) = w:=⟨_,rfl⟩
 obtain ⟨eb,heb⟩ : ∃ b,W.heap.size = b:=⟨_,rfl⟩
 rw [hw1] at hB1 hF1
 rw [heb] at hB1
 obtain ⟨va,vc,w2,hrun,hr2,hf2⟩:=app_bytes 36 (fun _=>False) (fun q=>q = eb ∨ S q) w1 ao dl cp ds (hd.fr hF1) (by omega) hd1 (fun q e=>e.elim (fun e=>e ▸ hB1.lt) (fun e=>Nat.lt_of_lt_of_le (h.lt q e) hF1.size))
 have c6:=hB1.cell 6
 simp only [lA,lB,lC] at c6
 have c6' : (w1.alloc (.cells #[] 5)).cell? ⟨eb,6,none⟩ = some (.slice ao dl cp):=((hB1.alloc _).cell 6).trans rfl
 have HB2:=Lib.hid (hB1.fr hf2 id)
 have d6 : w2.frozen? ⟨eb,6,none⟩ = false:=HB2.out.frozen 6
 have d6':=HB2.out.cell 6
 simp only [lA,lB,lC] at d6'
 have HF2 : Hid (Fr (fun _=>False) W w2):=Lib.hid (hF1.trans hf2)
 have HEB:=Lib.hid heb
 have HR2:=Lib.hid hr2
 clear h hd hd1 hdl hl hB1 hF1 hf2 hr2
 go_enter Tryz.func26,Tryz.ntmps26
 go_upto_region 1 with (fail)
 try rw [hw1]
 try rw [heb]
 clear hw1 heb
 go_upto_region 2 with (at_builtin;refine wpList_appRunV rfl _ _ _ rfl _ _ _ rfl rfl hrun ?_)
 have hE3:=HB2.out.set 6 (.slice va dl vc)
 simp only [lG,lH,lI] at hE3
 have hF3:=Fr.setCell (S:=fun q=>q = eb) w2 ⟨eb,6,none⟩ (.slice va dl vc) rfl
 obtain ⟨w3,hw3⟩ : ∃ w,w2.setCell ⟨eb,6,none⟩ (.slice va dl vc) = w:=⟨_,rfl⟩
 rw [hw3] at hE3 hF3 ⊢
 have HFW : Hid (Fr (fun _=>False) W w3):=Lib.hid ⟨hF3.os.trans HF2.out.os,hF3.tape.trans HF2.out.tape,hF3.output.trans HF2.out.output,Nat.le_trans HF2.out.size hF3.size,fun q hq _=>(hF3.block q (Nat.lt_of_lt_of_le hq HF2.out.size) (by have:=HEB.out;omega)).trans (HF2.out.block q hq id)⟩
 have HR3 : Hid (RowB S w3 (.slice va dl vc) ds):=Lib.hid ((HR2.out.fr (hF3.mono fun q e=>.inl e)).to (fun q _ e=>.inr e))
 have HRF3:=Lib.hid (HRF.out.fr0 HFW.out)
 have HNE : Hid (eb ≠ rb):=Lib.hid (fun e=>by have:=HRF.out.lt rb (HRF.out.rs rb HRF.out.r);have:=HEB.out;omega)
 obtain ⟨v,L,hb,ho,hle,ht,hk⟩:=HRF3.out.f
 obtain ⟨x0,x1,hv⟩:=own_form ho
 have HB:=Lib.hid hb
 have HO:=Lib.hid ho
 have HLE:=Lib.hid hle
 have HT:=Lib.hid ht
 have HK:=Lib.hid hk
 have HV:=Lib.hid hv
 have HE3:=Lib.hid hE3
 have FACTS : Hid (∀ w',Fr (fun q=>v.ownBlock = some q) w3 w' → w'.cell? ⟨rb,4,none⟩ = some v ∧ w'.cell? ⟨eb,0,none⟩ = some (.int .i64 k) ∧ w'.cell? ⟨eb,1,none⟩ = some (.int .i64 a) ∧ w'.cell? ⟨eb,2,none⟩ = some (.int .i64 r) ∧ w'.cell? ⟨eb,3,none⟩ = some (.int .i64 i) ∧ w'.cell? ⟨eb,4,none⟩ = some (.int .i64 l) ∧ w'.cell? ⟨eb,5,none⟩ = some (.int .i64 n) ∧ w'.cell? ⟨eb,6,none⟩ = some (.slice va dl vc)):=Lib.hid (fun w' hf=>by
  have h1:=HB.out.fr hf (fun e=>own_ne HO.out HB.out (by decide) e rfl)
  have h2:=HE3.out.fr hf (fun e=>by have h3:=HRF.out.lt eb (HRF.out.rs eb (HK.out eb e));have:=HEB.out;omega)
  exact ⟨h1.cell 4,h2.cell 0,h2.cell 1,h2.cell 2,h2.cell 3,h2.cell 4,h2.cell 5,h2.cell 6⟩)
 clear hw3 hE3 hF3 hb ho hle ht hk hv HB2 HF2 HR2 c6 c6' d6 d6' hrun
 refine region_Z (fun w'=>Fr (fun q=>v.ownBlock = some q) w3 w') 10 (Fr.drewN _ w3 1) (fun hH=>?_)
 refine takes (b:=?_) [0,1,2,3,4,5] hH ?_ ?_
 rotate_left
 iterate 6 (first
  | (refine Sq.no rfl (by rfl) ?_)
  | (refine Sq.yes (v:=?_) rfl (by rfl) ?_ ?_;rotate_left;· (intro w' hw';obtain ⟨f0,f1,f2,f3,f4,f5,f6,f7⟩:=FACTS.out w' hw';go_simp;try with_reducible rfl));try simp only [lD,lE,lF,Act.put,lG,lH,lI])
 exact Sq.nil
 have hB6 : Blk (w3.alloc (.cells #[.int .i64 k,.int .i64 a,.int .i64 r,.int .i64 i,.int .i64 l,.int .i64 n,.slice va dl vc] 62)).drew w3.heap.size 62 #[.int .i64 k,.int .i64 a,.int .i64 r,.int .i64 i,.int .i64 l,.int .i64 n,.slice va dl vc]:=Blk.new w3.drew 62 #[.int .i64 k,.int .i64 a,.int .i64 r,.int .i64 i,.int .i64 l,.int .i64 n,.slice va dl vc]
 have hf6 : Fr (fun _=>False) w3 (w3.alloc (.cells #[.int .i64 k,.int .i64 a,.int .i64 r,.int .i64 i,.int .i64 l,.int .i64 n,.slice va dl vc] 62)).drew:=(Fr.alloc _ w3 _).trans (Fr.drewN _ _ 1)
 refine any_op 6 rfl (fun K hK=>?_)
 go_simp
 refine hK.out _ _ (hf6.mono fun _ e=>e.elim) (fun hH2=>?_)
 clear hK K 
 try simp only [lD,lE,lF,Act.put,lG,lH,lI]
 obtain ⟨w6,hw6⟩ : ∃ w,(w3.alloc (.cells #[.int .i64 k,.int .i64 a,.int .i64 r,.int .i64 i,.int .i64 l,.int .i64 n,.slice va dl vc] 62)).drew = w:=⟨_,rfl⟩
 rw [hw6] at hB6 hf6 ⊢
 obtain ⟨nb,hnb⟩ : ∃ b,w3.heap.size = b:=⟨_,rfl⟩
 rw [hnb] at hB6 ⊢
 obtain ⟨v7,w7,hrun7,ho7,hf7,hob7⟩:=app_v 34 w6 0 v L ⟨k,a,r,i,l,n,va,dl,vc⟩ (Nat.zero_le _) (HO.out.fr hf6 (fun _ _ e=>e)) nb hB6 (by have:=HLE.out;have:=HL.out;omega)
 have hlen : (L ++ [(⟨k,a,r,i,l,n,va,dl,vc⟩ : Ev.Ev)]).length = s.l.length + 1:=by rw [List.length_append,HLE.out];rfl
 obtain ⟨y0,y1,hv7⟩:=own_form ho7
 rw [hlen] at hv7
 subst hv7
 have HLEN:=Lib.hid hlen
 clear hlen
 have hf37 : Fr (fun q=>v.ownBlock = some q) w3 w7:=(hf6.mono fun _ e=>e.elim).trans hf7
 refine any_op 7 rfl (fun K hK=>?_)
 refine wp_append_runV _ _ _ rfl _ _ _ (by rfl) (by rfl) hrun7 ?_
 refine hK.out _ _ (hf37) (fun hH3=>?_)
 clear hK K 
 try simp only [lD,lE,lF,Act.put,lG,lH,lI]
 have hb7:=HB.out.fr hf37 (fun e=>own_ne HO.out HB.out (by decide) e rfl)
 have c4:=hb7.cell 4
 have z4:=hb7.frozen 4
 simp only [rcells,lA,lB,lC] at c4
 refine takes (b:=?_) [8,9] hH3 ?_ ?_
 rotate_left
 iterate 2 (first
  | (refine Sq.no rfl (by rfl) ?_)
  | (refine Sq.yes (v:=?_) rfl (by rfl) ?_ ?_;rotate_left;· (intro w' hw';go_simp;try with_reducible rfl));try simp only [lD,lE,lF,Act.put,lG,lH,lI])
 exact Sq.nil
 refine any_last rfl (fun K hK=>?_)
 go_simp
 refine hK.out _ _ ?_
 clear hK K 
 try simp only [lD,lE,lF,Act.put,lG,lH,lI]
 refine any_done ?_
 have hset:=Fr.setCell (S:=fun q=>q = rb) w7 ⟨rb,4,none⟩ (.slice y0 (s.l.length + 1) y1) rfl
 have hb8:=hb7.set 4 (.slice y0 (s.l.length + 1) y1)
 simp only [rcells,lG,lH,lI] at hb8
 obtain ⟨w8,hw8⟩ : ∃ w,w7.setCell ⟨rb,4,none⟩ (.slice y0 (s.l.length + 1) y1) = w:=⟨_,rfl⟩
 rw [hw8] at hset hb8 ⊢
 have HB8:=Lib.hid hb8
 have hx:=HB8.out.cell 4
 simp only [lA,lB,lC] at hx
 have ho8 : OwnV w8 0 (.slice y0 (s.l.length + 1) y1) (L ++ [⟨k,a,r,i,l,n,va,dl,vc⟩]):=ho7.fr hset (fun q hq e=>own_ne ho7 hb7 (by decide) hq e.symm)
 have HO8:=Lib.hid ho8
 have HS7:=Lib.hid hset
 have HW37:=Lib.hid hf37
 have HOB:=Lib.hid hob7
 have HF6:=Lib.hid hf6
 clear hf6 hw8 hset hb8 ho8 hf37 hob7 hb7 c4 z4 hrun7 ho7 hf7 hH hH2 hH3 hw6 hB6 HV HLEN
 go_wp2
 go_ret
 refine ⟨by simp,?_⟩
 have hfrR : Fr R W w8:=by
  have h1:=HFW.out
  have h2:=HW37.out
  have h3:=HS7.out
  refine (h1.mono fun _ e=>e.elim).trans ((h2.mono fun q e=>HK.out q e).trans (h3.mono fun q e=>e ▸ HRF.out.r))
 have hsz : W.heap.size ≤ w6.heap.size:=by have:=HFW.out.size;have:=HF6.out.size;omega
 refine ⟨fun q=>S q ∨ w6.heap.size = q ∧ q < w8.heap.size,fun q=>R q ∨ w6.heap.size = q ∧ q < w8.heap.size,fun q hq=>⟨⟨fun e=>e.elim id (fun e=>by omega),.inl⟩,⟨fun e=>e.elim id (fun e=>by omega),.inl⟩⟩,⟨⟨_,_,HB8.out,HO8.out,by rw [List.length_append,List.length_append,HLE.out];rfl,?_,fun q hq=>?_⟩,.inl HRF.out.r,fun q e=>e.elim (fun e=>.inl (HRF.out.rs q e)) .inr,fun q e=>e.elim (fun e=>Nat.lt_of_lt_of_le (HRF.out.lt q e) hfrR.size) (fun e=>e.2),?_,?_⟩,hfrR⟩
 ·have ht0 : Tells S w3 (s.l ++ [⟨k,a,r,i,l,n,ds⟩]) (L ++ [⟨k,a,r,i,l,n,va,dl,vc⟩]):=HT.out.snoc HLE.out _ _ ⟨rfl,rfl,rfl,rfl,rfl,rfl,HDL.out.symm,HR3.out⟩
  have h38 : Fr S w3 w8:=(HW37.out.mono fun q e=>HRF.out.rs q (HK.out q e)).trans (HS7.out.mono fun q e=>e ▸ HRF.out.rs rb HRF.out.r)
  refine (ht0.to (S':=fun q=>S q ∨ w6.heap.size = q ∧ q < w8.heap.size) (fun q hq e=>e.elim id (fun e=>by have:=HF6.out.size;omega))).fr h38 (fun q e=>.inl e)
 ·rcases HOB.out with e | e
  ·rw [e] at hq
   exact .inl (HK.out q hq)
  ·rw [e] at hq
   cases hq
   exact .inr ⟨rfl,(HO8.out.ob e).2.1⟩
 ·intro q hq
  rcases List.mem_append.1 hq with hq | hq
  ·exact HRF.out.ok q hq
  ·rw [List.mem_singleton.1 hq]
   exact HDD.out
 ·show (s.l ++ _).length ≤ _
  rw [List.length_append]
  have:=HL.out
  simp
  omega
end Go.Proofs.YtnkelaohcbdjnaaGreat
set_option linter.unusedVariables false
set_option linter.unusedSimpArgs false
namespace Go.Proofs.YtnkelaohcbdjnaaGreat
open Go.RowKit Go.Maps Ev
/-- the run's row,as the looks read it -/
theorem RF.rows {S R : Nat → Prop} {W : World} {rb : Nat} {s : FSt} (h : RF S R W rb s) : ∃ ao cp L,Blk W rb 65 (rcells s (.slice ao s.l.length cp)) ∧ L.length = s.l.length ∧ Tells S W s.l L ∧ RowV W ao L ∧ s.l.length ≤ cp ∧ cp ≤ maxLen ∧ (ao = none → cp = 0) ∧ ∀ a,ao = some a → ∃ g,a = ⟨g,0,none⟩ ∧ R g:=by
 obtain ⟨v,L,hb,ho,hl,ht,hk⟩:=h.f
 rcases ho.form with ⟨rfl,rfl⟩ | ⟨g,cap,rfl,h1,h2,h3,h4,_,h5⟩
 ·have hl0 : s.l.length = 0:=by rw [← hl];rfl
  exact ⟨none,0,[],by rw [hl0];exact hb,hl,ht,.inl rfl,by omega,by decide,fun _=>rfl,fun a e=>by cases e⟩
 ·exact ⟨some ⟨g,0,none⟩,cap,L,by rw [← hl];exact hb,hl,ht,.inr ⟨g,0,rfl,h2,fun i e he j u hj=>by rw [Nat.zero_add];exact h5 i e he j u hj⟩,by rw [← hl];exact h3,h4,fun e=>(by cases e),fun a e=>by cases e;exact ⟨g,rfl,hk g rfl⟩⟩
/-- an event as it is told -/
def tev (e : Rv) (x : Ev.Ev) : List Value:=[.int .i64 e.k,.int .i64 e.a,.int .i64 e.r,.int .i64 e.i,.int .i64 e.l,.int .i64 e.n,.slice x.ao e.d.length x.cp]
theorem Tells.cells {S : Nat → Prop} {W : World} {l : List Rv} {L : List Ev.Ev} (h : Tells S W l L) {i : Nat} {e : Rv} {x : Ev.Ev} (h1 : l[i]? = some e) (h2 : L[i]? = some x) : (evc x) = (tev e x).toArray:=by
 obtain ⟨a,b,c,d,f,g,q,r⟩:=h i e x h1 h2
 unfold evc tev
 rw [a,b,c,d,f,g,q]
/-- any event's cells -/
theorem RF.at_ {S R : Nat → Prop} {W : World} {rb : Nat} {s : FSt} (h : RF S R W rb s) {i : Nat} {e : Rv} (hr : s.l[i]? = some e) : ∃ g cp,Blk W rb 65 (rcells s (.slice (some ⟨g,0,none⟩) s.l.length cp)) ∧ i < s.l.length ∧ s.l.length ≤ cp ∧ R g ∧ ∃ x,RowB S W (.slice x.ao e.d.length x.cp) e.d ∧ ∀ j u,(tev e x)[j]? = some u → W.cell? ⟨g,i * 7 + j,none⟩ = some u:=by
 obtain ⟨v,L,hb,ho,hl,ht,hk⟩:=h.f
 have hi:=(List.getElem?_eq_some_iff.1 hr).1
 obtain ⟨x,hx⟩ : ∃ x,L[i]? = some x:=⟨_,List.getElem?_eq_getElem (by omega)⟩
 rcases ho.form with ⟨rfl,rfl⟩ | ⟨g,cap,rfl,h1,h2,h3,h4,_,h5⟩
 ·simp at hx
 ·refine ⟨g,cap,by rw [← hl];exact hb,hi,by rw [← hl];exact h3,hk g rfl,x,?_,fun j u hj=>h5 i x hx j u (by rw [ht.cells hr hx,lA];exact hj)⟩
  obtain ⟨a,b,c,d,f,g,q,r⟩:=ht i e x hr hx
  rw [← q];exact r
theorem RF.last {S R : Nat → Prop} {W : World} {rb : Nat} {s : FSt} {e : Rv} (h : RF S R W rb s) (hr : s.l.getLast? = some e) : ∃ g cp,Blk W rb 65 (rcells s (.slice (some ⟨g,0,none⟩) s.l.length cp)) ∧ 0 < s.l.length ∧ s.l.length ≤ cp ∧ ∀ j u,j < 6 → (tev e ⟨0,0,0,0,0,0,none,0,0⟩)[j]? = some u → W.cell? ⟨g,(s.l.length - 1) * 7 + j,none⟩ = some u:=by
 have hi : s.l[s.l.length - 1]? = some e:=by rw [← List.getLast?_eq_getElem?];exact hr
 obtain ⟨g,cp,h1,h2,h3,_,x,_,h4⟩:=h.at_ hi
 refine ⟨g,cp,h1,by omega,h3,fun j u hj hu=>h4 j u ?_⟩
 have : j = 0 ∨ j = 1 ∨ j = 2 ∨ j = 3 ∨ j = 4 ∨ j = 5:=by omega
 rcases this with rfl | rfl | rfl | rfl | rfl | rfl <;> exact hu
set_option maxRecDepth 100000 in
set_option maxHeartbeats 1000000 in
theorem rright_any (S R : Nat → Prop) (W : World) (fb : Nat) (s : FSt) (h : RF S R W fb s) (ao : Option Addr) (n cp : Nat) (now : Int) :
 Calls Tryz.prog 25 #[.pointer (some ⟨fb,0,none⟩),.slice ao n cp,.int .i64 now] W fun e W'=>e = .returned (.bool (rightB s.l n now)) ∧ ∃ k,W' = W.drewN k:=by
 by_cases hn : n ≤ 4096
 rotate_left
 ·have HB:=Lib.hid (rightB_false (l:=s.l) (now:=now) (fun e=>hn e.1))
  have p1 : decide ((n : Int) ≤ 4096) = false:=decide_eq_false (by omega)
  have p1' : decide (n ≤ 4096) = false:=decide_eq_false hn
  clear h hn
  go_enter Tryz.func25,Tryz.ntmps25
  go_wp2
  (try go_quiet (fail))
  (try go_wp2)
  go_ret
  exact ⟨by rw [HB.out];rfl,by first | exact ⟨0,rfl⟩ | exact ⟨_,rfl⟩⟩
 have p1 : decide ((n : Int) ≤ 4096) = true:=decide_eq_true (by omega)
 have p1' : decide (n ≤ 4096) = true:=decide_eq_true hn
 by_cases h0 : 0 ≤ now
 rotate_left
 ·have HB:=Lib.hid (rightB_false (l:=s.l) (n:=n) (now:=now) (fun e=>h0 e.2.1))
  have p2 : decide (0 ≤ now) = false:=decide_eq_false h0
  clear h hn h0
  go_enter Tryz.func25,Tryz.ntmps25
  go_wp2
  (try go_quiet (fail))
  (try go_wp2)
  go_ret
  exact ⟨by rw [HB.out];rfl,by first | exact ⟨0,rfl⟩ | exact ⟨_,rfl⟩⟩
 have p2 : decide (0 ≤ now) = true:=decide_eq_true h0
 by_cases h1 : now ≤ 1099511627776
 rotate_left
 ·have HB:=Lib.hid (rightB_false (l:=s.l) (n:=n) (now:=now) (fun e=>h1 e.2.2.1))
  have p3 : decide (now ≤ 1099511627776) = false:=decide_eq_false h1
  clear h hn h0 h1
  go_enter Tryz.func25,Tryz.ntmps25
  go_wp2
  (try go_quiet (fail))
  (try go_wp2)
  go_ret
  exact ⟨by rw [HB.out];rfl,by first | exact ⟨0,rfl⟩ | exact ⟨_,rfl⟩⟩
 have p3 : decide (now ≤ 1099511627776) = true:=decide_eq_true h1
 cases hr : s.l.getLast? with
 | none=>
   have hnil : s.l = []:=List.getLast?_eq_none_iff.1 hr
   have HB:=Lib.hid (rightB_true (l:=s.l) (n:=n) (now:=now) ⟨hn,h0,h1,fun e he=>(by rw [hr] at he;cases he)⟩)
   obtain ⟨ao2,cp2,_,h3,_⟩:=h.rows
   have c4:=h3.cell 4
   simp only [rcells,hnil,List.length_nil,lA,lB,lC] at c4
   clear h h3 hr hnil hn h0 h1
   go_enter Tryz.func25,Tryz.ntmps25
   go_wp2
   (try go_quiet (fail))
   (try go_wp2)
   go_ret
   exact ⟨by rw [HB.out];rfl,by first | exact ⟨0,rfl⟩ | exact ⟨_,rfl⟩⟩
 | some e=>
   have hfew:=h.few
   obtain ⟨g,cp2,h3,hpos,hcp,hc⟩:=h.last hr
   have c4:=h3.cell 4
   simp only [rcells,lA,lB,lC] at c4
   have d1:=hc 1 (.int .i64 e.a) (by decide) rfl
   obtain ⟨q,hq⟩ : ∃ q,s.l.length = q + 1:=⟨s.l.length - 1,by omega⟩
   rw [hq] at c4 hcp hfew d1
   rw [show q + 1 - 1 = q from rfl] at d1
   have p5 : (((q + 1 : Nat) : Int) == 0) = false:=by simp;omega
   have p6 : ((q : Int) + 1 == 0) = false:=by simp;omega
   obtain ⟨x,hx⟩ : ∃ x,e.a = x:=⟨_,rfl⟩
   rw [hx] at d1
   by_cases ha : x ≤ now
   ·have p4 : decide (x ≤ now) = true:=decide_eq_true ha
    have HB:=Lib.hid (rightB_true (l:=s.l) (n:=n) (now:=now) ⟨hn,h0,h1,fun e' he=>(by rw [hr] at he;cases he;omega)⟩)
    clear h h3 hr hc hq hx hn h0 h1 ha
    go_enter Tryz.func25,Tryz.ntmps25
    go_wp2
    (try go_quiet (fail))
    (try go_wp2)
    go_ret
    exact ⟨by rw [HB.out];rfl,by first | exact ⟨0,rfl⟩ | exact ⟨_,rfl⟩⟩
   ·have p4 : decide (x ≤ now) = false:=decide_eq_false ha
    have HB:=Lib.hid (rightB_false (l:=s.l) (n:=n) (now:=now) (fun e'=>(by have:=e'.2.2.2 e hr;omega)))
    clear h h3 hr hc hq hx hn h0 h1 ha
    go_enter Tryz.func25,Tryz.ntmps25
    go_wp2
    (try go_quiet (fail))
    (try go_wp2)
    go_ret
    exact ⟨by rw [HB.out];rfl,by first | exact ⟨0,rfl⟩ | exact ⟨_,rfl⟩⟩
theorem stat_tells {S : Nat → Prop} {W : World} {l : List Rv} {L : List Ev.Ev} (h : Tells S W l L) (hl : L.length = l.length) : statL L = statusK l:=by
 unfold statL statusK
 cases h1 : l.getLast? with
 | none=>
   have : l = []:=List.getLast?_eq_none_iff.1 h1
   subst this
   have : L = []:=List.eq_nil_of_length_eq_zero hl
   subst this
   rfl
 | some e=>
   rw [List.getLast?_eq_getElem?] at h1
   have hi:=(List.getElem?_eq_some_iff.1 h1).1
   obtain ⟨x,hx⟩ : ∃ x,L[l.length - 1]? = some x:=⟨_,List.getElem?_eq_getElem (by omega)⟩
   rw [List.getLast?_eq_getElem?,hl,hx]
   show statK x.k = _
   rw [(h _ e x h1 hx).1]
   rfl
set_option maxRecDepth 100000 in
theorem rstatus_any (S R : Nat → Prop) (W : World) (rb : Nat) (s : FSt) (h : RF S R W rb s) :
 Calls Tryz.prog 73 #[.pointer (some ⟨rb,0,none⟩)] W fun e W'=>e = .returned (.int .i64 (statusK s.l)) ∧ Fr (fun _=>False) W W':=by
 obtain ⟨ao,cp,L,hb,hl,ht,hrow,_⟩:=h.rows
 have c4:=hb.cell 4
 simp only [rcells,lA,lB,lC] at c4
 have hs:=rstat_any W ao cp L hrow (by rw [hl];exact h.few)
 rw [hl,stat_tells ht hl] at hs
 have HS:=Lib.hid hs
 clear h hb hl ht hrow hs
 go_enter Tryz.func73,Tryz.ntmps73
 go_wp2_with (first | (go_at_call 96;refine HS.out.mono ?_;rintro e w1 ⟨rfl,hf⟩) | go_in)
 go_ret
 exact ⟨rfl,hf⟩
/-- what a call asks first -/
def readyE (s : FSt) (n : Nat) (now : Int) : Int:=if rightB s.l n now = true then (if statusK s.l = 1 then 0 else 20) else 1
set_option maxRecDepth 100000 in
theorem rready_any (S R : Nat → Prop) (W : World) (rb : Nat) (s : FSt) (h : RF S R W rb s) (ao : Option Addr) (n cp : Nat) (now : Int) :
 Calls Tryz.prog 62 #[.pointer (some ⟨rb,0,none⟩),.slice ao n cp,.int .i64 now] W fun e W'=>e = .returned (.int .i64 (readyE s n now)) ∧ Fr (fun _=>False) W W':=by
 have HR:=Lib.hid (rright_any S R W rb s h ao n cp now)
 unfold readyE
 cases hb : rightB s.l n now with
 | false=>
   rw [hb] at HR
   rw [if_neg (by decide)]
   clear h hb
   go_enter Tryz.func62,Tryz.ntmps62
   go_wp2_with (first | (go_at_call 25;refine HR.out.mono ?_;rintro e w1 ⟨rfl,z,rfl⟩) | go_in)
   go_ret
   exact ⟨rfl,Fr.drewN _ _ _⟩
 | true=>
   rw [hb] at HR
   rw [if_pos rfl]
   have HST : Hid (∀ z,Calls Tryz.prog 73 #[.pointer (some ⟨rb,0,none⟩)] (W.drewN z) fun e W'=>e = .returned (.int .i64 (statusK s.l)) ∧ Fr (fun _=>False) (W.drewN z) W'):=Lib.hid (fun z=>rstatus_any S R _ rb s (h.fr0 (Fr.drewN _ W z)))
   obtain ⟨st,hst⟩ : ∃ x,statusK s.l = x:=⟨_,rfl⟩
   rw [hst] at HST ⊢
   clear h hb hst
   by_cases h1 : st = 1
   ·subst h1
    rw [if_pos rfl]
    go_enter Tryz.func62,Tryz.ntmps62
    go_wp2_with (first | (go_at_call 25;refine HR.out.mono ?_;rintro e w1 ⟨rfl,z,rfl⟩) | (go_at_call 73;refine (HST.out _).mono ?_;rintro e w2 ⟨rfl,hf⟩) | go_in)
    go_ret
    exact ⟨rfl,(Fr.drewN _ W _).trans hf⟩
   ·rw [if_neg h1]
    have p1 : (st == 1) = false:=by simp [h1]
    have p2 : (st != 1) = true:=by simp [h1]
    clear h1
    go_enter Tryz.func62,Tryz.ntmps62
    go_wp2_with (first | (go_at_call 25;refine HR.out.mono ?_;rintro e w1 ⟨rfl,z,rfl⟩) | (go_at_call 73;refine (HST.out _).mono ?_;rintro e w2 ⟨rfl,hf⟩) | go_in)
    go_ret
    exact ⟨rfl,(Fr.drewN _ W _).trans hf⟩
end Go.Proofs.YtnkelaohcbdjnaaGreat
