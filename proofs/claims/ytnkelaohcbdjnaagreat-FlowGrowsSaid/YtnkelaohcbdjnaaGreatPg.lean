/- A front of a history: Prefix. -/
import Derived.Test.YtnkelaohcbdjnaaGreatEvP
set_option linter.unusedVariables false
set_option linter.unusedSimpArgs false
namespace Go.Proofs.YtnkelaohcbdjnaaGreat.Ev
open Go.RowKit Go.Maps
def bq (q : List UInt8) : List Value:=q.map fun b=>.int .u8 (b.toNat : Int)
theorem str_q {S : Nat → Prop} {W : World} {v : Value} (l : List UInt8) (h : RowB S W v (bq l)) : (convert 36 9 v).run Tryz.prog W = .ok (.string ⟨l.toArray⟩) W:=by
 obtain ⟨ao,cap,rfl,h1,h2,h3,h4⟩:=h
 have hl : (bq l).length = l.length:=by simp [bq]
 rw [hl]
 cases ao with
 | none=>
   have:=h3 rfl
   have h0 : l = []:=List.eq_nil_of_length_eq_zero (by omega)
   subst h0
   exact run_convert_bytes_nil W 36 5 Tryz.underlying36 Tryz.underlying5 _ _ 9 Tryz.underlying9
 | some a=>
   refine run_convert_bytes_back W 36 9 5 a cap l Tryz.underlying36 Tryz.underlying5 Tryz.underlying9 (fun j hj=>?_)
   refine (h4 a rfl).2 j _ ?_
   simp [bq,List.getElem?_eq_getElem hj]
set_option maxRecDepth 100000 in
theorem equal_any {S T : Nat → Prop} (W : World) (ao ap : Option Addr) (dl cp cq : Nat) (q : List UInt8) (h : RowB S W (.slice ao dl cp) (bq q)) (k : RowB T W (.slice ap dl cq) (bq q)) : Calls Tryz.prog 87 #[.slice ao dl cp,.slice ap dl cq] W fun r W'=>r = .returned (.bool true) ∧ W = W':=by
 have hs:=str_q q h
 have hk:=str_q q k
 clear h k
 go_enter Tryz.func87,Tryz.ntmps87
 go_wp2
 go_ret
 exact ⟨rfl,rfl⟩
/-- the same event,in other blocks -/
structure Twn (W : World) (x y : Ev) : Prop where
 f : x.k = y.k ∧ x.at_ = y.at_ ∧ x.ref = y.ref ∧ x.id = y.id ∧ x.list = y.list ∧ x.n = y.n ∧ x.dl = y.dl
 d : ∃ q : List UInt8,RowB (fun _=>False) W (.slice x.ao x.dl x.cp) (bq q) ∧ RowB (fun _=>False) W (.slice y.ao y.dl y.cp) (bq q)
theorem Twn.fr {W W' : World} {x y : Ev} (h : Twn W x y) (hf : Fr (fun _=>False) W W') : Twn W' x y:=by
 obtain ⟨f,q,d1,d2⟩:=h
 exact ⟨f,q,d1.fr hf,d2.fr hf⟩
set_option maxRecDepth 100000 in
set_option maxHeartbeats 2000000 in
theorem same_any (W : World) (e x : Ev) (h : Twn W e x) : Calls Tryz.prog 47 #[.agg (evc e),.agg (evc x)] W fun r W'=>r = .returned (.bool true) ∧ Fr (fun _=>False) W W':=by
 obtain ⟨k,a,r,i,l,n,ao,dl,cp⟩:=e
 obtain ⟨k',a',r',i',l',n',ap,dl',cq⟩:=x
 obtain ⟨⟨e1,e2,e3,e4,e5,e6,e7⟩,q,d1,d2⟩:=h
 dsimp only at e1 e2 e3 e4 e5 e6 e7 d1 d2
 subst e1 e2 e3 e4 e5 e6 e7
 simp only [evc]
 have hB1:=Blk.new W 62 #[.int .i64 k,.int .i64 a,.int .i64 r,.int .i64 i,.int .i64 l,.int .i64 n,.slice ao dl cp]
 have hF1 : Fr (fun _=>False) W (W.alloc (.cells #[.int .i64 k,.int .i64 a,.int .i64 r,.int .i64 i,.int .i64 l,.int .i64 n,.slice ao dl cp] 62)):=Fr.alloc _ _ _
 obtain ⟨w1,hw1⟩ : ∃ w,W.alloc (.cells #[.int .i64 k,.int .i64 a,.int .i64 r,.int .i64 i,.int .i64 l,.int .i64 n,.slice ao dl cp] 62) = w:=⟨_,rfl⟩
 rw [hw1] at hB1 hF1
 have hB2:=Blk.new w1 62 #[.int .i64 k,.int .i64 a,.int .i64 r,.int .i64 i,.int .i64 l,.int .i64 n,.slice ap dl cq]
 have hF2 : Fr (fun _=>False) w1 (w1.alloc (.cells #[.int .i64 k,.int .i64 a,.int .i64 r,.int .i64 i,.int .i64 l,.int .i64 n,.slice ap dl cq] 62)):=Fr.alloc _ _ _
 obtain ⟨w2,hw2⟩ : ∃ w,w1.alloc (.cells #[.int .i64 k,.int .i64 a,.int .i64 r,.int .i64 i,.int .i64 l,.int .i64 n,.slice ap dl cq] 62) = w:=⟨_,rfl⟩
 rw [hw2] at hB2 hF2
 have hb1:=hB1.fr hF2 (fun e=>e)
 have hf:=hF1.trans hF2
 have HEQ:=Lib.hid (equal_any w2 ao ap dl cp cq q (d1.fr hf) (d2.fr hf))
 have HF:=Lib.hid hf
 obtain ⟨b1,hbb1⟩ : ∃ b,W.heap.size = b:=⟨_,rfl⟩
 rw [hbb1] at hb1
 obtain ⟨b2,hbb2⟩ : ∃ b,w1.heap.size = b:=⟨_,rfl⟩
 rw [hbb2] at hB2
 have c0:=hb1.cell 0
 have c1:=hb1.cell 1
 have c2:=hb1.cell 2
 have c3:=hb1.cell 3
 have c4:=hb1.cell 4
 have c5:=hb1.cell 5
 have c6:=hb1.cell 6
 have x0:=hB2.cell 0
 have x1:=hB2.cell 1
 have x2:=hB2.cell 2
 have x3:=hB2.cell 3
 have x4:=hB2.cell 4
 have x5:=hB2.cell 5
 have x6:=hB2.cell 6
 simp only [lA,lB,lC] at c0 x0 c1 x1 c2 x2 c3 x3 c4 x4 c5 x5 c6 x6
 clear hB1 hB2 hF1 hF2 hb1 hf d1 d2
 go_enter Tryz.func47,Tryz.ntmps47
 go_upto_region 1 with (fail)
 (try rw [hw1])
 (try rw [hw2])
 (try rw [hbb1])
 (try rw [hbb2])
 clear hw1 hw2 hbb1 hbb2
 go_wp2_with (first | (go_at_call 87;refine HEQ.out.mono ?_;rintro r w3 ⟨rfl,rfl⟩) | go_in)
 go_ret
 exact ⟨rfl,HF.out⟩
set_option maxRecDepth 100000 in
set_option maxHeartbeats 4000000 in
theorem eqfunc_any (W : World) (ao ap : Option Addr) (cp cq n : Nat) (l m : List Ev) (hl : RowV W ao l) (hm : RowV W ap m) (hnl : l.length = n) (hnm : m.length = n) (ht : ∀ (i : Nat) (x y : Ev),l[i]? = some x → m[i]? = some y → Twn W x y) (hn : n ≤ 100000) : Calls Tryz.prog 46 #[.slice ao n cp,.slice ap n cq,.func (.func 47) #[] #[]] W fun r W'=>r = .returned (.bool true) ∧ Fr (fun _=>False) W W':=by
 have HNL:=Lib.hid hnl
 have HNM:=Lib.hid hnm
 have HROW:=Lib.hid hl
 have HROW2:=Lib.hid hm
 have HT:=Lib.hid ht
 have HN:=Lib.hid hn
 clear hnl hl ht hn hm hnm
 have pn : ((n : Int) != n) = false:=by simp
 go_enter Tryz.func46,Tryz.ntmps46
 go_wp2_with fail
 go_loopw [17] (fun iv wr=>∃ i : Nat,i ≤ n ∧ iv = .int .i64 i ∧ Fr (fun _=>False) W wr) (fun iv _=>n - (intOf iv).toNat)
 case atStart=>exact ⟨0,Nat.zero_le _,rfl,Fr.refl _ _⟩
 case round=>
  obtain ⟨i,hi,rfl,hf⟩:=hrel
  by_cases hlt : i < n
  ·have p0 : decide ((i : Int) < n) = true:=decide_eq_true (by omega)
   have p0' : decide (i < n) = true:=decide_eq_true hlt
   obtain ⟨e,he⟩ : ∃ e,l[i]? = some e:=⟨_,List.getElem?_eq_getElem (by rw [HNL.out];exact hlt)⟩
   obtain ⟨x,hx⟩ : ∃ e,m[i]? = some e:=⟨_,List.getElem?_eq_getElem (by rw [HNM.out];exact hlt)⟩
   have ht:=HT.out i e x he hx
   have hrow:=HROW.out.fr hf (fun k e=>e.elim)
   have hrow2:=HROW2.out.fr hf (fun k e=>e.elim)
   rcases hrow with h0 | ⟨b,o,rfl,hb,hc⟩
   ·rw [h0] at he;simp at he
   rcases hrow2 with h0 | ⟨b2,o2,rfl,hb2,hc2⟩
   ·rw [h0] at hx;simp at hx
   have hA : ∀ w',Fr (fun _=>False) wr w' → ∀ j v,(evc e)[j]? = some v → w'.cell? ⟨b,o + i * 7 + j,none⟩ = some v:=fun w' hf' j v hj=>(World.cell?_of_block (hf'.block b hb id)).trans (hc i e he j v hj)
   have hA2 : ∀ w',Fr (fun _=>False) wr w' → ∀ j v,(evc x)[j]? = some v → w'.cell? ⟨b2,o2 + i * 7 + j,none⟩ = some v:=fun w' hf' j v hj=>(World.cell?_of_block (hf'.block b2 hb2 id)).trans (hc2 i x hx j v hj)
   have c0:=hA wr (Fr.refl _ _) 0 (.int .i64 e.k) rfl
   have c1:=hA wr (Fr.refl _ _) 1 (.int .i64 e.at_) rfl
   have c2:=hA wr (Fr.refl _ _) 2 (.int .i64 e.ref) rfl
   have c3:=hA wr (Fr.refl _ _) 3 (.int .i64 e.id) rfl
   have c4:=hA wr (Fr.refl _ _) 4 (.int .i64 e.list) rfl
   have c5:=hA wr (Fr.refl _ _) 5 (.int .i64 e.n) rfl
   have c6:=hA wr (Fr.refl _ _) 6 (.slice e.ao e.dl e.cp) rfl
   rw [Nat.add_zero] at c0
   have hf1 : Fr (fun _=>False) wr (wr.alloc (.cells (evc e) 62)):=Fr.alloc _ _ _
   have x0:=hA2 _ hf1 0 (.int .i64 x.k) rfl
   have x1:=hA2 _ hf1 1 (.int .i64 x.at_) rfl
   have x2:=hA2 _ hf1 2 (.int .i64 x.ref) rfl
   have x3:=hA2 _ hf1 3 (.int .i64 x.id) rfl
   have x4:=hA2 _ hf1 4 (.int .i64 x.list) rfl
   have x5:=hA2 _ hf1 5 (.int .i64 x.n) rfl
   have x6:=hA2 _ hf1 6 (.slice x.ao x.dl x.cp) rfl
   rw [Nat.add_zero] at x0
   simp only [evc] at x0 x1 x2 x3 x4 x5 x6
   have hf2 : Fr (fun _=>False) wr ((wr.alloc (.cells (evc e) 62)).alloc (.cells (evc x) 62)):=hf1.trans (Fr.alloc _ _ _)
   have HSM:=Lib.hid (same_any _ e x ((ht.fr hf).fr hf2))
   have HF1:=Lib.hid (hf.trans hf2)
   simp only [evc] at HSM HF1
   have HWS : Hid (wrap64 ((i : Int) + 1) = ((i + 1 : Nat) : Int)):=Lib.hid (by have:=HN.out;rw [wrap64];omega)
   have HI:=Lib.hid (And.intro hi hlt)
   clear hA hA2 hc hc2 he hx hf1 hf2 hf ht hb hb2
   go_wp2_with (first | (go_at_call 47;refine HSM.out.mono ?_;rintro r w3 ⟨rfl,hf3⟩) | go_in)
   go_roundw
   case rel=>exact ⟨i + 1,by have:=HI.out;omega,by rw [HWS.out],HF1.out.trans hf3⟩
   case measure=>rw [HWS.out];clear HWS;have:=HI.out;simp [intOf];omega
  ·obtain rfl : i = n:=by omega
   have p0 : decide ((i : Int) < i) = false:=decide_eq_false (by omega)
   have HF:=Lib.hid hf
   clear hf
   go_wp2
   go_ret
   exact ⟨rfl,HF.out⟩
set_option maxRecDepth 100000 in
set_option maxHeartbeats 2000000 in
theorem prefix_any (W : World) (ao ap : Option Addr) (cp cq n m : Nat) (l k : List Ev) (hl : RowV W ao l) (hk : RowV W ap k) (hnl : l.length = n) (hm : k.length = m) (hle : n ≤ m) (hcq : m ≤ cq) (hn : m ≤ 100000) (ht : ∀ (i : Nat) (x y : Ev),l[i]? = some x → k[i]? = some y → Twn W x y) : Calls Tryz.prog 11 #[.slice ao n cp,.slice ap m cq] W fun r W'=>r = .returned (.bool true) ∧ Fr (fun _=>False) W W':=by
 have HEF:=Lib.hid (eqfunc_any W ao ap cp cq n l (k.take n) hl (by
  rcases hk with h | ⟨b,o,h1,h2,h3⟩
  ·exact .inl (by rw [h];simp)
  ·exact .inr ⟨b,o,h1,h2,fun i e he=>h3 i e (by rw [List.getElem?_take] at he;split at he;exact he;cases he)⟩) hnl (by simp;omega) (fun i x y hx hy=>ht i x y hx (by rw [List.getElem?_take] at hy;split at hy;exact hy;cases hy)) (by omega))
 have p0 : decide ((n : Int) ≤ m) = true:=decide_eq_true (by omega)
 have p0' : decide (n ≤ m) = true:=decide_eq_true hle
 clear hl hk hm hnl ht
 have hn2 : n ≤ cq:=by omega
 go_enter Tryz.func11,Tryz.ntmps11
 go_wp2_with (first | (go_at_call 46;refine HEF.out.mono ?_;rintro r w3 ⟨rfl,hf3⟩) | go_in)
 go_ret
 exact ⟨rfl,hf3⟩
end Go.Proofs.YtnkelaohcbdjnaaGreat.Ev
