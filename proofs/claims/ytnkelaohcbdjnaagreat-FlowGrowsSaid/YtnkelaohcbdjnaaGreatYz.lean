/- Events: the whole history. -/
import Derived.Test.YtnkelaohcbdjnaaGreatRa
import Derived.Test.YtnkelaohcbdjnaaGreatPt
set_option linter.unusedVariables false
set_option linter.unusedSimpArgs false
namespace Go.Proofs.YtnkelaohcbdjnaaGreat
open Go.RowKit Go.Maps Ev
/-- rows that show events: in blocks that are new,and not the slice's own -/
def Shows (B : Nat) (W : World) (v : Value) (l : List Rv) (L : List Ev.Ev) : Prop:=Tells (fun k=>v.ownBlock = some k ∨ k < B) W l L
theorem Shows.snoc {B : Nat} {W W' : World} {v v' : Value} {l : List Rv} {L : List Ev.Ev} (h : Shows B W v l L) (hf : Fr (fun k=>v.ownBlock = some k) W W') (hv : v'.ownBlock = v.ownBlock ∨ v'.ownBlock = some W.heap.size) (e : Rv) (x : Ev.Ev)
 (hx : x.k = e.k ∧ x.at_ = e.a ∧ x.ref = e.r ∧ x.id = e.i ∧ x.list = e.l ∧ x.n = e.n ∧ x.dl = e.d.length ∧ RowB (fun k=>v.ownBlock = some k ∨ k < B) W (.slice x.ao x.dl x.cp) e.d) (he : l[L.length]? = some e) : Shows B W' v' l (L ++ [x]):=fun i e' x' h1 h2=>by
 have key : ∀ (d : Value) (ds : List Value),RowB (fun k=>v.ownBlock = some k ∨ k < B) W d ds → RowB (fun k=>v'.ownBlock = some k ∨ k < B) W' d ds:=fun d ds r=>by
  have r2 : RowB (fun k=>(v.ownBlock = some k ∨ k < B) ∨ v'.ownBlock = some k) W d ds:=r.to (fun k hk e=>by
   rcases e with e | e
   ·exact e
   ·rcases hv with hv | hv
    ·rw [hv] at e;exact .inl e
    ·rw [hv] at e
     have:=Option.some.inj e
     omega)
  exact (r2.fr (hf.mono fun k e=>.inl (.inl e))).to (fun k _ e=>by
   rcases e with e | e
   ·exact .inr e
   ·exact .inl (.inr e))
 by_cases hi : i < L.length
 ·rw [List.getElem?_append_left hi] at h2
  obtain ⟨a,b,c,d,f,g,q,r⟩:=h i e' x' h1 h2
  exact ⟨a,b,c,d,f,g,q,key _ _ r⟩
 ·have hl:=(List.getElem?_eq_some_iff.1 h2).1
  rw [List.length_append] at hl
  simp only [List.length_cons,List.length_nil] at hl
  have hi2 : i = L.length:=by omega
  subst hi2
  rw [List.getElem?_append_right (Nat.le_refl _),Nat.sub_self] at h2
  cases h2
  rw [he] at h1
  cases h1
  obtain ⟨a,b,c,d,f,g,q,r⟩:=hx
  exact ⟨a,b,c,d,f,g,q,key _ _ r⟩
set_option maxRecDepth 100000 in
set_option maxHeartbeats 4000000 in
theorem events_any (S : Nat → Prop) (W : World) (fb mb : Nat) (s : FSt) (h : FL S W fb mb s) (h0 : 1 ≤ s.l.length) (hl : s.l.length ≤ 5000) :
 Calls Tryz.prog 8 #[.pointer (some ⟨fb,0,none⟩),.int .i64 1] W fun e W'=>∃ (v : Value) (L : List Ev.Ev),e = .returned v ∧ OwnV W' W.heap.size v L ∧ L.length = s.l.length ∧ Tells (fun k=>v.ownBlock = some k ∨ k < W.heap.size) W' s.l L ∧ Fr (fun _=>False) W W':=by
 obtain ⟨ao,cp,h3,h4,h5,h6,h7⟩:=h.at_
 have hok:=h.ok
 obtain ⟨n,hn⟩ : ∃ n,s.l.length = n:=⟨_,rfl⟩
 rw [hn] at h3 h4 h0 hl ⊢
 have hne : s.l ≠ []:=fun e=>by rw [e] at hn;simp at hn;omega
 obtain ⟨a,rfl⟩ : ∃ a,ao = some a:=by
  cases ao with
  | none=>exact absurd (h6 rfl).1 hne
  | some a=>exact ⟨a,rfl⟩
 obtain ⟨g,rfl,hg,hgl,hc⟩:=h7 a rfl
 have c4:=h3.cell 4
 simp only [fcells,lA,lB,lC] at c4
 have p0 : decide ((n : Int) < 1) = false:=decide_eq_false (by omega)
 have p0' : decide (n < 1) = false:=decide_eq_false (by omega)
 have HC:=Lib.hid hc
 have HN:=Lib.hid hn
 have HL:=Lib.hid (And.intro h0 (And.intro hl h4))
 have HOK:=Lib.hid hok
 clear h h3 h4 h5 h6 h7 hc hok hg hne hn
 unfold maxLen at *
 go_enter Tryz.func8,Tryz.ntmps8
 go_wp2_with fail
 obtain ⟨B,hB⟩ : ∃ b,W.heap.size = b:=⟨_,rfl⟩
 have HB:=Lib.hid hB
 clear hB c4 p0 p0'
 go_loopw [5,24] (fun ov kv wr=>∃ (k : Nat) (v : Value) (L : List Ev.Ev),v = ov ∧ k ≤ n ∧ kv = .int .i64 (k : Int) ∧ L.length = k ∧ OwnV wr B v L ∧ Shows B wr v s.l L ∧ Fr (fun _=>False) W wr) (fun _ kv _=>n - (intOf kv).toNat)
 case atStart=>exact ⟨0,_,[],rfl,Nat.zero_le _,rfl,rfl,OwnV.nil0 _ _,fun i e x _ h=>(by simp at h),Fr.refl _ _⟩
 case round=>
  obtain ⟨k,v,L,rfl,hk,rfl,hL,hown,hsh,hf⟩:=hrel
  have HOWN:=Lib.hid hown
  have HSH:=Lib.hid hsh
  have HF:=Lib.hid hf
  have HLL:=Lib.hid hL
  clear hown hsh hf hL
  by_cases hlt : k < n
  rotate_left
  ·have hkn : k = n:=by omega
   subst hkn
   have p1 : decide ((k : Int) < (k : Int)) = false:=by simp
   have p1' : decide (k < k) = false:=by simp
   go_wp2_with fail
   go_ret
   exact ⟨v,L,rfl,by rw [HB.out];exact HOWN.out,HLL.out,by rw [HB.out];exact HSH.out,HF.out⟩
  have p1 : decide ((k : Int) < (n : Int)) = true:=decide_eq_true (by omega)
  have p1' : decide (k < n) = true:=decide_eq_true hlt
  have HW3 : Hid (wrap64 ((k : Int) + 1) = ((k + 1 : Nat) : Int)):=Lib.hid (by have:=HL.out;rw [wrap64];omega)
  obtain ⟨e,he⟩ : ∃ e,s.l[k]? = some e:=⟨_,List.getElem?_eq_getElem (by have:=HN.out;omega)⟩
  obtain ⟨d,hd,hcell⟩:=HC.out k e he
  have hdd:=hd
  obtain ⟨dao,dcap,rfl,_⟩:=hdd
  obtain ⟨dlen,hdlen⟩ : ∃ m,e.d.length = m:=⟨_,rfl⟩
  have HOE:=Lib.hid (HOK.out e (List.mem_of_getElem? he))
  have HE:=Lib.hid he
  have HD:=Lib.hid hd
  have HDL:=Lib.hid hdlen
  rw [hdlen] at hcell
  obtain ⟨ek,hek⟩ : ∃ x,e.k = x:=⟨_,rfl⟩
  obtain ⟨ea,hea⟩ : ∃ x,e.a = x:=⟨_,rfl⟩
  obtain ⟨er,her⟩ : ∃ x,e.r = x:=⟨_,rfl⟩
  obtain ⟨ei,hei⟩ : ∃ x,e.i = x:=⟨_,rfl⟩
  obtain ⟨el,hel⟩ : ∃ x,e.l = x:=⟨_,rfl⟩
  obtain ⟨en,hen⟩ : ∃ x,e.n = x:=⟨_,rfl⟩
  have HEE:=Lib.hid (And.intro hek (And.intro hea (And.intro her (And.intro hei (And.intro hel hen)))))
  unfold evv ev at hcell
  rw [hek,hea,her,hei,hel,hen] at hcell
  have hkp : ∀ (j : Nat) (u : Value),[Value.int .i64 ek,.int .i64 ea,.int .i64 er,.int .i64 ei,.int .i64 el,.int .i64 en,.slice dao dlen dcap][j]? = some u → wr.cell? ⟨g,k * 7 + j,none⟩ = some u:=fun j u hj=>(World.cell?_of_block (HF.out.block g hgl (fun e=>e))).trans (hcell j u hj)
  have y0 : wr.cell? ⟨g,k * 7,none⟩ = some (.int .i64 ek):=hkp 0 _ rfl
  have y1 : wr.cell? ⟨g,k * 7 + 1,none⟩ = some (.int .i64 ea):=hkp 1 _ rfl
  have y2 : wr.cell? ⟨g,k * 7 + 2,none⟩ = some (.int .i64 er):=hkp 2 _ rfl
  have y3 : wr.cell? ⟨g,k * 7 + 3,none⟩ = some (.int .i64 ei):=hkp 3 _ rfl
  have y4 : wr.cell? ⟨g,k * 7 + 4,none⟩ = some (.int .i64 el):=hkp 4 _ rfl
  have y5 : wr.cell? ⟨g,k * 7 + 5,none⟩ = some (.int .i64 en):=hkp 5 _ rfl
  have y6 : wr.cell? ⟨g,k * 7 + 6,none⟩ = some (.slice dao dlen dcap):=hkp 6 _ rfl
  have HWL : Hid (∀ q,v.ownBlock = some q → q < wr.heap.size):=Lib.hid (fun q hq=>(HOWN.out.ob hq).2.1)
  clear hkp hcell he hd hdlen hek hea her hei hel hen
  go_upto_region 7 with (fail)
  have hB5:=Blk.new wr 62 #[.int .i64 ek,.int .i64 ea,.int .i64 er,.int .i64 ei,.int .i64 el,.int .i64 en,.slice dao dlen dcap]
  have hf5 : Fr (fun _=>False) wr (wr.alloc (.cells #[.int .i64 ek,.int .i64 ea,.int .i64 er,.int .i64 ei,.int .i64 el,.int .i64 en,.slice dao dlen dcap] 62)):=Fr.alloc _ _ _
  obtain ⟨w5,hw5⟩ : ∃ w,wr.alloc (.cells #[.int .i64 ek,.int .i64 ea,.int .i64 er,.int .i64 ei,.int .i64 el,.int .i64 en,.slice dao dlen dcap] 62) = w:=⟨_,rfl⟩
  obtain ⟨tb,htb⟩ : ∃ b,wr.heap.size = b:=⟨_,rfl⟩
  rw [hw5] at hB5 hf5
  rw [htb] at hB5
  (try rw [hw5])
  (try rw [htb])
  have HB5:=Lib.hid hB5
  have HF5:=Lib.hid hf5
  have HTB:=Lib.hid htb
  have z6:=hB5.cell 6
  simp only [lA,lB,lC] at z6
  have HCLN:=Lib.hid (clone_any S (fun q=>(v.ownBlock = some q ∨ q < B) ∨ q = tb) w5 _ e.d ((HD.out.fr (HF.out.mono fun _ e=>e.elim)).fr (hf5.mono fun _ e=>e.elim)) (by have:=HOE.out.1;omega) HOE.out.2 (fun q hq=>hq.elim (fun hq=>hq.elim (fun hq=>Nat.lt_of_lt_of_le (HWL.out q hq) hf5.size) (fun hq=>by have h1:=HB.out;have h2:=HF.out.size;have h3:=hf5.size;omega)) (fun e=>by have:=hB5.lt;omega)))
  rw [HDL.out] at HCLN
  clear hB5 hf5 hw5 htb y0 y1 y2 y3 y4 y5 y6
  go_upto_region 8 with (first
   | (go_at_call 28;refine HCLN.out.mono ?_;rintro r1 w6 ⟨v6,rfl,hr6,hf6⟩;obtain ⟨ca,cc,hv6⟩ : ∃ ca cc,v6 = .slice ca dlen cc:=(by obtain ⟨x,y,e,_⟩:=hr6;exact ⟨x,y,by rw [e,HDL.out]⟩);subst hv6;have z6':=(HB5.out.fr hf6 id).cell 6;have zf6:=(HB5.out.fr hf6 id).frozen 6;simp only [lA,lB,lC] at z6')
   | go_in)
  have hB7:=(HB5.out.fr hf6 id).set 6 (.slice ca dlen cc)
  simp only [lG,lH,lI] at hB7
  have hf7:=Fr.setCell (S:=fun q=>q = tb) w6 ⟨tb,6,none⟩ (.slice ca dlen cc) rfl
  obtain ⟨w7,hw7⟩ : ∃ w,w6.setCell ⟨tb,6,none⟩ (.slice ca dlen cc) = w:=⟨_,rfl⟩
  rw [hw7] at hB7 hf7
  (try rw [hw7])
  have hfr7 : Fr (fun _=>False) wr w7:=by
   have h56:=HF5.out.trans hf6
   exact ⟨hf7.os.trans h56.os,hf7.tape.trans h56.tape,hf7.output.trans h56.output,Nat.le_trans h56.size hf7.size,fun q hq _=>(hf7.block q (Nat.lt_of_lt_of_le hq h56.size) (by have:=HTB.out;omega)).trans (h56.block q hq (fun e=>e))⟩
  have hr7 : RowB (fun q=>v.ownBlock = some q ∨ q < B) w7 (.slice ca dlen cc) e.d:=by
   exact (hr6.fr (hf7.mono fun q e=>.inr e)).to (fun q _ e=>.inl e)
  have HB7:=Lib.hid hB7
  have HF7:=Lib.hid hfr7
  have HR7:=Lib.hid hr7
  have t0:=hB7.cell 0
  have t1:=hB7.cell 1
  have t2:=hB7.cell 2
  have t3:=hB7.cell 3
  have t4:=hB7.cell 4
  have t5:=hB7.cell 5
  have t6:=hB7.cell 6
  simp only [lA,lB,lC] at t0 t1 t2 t3 t4 t5 t6
  clear hB7 hf7 hw7 hfr7 hr7 hr6 hf6 z6 z6' zf6
  have hB8:=Blk.new w7 62 #[.int .i64 ek,.int .i64 ea,.int .i64 er,.int .i64 ei,.int .i64 el,.int .i64 en,.slice ca dlen cc]
  have hf8 : Fr (fun _=>False) w7 (w7.alloc (.cells #[.int .i64 ek,.int .i64 ea,.int .i64 er,.int .i64 ei,.int .i64 el,.int .i64 en,.slice ca dlen cc] 62)):=Fr.alloc _ _ _
  obtain ⟨w8,hw8⟩ : ∃ w,w7.alloc (.cells #[.int .i64 ek,.int .i64 ea,.int .i64 er,.int .i64 ei,.int .i64 el,.int .i64 en,.slice ca dlen cc] 62) = w:=⟨_,rfl⟩
  obtain ⟨pb,hpb⟩ : ∃ b,w7.heap.size = b:=⟨_,rfl⟩
  rw [hw8] at hB8 hf8
  rw [hpb] at hB8
  have hf08:=HF7.out.trans hf8
  obtain ⟨v9,w9,hrun,hown9,hf9,hob9⟩:=app_v 34 w8 B v L ⟨ek,ea,er,ei,el,en,ca,dlen,cc⟩ (by have h1:=HB.out;have h2:=HF.out.size;have h3:=hf08.size;omega) (HOWN.out.fr hf08 (fun _ _ e=>e)) pb hB8 (by have:=HLL.out;have:=HL.out;omega)
  have HSH9 : Hid (Shows B w9 v9 s.l (L ++ [⟨ek,ea,er,ei,el,en,ca,dlen,cc⟩])):=Lib.hid (by
   have hsh8 : Shows B w8 v s.l L:=Tells.fr HSH.out hf08 (fun q e=>e.elim)
   refine hsh8.snoc hf9 hob9 e _ ?_ (by rw [HLL.out];exact HE.out)
   obtain ⟨a1,a2,a3,a4,a5,a6⟩:=HEE.out
   exact ⟨a1.symm,a2.symm,a3.symm,a4.symm,a5.symm,a6.symm,HDL.out.symm,HR7.out.fr (hf8.mono fun _ e=>e.elim)⟩)
  have HOWN9:=Lib.hid hown9
  have HF9 : Hid (Fr (fun _=>False) W w9):=Lib.hid (by
   have h08:=HF.out.trans hf08
   exact ⟨hf9.os.trans h08.os,hf9.tape.trans h08.tape,hf9.output.trans h08.output,Nat.le_trans h08.size hf9.size,fun q hq _=>(hf9.block q (Nat.lt_of_lt_of_le hq h08.size) (fun e=>by have h1:=(HOWN.out.ob e).1;have h2:=HB.out;omega)).trans (h08.block q hq (fun e=>e))⟩)
  clear hB8 hf8 hf08 hown9 hf9 hob9 HCLN
  go_wp2_with (at_builtin;(try rw [hw8]);(try rw [hpb]);refine wpList_appRunV rfl _ _ _ rfl _ _ _ rfl rfl hrun ?_)
  clear hrun hw8 hpb t0 t1 t2 t3 t4 t5 t6
  go_roundw
  case rel=>exact ⟨k + 1,v9,_,rfl,hlt,by first | rw [HW3.out] | simp,by rw [List.length_append,HLL.out];rfl,HOWN9.out,HSH9.out,HF9.out⟩
  case measure=>(try rw [HW3.out]);clear HW3;simp [intOf];omega
end Go.Proofs.YtnkelaohcbdjnaaGreat
