/- Acts out of the statement's own reading. -/
import Derived.Test.YtnkelaohcbdjnaaGreatWn
import Derived.OpenShut
import Derived.ProofKit
import Derived.ChangeOld
import Derived.Deep.Slices
import Derived.Deep.QuietTactic
import Derived.BigQuiet
set_option linter.unusedVariables false
set_option linter.unusedSimpArgs false
namespace Go.Proofs.YtnkelaohcbdjnaaGreat
open Go.RowKit Go.ChangeShapes Go.WideShapes
section
variable {H : Type} {enc : TypeId × Value → H} {P : Program} {W : World}
theorem cell_lt {a : Addr} {v : Value} (h : W.cell? a = some v) : a.block < W.heap.size:=by
 obtain ⟨b,o,s⟩:=a
 apply Classical.byContradiction
 intro hn
 have hn' : ¬ b < W.heap.size:=hn
 have : W.heap[b]? = none:=Array.getElem?_eq_none (by omega)
 unfold World.cell? at h
 simp [this] at h
/-- a slice,each of its elements as a list of cells -/
theorem sl_open {T E : TypeId} {sz n : Nat} {v : Value} {x : DataW H × List MemPlace} (hT : P.underlying T = some (.slice E)) (hc : P.cellsOf E = sz) (hp : 0 < sz) (h : DataW.trod enc P W 0 (fun _=>true) true n T [v] = some x) :
 ∃ (a : Option Addr) (len cap : Nat),v = .slice a len cap ∧ len ≤ cap ∧ cap ≤ maxLen ∧ (a = none → cap = 0) ∧ (len = 0 ∨ ∃ (b o n' : Nat),a = some ⟨b,o,none⟩ ∧ b < W.heap.size ∧ ∀ i,i < len → ∃ cs : List Value,cs.length = sz ∧ (∀ k,k < sz → W.cell? ⟨b,o + i * sz + k,none⟩ = some (cs.getD k undef)) ∧
  ∃ y,DataW.trod enc P W 0 (fun _=>true) true n' E cs = some y):=by
 rcases Go.Deep.open_slice hT h with ⟨h0,_⟩ | ⟨A,len,cap,m,n',D,Pl,hcs,_,hl,hm,hmm,hx,hel⟩
 ·simp at h0
  exact ⟨none,0,0,h0,Nat.le_refl _,Nat.zero_le _,fun _=>rfl,.inl rfl⟩
 simp at hcs
 refine ⟨some A,len,cap,hcs,hl,hm,fun h=>(by cases h),?_⟩
 by_cases h0 : len = 0
 ·exact .inl h0
 right
 simp at hmm
 subst hmm
 have each : ∀ i,i < len → ∃ cs : List Value,cs.length = sz ∧ (∀ k,k < sz → W.cell? (A.add (i * sz + k)) = some (cs.getD k undef)) ∧ ∃ y,DataW.trod enc P W 0 (fun _=>true) true n' E cs = some y:=fun i hi=>by
  obtain ⟨cs,h1,h2⟩:=hel i (by omega)
  rw [hc] at h1
  obtain ⟨_,hlen,hcell⟩:=World.cells?_some h1
  refine ⟨cs,hlen,fun k hk=>?_,_,h2⟩
  have e0:=hcell k hk
  rw [Go.Deep.add_add,List.getElem?_eq_getElem (by omega)] at e0
  rw [e0]
  simp [List.getD,List.getElem?_eq_getElem (show k < cs.length by omega)]
 obtain ⟨cs0,hl0,hc0,_⟩:=each 0 (by omega)
 have h00:=hc0 0 hp
 obtain ⟨b,o,spot⟩:=A
 have hspot : spot = none:=by simpa [Addr.add] using World.cell?_spot h00
 subst hspot
 refine ⟨b,o,n',rfl,?_,fun i hi=>?_⟩
 ·have:=cell_lt h00
  rw [add_block] at this
  exact this
 ·obtain ⟨cs,g0,g1,g2⟩:=each i hi
  refine ⟨cs,g0,fun k hk=>?_,g2⟩
  have:=g1 k hk
  rw [off_add,← Nat.add_assoc] at this
  exact this
/-- a field of a struct -/
theorem fld_open {E : TypeId} {fs : Array Field} {n : Nat} {cs : List Value} {y : DataW H × List MemPlace} (hE : P.underlying E = some (.struct fs)) (h : DataW.trod enc P W 0 (fun _=>true) true n E cs = some y) :
 ∃ m,∀ (i : Nat) (f : Field),fs[i]? = some f → ∃ z,DataW.trod enc P W 0 (fun _=>true) true m f.type ((cs.drop f.offset).take (P.cellsOf f.type)) = some z:=by
 obtain ⟨xs,k',hk,hxy,_,hxl,hfs⟩:=DataW.trod_struct hE h
 refine ⟨k',fun i f hf=>?_⟩
 have hi : i < xs.length:=by rw [hxl];exact (Array.getElem?_eq_some_iff.1 hf).1
 have e1:=hfs i f hf
 rw [List.getElem?_eq_getElem hi] at e1
 exact ⟨xs[i],e1⟩
def byteOf : Value → UInt8 | .int _ z=>UInt8.ofNat z.toNat | _=>0
theorem bounds_u8 {z : Int} (h : (Lit.int .u8 z).wf = true) : 0 ≤ z ∧ z < 256:=by
 simp [Lit.wf,IntKind.min,IntKind.max,IntKind.bits,IntKind.signed] at h
 omega
/-- bytes -/
theorem byt_open {T E : TypeId} {n : Nat} {v : Value} {y : DataW H × List MemPlace} (hT : P.underlying T = some (.slice E)) (hE : P.underlying E = some (.int .u8)) (hc : P.cellsOf E = 1)
 (h : DataW.trod enc P W 0 (fun _=>true) true n T [v] = some y) : ∃ q : List UInt8,RowB (fun k=>W.heap.size ≤ k) W v (q.map fun b=>.int .u8 (b.toNat : Int)):=by
 rcases Go.Deep.open_slice1 hT hc h with ⟨h0,_⟩ | ⟨A,len,cap,m,n,V,D,Pl,hcs,_,hl,hm,hmm,hx,hel⟩
 ·simp at h0
  subst h0
  exact ⟨[],RowB.nil _ _⟩
 ·simp at hcs
  subst hcs
  simp at hmm
  subst hmm
  have hv : ∀ i,i < len → V i = .int .u8 ((byteOf (V i)).toNat : Int):=fun i hi=>by
   obtain ⟨z,hz,_,hw⟩:=DataW.trod_int hE (hel i (by omega)).2
   simp at hz
   rw [hz]
   have:=bounds_u8 hw
   simp only [byteOf]
   congr 1
   simp [UInt8.toNat_ofNat]
   omega
  have hlen : (((List.range len).map fun i=>byteOf (V i)).map fun b=>Value.int .u8 (b.toNat : Int)).length = len:=by simp
  refine ⟨(List.range len).map fun i=>byteOf (V i),some A,m,by rw [hlen],by rw [hlen];exact hl,hm,fun h=>(by cases h),fun a ha=>?_⟩
  cases ha
  refine ⟨fun hne e=>?_,fun j u hj=>?_⟩
  ·have hpos : 0 < len:=by
    apply Nat.pos_of_ne_zero
    intro h0
    apply hne
    rw [h0];rfl
   have:=cell_lt (hel 0 (by omega)).1
   rw [add_block] at this
   have e' : W.heap.size ≤ A.block:=e
   omega
  ·have hj' : j < len:=by have:=(List.getElem?_eq_some_iff.1 hj).1;rw [hlen] at this;exact this
   rw [(hel j (by omega)).1,hv j hj']
   simp [List.getElem?_range hj'] at hj
   rw [← hj]
end
/-- a decision that came in -/
theorem dec_open {H : Type} {enc : TypeId × Value → H} {W : World} {n : Nat} {cs : List Value} {y : DataW H × List MemPlace} (hl : cs.length = 5) (h : DataW.trod enc Tryz.prog W 0 (fun _=>true) true n 52 cs = some y) :
 ∃ (x : Dv) (va : Option Addr) (vc : Nat),cs = dvc x (.slice va x.d.length vc) ∧ RowB (fun k=>W.heap.size ≤ k) W (.slice va x.d.length vc) x.d ∧ Byt x.d:=by
 match cs,hl with
 | [v0,v1,v2,v3,v4],_=>
 obtain ⟨m,hf⟩:=fld_open Tryz.underlying52 h
 obtain ⟨y0,h0⟩:=hf 0 _ rfl
 obtain ⟨y1,h1⟩:=hf 1 _ rfl
 obtain ⟨y2,h2⟩:=hf 2 _ rfl
 obtain ⟨y3,h3⟩:=hf 3 _ rfl
 obtain ⟨y4,h4⟩:=hf 4 _ rfl
 have c3 : Tryz.prog.cellsOf 3 = 1:=by kernel_rfl
 have c22 : Tryz.prog.cellsOf 36 = 1:=by kernel_rfl
 have h0 : DataW.trod enc Tryz.prog W 0 (fun _=>true) true m 3 (List.take (Tryz.prog.cellsOf 3) [v0,v1,v2,v3,v4]) = some y0:=h0
 have h1 : DataW.trod enc Tryz.prog W 0 (fun _=>true) true m 3 (List.take (Tryz.prog.cellsOf 3) [v1,v2,v3,v4]) = some y1:=h1
 have h2 : DataW.trod enc Tryz.prog W 0 (fun _=>true) true m 3 (List.take (Tryz.prog.cellsOf 3) [v2,v3,v4]) = some y2:=h2
 have h3 : DataW.trod enc Tryz.prog W 0 (fun _=>true) true m 3 (List.take (Tryz.prog.cellsOf 3) [v3,v4]) = some y3:=h3
 have h4 : DataW.trod enc Tryz.prog W 0 (fun _=>true) true m 36 (List.take (Tryz.prog.cellsOf 36) [v4]) = some y4:=h4
 rw [c3] at h0 h1 h2 h3
 rw [c22] at h4
 obtain ⟨z0,e0,_,_⟩:=DataW.trod_int Tryz.underlying3 h0
 obtain ⟨z1,e1,_,_⟩:=DataW.trod_int Tryz.underlying3 h1
 obtain ⟨z2,e2,_,_⟩:=DataW.trod_int Tryz.underlying3 h2
 obtain ⟨z3,e3,_,_⟩:=DataW.trod_int Tryz.underlying3 h3
 simp at e0 e1 e2 e3
 obtain ⟨q,hq⟩:=byt_open Tryz.underlying36 Tryz.underlying5 (by kernel_rfl) (by simpa using h4)
 obtain ⟨va,vc,e4,_⟩:=id hq
 subst e0 e1 e2 e3 e4
 exact ⟨⟨z0,z1,z2,z3,q.map fun b=>.int .u8 (b.toNat : Int)⟩,va,vc,rfl,hq,q,rfl⟩
instance : Inhabited Dv:=⟨⟨0,0,0,0,[]⟩⟩
/-- decisions that came in -/
theorem decs_open {H : Type} {enc : TypeId × Value → H} {W : World} {n : Nat} {v : Value} {x : DataW H × List MemPlace} (h : DataW.trod enc Tryz.prog W 0 (fun _=>true) true n 37 [v] = some x) :
 ∃ (ao : Option Addr) (cp : Nat) (l : List Dv),v = .slice ao l.length cp ∧ (l.length ≤ cp ∧ cp ≤ maxLen) ∧ RowD (fun k=>W.heap.size ≤ k) W ao l ∧ ∀ x ∈ l,Byt x.d:=by
 obtain ⟨a,len,cap,rfl,hl,hm,hn,he⟩:=sl_open Tryz.underlying37 (sz:=5) (by kernel_rfl) (by omega) h
 rcases he with rfl | ⟨b,o,n',rfl,hb,hel⟩
 ·exact ⟨a,cap,[],rfl,⟨hl,hm⟩,.inl rfl,fun x hx=>by cases hx⟩
 have each : ∀ i,i < len → ∃ x : Dv,∃ va vc,(∀ (j : Nat) (u : Value),(dvc x (.slice va x.d.length vc))[j]? = some u → W.cell? ⟨b,o + i * 5 + j,none⟩ = some u) ∧ RowB (fun k=>W.heap.size ≤ k) W (.slice va x.d.length vc) x.d ∧ Byt x.d:=fun i hi=>by
  obtain ⟨cs,h1,h2,y,h3⟩:=hel i hi
  obtain ⟨x,va,vc,hx,hr,hbt⟩:=dec_open h1 h3
  refine ⟨x,va,vc,fun j u hj=>?_,hr,hbt⟩
  have hj5 : j < 5:=by simpa [dvc] using (List.getElem?_eq_some_iff.1 hj).1
  rw [h2 j hj5,hx,List.getD_eq_getElem?_getD,hj]
  rfl
 obtain ⟨F,hF⟩:=Go.Deep.choose_lt each
 refine ⟨some ⟨b,o,none⟩,cap,(List.range len).map F,by simp,⟨by simpa using hl,hm⟩,.inr ⟨b,o,rfl,hb,fun e=>by omega,fun i x hi=>?_⟩,fun x hx=>?_⟩
 ·have hlt : i < len:=by simpa using (List.getElem?_eq_some_iff.1 hi).1
  have e : F i = x:=by simpa [List.getElem?_range hlt] using hi
  subst e
  obtain ⟨va,vc,h1,h2,_⟩:=hF i hlt
  exact ⟨va,vc,h2,h1⟩
 ·obtain ⟨i,hi,rfl⟩:=List.mem_map.1 hx
  obtain ⟨va,vc,_,_,h3⟩:=hF i (List.mem_range.1 hi)
  exact h3
/-- what stands of an act's slices -/
def ActOk (S : Nat → Prop) (W : World) (a : ActV) (ao : Option Addr) (dl cp : Nat) (ao2 : Option Addr) (dn cp2 : Nat) : Prop:=RowB S W (.slice ao dl cp) a.d ∧ Byt a.d ∧ a.l.length = dn ∧ (dn ≤ cp2 ∧ cp2 ≤ maxLen) ∧ RowD S W ao2 a.l ∧ (∀ x ∈ a.l,Byt x.d) ∧ wfI a.ref
theorem ActOk.fr {S S0 : Nat → Prop} {W W' : World} {a : ActV} {ao : Option Addr} {dl cp : Nat} {ao2 : Option Addr} {dn cp2 : Nat} (h : ActOk S W a ao dl cp ao2 dn cp2) (hf : Fr S0 W W') (h0 : ∀ k,S0 k → S k) : ActOk S W' a ao dl cp ao2 dn cp2:=by
 obtain ⟨a1,a2,a3,a4,a5,a6,a7⟩:=h
 exact ⟨a1.fr (hf.mono h0),a2,a3,a4,a5.fr hf h0,a6,a7⟩
theorem ActOk.to {S S' : Nat → Prop} {W : World} {a : ActV} {ao : Option Addr} {dl cp : Nat} {ao2 : Option Addr} {dn cp2 : Nat} (h : ActOk S W a ao dl cp ao2 dn cp2) (hs : ∀ k,k < W.heap.size → S' k → S k) : ActOk S' W a ao dl cp ao2 dn cp2:=by
 obtain ⟨a1,a2,a3,a4,a5,a6,a7⟩:=h
 exact ⟨a1.to hs,a2,a3,a4,a5.to hs,a6,a7⟩
/-- acts that a slice shows,in no block of S -/
def RowAc (S : Nat → Prop) (W : World) (ao : Option Addr) (L : List ActV) : Prop:=
 L = [] ∨ ∃ b o,ao = some ⟨b,o,none⟩ ∧ b < W.heap.size ∧ ¬ S b ∧ ∀ (i : Nat) (a : ActV),L[i]? = some a → ∃ ad dl cp al dn cp2,ActOk S W a ad dl cp al dn cp2 ∧ ∀ (j : Nat) (u : Value),(AC a.op a.own a.ref a.turn (.slice ad dl cp) (.slice al dn cp2) a.good a.kind a.id a.wait)[j]? = some u → W.cell? ⟨b,o + i * 10 + j,none⟩ = some u
theorem RowAc.fr {S S0 : Nat → Prop} {W W' : World} {ao : Option Addr} {L : List ActV} (h : RowAc S W ao L) (hf : Fr S0 W W') (h0 : ∀ k,S0 k → S k) : RowAc S W' ao L:=by
 rcases h with h | ⟨b,o,h1,h2,h3,h4⟩
 ·exact .inl h
 ·refine .inr ⟨b,o,h1,Nat.lt_of_lt_of_le h2 hf.size,h3,fun i a ha=>?_⟩
  obtain ⟨ad,dl,cp,al,dn,cp2,h5,h6⟩:=h4 i a ha
  exact ⟨ad,dl,cp,al,dn,cp2,h5.fr hf h0,fun j u hj=>(World.cell?_of_block (hf.block b h2 (fun e=>h3 (h0 b e)))).trans (h6 j u hj)⟩
theorem RowAc.at_ {S : Nat → Prop} {W : World} {ao : Option Addr} {L : List ActV} (h : RowAc S W ao L) {i : Nat} {a : ActV} (ha : L[i]? = some a) : ∃ b o ad dl cp al dn cp2,ao = some ⟨b,o,none⟩ ∧ ActOk S W a ad dl cp al dn cp2 ∧ ∀ (j : Nat) (u : Value),(AC a.op a.own a.ref a.turn (.slice ad dl cp) (.slice al dn cp2) a.good a.kind a.id a.wait)[j]? = some u → W.cell? ⟨b,o + i * 10 + j,none⟩ = some u:=by
 rcases h with h | ⟨b,o,h1,h2,h3,h4⟩
 ·rw [h] at ha;simp at ha
 ·obtain ⟨ad,dl,cp,al,dn,cp2,h5,h6⟩:=h4 i a ha
  exact ⟨b,o,ad,dl,cp,al,dn,cp2,h1,h5,h6⟩
theorem act_open {H : Type} {enc : TypeId × Value → H} {W : World} {n : Nat} {cs : List Value} {y : DataW H × List MemPlace} (hl : cs.length = 10) (h : DataW.trod enc Tryz.prog W 0 (fun _=>true) true n 39 cs = some y) :
 ∃ (a : ActV) (ad : Option Addr) (dl cp : Nat) (al : Option Addr) (dn cp2 : Nat),cs = (AC a.op a.own a.ref a.turn (.slice ad dl cp) (.slice al dn cp2) a.good a.kind a.id a.wait).toList ∧ ActOk (fun k=>W.heap.size ≤ k) W a ad dl cp al dn cp2:=by
 match cs,hl with
 | [v0,v1,v2,v3,v4,v5,v6,v7,v8,v9],_=>
 obtain ⟨m,hf⟩:=fld_open Tryz.underlying39 h
 obtain ⟨y0,h0⟩:=hf 0 _ rfl
 obtain ⟨y1,h1⟩:=hf 1 _ rfl
 obtain ⟨y2,h2⟩:=hf 2 _ rfl
 obtain ⟨y3,h3⟩:=hf 3 _ rfl
 obtain ⟨y4,h4⟩:=hf 4 _ rfl
 obtain ⟨y5,h5⟩:=hf 5 _ rfl
 obtain ⟨y6,h6⟩:=hf 6 _ rfl
 obtain ⟨y7,h7⟩:=hf 7 _ rfl
 obtain ⟨y8,h8⟩:=hf 8 _ rfl
 obtain ⟨y9,h9⟩:=hf 9 _ rfl
 have c3 : Tryz.prog.cellsOf 3 = 1:=by kernel_rfl
 have c4 : Tryz.prog.cellsOf 4 = 1:=by kernel_rfl
 have c22 : Tryz.prog.cellsOf 36 = 1:=by kernel_rfl
 have c37 : Tryz.prog.cellsOf 37 = 1:=by kernel_rfl
 have h0 : DataW.trod enc Tryz.prog W 0 (fun _=>true) true m 3 (List.take (Tryz.prog.cellsOf 3) [v0,v1,v2,v3,v4,v5,v6,v7,v8,v9]) = some y0:=h0
 have h1 : DataW.trod enc Tryz.prog W 0 (fun _=>true) true m 4 (List.take (Tryz.prog.cellsOf 4) [v1,v2,v3,v4,v5,v6,v7,v8,v9]) = some y1:=h1
 have h2 : DataW.trod enc Tryz.prog W 0 (fun _=>true) true m 3 (List.take (Tryz.prog.cellsOf 3) [v2,v3,v4,v5,v6,v7,v8,v9]) = some y2:=h2
 have h3 : DataW.trod enc Tryz.prog W 0 (fun _=>true) true m 3 (List.take (Tryz.prog.cellsOf 3) [v3,v4,v5,v6,v7,v8,v9]) = some y3:=h3
 have h4 : DataW.trod enc Tryz.prog W 0 (fun _=>true) true m 36 (List.take (Tryz.prog.cellsOf 36) [v4,v5,v6,v7,v8,v9]) = some y4:=h4
 have h5 : DataW.trod enc Tryz.prog W 0 (fun _=>true) true m 37 (List.take (Tryz.prog.cellsOf 37) [v5,v6,v7,v8,v9]) = some y5:=h5
 have h6 : DataW.trod enc Tryz.prog W 0 (fun _=>true) true m 4 (List.take (Tryz.prog.cellsOf 4) [v6,v7,v8,v9]) = some y6:=h6
 have h7 : DataW.trod enc Tryz.prog W 0 (fun _=>true) true m 3 (List.take (Tryz.prog.cellsOf 3) [v7,v8,v9]) = some y7:=h7
 have h8 : DataW.trod enc Tryz.prog W 0 (fun _=>true) true m 3 (List.take (Tryz.prog.cellsOf 3) [v8,v9]) = some y8:=h8
 have h9 : DataW.trod enc Tryz.prog W 0 (fun _=>true) true m 3 (List.take (Tryz.prog.cellsOf 3) [v9]) = some y9:=h9
 rw [c3] at h0 h2 h3 h7 h8 h9
 rw [c4] at h1 h6
 rw [c22] at h4
 rw [c37] at h5
 obtain ⟨z0,e0,_,_⟩:=DataW.trod_int Tryz.underlying3 h0
 obtain ⟨z1,e1,_⟩:=DataW.trod_bool Tryz.underlying4 h1
 obtain ⟨z2,e2,_,w2⟩:=DataW.trod_int Tryz.underlying3 h2
 obtain ⟨z3,e3,_,_⟩:=DataW.trod_int Tryz.underlying3 h3
 obtain ⟨z6,e6,_⟩:=DataW.trod_bool Tryz.underlying4 h6
 obtain ⟨z7,e7,_,_⟩:=DataW.trod_int Tryz.underlying3 h7
 obtain ⟨z8,e8,_,_⟩:=DataW.trod_int Tryz.underlying3 h8
 obtain ⟨z9,e9,_,_⟩:=DataW.trod_int Tryz.underlying3 h9
 simp at e0 e1 e2 e3 e6 e7 e8 e9
 obtain ⟨q,hq⟩:=byt_open Tryz.underlying36 Tryz.underlying5 (by kernel_rfl) (by simpa using h4)
 obtain ⟨ad,cd,e4,_⟩:=id hq
 obtain ⟨al,cl,l,e5,r1,r2,r3⟩:=decs_open (by simpa using h5)
 subst e0 e1 e2 e3 e4 e5 e6 e7 e8 e9
 exact ⟨⟨z0,z1,z2,z3,q.map fun b=>.int .u8 (b.toNat : Int),l,z6,z7,z8,z9⟩,ad,_,cd,al,_,cl,rfl,hq,⟨q,rfl⟩,rfl,r1,r2,r3,w2⟩
instance : Inhabited ActV:=⟨⟨0,false,0,0,[],[],false,0,0,0⟩⟩
theorem acts_open {H : Type} {enc : TypeId × Value → H} {W : World} {a : Option Addr} {len cap : Nat} {d : DataW H} {p : List MemPlace} (h : DataW.Trod enc Tryz.prog W 0 (fun _=>true) true 22 (.slice a len cap) d p) :
 ∃ L : List ActV,L.length = len ∧ len ≤ cap ∧ cap ≤ maxLen ∧ RowAc (fun k=>W.heap.size ≤ k) W a L:=by
 obtain ⟨n,h⟩:=h
 obtain ⟨a',len',cap',e,hl,hm,hn,he⟩:=sl_open Tryz.underlying22 (sz:=10) (by kernel_rfl) (by omega) (show DataW.trod enc Tryz.prog W 0 (fun _=>true) true n 22 [.slice a len cap] = some (d,p) from by simpa [Value.cells] using h)
 cases e
 rcases he with rfl | ⟨b,o,n',rfl,hb,hel⟩
 ·exact ⟨[],rfl,hl,hm,.inl rfl⟩
 have each : ∀ i,i < len → ∃ x : ActV,∃ ad dl cp al dn cp2,(∀ (j : Nat) (u : Value),(AC x.op x.own x.ref x.turn (.slice ad dl cp) (.slice al dn cp2) x.good x.kind x.id x.wait)[j]? = some u → W.cell? ⟨b,o + i * 10 + j,none⟩ = some u) ∧ ActOk (fun k=>W.heap.size ≤ k) W x ad dl cp al dn cp2:=fun i hi=>by
  obtain ⟨cs,h1,h2,y,h3⟩:=hel i hi
  obtain ⟨x,ad,dl,cp,al,dn,cp2,hx,hr⟩:=act_open h1 h3
  refine ⟨x,ad,dl,cp,al,dn,cp2,fun j u hj=>?_,hr⟩
  have hj10 : j < 10:=by simpa [AC] using (Array.getElem?_eq_some_iff.1 hj).1
  rw [h2 j hj10,hx,List.getD_eq_getElem?_getD,Array.getElem?_toList,hj]
  rfl
 obtain ⟨F,hF⟩:=Go.Deep.choose_lt each
 refine ⟨(List.range len).map F,by simp,hl,hm,.inr ⟨b,o,rfl,hb,fun e=>by omega,fun i x hi=>?_⟩⟩
 have hlt : i < len:=by simpa using (List.getElem?_eq_some_iff.1 hi).1
 have e : F i = x:=by simpa [List.getElem?_range hlt] using hi
 subst e
 obtain ⟨ad,dl,cp,al,dn,cp2,h1,h2⟩:=hF i hlt
 exact ⟨ad,dl,cp,al,dn,cp2,h2,h1⟩
/-- data that came in -/
theorem data_open {H : Type} {enc : TypeId × Value → H} {W : World} {a : Option Addr} {len cap : Nat} {d : DataW H} {p : List MemPlace} (h : DataW.Trod enc Tryz.prog W 0 (fun _=>true) true 36 (.slice a len cap) d p) :
 ∃ q : List UInt8,RowB (fun k=>W.heap.size ≤ k) W (.slice a len cap) (q.map fun b=>.int .u8 (b.toNat : Int)):=by
 obtain ⟨n,h⟩:=h
 exact byt_open Tryz.underlying36 Tryz.underlying5 (by kernel_rfl) (show DataW.trod enc Tryz.prog W 0 (fun _=>true) true n 36 [.slice a len cap] = some (d,p) from by simpa [Value.cells] using h)
end Go.Proofs.YtnkelaohcbdjnaaGreat
set_option linter.unusedVariables false
set_option linter.unusedSimpArgs false
namespace Go.Proofs.YtnkelaohcbdjnaaGreat
open Go.RowKit Go.Maps
theorem RowAc.to0 {S : Nat → Prop} {W : World} {ao : Option Addr} {L : List ActV} (h : RowAc S W ao L) : RowAc (fun _=>False) W ao L:=by
 rcases h with h | ⟨b,o,h1,h2,h3,h4⟩
 ·exact .inl h
 ·refine .inr ⟨b,o,h1,h2,id,fun i a ha=>?_⟩
  obtain ⟨ad,dl,cp,al,dn,cp2,h5,h6⟩:=h4 i a ha
  exact ⟨ad,dl,cp,al,dn,cp2,h5.to (fun _ _ e=>e.elim),h6⟩
set_option maxRecDepth 100000 in
set_option maxHeartbeats 4000000 in
theorem few_any (S : Nat → Prop) (W : World) (a : Option Addr) (n cap : Nat) (L : List ActV) (hn : L.length = n) (hcap : n ≤ cap) (hm : cap ≤ maxLen) (hrow : RowAc S W a L) :
 Calls Tryz.prog 5 #[.slice a n cap] W fun e W'=>∃ b,e = .returned (.bool b) ∧ (b = true → n ≤ 120) ∧ Fr (fun _=>False) W W':=by
 have HN:=Lib.hid hn
 have HROW:=Lib.hid (hrow.to0)
 have HM : Hid (n ≤ 9223372036854775807):=Lib.hid (by unfold maxLen at hm;omega)
 clear hn hrow hm hcap
 go_enter Tryz.func5,Tryz.ntmps5
 go_upto_region 2 with (fail)
 go_upto_region 3 with (fail)
 go_wp2_with fail
 go_loopw [3,4] (fun nv iv wz=>∃ (z : Int) (q : Nat),nv = .int .i64 z ∧ iv = .int .i64 q ∧ q ≤ n ∧ Fr (fun _=>False) W wz) (fun _ iv _=>n - (intOf iv).toNat)
 case atStart=>exact ⟨0,0,rfl,rfl,Nat.zero_le _,Fr.refl _ _⟩
 case round=>
  obtain ⟨z,q,rfl,rfl,hq,hfz⟩:=hrel
  have HFZ:=Lib.hid hfz
  have HQ:=Lib.hid hq
  clear hq hfz
  by_cases hlt : q < n
  rotate_left
  ·have p1 : decide ((q : Int) < (n : Int)) = false:=decide_eq_false (by omega)
   have p1' : decide (q < n) = false:=decide_eq_false (by omega)
   clear hlt
   by_cases h120 : n ≤ 120
   ·have p2 : decide ((n : Int) ≤ 120) = true:=decide_eq_true (by omega)
    have p2' : decide (n ≤ 120) = true:=decide_eq_true h120
    go_wp2
    go_ret
    exact ⟨_,rfl,fun _=>h120,HFZ.out⟩
   ·have p2 : decide ((n : Int) ≤ 120) = false:=decide_eq_false (by omega)
    have p2' : decide (n ≤ 120) = false:=decide_eq_false h120
    clear h120
    go_wp2
    go_ret
    exact ⟨_,rfl,fun h=>(by cases h),HFZ.out⟩
  obtain ⟨x,hx⟩ : ∃ x,L[q]? = some x:=⟨_,List.getElem?_eq_getElem (by rw [HN.out];exact hlt)⟩
  obtain ⟨b,o,ad,dl,cp,al,dn,cp2,rfl,hok,hcell⟩:=HROW.out.at_ hx
  have HOK:=Lib.hid hok
  have HC : Hid (∀ w',Fr (fun _=>False) W w' → w'.cell? ⟨b,o + q * 10 + 4,none⟩ = some (.slice ad dl cp) ∧ w'.cell? ⟨b,o + q * 10 + 5,none⟩ = some (.slice al dn cp2)):=Lib.hid (fun w' hf=>⟨(World.cell?_of_block (hf.block b (y_lt (hcell 4 _ rfl)) id)).trans (hcell 4 _ rfl),(World.cell?_of_block (hf.block b (y_lt (hcell 5 _ rfl)) id)).trans (hcell 5 _ rfl)⟩)
  have p1 : decide ((q : Int) < (n : Int)) = true:=decide_eq_true (by omega)
  have p1' : decide (q < n) = true:=decide_eq_true (by omega)
  have hq0 : (0 : Int) ≤ (q : Int) ∧ (q : Int) < (n : Int):=by omega
  have HLT:=Lib.hid hlt
  have HWQ : Hid (wrap64 ((q : Int) + 1) = ((q + 1 : Nat) : Int)):=Lib.hid (by have:=HM.out;rw [wrap64];omega)
  clear hx hok hcell hlt
  go_upto_region 5 with (fail)
  refine region_Z (fun w'=>Fr (fun _=>False) wr w') 99 (Fr.drewN _ wr 1) (fun hH=>?_)
  refine takes (b:=?_) [0,1,2,3,4,5,6,7,8,9,10,11,12,13,14,15] hH ?_ ?_
  rotate_left
  iterate 16 ((refine Sq.yes (v:=?_) rfl (by rfl) ?_ ?_;rotate_left;· (intro w' hw';obtain ⟨s1,s2⟩:=HC.out w' (HFZ.out.trans hw');go_simp;try with_reducible rfl));try simp only [lD,lE,lF,Act.put,lG,lH,lI])
  exact Sq.nil
  refine any_done ?_
  clear hH p1 p1'
  have HF1 : Hid (Fr (fun _=>False) W (wr.drewN 1)):=Lib.hid (HFZ.out.trans (Fr.drewN _ wr 1))
  go_upto_region 7 with (fail)
  go_wp2_with fail
  go_loopw [3,5] (fun nv kv wz=>∃ (z : Int) (k : Nat),nv = .int .i64 z ∧ kv = .int .i64 k ∧ k ≤ dn ∧ Fr (fun _=>False) W wz) (fun _ kv _=>dn - (intOf kv).toNat)
  case atStart=>exact ⟨_,0,rfl,rfl,Nat.zero_le _,HF1.out⟩
  case round=>
   obtain ⟨z2,k,rfl,rfl,hk,hfz2⟩:=hrel
   have HFZ2:=Lib.hid hfz2
   have HK:=Lib.hid hk
   clear hk hfz2
   obtain ⟨s4,s5⟩:=HC.out _ HFZ2.out
   by_cases hkl : k < dn
   rotate_left
   ·have p3 : decide ((k : Int) < (dn : Int)) = false:=decide_eq_false (by omega)
    have p3' : decide (k < dn) = false:=decide_eq_false (by omega)
    clear hkl
    go_wp2_with fail
    go_roundw
    case rel=>exact ⟨z2,q + 1,rfl,congrArg (Value.int .i64) HWQ.out,HLT.out,HFZ2.out⟩
    case measure=>rw [HWQ.out];simp only [intOf];have:=HLT.out;omega
   obtain ⟨y,hy⟩ : ∃ y,x.l[k]? = some y:=⟨_,List.getElem?_eq_getElem (by rw [HOK.out.2.2.1];exact hkl)⟩
   obtain ⟨b2,o2,va,vc,hao,_,hcell2⟩:=HOK.out.2.2.2.2.1.at_ hy
   subst hao
   obtain ⟨ydl,hydl⟩ : ∃ m,y.d.length = m:=⟨_,rfl⟩
   rw [hydl] at hcell2
   have t4:=hcell2 _ HFZ2.out 4 _ rfl
   have p3 : decide ((k : Int) < (dn : Int)) = true:=decide_eq_true (by omega)
   have p3' : decide (k < dn) = true:=decide_eq_true (by omega)
   have hk0 : (0 : Int) ≤ (k : Int) ∧ (k : Int) < (dn : Int):=by omega
   have HKL:=Lib.hid hkl
   have HWK : Hid (wrap64 ((k : Int) + 1) = ((k + 1 : Nat) : Int)):=Lib.hid (by have h9:=HOK.out.2.2.2.1;unfold maxLen at h9;rw [wrap64];omega)
   clear hy hcell2 hydl hkl
   go_wp2_with fail
   go_roundw
   case rel=>exact ⟨_,k + 1,rfl,congrArg (Value.int .i64) HWK.out,HKL.out,HFZ2.out⟩
   case measure=>rw [HWK.out];simp only [intOf];have:=HKL.out;omega
end Go.Proofs.YtnkelaohcbdjnaaGreat
