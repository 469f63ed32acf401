/- Rows of outs of one's own,their bytes outside of a named set. -/
import Derived.Test.YtnkelaohcbdjnaaGreatOw
import Derived.Test.YtnkelaohcbdjnaaGreatRd
set_option linter.unusedVariables false
set_option linter.unusedSimpArgs false
namespace Go.Proofs.YtnkelaohcbdjnaaGreat
open Go.RowKit Go.Maps
/-- a slice that shows what comes out,its bytes in no block of X -/
def OutsX (X : Nat → Prop) (W : World) (v : Value) (os : List Ov) : Prop:=
 (v = .slice none 0 0 ∧ os = []) ∨ ∃ g cp,v = .slice (some ⟨g,0,none⟩) os.length cp ∧ g < W.heap.size ∧ os.length ≤ cp ∧ cp ≤ maxLen ∧
   ∀ (i : Nat) (o : Ov),os[i]? = some o → ∃ u,RowB X W u o.d ∧ ∀ (j : Nat) (x : Value),(ovc o u)[j]? = some x → W.cell? ⟨g,i * 8 + j,none⟩ = some x
theorem Outs.toX {X : Nat → Prop} {B : Nat} {W : World} {v : Value} {os : List Ov} (h : Outs B W v os) (hX : ∀ k,k < W.heap.size → X k → k < B) : OutsX X W v os:=by
 rcases h with h | ⟨g,cp,h1,h2,h3,h4,h5,h6⟩
 ·exact .inl h
 ·refine .inr ⟨g,cp,h1,h3,h4,h5,fun i o ho=>?_⟩
  obtain ⟨u,h7,h8⟩:=h6 i o ho
  exact ⟨u,h7.to hX,h8⟩
/-- without bytes -/
theorem Outs.bare {X : Nat → Prop} {B : Nat} {W : World} {v : Value} {os : List Ov} (h : Outs B W v os) (hd : ∀ o ∈ os,o.d = []) : OutsX X W v os:=by
 rcases h with h | ⟨g,cp,h1,h2,h3,h4,h5,h6⟩
 ·exact .inl h
 ·refine .inr ⟨g,cp,h1,h3,h4,h5,fun i o ho=>?_⟩
  obtain ⟨u,h7,h8⟩:=h6 i o ho
  refine ⟨u,?_,h8⟩
  obtain ⟨ao,cap,e1,e2,e3,e4,e5⟩:=h7
  exact ⟨ao,cap,e1,e2,e3,e4,fun a ha=>⟨fun hn=>absurd (hd o (List.mem_of_getElem? ho)) hn,(e5 a ha).2⟩⟩
theorem OutsX.one {X : Nat → Prop} {W : World} {g : Nat} {t : TypeId} (o : Ov) (u : Value) (hu : RowB X W u o.d) (hb : Blk W g t (ovc o u).toArray) : OutsX X W (.slice (some ⟨g,0,none⟩) 1 1) [o]:=by
 refine .inr ⟨g,1,rfl,hb.lt,Nat.le_refl _,by decide,fun i o' ho=>?_⟩
 cases i with
 | zero=>
   cases ho
   refine ⟨u,hu,fun j x hx=>?_⟩
   have:=hb.cell j
   rw [lA,hx] at this
   simpa using this
 | succ i=>simp at ho
theorem OutsX.to {X X' : Nat → Prop} {W : World} {v : Value} {os : List Ov} (h : OutsX X W v os) (hX : ∀ k,k < W.heap.size → X' k → X k) : OutsX X' W v os:=by
 rcases h with h | ⟨g,cp,h1,h3,h4,h5,h6⟩
 ·exact .inl h
 ·refine .inr ⟨g,cp,h1,h3,h4,h5,fun i o ho=>?_⟩
  obtain ⟨u,h7,h8⟩:=h6 i o ho
  exact ⟨u,h7.to hX,h8⟩
/-- a method of the document's,of whose outs the bytes lie apart from the run -/
def RMethX (S R : Nat → Prop) (W : World) (rb : Nat) (s' : FSt) (os : List Ov) (b : Prop) (e : Ending) (W' : World) : Prop:=∃ v S' R',e = .returned v ∧ Outs W.heap.size W' v os ∧ Same2 W S R S' R' ∧ RF S' R' W' rb s' ∧ Fr R W W' ∧ (b → OutsX (fun q=>q < W.heap.size ∨ R' q) W' v os)
theorem RMeth.x {S R : Nat → Prop} {W W' : World} {rb : Nat} {s : FSt} {os : List Ov} {e : Ending} {b : Prop} (h : RMeth S R W rb s os e W') (hd : b → ∀ o ∈ os,o.d = []) : RMethX S R W rb s os b e W':=by
 obtain ⟨v,h1,h2,S',R',h3,h4,h5⟩:=h
 exact ⟨v,S',R',h1,h2,h3,h4,h5,fun hb=>h2.bare (hd hb)⟩
theorem RMethX.plain {S R : Nat → Prop} {W W' : World} {rb : Nat} {s : FSt} {os : List Ov} {e : Ending} {b : Prop} (h : RMethX S R W rb s os b e W') : RMeth S R W rb s os e W':=by
 obtain ⟨v,S',R',h1,h2,h3,h4,h5,_⟩:=h
 exact ⟨v,h1,h2,S',R',h3,h4,h5⟩
def OwnX (E : TypeId) (X : Nat → Prop) (W : World) (B : Nat) (v : Value) (os : List Ov) : Prop:=
 ∃ us : List Value,us.length = os.length ∧ W.ownsRow B E 8 v os.length (flatO os us) ∧ ∀ (i : Nat) (o : Ov) (u : Value),os[i]? = some o → us[i]? = some u → RowB (fun k=>X k ∨ v.ownBlock = some k) W u o.d
theorem OwnX.nil (E : TypeId) (X : Nat → Prop) (W : World) (B : Nat) : OwnX E X W B (.slice none 0 0) []:=⟨[],rfl,⟨rfl,.inl ⟨rfl,rfl⟩⟩,fun i o u h=>by simp at h⟩
theorem OwnX.ob {E : TypeId} {X : Nat → Prop} {W : World} {B : Nat} {v : Value} {os : List Ov} (h : OwnX E X W B v os) {k : Nat} (hk : v.ownBlock = some k) : B ≤ k ∧ k < W.heap.size ∧ ∃ cs,W.heap[k]? = some (.cells cs E (0,0)):=by
 obtain ⟨us,_,⟨_,⟨h1,_⟩ | ⟨g,cap,cur,h1,hb,hgb,_⟩⟩,_⟩:=h
 ·rw [h1] at hk;cases hk
 ·rw [h1] at hk;cases hk;exact ⟨hb,(Array.getElem?_eq_some_iff.1 hgb).1,cur,hgb⟩
theorem OwnX.form {E : TypeId} {X : Nat → Prop} {W : World} {B : Nat} {v : Value} {os : List Ov} (h : OwnX E X W B v os) : (v = .slice none 0 0 ∧ os = []) ∨ ∃ g cap,v = .slice (some ⟨g,0,none⟩) os.length cap ∧ os.length ≤ cap:=by
 obtain ⟨us,_,⟨_,⟨h1,h2⟩ | ⟨g,cap,cur,h1,hb,hgb,h4,_⟩⟩,_⟩:=h
 ·exact .inl ⟨h1,List.eq_nil_of_length_eq_zero h2⟩
 ·exact .inr ⟨g,cap,h1,h4⟩
theorem OwnX.fr {E : TypeId} {S X : Nat → Prop} {W W2 : World} {B : Nat} {v : Value} {os : List Ov} (h : OwnX E X W B v os) (hf : Fr S W W2) (hS : ∀ k,S k → X k) (hb : ∀ k,v.ownBlock = some k → ¬ S k) : OwnX E X W2 B v os:=by
 obtain ⟨us,hl,⟨h0,hown⟩,hd⟩:=h
 refine ⟨us,hl,⟨h0,?_⟩,fun i o u ho hu=>(hd i o u ho hu).fr (hf.mono fun k e=>.inl (hS k e))⟩
 rcases hown with h1 | ⟨g',cp',cur,h1,hb',hgb,r⟩
 ·exact .inl h1
 ·exact .inr ⟨g',cp',cur,h1,hb',(hf.block g' (Array.getElem?_eq_some_iff.1 hgb).1 (hb g' (by rw [h1];rfl))).trans hgb,r⟩
theorem OwnX.to {E : TypeId} {X X' : Nat → Prop} {W : World} {B : Nat} {v : Value} {os : List Ov} (h : OwnX E X W B v os) (hX : ∀ k,k < W.heap.size → X' k → X k) : OwnX E X' W B v os:=by
 obtain ⟨us,hl,h0,hd⟩:=h
 exact ⟨us,hl,h0,fun i o u ho hu=>(hd i o u ho hu).to (fun k hk e=>e.elim (fun e=>.inl (hX k hk e)) .inr)⟩
theorem OwnX.outs {E : TypeId} {X : Nat → Prop} {W : World} {B : Nat} {v : Value} {os : List Ov} (h : OwnX E X W B v os) (hX : ∀ k,k < B → X k) : Outs B W v os:=by
 have h' : OwnO E W B v os:=by
  obtain ⟨us,hl,h0,hd⟩:=h
  exact ⟨us,hl,h0,fun i o u ho hu=>(hd i o u ho hu).to (fun k hk e=>e.elim (fun e=>.inl (hX k e)) .inr)⟩
 exact h'.outs
/-- outs behind a row of one's own -/
theorem app_oX {t E : TypeId} (hI : InfoO t E) (ty : TypeId) (X : Nat → Prop) (W : World) (B : Nat) (v y : Value) (xs ys : List Ov) (hB : B ≤ W.heap.size) (hown : OwnX E X W B v xs) (hy : OutsX (fun k=>X k ∨ v.ownBlock = some k) W y ys) (hn : xs.length + ys.length ≤ 1000000) :
 ∃ (v' : Value) (W' : World),(Builtin.append_ #[t,t] ty #[v,y]).run Tryz.prog W = .ok v' W' ∧ OwnX E X W' B v' (xs ++ ys) ∧ Fr (fun k=>v.ownBlock = some k) W W' ∧ (v'.ownBlock = v.ownBlock ∨ v'.ownBlock = some W.heap.size):=by
 obtain ⟨hu,i,z,hi,hz,hs,hby,hzs⟩:=hI
 by_cases he : ys = []
 ·subst he
  have hsrc : Src Tryz.prog i.size t y 0 [] W:=by
   rcases hy with ⟨rfl,_⟩ | ⟨g,cp,rfl,_⟩
   ·exact Src.ofNil W hu 0
   ·exact Src.ofSlice W hu _ 0 cp [] (by simp) (fun j u h=>by simp at h) (fun u h=>by cases h)
  refine ⟨v,W,?_,by rw [List.append_nil];exact hown,Fr.refl _ _,.inl rfl⟩
  rcases hown.form with ⟨rfl,rfl⟩ | ⟨g,cap,rfl,hle⟩
  ·exact run_append_nothing W t t ty E i hu hi none 0 0 (Nat.le_refl _) _ hsrc
  ·exact run_append_nothing W t t ty E i hu hi _ _ _ hle _ hsrc
 obtain ⟨us,hl,hrow,hd⟩:=hown
 rcases hy with ⟨_,h⟩ | ⟨g2,cp2,rfl,hg2l,hle2,hcp2,hel⟩
 ·exact absurd h he
 have hex : ∀ k : Nat,∃ us2 : List Value,us2.length = min k ys.length ∧ ∀ i o u,i < k → ys[i]? = some o → us2[i]? = some u → RowB (fun k=>X k ∨ v.ownBlock = some k) W u o.d ∧ ∀ (j : Nat) (x : Value),(ovc o u)[j]? = some x → W.cell? ⟨g2,i * 8 + j,none⟩ = some x:=by
  intro k
  induction k with
  | zero=>exact ⟨[],by simp,fun i o u h=>by omega⟩
  | succ k ih=>
    obtain ⟨us2,hl2,h2⟩:=ih
    by_cases hk : k < ys.length
    ·obtain ⟨o,ho⟩ : ∃ o,ys[k]? = some o:=⟨_,List.getElem?_eq_getElem hk⟩
     obtain ⟨u,hu1,hu2⟩:=hel k o ho
     refine ⟨us2 ++ [u],by rw [List.length_append,hl2];simp;omega,fun i o' u' hi ho' hu'=>?_⟩
     by_cases hik : i < k
     ·rw [List.getElem?_append_left (by omega)] at hu'
      exact h2 i o' u' hik ho' hu'
     ·obtain rfl : i = k:=by omega
      rw [ho] at ho'
      cases ho'
      rw [List.getElem?_append_right (by omega),show i - us2.length = 0 by omega] at hu'
      cases hu'
      exact ⟨hu1,hu2⟩
    ·exact ⟨us2,by omega,fun i o u hi ho=>h2 i o u (by have:=(List.getElem?_eq_some_iff.1 ho).1;omega) ho⟩
 obtain ⟨us2,hl2,hus2⟩:=hex ys.length
 rw [Nat.min_self] at hl2
 have hat : ∀ i o u,ys[i]? = some o → us2[i]? = some u → RowB (fun k=>X k ∨ v.ownBlock = some k) W u o.d ∧ ∀ (j : Nat) (x : Value),(ovc o u)[j]? = some x → W.cell? ⟨g2,i * 8 + j,none⟩ = some x:=fun i o u ho hu=>hus2 i o u (List.getElem?_eq_some_iff.1 ho).1 ho hu
 have hpos : 0 < ys.length:=by cases ys with | nil=>exact absurd rfl he | cons a l=>simp
 obtain ⟨g,cap,W',h1,h2',h3',h4,h5⟩:=Go.run_append_lies (P:=Tryz.prog) W t ty B E i z 8 80 hu hi hz hs hby hzs (by omega) v xs.length (flatO xs us) hrow ⟨g2,0,none⟩ ys.length cp2 (flatO ys us2) (flatO_len ys us2 hl2) (fun j u hj=>by
  obtain ⟨o,x,ho,hx,hc⟩:=flatO_idx ys us2 hl2 j u hj
  have:=(hat _ o x ho hx).2 _ u hc
  rw [show j / 8 * 8 + j % 8 = j by omega] at this
  rw [off_add,Nat.zero_add]
  exact this) (fun x hx=>by
  obtain ⟨j,hj⟩:=List.getElem?_of_mem hx
  obtain ⟨o,u,ho,hu',hc⟩:=flatO_idx ys us2 hl2 j x hj
  exact ovc_one (hat _ o u ho hu').1 x (List.mem_of_getElem? hc)) hpos (by unfold maxLen;omega) (by omega) hB _ rfl
 have hfr : Fr (fun k=>v.ownBlock = some k) W W':=Fr.grown h3' (fun k e=>e)
 have hnew : ∀ k,k < W.heap.size → (Value.slice (some ⟨g,0,none⟩) (xs.length + ys.length) cap).ownBlock = some k → v.ownBlock = some k:=by
  intro k hk e
  have e' : g = k:=by simpa [Value.ownBlock] using e
  rcases h4 with h4 | h4
  ·rw [h4,e']
  ·omega
 refine ⟨_,W',h1,⟨us ++ us2,by simp [hl,hl2],?_,fun i o u ho hu'=>?_⟩,hfr,by
  rcases h4 with h4 | h4
  ·exact .inl h4.symm
  ·exact .inr (by rw [h4];rfl)⟩
 ·rw [List.length_append,flatO_app xs ys us us2 hl]
  exact h2'
 ·by_cases hi' : i < xs.length
  ·rw [List.getElem?_append_left hi'] at ho
   rw [List.getElem?_append_left (by omega)] at hu'
   exact ((hd i o u ho hu').to (S':=fun k=>X k ∨ (Value.slice (some ⟨g,0,none⟩) (xs.length + ys.length) cap).ownBlock = some k ∨ v.ownBlock = some k) (fun k hk e=>by
    rcases e with e | e | e
    ·exact .inl e
    ·exact .inr (hnew k hk e)
    ·exact .inr e)).fr (hfr.mono fun k e=>.inr (.inr e)) |>.to (fun k _ e=>e.elim .inl (fun e=>.inr (.inl e)))
  ·rw [List.getElem?_append_right (by omega)] at ho
   rw [List.getElem?_append_right (by omega),hl] at hu'
   exact ((hat _ o u ho hu').1.to (S':=fun k=>X k ∨ (Value.slice (some ⟨g,0,none⟩) (xs.length + ys.length) cap).ownBlock = some k ∨ v.ownBlock = some k) (fun k hk e=>by
    rcases e with e | e | e
    ·exact .inl e
    ·exact .inr (hnew k hk e)
    ·exact .inr e)).fr (hfr.mono fun k e=>.inr (.inr e)) |>.to (fun k _ e=>e.elim .inl (fun e=>.inr (.inl e)))
/-- the document's run,beside a row of outs that grows -/
theorem RF.app {S R : Nat → Prop} {W W' : World} {rb : Nat} {s : FSt} {v v' : Value} {E : TypeId} {X : Nat → Prop} {B : Nat} {os : List Ov} (h : RF S R W rb s) (hown : OwnX E X W B v os) (hE : E ≠ 62) (hf : Fr (fun k=>v.ownBlock = some k) W W') (h1 : ∀ k,v.ownBlock = some k → S k ∧ ¬ R k) (h2 : v'.ownBlock = v.ownBlock ∨ v'.ownBlock = some W.heap.size) (h3 : ∀ k,v'.ownBlock = some k → k < W'.heap.size) :
 ∃ S',Same2 W S R S' R ∧ RF S' R W' rb s ∧ ∀ k,v'.ownBlock = some k → S' k ∧ ¬ R k:=by
 obtain ⟨⟨vv,L,hb,ho,hl,ht,hk⟩,g1,g2,g3,g4,g5⟩:=h
 have hS : ∀ k,k < W.heap.size → v'.ownBlock = some k → v.ownBlock = some k:=fun k hk e=>by
  rcases h2 with h2 | h2
  ·exact h2 ▸ e
  ·rw [h2] at e
   have:=Option.some.inj e
   omega
 have hnR : ∀ k,v'.ownBlock = some k → ¬ R k:=fun k e hR=>(h1 k (hS k (g3 _ (g2 _ hR)) e)).2 hR
 refine ⟨fun k=>S k ∨ v'.ownBlock = some k,fun k hk=>⟨⟨fun e=>e.elim id (fun e=>(h1 k (hS k hk e)).1),.inl⟩,Iff.rfl⟩,⟨⟨vv,L,hb.fr hf (fun e=>(h1 rb e).2 g1),ho.fr hf (fun k hk e=>by
  obtain ⟨_,_,cs',hc'⟩:=hown.ob e
  obtain ⟨_,_,cs2,hc2⟩:=ho.ob hk
  rw [hc'] at hc2
  cases hc2
  exact hE rfl),hl,(ht.to (S':=fun k=>S k ∨ v'.ownBlock = some k) fun k hk e=>e.elim id (fun e=>(h1 k (hS k hk e)).1)).fr hf (fun k e=>.inl (h1 k e).1),hk⟩,g1,fun k e=>.inl (g2 k e),fun k e=>e.elim (fun e=>Nat.lt_of_lt_of_le (g3 k e) hf.size) (h3 k),g4,g5⟩,fun k e=>⟨.inr e,hnR k e⟩⟩
end Go.Proofs.YtnkelaohcbdjnaaGreat
