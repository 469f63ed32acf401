/- Rows of outs of one's own. -/
import Derived.Test.YtnkelaohcbdjnaaGreatHy
import Derived.Test.YtnkelaohcbdjnaaGreatWy
import Derived.Deep.AppendLies
import Derived.Deep.Upon
set_option linter.unusedVariables false
set_option linter.unusedSimpArgs false
namespace Go.Proofs.YtnkelaohcbdjnaaGreat
open Go.RowKit Go.Maps
def flatO : List Ov → List Value → List Value
 | o :: os,u :: us=>ovc o u ++ flatO os us
 | _,_=>[]
theorem flatO_len : ∀ (os : List Ov) (us : List Value),us.length = os.length → (flatO os us).length = os.length * 8
 | [],[],_=>rfl
 | o :: os,u :: us,h=>by
   show (ovc o u ++ flatO os us).length = _
   rw [List.length_append,flatO_len os us (by simpa using h)]
   simp [ovc]
   omega
 | [],_ :: _,h=>by simp at h
 | _ :: _,[],h=>by simp at h
theorem flatO_at : ∀ (os : List Ov) (us : List Value),us.length = os.length → ∀ (i : Nat) (o : Ov) (u : Value) (j : Nat) (v : Value),os[i]? = some o → us[i]? = some u → (ovc o u)[j]? = some v → (flatO os us)[i * 8 + j]? = some v
 | [],_,_,i,o,u,j,v,h,_,_=>by simp at h
 | a :: os,[],hl,_,_,_,_,_,_,_,_=>by simp at hl
 | a :: os,b :: us,_,0,o,u,j,v,h,h',hj=>by
   obtain rfl : a = o:=by simpa using h
   obtain rfl : b = u:=by simpa using h'
   show (ovc a b ++ flatO os us)[0 * 8 + j]? = _
   have hlt : j < (ovc a b).length:=(List.getElem?_eq_some_iff.1 hj).1
   rw [Nat.zero_mul,Nat.zero_add,List.getElem?_append_left hlt]
   exact hj
 | a :: os,b :: us,hl,i + 1,o,u,j,v,h,h',hj=>by
   show (ovc a b ++ flatO os us)[(i + 1) * 8 + j]? = _
   have hle : (ovc a b).length = 8:=by simp [ovc]
   rw [List.getElem?_append_right (by omega),hle,show (i + 1) * 8 + j - 8 = i * 8 + j by omega]
   exact flatO_at os us (by simpa using hl) i o u j v (by simpa using h) (by simpa using h') hj
theorem flatO_app : ∀ (os os' : List Ov) (us us' : List Value),us.length = os.length → flatO (os ++ os') (us ++ us') = flatO os us ++ flatO os' us'
 | [],os',[],us',_=>rfl
 | [],_,_ :: _,_,h=>by simp at h
 | _ :: _,_,[],_,h=>by simp at h
 | a :: os,os',b :: us,us',h=>by
   show ovc a b ++ flatO (os ++ os') (us ++ us') = (ovc a b ++ flatO os us) ++ _
   rw [flatO_app os os' us us' (by simpa using h),List.append_assoc]
theorem flatO_idx : ∀ (os : List Ov) (us : List Value),us.length = os.length → ∀ (k : Nat) (x : Value),(flatO os us)[k]? = some x → ∃ o u,os[k / 8]? = some o ∧ us[k / 8]? = some u ∧ (ovc o u)[k % 8]? = some x:=by
 intro os us hl k x hx
 have hk : k < os.length * 8:=by rw [← flatO_len os us hl];exact (List.getElem?_eq_some_iff.1 hx).1
 have h8 : k / 8 < os.length:=by omega
 obtain ⟨o,ho⟩ : ∃ o,os[k / 8]? = some o:=⟨_,List.getElem?_eq_getElem h8⟩
 obtain ⟨u,hu⟩ : ∃ u,us[k / 8]? = some u:=⟨_,List.getElem?_eq_getElem (by omega)⟩
 obtain ⟨y,hy⟩ : ∃ y,(ovc o u)[k % 8]? = some y:=⟨_,List.getElem?_eq_getElem (by simp [ovc];omega)⟩
 have:=flatO_at os us hl _ o u _ y ho hu hy
 rw [show k / 8 * 8 + k % 8 = k by omega,hx] at this
 cases this
 exact ⟨o,u,ho,hu,hy⟩
/-- a row of outs of one's own,of elements of type E -/
def OwnO (E : TypeId) (W : World) (B : Nat) (v : Value) (os : List Ov) : Prop:=
 ∃ us : List Value,us.length = os.length ∧ W.ownsRow B E 8 v os.length (flatO os us) ∧ ∀ (i : Nat) (o : Ov) (u : Value),os[i]? = some o → us[i]? = some u → RowB (fun k=>k < B ∨ v.ownBlock = some k) W u o.d
def InfoO (t E : TypeId) : Prop:=Tryz.prog.underlying t = some (.slice E) ∧ ∃ (i : TypeInfo) (z : Value),Tryz.prog.info? E = some i ∧ i.zero = some z ∧ i.size = 8 ∧ i.bytes = 80 ∧ z.cells.size = 8
theorem OwnO.nil (E : TypeId) (W : World) (B : Nat) : OwnO E W B (.slice none 0 0) []:=⟨[],rfl,⟨rfl,.inl ⟨rfl,rfl⟩⟩,fun i o u h=>by simp at h⟩
theorem OwnO.lt {E : TypeId} {W : World} {B : Nat} {v : Value} {os : List Ov} (h : OwnO E W B v os) {k : Nat} (hk : v.ownBlock = some k) : B ≤ k ∧ k < W.heap.size:=by
 obtain ⟨us,_,⟨_,⟨h1,_⟩ | ⟨g,cap,cur,h1,hb,hgb,_⟩⟩,_⟩:=h
 ·rw [h1] at hk;cases hk
 ·rw [h1] at hk;cases hk;exact ⟨hb,(Array.getElem?_eq_some_iff.1 hgb).1⟩
theorem OwnO.form {E : TypeId} {W : World} {B : Nat} {v : Value} {os : List Ov} (h : OwnO E W B v os) : (v = .slice none 0 0 ∧ os = []) ∨ ∃ g cap,v = .slice (some ⟨g,0,none⟩) os.length cap ∧ os.length ≤ cap:=by
 obtain ⟨us,_,⟨_,⟨h1,h2⟩ | ⟨g,cap,cur,h1,hb,hgb,h4,_⟩⟩,_⟩:=h
 ·exact .inl ⟨h1,List.eq_nil_of_length_eq_zero h2⟩
 ·exact .inr ⟨g,cap,h1,h4⟩
theorem OwnO.fr {E : TypeId} {S : Nat → Prop} {W W2 : World} {B : Nat} {v : Value} {os : List Ov} (h : OwnO E W B v os) (hf : Fr S W W2) (hS : ∀ k,S k → k < B) : OwnO E W2 B v os:=by
 obtain ⟨us,hl,⟨h0,hown⟩,hd⟩:=h
 refine ⟨us,hl,⟨h0,?_⟩,fun i o u ho hu=>(hd i o u ho hu).fr (hf.mono fun k e=>.inl (hS k e))⟩
 rcases hown with h1 | ⟨g',cp',cur,h1,hb,hgb,r⟩
 ·exact .inl h1
 ·exact .inr ⟨g',cp',cur,h1,hb,(hf.block g' (Array.getElem?_eq_some_iff.1 hgb).1 (fun e=>by have:=hS _ e;omega)).trans hgb,r⟩
theorem OwnO.outs {E : TypeId} {W : World} {B : Nat} {v : Value} {os : List Ov} (h : OwnO E W B v os) : Outs B W v os:=by
 obtain ⟨us,hl,⟨h0,⟨h1,h2⟩ | ⟨g,cap,cur,h1,hb,hgb,hn,hcap,hcs,hct⟩⟩,hd⟩:=h
 ·exact .inl ⟨h1,List.eq_nil_of_length_eq_zero h2⟩
 ·refine .inr ⟨g,cap,h1,hb,(Array.getElem?_eq_some_iff.1 hgb).1,hn,hcap,fun i o ho=>?_⟩
  obtain ⟨u,hu⟩ : ∃ u,us[i]? = some u:=⟨_,List.getElem?_eq_getElem (by rw [hl];exact (List.getElem?_eq_some_iff.1 ho).1)⟩
  refine ⟨u,(hd i o u ho hu).to (fun k _ e=>.inl e),fun j x hx=>?_⟩
  have hf:=flatO_at os us hl i o u j x ho hu hx
  have hlt : i * 8 + j < os.length * 8:=by rw [← h0];exact (List.getElem?_eq_some_iff.1 hf).1
  rw [← hct,List.getElem?_take_of_lt hlt,Array.getElem?_toList] at hf
  simp only [World.cell?,hgb,Option.isSome_none,Bool.false_eq_true,if_false]
  exact hf
theorem ovc_one {S : Nat → Prop} {W : World} {o : Ov} {u : Value} (h : RowB S W u o.d) : ∀ x ∈ ovc o u,x.oneCell' = true:=by
 obtain ⟨ao,cap,rfl,_⟩:=h
 intro x hx
 simp [ovc] at hx
 rcases hx with rfl | rfl | rfl | rfl | rfl | rfl | rfl | rfl <;> rfl
/-- outs behind a row of one's own -/
theorem app_o {t E : TypeId} (hI : InfoO t E) (ty : TypeId) (W : World) (B B2 : Nat) (v y : Value) (xs ys : List Ov) (hB : B ≤ W.heap.size) (hown : OwnO E W B v xs) (hy : Outs B2 W y ys) (h2 : B ≤ B2) (h3 : ∀ k,v.ownBlock = some k → k < B2) (hn : xs.length + ys.length ≤ 1000000) :
 ∃ (v' : Value) (W' : World),(Builtin.append_ #[t,t] ty #[v,y]).run Tryz.prog W = .ok v' W' ∧ OwnO E W' B v' (xs ++ ys) ∧ Fr (fun k=>v.ownBlock = some k) W W' ∧ (v'.ownBlock = v.ownBlock ∨ v'.ownBlock = some W.heap.size):=by
 obtain ⟨hu,i,z,hi,hz,hs,hby,hzs⟩:=hI
 by_cases he : ys = []
 ·subst he
  have hsrc : Src Tryz.prog i.size t y 0 [] W:=by
   rcases hy with ⟨rfl,_⟩ | ⟨g,cp,rfl,_⟩
   ·exact Src.ofNil W hu 0
   ·exact Src.ofSlice W hu _ 0 cp [] (by simp) (fun j u h=>by simp at h) (fun u h=>by cases h)
  refine ⟨v,W,?_,by rw [List.append_nil];exact hown,Fr.refl _ _,.inl rfl⟩
  rcases hown.form with ⟨rfl,rfl⟩ | ⟨g,cap,rfl,hle⟩
  ·exact run_append_nothing W t t ty E i hu hi none 0 0 (Nat.le_refl _) _ hsrc
  ·exact run_append_nothing W t t ty E i hu hi _ _ _ hle _ hsrc
 obtain ⟨us,hl,hrow,hd⟩:=hown
 rcases hy with ⟨_,h⟩ | ⟨g2,cp2,rfl,hg2,hg2l,hle2,hcp2,hel⟩
 ·exact absurd h he
 have hex : ∀ k : Nat,∃ us2 : List Value,us2.length = min k ys.length ∧ ∀ i o u,i < k → ys[i]? = some o → us2[i]? = some u → RowB (fun k=>k < B2) W u o.d ∧ ∀ (j : Nat) (x : Value),(ovc o u)[j]? = some x → W.cell? ⟨g2,i * 8 + j,none⟩ = some x:=by
  intro k
  induction k with
  | zero=>exact ⟨[],by simp,fun i o u h=>by omega⟩
  | succ k ih=>
    obtain ⟨us2,hl2,h2⟩:=ih
    by_cases hk : k < ys.length
    ·obtain ⟨o,ho⟩ : ∃ o,ys[k]? = some o:=⟨_,List.getElem?_eq_getElem hk⟩
     obtain ⟨u,hu1,hu2⟩:=hel k o ho
     refine ⟨us2 ++ [u],by rw [List.length_append,hl2];simp;omega,fun i o' u' hi ho' hu'=>?_⟩
     by_cases hik : i < k
     ·rw [List.getElem?_append_left (by omega)] at hu'
      exact h2 i o' u' hik ho' hu'
     ·obtain rfl : i = k:=by omega
      rw [ho] at ho'
      cases ho'
      rw [List.getElem?_append_right (by omega),show i - us2.length = 0 by omega] at hu'
      cases hu'
      exact ⟨hu1,hu2⟩
    ·exact ⟨us2,by omega,fun i o u hi ho=>h2 i o u (by have:=(List.getElem?_eq_some_iff.1 ho).1;omega) ho⟩
 obtain ⟨us2,hl2,hus2⟩:=hex ys.length
 rw [Nat.min_self] at hl2
 have hat : ∀ i o u,ys[i]? = some o → us2[i]? = some u → RowB (fun k=>k < B2) W u o.d ∧ ∀ (j : Nat) (x : Value),(ovc o u)[j]? = some x → W.cell? ⟨g2,i * 8 + j,none⟩ = some x:=fun i o u ho hu=>hus2 i o u (List.getElem?_eq_some_iff.1 ho).1 ho hu
 have hpos : 0 < ys.length:=by cases ys with | nil=>exact absurd rfl he | cons a l=>simp
 obtain ⟨g,cap,W',h1,h2',h3',h4,h5⟩:=Go.run_append_lies (P:=Tryz.prog) W t ty B E i z 8 80 hu hi hz hs hby hzs (by omega) v xs.length (flatO xs us) hrow ⟨g2,0,none⟩ ys.length cp2 (flatO ys us2) (flatO_len ys us2 hl2) (fun j u hj=>by
  obtain ⟨o,x,ho,hx,hc⟩:=flatO_idx ys us2 hl2 j u hj
  have:=(hat _ o x ho hx).2 _ u hc
  rw [show j / 8 * 8 + j % 8 = j by omega] at this
  rw [off_add,Nat.zero_add]
  exact this) (fun x hx=>by
  obtain ⟨j,hj⟩:=List.getElem?_of_mem hx
  obtain ⟨o,u,ho,hu',hc⟩:=flatO_idx ys us2 hl2 j x hj
  exact ovc_one (hat _ o u ho hu').1 x (List.mem_of_getElem? hc)) hpos (by unfold maxLen;omega) (by omega) hB _ rfl
 have hfr : Fr (fun k=>v.ownBlock = some k) W W':=Fr.grown h3' (fun k e=>e)
 have hnew : ∀ k,k < W.heap.size → (Value.slice (some ⟨g,0,none⟩) (xs.length + ys.length) cap).ownBlock = some k → v.ownBlock = some k:=by
  intro k hk e
  have e' : g = k:=by simpa [Value.ownBlock] using e
  rcases h4 with h4 | h4
  ·rw [h4,e']
  ·omega
 refine ⟨_,W',h1,⟨us ++ us2,by simp [hl,hl2],?_,fun i o u ho hu'=>?_⟩,hfr,by
  rcases h4 with h4 | h4
  ·exact .inl h4.symm
  ·exact .inr (by rw [h4];rfl)⟩
 ·rw [List.length_append,flatO_app xs ys us us2 hl]
  exact h2'
 ·by_cases hi' : i < xs.length
  ·rw [List.getElem?_append_left hi'] at ho
   rw [List.getElem?_append_left (by omega)] at hu'
   exact ((hd i o u ho hu').to (S':=fun k=>k < B ∨ (Value.slice (some ⟨g,0,none⟩) (xs.length + ys.length) cap).ownBlock = some k ∨ v.ownBlock = some k) (fun k hk e=>by
    rcases e with e | e | e
    ·exact .inl e
    ·exact .inr (hnew k hk e)
    ·exact .inr e)).fr (hfr.mono fun k e=>.inr (.inr e)) |>.to (fun k _ e=>e.elim .inl (fun e=>.inr (.inl e)))
  ·rw [List.getElem?_append_right (by omega)] at ho
   rw [List.getElem?_append_right (by omega),hl] at hu'
   exact ((hat _ o u ho hu').1.to (S':=fun k=>k < B ∨ (Value.slice (some ⟨g,0,none⟩) (xs.length + ys.length) cap).ownBlock = some k ∨ v.ownBlock = some k) (fun k hk e=>by
    rcases e with e | e | e
    ·omega
    ·exact h3 k (hnew k hk e)
    ·exact h3 k e)).fr (hfr.mono fun k e=>.inr (.inr e)) |>.to (fun k _ e=>e.elim .inl (fun e=>.inr (.inl e)))
/-- a run in a frame that also names the row's own block -/
theorem PF.app {T : Nat → Prop} {W W' : World} {xb xm B : Nat} {s : FSt} {v v' : Value} (h : PF (fun k=>T k ∨ v.ownBlock = some k) W xb xm s) (hx : T xb) (hm : T xm) (hf : Fr (fun k=>v.ownBlock = some k) W W') (hT : ∀ k,T k → k < B) (h1 : ∀ k,v.ownBlock = some k → B ≤ k) (h2 : v'.ownBlock = v.ownBlock ∨ v'.ownBlock = some W.heap.size) (h3 : ∀ k,v'.ownBlock = some k → k < W'.heap.size) : PF (fun k=>T k ∨ v'.ownBlock = some k) W' xb xm s:=by
 have e1 : FL (fun k=>T k ∨ v'.ownBlock = some k ∨ v.ownBlock = some k) W xb xm s:=h.fl.to (fun k hk e=>by
  rcases e with e | e | e
  ·exact .inl e
  ·rcases h2 with h2 | h2
   ·exact .inr (h2 ▸ e)
   ·rw [h2] at e
    have:=Option.some.inj e
    omega
  ·exact .inr e)
 have e2:=e1.fr hf (fun k e=>.inr (.inr e)) (fun e=>by have:=h1 _ e;have:=hT _ hx;omega) (fun e=>by have:=h1 _ e;have:=hT _ hm;omega)
 refine ⟨e2.to (fun k _ e=>e.elim .inl (fun e=>.inr (.inl e))),.inl hx,.inl hm,fun k e=>?_⟩
 rcases e with e | e
 ·exact Nat.lt_of_lt_of_le (h.lt k (.inl e)) hf.size
 ·exact h3 k e
theorem infoO28 : InfoO 26 47:=by
 refine ⟨Tryz.underlying26,?_⟩
 have h : (Tryz.prog.info? 47).map (fun i=>(i.zero.map (fun z=>z.cells.size),i.size,i.bytes)) = some (some 8,8,80):=by kernel_rfl
 cases hi : Tryz.prog.info? 47 with
 | none=>rw [hi] at h;cases h
 | some i=>
   rw [hi] at h
   simp only [Option.map_some,Option.some.injEq,Prod.mk.injEq] at h
   obtain ⟨h1,h2,h3⟩:=h
   cases hz : i.zero with
   | none=>rw [hz] at h1;cases h1
   | some z=>
     rw [hz] at h1
     simp only [Option.map_some,Option.some.injEq] at h1
     exact ⟨i,z,rfl,hz,h2,h3,h1⟩
theorem infoO45 : InfoO 31 104:=by
 refine ⟨Tryz.underlying31,?_⟩
 have h : (Tryz.prog.info? 104).map (fun i=>(i.zero.map (fun z=>z.cells.size),i.size,i.bytes)) = some (some 8,8,80):=by kernel_rfl
 cases hi : Tryz.prog.info? 104 with
 | none=>rw [hi] at h;cases h
 | some i=>
   rw [hi] at h
   simp only [Option.map_some,Option.some.injEq,Prod.mk.injEq] at h
   obtain ⟨h1,h2,h3⟩:=h
   cases hz : i.zero with
   | none=>rw [hz] at h1;cases h1
   | some z=>
     rw [hz] at h1
     simp only [Option.map_some,Option.some.injEq] at h1
     exact ⟨i,z,rfl,hz,h2,h3,h1⟩
end Go.Proofs.YtnkelaohcbdjnaaGreat
