/- Rows of events of one's own. -/
import Derived.Test.YtnkelaohcbdjnaaGreatEvP
import Derived.Test.YtnkelaohcbdjnaaGreatK
import Derived.Deep.AppendLies
import Derived.Deep.Upon
set_option linter.unusedVariables false
set_option linter.unusedSimpArgs false
namespace Go.Proofs.YtnkelaohcbdjnaaGreat
open Go.RowKit Go.Maps Ev
def flatV (l : List Ev) : List Value:=l.flatMap (fun e=>(evc e).toList)
theorem flatV_len : ∀ l : List Ev,(flatV l).length = l.length * 7
 | []=>rfl
 | e :: l=>by
   show ((evc e).toList ++ flatV l).length = _
   rw [List.length_append,flatV_len l]
   simp [evc]
   omega
theorem flatV_at : ∀ (l : List Ev) (i : Nat) (e : Ev) (j : Nat) (v : Value),l[i]? = some e → (evc e)[j]? = some v → (flatV l)[i * 7 + j]? = some v
 | [],i,e,j,v,h,_=>by simp at h
 | a :: l,0,e,j,v,h,hj=>by
   obtain rfl : a = e:=by simpa using h
   show ((evc a).toList ++ flatV l)[0 * 7 + j]? = _
   have hlt : j < 7:=by simpa [evc] using (Array.getElem?_eq_some_iff.1 hj).1
   rw [Nat.zero_mul,Nat.zero_add,List.getElem?_append_left (by simpa [evc] using hlt),Array.getElem?_toList]
   exact hj
 | a :: l,i + 1,e,j,v,h,hj=>by
   show ((evc a).toList ++ flatV l)[(i + 1) * 7 + j]? = _
   have hl : (evc a).toList.length = 7:=by simp [evc]
   rw [List.getElem?_append_right (by omega),hl,show (i + 1) * 7 + j - 7 = i * 7 + j by omega]
   exact flatV_at l i e j v (by simpa using h) hj
theorem evc_one (e : Ev) : ∀ u ∈ (evc e).toList,u.oneCell' = true:=by
 intro u hu
 simp [evc] at hu
 rcases hu with rfl | rfl | rfl | rfl | rfl | rfl | rfl <;> rfl
/-- a row of pieces of one's own,of elements of type E -/
def OwnV (W : World) (B : Nat) (v : Value) (l : List Ev) : Prop:=W.ownsRow B 62 7 v l.length (flatV l)
theorem OwnV.nil0 (W : World) (B : Nat) : OwnV W B (.slice none 0 0) []:=⟨rfl,.inl ⟨rfl,rfl⟩⟩
theorem OwnV.form {W : World} {B : Nat} {v : Value} {l : List Ev} (h : OwnV W B v l) : (v = .slice none 0 0 ∧ l = []) ∨ ∃ g cap,v = .slice (some ⟨g,0,Option.none⟩) l.length cap ∧ B ≤ g ∧ g < W.heap.size ∧ l.length ≤ cap ∧ cap ≤ maxLen ∧ (∃ cs,W.heap[g]? = some (.cells cs 62 (0,0))) ∧ ∀ i e,l[i]? = some e → ∀ j u,(evc e)[j]? = some u → W.cell? ⟨g,i * 7 + j,Option.none⟩ = some u:=by
 obtain ⟨hl,⟨h1,h2⟩ | ⟨g,cap,cur,h1,hb,hgb,hn,hcap,hcs,hct⟩⟩:=h
 ·exact .inl ⟨h1,List.eq_nil_of_length_eq_zero h2⟩
 ·refine .inr ⟨g,cap,h1,hb,(Array.getElem?_eq_some_iff.1 hgb).1,hn,hcap,⟨cur,hgb⟩,fun i e he j u hj=>?_⟩
  have hf:=flatV_at l i e j u he hj
  have hlt : i * 7 + j < l.length * 7:=by
   have h1:=(List.getElem?_eq_some_iff.1 he).1
   have h2 : j < 7:=by simpa [evc] using (Array.getElem?_eq_some_iff.1 hj).1
   omega
  rw [← hct,List.getElem?_take_of_lt hlt,Array.getElem?_toList] at hf
  simp only [World.cell?,hgb,Option.isSome_none,Bool.false_eq_true,if_false]
  exact hf
theorem OwnV.ob {W : World} {B : Nat} {v : Value} {l : List Ev} (h : OwnV W B v l) {k : Nat} (hk : v.ownBlock = some k) : B ≤ k ∧ k < W.heap.size ∧ ∃ cs,W.heap[k]? = some (.cells cs 62 (0,0)):=by
 obtain ⟨hl,hown⟩:=h
 rcases hown with ⟨h1,_⟩ | ⟨g',cp',cur,h1,hb,hgb,r⟩
 ·rw [h1] at hk;cases hk
 ·rw [h1] at hk
  cases hk
  exact ⟨hb,(Array.getElem?_eq_some_iff.1 hgb).1,cur,hgb⟩
theorem OwnV.fr {S : Nat → Prop} {W W2 : World} {B : Nat} {v : Value} {l : List Ev} (h : OwnV W B v l) (hf : Fr S W W2) (hS : ∀ k,v.ownBlock = some k → ¬ S k) : OwnV W2 B v l:=by
 obtain ⟨hl,hown⟩:=h
 refine ⟨hl,?_⟩
 rcases hown with h1 | ⟨g',cp',cur,h1,hb,hgb,r⟩
 ·exact .inl h1
 ·exact .inr ⟨g',cp',cur,h1,hb,(hf.block g' (Array.getElem?_eq_some_iff.1 hgb).1 (hS g' (by rw [h1];rfl))).trans hgb,r⟩
theorem infoV : ∃ (i : TypeInfo) (z : Value),Tryz.prog.info? 62 = some i ∧ i.zero = some z ∧ i.size = 7 ∧ i.bytes = 72 ∧ z.cells.size = 7:=by
 have h : (Tryz.prog.info? 62).map (fun i=>(i.zero.map Value.cells,i.size,i.bytes)) = some (some #[.int .i64 0,.int .i64 0,.int .i64 0,.int .i64 0,.int .i64 0,.int .i64 0,.slice none 0 0],7,72):=by kernel_rfl
 cases hi : Tryz.prog.info? 62 with
 | none=>rw [hi] at h;cases h
 | some i=>
   rw [hi] at h
   simp only [Option.map_some,Option.some.injEq,Prod.mk.injEq] at h
   obtain ⟨h1,h2,h3⟩:=h
   cases hz : i.zero with
   | none=>rw [hz] at h1;cases h1
   | some z=>
     rw [hz] at h1
     simp only [Option.map_some,Option.some.injEq] at h1
     exact ⟨i,z,rfl,hz,h2,h3,by rw [h1];rfl⟩
/-- a piece behind a row of one's own -/
theorem app_v (ty : TypeId)
 (W : World) (B : Nat) (v : Value) (xs : List Ev) (p : Ev) (hB : B ≤ W.heap.size) (hown : OwnV W B v xs) (b : Nat) (hb : Blk W b 62 (evc p)) (hn : xs.length + 1 ≤ 10000000) :
 ∃ (v' : Value) (W' : World),(Builtin.append_ #[34,34] ty #[v,.slice (some ⟨b,0,none⟩) 1 1]).run Tryz.prog W = .ok v' W' ∧ OwnV W' B v' (xs ++ [p]) ∧ Fr (fun k=>v.ownBlock = some k) W W' ∧ (v'.ownBlock = v.ownBlock ∨ v'.ownBlock = some W.heap.size):=by
 obtain ⟨i,z,hi,hz,hs,hby,hzs⟩:=infoV
 obtain ⟨g,cap,W',h1,h2,h3,h4,h5⟩:=Go.run_append_lies (P:=Tryz.prog) W 34 ty B 62 i z 7 72 Tryz.underlying34 hi hz hs hby hzs (by omega) v xs.length (flatV xs) hown ⟨b,0,Option.none⟩ 1 1 (flatV [p]) (flatV_len [p]) (fun j u hj=>by
  rw [off_add,Nat.zero_add,hb.cell]
  have e : flatV [p] = (evc p).toList:=by simp [flatV]
  rw [e,Array.getElem?_toList] at hj
  exact hj) (fun u hu=>evc_one p u (by simpa [flatV] using hu)) (by decide) (by unfold maxLen;omega) (by omega) hB _ rfl
 refine ⟨_,W',h1,?_,Fr.grown h3 (fun k e=>e),?_⟩
 ·have e1 : flatV xs ++ flatV [p] = flatV (xs ++ [p]):=by simp [flatV]
  rw [e1] at h2
  unfold OwnV
  rw [List.length_append]
  exact h2
 ·rcases h4 with h4 | h4
  ·exact .inl h4.symm
  ·exact .inr (by rw [h4];rfl)
theorem wp_append_runV {P : Program} {o : Oper} {a : Act} {K : Act → World → Prop} {Q : Exit → Act → World → Prop} {w w' : World} (s x : Operand) (t : TypeId) (ho : o.op = .call { callee:=.builtin .append,args:=#[s,x],argTypes:=#[t,t] }) (v y r : Value) (hs : a.eval s = v) (hx : a.eval x = y)
 (hr : (Builtin.append_ #[t,t] o.type #[v,y]).run P w = .ok r w') (h : K (a.put o.dst r) w') : o.wp P a w K Q:=by
 unfold Oper.wp execOp
 simp only [ho,resolve,invoke,builtin,Sem.run_bind,Sem.run_pure,Result.andThen_ok,List.map_toArray,List.map_cons,List.map_nil,hs,hx,hr]
 exact h
theorem wpList_appRunV {P : Program} {ops : Array Oper} {rest : List Oper} {o : Oper} {a : Act} {Q : Exit → Act → World → Prop} {w w' : World} (hgd : o.guard = none) (s x : Operand) (t : TypeId) (ho : o.op = .call { callee:=.builtin .append,args:=#[s,x],argTypes:=#[t,t] }) (v y r : Value) (hs : a.eval s = v) (hx : a.eval x = y)
 (hr : (Builtin.append_ #[t,t] o.type #[v,y]).run P w = .ok r w') (h : wpList P ops Q rest (a.put o.dst r) w') : wpList P ops Q (o :: rest) a w:=
 wpList_plain hgd fun _ hK=>wp_append_runV s x t ho v y r hs hx hr (hK _ _ h)
end Go.Proofs.YtnkelaohcbdjnaaGreat
