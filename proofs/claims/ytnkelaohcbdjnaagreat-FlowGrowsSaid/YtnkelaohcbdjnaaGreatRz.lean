/- A region whose order is drawn: operations that yield are taken,many at once;a condition on the world holds behind each operation but number z. -/
import Derived.Test.YtnkelaohcbdjnaaGreatK
import Derived.OrdersHeld
import Derived.Deep.RegionHeld
set_option linter.unusedVariables false
namespace Go.Proofs.YtnkelaohcbdjnaaGreat
section
variable {P : Program} {ops : Array Oper} {Q : Exit → Act → World → Prop} {md : Region.Mode} {T : World → Prop} {z : Nat} {l : Array Bool}
/-- whatever order comes: T holds behind each operation but number z -/
def anyZ (P : Program) (md : Region.Mode) (ops : Array Oper) (Q : Exit → Act → World → Prop) (T : World → Prop) (z : Nat) : Nat → Array Bool → Act → World → Prop
 | 0,l,a,w=>Region.ready md ops l = [] ∧ Q .normal a w
 | n + 1,l,a,w=>(Region.ready md ops l = [] → Q .normal a w) ∧ ∀ i ∈ Region.ready md ops l,wpOp P ops Q i (fun a w=>(i ≠ z → T w) ∧ anyZ P md ops Q T z n (l.setIfInBounds i true) a w) a w
theorem anyZ_any : ∀ (n : Nat) (l : Array Bool) (a : Act) (w : World),anyZ P md ops Q T z n l a w → wpAny P md ops Q n l a w
 | 0,_,_,_,h=>h
 | n + 1,_,_,_,h=>⟨h.1,fun i hi=>wpOp_mono (fun a w k=>anyZ_any n _ a w k.2) (h.2 i hi)⟩
/-- does number z,if there is one,wait for number i? -/
def waits (md : Region.Mode) (ops : Array Oper) (z i : Nat) : Bool:=match ops[z]? with
 | some o=>o.after.any fun e=>Region.binds md e && e.on == i
 | none=>true
theorem waits_not {l : Array Bool} {i : Nat} (hw : waits md ops z i = true) (hl : l.getD i true = false) : z ∉ Region.ready md ops l:=fun hz=>by
 obtain ⟨_,o,ho,hall⟩:=mem_ready.1 hz
 unfold waits at hw
 rw [ho] at hw
 obtain ⟨e,he,h⟩:=Array.any_eq_true'.1 hw
 simp only [Bool.and_eq_true,beq_iff_eq] at h
 have h1:=hall e he h.1
 rw [h.2] at h1
 rcases Nat.lt_or_ge i l.size with h' | h'
 ·simp [h'] at hl h1;rw [hl] at h1;cases h1
 ·simp [Array.getElem?_eq_none h'] at h1
/-- it waits for number i,or for one that waits for it and has not come up -/
def far (md : Region.Mode) (ops : Array Oper) (z i : Nat) (l : Array Bool) : Bool:=waits md ops z i || (List.range ops.size).any fun j=>!l.getD j true && (waits md ops z j && waits md ops j i)
theorem far_not {l : Array Bool} {i : Nat} (hw : far md ops z i l = true) (hl : l.getD i true = false) : z ∉ Region.ready md ops l:=by
 unfold far at hw
 rw [Bool.or_eq_true] at hw
 rcases hw with h | h
 ·exact waits_not h hl
 ·obtain ⟨j,_,h⟩:=List.any_eq_true.1 h
  simp only [Bool.and_eq_true,Bool.not_eq_true'] at h
  exact waits_not h.2.1 h.1
theorem far_set {l : Array Bool} {i k : Nat} (hw : far md ops z i l = true) (hl : l.getD i true = false) (hk : k ∈ Region.ready md ops l) : far md ops z i (l.setIfInBounds k true) = true:=by
 unfold far at *
 rw [Bool.or_eq_true] at *
 rcases hw with h | h
 ·exact .inl h
 ·obtain ⟨j,hj,h⟩:=List.any_eq_true.1 h
  simp only [Bool.and_eq_true,Bool.not_eq_true'] at h
  have hkj : k ≠ j:=fun e=>waits_not h.2.2 hl (e ▸ hk)
  refine .inr (List.any_eq_true.2 ⟨j,hj,?_⟩)
  simp only [Bool.and_eq_true,Bool.not_eq_true']
  exact ⟨by rw [getD_set_ne true hkj];exact h.1,h.2⟩
theorem anyZ_first {i : Nat} {oi : Oper} {v : Value} (hi : ops[i]? = some oi) (hsel : ∀ (j : Nat) (o : Oper) cs b,ops[j]? = some o → o.op ≠ .select cs b)
 (hQ : ∀ c a w,Q (.panic c) (a.put oi.dst v) w → Q (.panic c) a w) : ∀ (n : Nat) (l : Array Bool) (a : Act) (w : World),
   (∀ j oj,ops[j]? = some oj → j ≠ i → l.getD j true = false → (∀ e ∈ oj.after,Region.binds md e = true → e.on ≠ i) → oi.apart ops oj = true) →
   far md ops z i l = true → i ∈ Region.ready md ops l → YieldsIf P ops T oi v a → T w → anyZ P md ops Q T z n (l.setIfInBounds i true) (a.put oi.dst v) w → anyZ P md ops Q T z (n + 1) l a w:=by
 intro n
 induction n with
 | zero=>
   intro l a w _ hz hr hy hT H
   refine ⟨fun h=>(by rw [h] at hr;cases hr),fun j hj=>?_⟩
   by_cases e : j = i
   ·subst e
    exact hy.wpOp hi hT ⟨fun _=>hT,H⟩
   ·have h:=ready_mono hj e
    rw [H.1] at h
    cases h
 | succ n ih=>
   intro l a w hfree hz hr hy hT H
   have hli:=(mem_ready.1 hr).1
   refine ⟨fun h=>(by rw [h] at hr;cases hr),fun j hj=>?_⟩
   by_cases e : j = i
   ·subst e
    exact hy.wpOp hi hT ⟨fun _=>hT,H⟩
   have hjz : j ≠ z:=fun h=>far_not hz hli (h ▸ hj)
   obtain ⟨hun,oj,hoj,hall⟩:=mem_ready.1 hj
   have hno : ∀ d ∈ oj.after,Region.binds md d = true → d.on ≠ i:=fun d hd hb h=>by
    have h1:=hall d hd hb
    rw [h] at h1
    rcases Nat.lt_or_ge i l.size with h' | h'
    ·simp [h'] at hli h1;rw [hli] at h1;cases h1
    ·simp [Array.getElem?_eq_none h'] at h1
   have h2:=wpOp_putIf hoj (hfree j oj hoj e hun hno) (fun cs b=>hsel i oi cs b hi) (fun cs b=>hsel j oj cs b hoj) hQ hy (H.2 j (ready_mono hj e))
   refine wpOp_mono (fun a2 w2 h3=>⟨h3.2.1,ih (l.setIfInBounds j true) a2 w2 (fun k ok hk hki hku hkn=>hfree k ok hk hki ?_ hkn) (far_set hz hli hj) (ready_mono hr (Ne.symm e)) h3.1 (h3.2.1 hjz) ?_⟩) h2
   ·by_cases ejk : j = k
    ·subst ejk;exact hun
    ·rw [getD_set_ne true ejk] at hku;exact hku
   ·rw [Array.setIfInBounds_comm _ _ e]
    exact h3.2.2
/-- these operations yield,one after the other,in every world that meets T: from a frame to another -/
def Sq (P : Program) (ops : Array Oper) (T : World → Prop) : List Nat → Act → Act → Prop
 | [],a,b=>a = b
 | i :: is,a,b=>∃ o v,ops[i]? = some o ∧ YieldsIf P ops T o v a ∧ Sq P ops T is (a.put o.dst v) b
theorem Sq.nil {a : Act} : Sq P ops T [] a a:=rfl
theorem Sq.yes {i : Nat} {is : List Nat} {a b : Act} {o : Oper} {v : Value} (ho : ops[i]? = some o) (hw : Region.wanted o (yielded ops a.tmps) = true) (hy : ∀ w,T w → (execOp a.eval o).run P w = .ok (.value v) w) (h : Sq P ops T is (a.put o.dst v) b) : Sq P ops T (i :: is) a b:=⟨o,v,ho,.inl ⟨hw,hy⟩,h⟩
theorem Sq.no {i : Nat} {is : List Nat} {a b : Act} {o : Oper} (ho : ops[i]? = some o) (hw : Region.wanted o (yielded ops a.tmps) = false) (h : Sq P ops T is (a.put o.dst undef) b) : Sq P ops T (i :: is) a b:=⟨o,undef,ho,.inr ⟨hw,rfl⟩,h⟩
/-- they come up behind those listed -/
def came (l : Array Bool) : List Nat → Array Bool
 | []=>l
 | i :: is=>came (l.setIfInBounds i true) is
def seqB (md : Region.Mode) (ops : Array Oper) (z : Nat) (l : Array Bool) : List Nat → Bool
 | []=>true
 | i :: is=>Region.free md ops l i && (far md ops z i l && ((Region.ready md ops l).contains i && seqB md ops z (l.setIfInBounds i true) is))
/-- how many have not come up -/
def left (l : Array Bool) : Nat:=l.toList.countP (fun b=>!b)
theorem left_set {l : Array Bool} {i : Nat} (h : l.getD i true = false) : left l = left (l.setIfInBounds i true) + 1:=by
 obtain ⟨hi,he⟩ : ∃ hi : i < l.size,l[i] = false:=by
  rcases Nat.lt_or_ge i l.size with hi | hi
  ·exact ⟨hi,by simpa [hi] using h⟩
  ·simp [Array.getElem?_eq_none hi] at h
 unfold left
 rw [Array.toList_setIfInBounds,List.countP_set (by simpa using hi)]
 have hl : l.toList[i]'(by simpa using hi) = false:=by simpa using he
 have hp : 0 < l.toList.countP (fun b=>!b):=List.countP_pos_iff.2 ⟨false,by rw [← hl];exact List.getElem_mem _,rfl⟩
 rw [hl]
 simp only [Bool.not_false,Bool.not_true,if_true,Bool.false_eq_true,if_false]
 omega
theorem left_new (n : Nat) : left (Array.replicate n false) = n:=by simp [left,List.countP_replicate]
/-- whatever order comes of what has not come up -/
def any (P : Program) (ops : Array Oper) (Q : Exit → Act → World → Prop) (T : World → Prop) (z : Nat) (l : Array Bool) (a : Act) (w : World) : Prop:=anyZ P .any ops Q T z (left l) l a w
theorem any_first {i : Nat} {oi : Oper} {v : Value} (hi : ops[i]? = some oi) (hs : Region.noSelect ops = true) (hf : Region.free .any ops l i = true)
 (hz : far .any ops z i l = true) (hr : (Region.ready .any ops l).contains i = true) (hQ : ∀ c a d v w,Q (.panic c) (Act.put a d v) w → Q (.panic c) a w) {a : Act} {w : World} (hy : YieldsIf P ops T oi v a) (hT : T w)
 (h : any P ops Q T z (l.setIfInBounds i true) (a.put oi.dst v) w) : any P ops Q T z l a w:=by
 have hm : i ∈ Region.ready .any ops l:=by simpa using hr
 unfold any
 rw [left_set (mem_ready.1 hm).1]
 exact anyZ_first hi (Region.noSelect_spec hs) (fun c a w=>hQ c a oi.dst v w) _ l a w (Region.free_spec hi hf) hz hm hy hT h
theorem any_seq {w : World} (hs : Region.noSelect ops = true) (hQ : ∀ c a d v w,Q (.panic c) (Act.put a d v) w → Q (.panic c) a w) (hT : T w) : ∀ (is : List Nat) (l : Array Bool) (a b : Act),seqB .any ops z l is = true →
 Sq P ops T is a b → any P ops Q T z (came l is) b w → any P ops Q T z l a w
 | [],l,a,b,_,h,k=>by cases h;exact k
 | i :: is,l,a,b,hm,⟨o,v,ho,hy,h⟩,k=>by
   simp only [seqB,Bool.and_eq_true] at hm
   exact any_first ho hs hm.1 hm.2.1 hm.2.2.1 hQ hy hT (any_seq hs hQ hT is _ _ b hm.2.2.2 h k)
/-- take these -/
theorem takes (is : List Nat) {l : Array Bool} {a b : Act} {w : World} (hT : T w) (h : Sq P ops T is a b) (k : any P ops Q T z (came l is) b w)
 (hm : (Region.noSelect ops && seqB .any ops z l is) = true:=by kernel_rfl) (hQ : ∀ c a d v w,Q (.panic c) (Act.put a d v) w → Q (.panic c) a w:=by intro _ _ d _ _ h;cases d <;> exact h) : any P ops Q T z l a w:=by
 simp only [Bool.and_eq_true] at hm
 exact any_seq hm.1 hQ hT is l a b hm.2 h k
theorem any_done {l : Array Bool} {a : Act} {w : World} (h : Q .normal a w) (hr : Region.ready .any ops l = []:=by kernel_rfl) : any P ops Q T z l a w:=by
 unfold any
 cases left l with
 | zero=>exact ⟨hr,h⟩
 | succ n=>exact ⟨fun _=>h,by rw [hr];simp⟩
/-- one operation alone is ready,and is not the one that may break T -/
theorem any_op {l : Array Bool} {a : Act} {w : World} (i : Nat) {o : Oper} (ho : ops[i]? = some o)
 (h : ∀ K : Act → World → Prop,Shut (∀ a w,T w → (T w → any P ops Q T z (l.setIfInBounds i true) a w) → K a w) → Oper.wp P o a w K Q)
 (hw : Region.wanted o (yielded ops a.tmps) = true:=by rfl) (hr : Region.ready .any ops l = [i]:=by kernel_rfl) (hz : (i == z) = false:=by kernel_rfl) : any P ops Q T z l a w:=by
 have hm : i ∈ Region.ready .any ops l:=by rw [hr];simp
 unfold any
 rw [left_set (mem_ready.1 hm).1]
 refine ⟨fun h0=>(by rw [hr] at h0;cases h0),fun j hj=>?_⟩
 rw [hr] at hj
 obtain rfl : j = i:=by simpa using hj
 refine wpOp_step ho fun K hK=>?_
 rw [if_pos hw]
 exact h K fun a w hT hW=>hK a w ⟨fun _=>hT,hW hT⟩
/-- the last one -/
theorem any_last {l : Array Bool} {a : Act} {w : World} {o : Oper} (ho : ops[z]? = some o)
 (h : ∀ K : Act → World → Prop,Shut (∀ a w,any P ops Q T z (l.setIfInBounds z true) a w → K a w) → Oper.wp P o a w K Q)
 (hw : Region.wanted o (yielded ops a.tmps) = true:=by rfl) (hr : Region.ready .any ops l = [z]:=by kernel_rfl) : any P ops Q T z l a w:=by
 have hm : z ∈ Region.ready .any ops l:=by rw [hr];simp
 unfold any
 rw [left_set (mem_ready.1 hm).1]
 refine ⟨fun h0=>(by rw [hr] at h0;cases h0),fun j hj=>?_⟩
 rw [hr] at hj
 obtain rfl : j = z:=by simpa using hj
 refine wpOp_step ho fun K hK=>?_
 rw [if_pos hw]
 exact h K fun a w hW=>hK a w ⟨fun h=>absurd rfl h,hW⟩
/-- two operations are ready -/
theorem any_two {l : Array Bool} {a : Act} {w : World} (i j : Nat) {oi oj : Oper} (hoi : ops[i]? = some oi) (hoj : ops[j]? = some oj)
 (h : ∀ K : Act → World → Prop,Shut (∀ a w,T w → (T w → any P ops Q T z (l.setIfInBounds i true) a w) → K a w) → Oper.wp P oi a w K Q)
 (h' : ∀ K : Act → World → Prop,Shut (∀ a w,T w → (T w → any P ops Q T z (l.setIfInBounds j true) a w) → K a w) → Oper.wp P oj a w K Q)
 (hwi : Region.wanted oi (yielded ops a.tmps) = true:=by rfl) (hwj : Region.wanted oj (yielded ops a.tmps) = true:=by rfl)
 (hr : Region.ready .any ops l = [i,j]:=by kernel_rfl) (hzi : (i == z) = false:=by kernel_rfl) (hzj : (j == z) = false:=by kernel_rfl) : any P ops Q T z l a w:=by
 have hmi : i ∈ Region.ready .any ops l:=by rw [hr];simp
 have hmj : j ∈ Region.ready .any ops l:=by rw [hr];simp
 have e1:=left_set (mem_ready.1 hmi).1
 have e2:=left_set (mem_ready.1 hmj).1
 have e3 : left (l.setIfInBounds j true) = left (l.setIfInBounds i true):=by omega
 unfold any at *
 rw [e1]
 rw [e3] at h'
 refine ⟨fun h0=>(by rw [hr] at h0;cases h0),fun k hk=>?_⟩
 rw [hr] at hk
 rcases List.mem_cons.1 hk with rfl | hk
 ·refine wpOp_step hoi fun K hK=>?_
  rw [if_pos hwi]
  exact h K fun a w hT hW=>hK a w ⟨fun _=>hT,hW hT⟩
 ·obtain rfl : k = j:=by simpa using hk
  refine wpOp_step hoj fun K hK=>?_
  rw [if_pos hwj]
  exact h' K fun a w hT hW=>hK a w ⟨fun _=>hT,hW hT⟩
/-- what an operation does,wherever one goes on -/
def Does (P : Program) (o : Oper) (a : Act) (w : World) (b : Act) (u : World) : Prop:=∀ (K : Act → World → Prop) (Q : Exit → Act → World → Prop),K b u → Oper.wp P o a w K Q
/-- two operations are ready;either first,the end is the same -/
theorem any_pair {l : Array Bool} {a b b1 b2 : Act} {w u u1 u2 : World} (i j : Nat) {oi oj : Oper} (hoi : ops[i]? = some oi) (hoj : ops[j]? = some oj)
 (h1 : Does P oi a w b1 u1) (h2 : Does P oj b1 u1 b u) (h3 : Does P oj a w b2 u2) (h4 : Does P oi b2 u2 b u) (t1 : T u1) (t2 : T u2) (t : T u)
 (h : T u → any P ops Q T z ((l.setIfInBounds i true).setIfInBounds j true) b u)
 (hw1 : Region.wanted oi (yielded ops a.tmps) = true:=by rfl) (hw2 : Region.wanted oj (yielded ops b1.tmps) = true:=by rfl) (hw3 : Region.wanted oj (yielded ops a.tmps) = true:=by rfl) (hw4 : Region.wanted oi (yielded ops b2.tmps) = true:=by rfl)
 (hr : Region.ready .any ops l = [i,j]:=by kernel_rfl) (hri : Region.ready .any ops (l.setIfInBounds i true) = [j]:=by kernel_rfl) (hrj : Region.ready .any ops (l.setIfInBounds j true) = [i]:=by kernel_rfl)
 (hz : ((i == z) || ((j == z) || (i == j))) = false:=by kernel_rfl) : any P ops Q T z l a w:=by
 simp only [Bool.or_eq_false_iff] at hz
 have hij : i ≠ j:=by simpa using hz.2.2
 refine any_two i j hoi hoj (fun K hK=>h1 _ _ (hK.out _ _ t1 fun _=>?_)) (fun K hK=>h3 _ _ (hK.out _ _ t2 fun _=>?_)) hw1 hw3 hr hz.1 hz.2.1
 ·exact any_op j hoj (fun K hK=>h2 _ _ (hK.out _ _ t h)) hw2 hri hz.2.1
 ·refine any_op i hoi (fun K hK=>h4 _ _ (hK.out _ _ t fun ht=>?_)) hw4 hrj hz.1
  rw [Array.setIfInBounds_comm _ _ (Ne.symm hij)]
  exact h ht
theorem region_Z {id : Nat} {a : Act} {w : World} (T : World → Prop) (z : Nat) (hT : T w.drew) (h : T w.drew → any P ops Q T z (Array.replicate ops.size false) a w.drew) (hm : P.follows .mixedOrders = true:=by kernel_rfl) :
 (Code.region id ops true).wp P Q a w:=wp_region_any hm (anyZ_any _ _ _ _ (by have:=h hT;unfold any at this;rwa [left_new] at this))
end
end Go.Proofs.YtnkelaohcbdjnaaGreat
