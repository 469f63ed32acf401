/- A map whose elements are whatever values: read as a function of its keys. -/
import Derived.Maps.OwnSet
import Derived.WalkKit
import Derived.Lib.Hide
import Derived.Below
import Derived.RangeFuncBox
set_option linter.unusedVariables false
set_option linter.unusedSimpArgs false
set_option linter.unusedSectionVars false
namespace Go.Proofs.YtnkelaohcbdjnaaGreat
open Go.RowKit Go.Maps Go.ChangeMaps Go.MapKept Go.WideShapes
theorem lA {α : Type _} {xs : List α} {i : Nat} : xs.toArray[i]? = xs[i]?:=List.getElem?_toArray
theorem lB {α : Type _} {a : α} {l : List α} : (a :: l)[0]? = some a:=rfl
theorem lC {α : Type _} {a : α} {i : Nat} {l : List α} : (a :: l)[i + 1]? = l[i]?:=rfl
theorem lD {α : Type _} {xs : List α} {i : Nat} (h : i < xs.toArray.size) : xs.toArray[i] = xs[i]:=rfl
theorem lE {α : Type _} (a : α) (as : List α) (h : 0 < (a :: as).length) : (a :: as)[0] = a:=rfl
theorem lF {α : Type _} (a : α) (as : List α) (i : Nat) (h : i + 1 < (a :: as).length) : (a :: as)[i + 1] = as[i]'(Nat.lt_of_succ_lt_succ h):=rfl
theorem lG {α : Type _} {l : List α} {i : Nat} {a : α} : l.toArray.setIfInBounds i a = (l.set i a).toArray:=List.setIfInBounds_toArray _ _ _
theorem lH {α : Type _} {x y : α} {l : List α} : (x :: l).set 0 y = y :: l:=rfl
theorem lI {α : Type _} {x y : α} {l : List α} {n : Nat} : (x :: l).set (n + 1) y = x :: l.set n y:=rfl
/-- every value reads,as itself -/
def rawR (v : Value) : Option (DataW Value × List MemPlace):=some (.held v,[])
/-- keys of one kind: as values,as what they read as -/
structure KE (P : Program) (k : TypeId) (κ : Type) where
 kv : κ → Value
 kl : κ → Lit
 ok : κ → Prop
 law : Keyed P k
 hk : ∀ x,ok x → keyOf P k (kv x) = some (kl x)
 inj : ∀ x y,ok x → ok y → kl x = kl y → x = y
def upd {κ : Type} [DecidableEq κ] (F : κ → Option Value) (x : κ) (v : Option Value) : κ → Option Value:=fun y=>if y = x then v else F y
theorem upd_same {κ : Type} [DecidableEq κ] (F : κ → Option Value) (x : κ) (v : Option Value) : upd F x v x = v:=by simp [upd]
theorem upd_other {κ : Type} [DecidableEq κ] (F : κ → Option Value) (x y : κ) (v : Option Value) (h : y ≠ x) : upd F x v y = F y:=by simp [upd,h]
section
variable {P : Program} {k : TypeId} {κ : Type} [DecidableEq κ]
/-- BLOCK b IS A MAP OF c ENTRIES: F -/
def Mp (E : KE P k κ) (W : World) (b c : Nat) (F : κ → Option Value) : Prop:=
 ∃ D : DataW Value,W.ownsMap P k rawR b c D ∧ Maps.size D = c ∧ ∀ x,E.ok x → Maps.has D (E.kl x) = (F x).isSome ∧ ∀ z,D.atKey (E.kl x) z = (match F x with | some v=>.held v | none=>z)
variable {E : KE P k κ} {W : World} {b c : Nat} {F : κ → Option Value}
theorem tight {D : DataW Value} {n : Nat} (h : W.ownsMap P k rawR b n D) : W.ownsMap P k rawR b (Maps.size D) D:=by
 obtain ⟨es,clock,hb,Fi,hs,rfl⟩:=h
 exact ⟨es,clock,hb,Fi,by simp [Maps.size,length_sorted],rfl⟩
theorem Mp.made (E : KE P k κ) (W : World) : Mp E (W.alloc (.map #[] 0)) W.heap.size 0 (fun _=>none):=
 ⟨.map [],World.ownsMap_made W P k rawR,rfl,fun x _=>⟨rfl,fun z=>rfl⟩⟩
theorem Mp.lt (h : Mp E W b c F) : b < W.heap.size:=by obtain ⟨D,h,_⟩:=h;exact h.lt
theorem Mp.kept {W' : World} {row : Option Nat} (h : Mp E W b c F) (hg : W.grownBy W' row) (hne : some b ≠ row) : Mp E W' b c F:=by
 obtain ⟨D,h,r⟩:=h;exact ⟨D,h.kept hg hne,r⟩
theorem Mp.alloc (h : Mp E W b c F) (o : Obj) : Mp E (W.alloc o) b c F:=h.kept (World.grownBy_alloc W o none) (by simp)
theorem Mp.drew (h : Mp E W b c F) : Mp E W.drew b c F:=by obtain ⟨D,h,r⟩:=h;exact ⟨D,h.drew,r⟩
theorem Mp.setCell (h : Mp E W b c F) {a : Addr} (ha : b ≠ a.block) (u : Value) : Mp E (W.setCell a u) b c F:=by
 obtain ⟨D,h,r⟩:=h;exact ⟨D,h.setCell ha u,r⟩
theorem Mp.below {W' : World} (h : Mp E W b c F) (hb : Below W.heap.size W W') : Mp E W' b c F:=by
 obtain ⟨D,⟨es,clock,hb',r⟩,s⟩:=h
 exact ⟨D,⟨es,clock,(hb.block b (Array.getElem?_eq_some_iff.1 hb').1).trans hb',r⟩,s⟩
theorem Mp.congr {G : κ → Option Value} (h : Mp E W b c F) (hFG : ∀ x,E.ok x → F x = G x) : Mp E W b c G:=by
 obtain ⟨D,h1,h2,h3⟩:=h
 exact ⟨D,h1,h2,fun x hx=>by rw [← hFG x hx];exact h3 x hx⟩
variable {t e : TypeId}
theorem Mp.look (h : Mp E W b c F) (ht : P.underlying t = some (.map k e)) {z : Value} (hz : (zeroValue e).run P W = .ok z W) {x : κ} (hx : E.ok x) :
 (Instr.lookup t (.map (some b)) (E.kv x) false).run P W = .ok ((F x).getD z) W:=by
 obtain ⟨D,h1,h2,h3⟩:=h
 obtain ⟨v,ps,hrun,hv⟩:=h1.lookup E.law ht hz (zd:=.held z) (zp:=[]) rfl (E.hk x hx)
 rw [hrun]
 have h4:=(h3 x hx).2 (.held z)
 simp only [rawR,Option.some.injEq,Prod.mk.injEq] at hv
 rw [h4] at hv
 cases hF : F x with
 | none=>rw [hF] at hv;simp at hv;simp [hv.1]
 | some u=>rw [hF] at hv;simp at hv;simp [hv.1]
theorem Mp.look_ok (h : Mp E W b c F) (ht : P.underlying t = some (.map k e)) {z : Value} (hz : (zeroValue e).run P W = .ok z W) {x : κ} (hx : E.ok x) :
 (Instr.lookup t (.map (some b)) (E.kv x) true).run P W = .ok (.tuple #[(F x).getD z,.bool (F x).isSome]) W:=by
 obtain ⟨D,h1,h2,h3⟩:=h
 obtain ⟨v,ps,hrun,hv⟩:=h1.look_ok E.law ht hz (zd:=.held z) (zp:=[]) rfl (E.hk x hx)
 rw [hrun,(h3 x hx).1]
 have h4:=(h3 x hx).2 (.held z)
 simp only [rawR,Option.some.injEq,Prod.mk.injEq] at hv
 rw [h4] at hv
 cases hF : F x with
 | none=>rw [hF] at hv;simp at hv;simp [hv.1]
 | some u=>rw [hF] at hv;simp at hv;simp [hv.1]
theorem Mp.len (h : Mp E W b c F) (ht : P.underlying t = some (.map k e)) (ty : TypeId) : (Builtin.len_ #[t] ty #[.map (some b)]).run P W = .ok (.int .i64 c) W:=by
 obtain ⟨D,h1,h2,h3⟩:=h
 rw [h1.len ht ty,h2]
theorem Mp.store (h : Mp E W b c F) (ht : P.underlying t = some (.map k e)) (hc : c < maxLen) {x : κ} (hx : E.ok x) (v : Value) :
 ∃ W',(Instr.mapUpdate t (.map (some b)) (E.kv x) v).run P W = .ok () W' ∧ Mp E W' b (if (F x).isSome then c else c + 1) (upd F x (some v)) ∧ W.mapTurned W' b:=by
 obtain ⟨D,h1,h2,h3⟩:=h
 obtain ⟨W',hrun,ho,hm⟩:=h1.store (val:=v) E.law ht hc (E.hk x hx) rfl
 have hT:=h1.tidy E.law
 have hkl:=E.law.key (E.hk x hx)
 have hsz:=Maps.size_put (k:=E.kl x) hT (DataW.held v)
 rw [(h3 x hx).1,h2] at hsz
 refine ⟨W',hrun,⟨_,?_,hsz,fun y hy=>?_⟩,hm⟩
 ·have:=tight ho;rw [hsz] at this;exact this
 ·by_cases e : y = x
  ·subst e
   rw [upd_same]
   exact ⟨Maps.has_put_same hT.isMap hkl _,fun z=>Maps.atKey_put_same hT.isMap hkl _ z⟩
  ·rw [upd_other _ _ _ _ e]
   have hne : E.kl y ≠ E.kl x:=fun h=>e (E.inj y x hy hx h)
   exact ⟨(Maps.has_put_other hne _).trans (h3 y hy).1,fun z=>(Maps.atKey_put_other hne _ z).trans ((h3 y hy).2 z)⟩
theorem Mp.drop (h : Mp E W b c F) (ht : P.underlying t = some (.map k e)) {x : κ} (hx : E.ok x) (ty : TypeId) :
 ∃ W',(Builtin.delete_ #[t,k] ty #[.map (some b),E.kv x]).run P W = .ok (.tuple #[]) W' ∧ Mp E W' b (if (F x).isSome then c - 1 else c) (upd F x none) ∧ W.mapTurned W' b:=by
 obtain ⟨D,h1,h2,h3⟩:=h
 obtain ⟨W',hrun,ho,hm⟩:=h1.drop E.law ht (E.hk x hx) ty
 have hT:=h1.tidy E.law
 have hsz:=Maps.size_del (k:=E.kl x) hT
 rw [(h3 x hx).1,h2] at hsz
 have hsz' : Maps.size (D.del (E.kl x)) = if (F x).isSome then c - 1 else c:=by
  cases hF : (F x).isSome <;> simp only [hF,if_true,if_false,Bool.false_eq_true] at hsz ⊢ <;> omega
 refine ⟨W',hrun,⟨_,?_,hsz',fun y hy=>?_⟩,hm⟩
 ·have:=tight ho;rw [hsz'] at this;exact this
 ·by_cases e : y = x
  ·subst e
   rw [upd_same]
   exact ⟨Maps.has_del_same,fun z=>Maps.atKey_del_same z⟩
  ·rw [upd_other _ _ _ _ e]
   have hne : E.kl y ≠ E.kl x:=fun h=>e (E.inj y x hy hx h)
   exact ⟨(Maps.has_del_other hne).trans (h3 y hy).1,fun z=>(Maps.atKey_del_other hne z).trans ((h3 y hy).2 z)⟩
/-! at the operation -/
variable {ops : Array Oper} {rest : List Oper} {o : Oper} {a : Act} {Q : Exit → Act → World → Prop}
theorem wpLook (hg : o.guard = none) (m y : Operand) (hop : o.op = Op.lookup t m y false) (ht : P.underlying t = some (.map k e)) {z : Value} (hz : (zeroValue e).run P W = .ok z W) (h : Mp E W b c F)
 (hm : a.eval m = .map (some b)) {x : κ} (hkv : a.eval y = E.kv x) (hx : E.ok x) {u : Value} (hu : (F x).getD z = u) (hK : wpList P ops Q rest (a.put o.dst u) W) : wpList P ops Q (o :: rest) a W:=by
 refine wpList_plain hg fun K' hK'=>?_
 have hrun:=h.look ht hz hx
 unfold Oper.wp
 simp [execOp,hop,hm,hkv,hrun,Result.andThen]
 exact hK' _ _ (by rw [hu];exact hK)
theorem wpLookOk (hg : o.guard = none) (m y : Operand) (hop : o.op = Op.lookup t m y true) (ht : P.underlying t = some (.map k e)) {z : Value} (hz : (zeroValue e).run P W = .ok z W) (h : Mp E W b c F)
 (hm : a.eval m = .map (some b)) {x : κ} (hkv : a.eval y = E.kv x) (hx : E.ok x) {u : Value} (hu : (F x).getD z = u) {q : Bool} (hq : (F x).isSome = q) (hK : wpList P ops Q rest (a.put o.dst (.tuple #[u,.bool q])) W) : wpList P ops Q (o :: rest) a W:=by
 refine wpList_plain hg fun K' hK'=>?_
 have hrun:=h.look_ok ht hz hx
 unfold Oper.wp
 simp [execOp,hop,hm,hkv,hrun,Result.andThen]
 exact hK' _ _ (by rw [hu,hq];exact hK)
theorem wpStore (hg : o.guard = none) (m y v : Operand) (hop : o.op = Op.mapUpdate t m y v) (ht : P.underlying t = some (.map k e)) (h : Mp E W b c F) (hc : c < maxLen)
 (hm : a.eval m = .map (some b)) {x : κ} (hkv : a.eval y = E.kv x) (hx : E.ok x) {u : Value} (hu : a.eval v = u)
 (hK : ∀ W',Mp E W' b (if (F x).isSome then c else c + 1) (upd F x (some u)) → W.mapTurned W' b → wpList P ops Q rest (a.put o.dst undef) W') : wpList P ops Q (o :: rest) a W:=by
 refine wpList_plain hg fun K' hK'=>?_
 obtain ⟨W',hrun,r1,r2⟩:=h.store ht hc hx u
 unfold Oper.wp
 simp [execOp,hop,hm,hkv,hu,hrun,Result.andThen]
 exact hK' _ _ (hK W' r1 r2)
theorem wpDrop (hg : o.guard = none) (m y : Operand) (t k' : TypeId) (hop : o.op = Op.call { callee:=.builtin .delete,args:=#[m,y],argTypes:=#[t,k'] }) (hk : k' = k) (ht : P.underlying t = some (.map k e)) (h : Mp E W b c F)
 (hm : a.eval m = .map (some b)) {x : κ} (hkv : a.eval y = E.kv x) (hx : E.ok x)
 (hK : ∀ W',Mp E W' b (if (F x).isSome then c - 1 else c) (upd F x none) → W.mapTurned W' b → wpList P ops Q rest (a.put o.dst (.tuple #[])) W') : wpList P ops Q (o :: rest) a W:=by
 subst hk
 refine wpList_plain hg fun K' hK'=>?_
 obtain ⟨W',hrun,r1,r2⟩:=h.drop ht hx o.type
 unfold Oper.wp
 simp [execOp,hop,resolve,invoke,builtin,hm,hkv,hrun,Result.andThen]
 exact hK' _ _ (hK W' r1 r2)
theorem wpLen (hg : o.guard = none) (m : Operand) (t : TypeId) (hop : o.op = Op.call { callee:=.builtin .len,args:=#[m],argTypes:=#[t] }) (ht : P.underlying t = some (.map k e)) (h : Mp E W b c F)
 (hm : a.eval m = .map (some b)) (hK : wpList P ops Q rest (a.put o.dst (.int .i64 c)) W) : wpList P ops Q (o :: rest) a W:=by
 refine wpList_plain hg fun K' hK'=>?_
 have hrun:=h.len ht o.type
 unfold Oper.wp
 simp [execOp,hop,resolve,invoke,builtin,hm,hrun,Result.andThen]
 exact hK' _ _ hK
end
theorem mapTurned_cell {W W' : World} {b : Nat} (h : W.mapTurned W' b) (a : Addr) (ha : a.block ≠ b) : W'.cell? a = W.cell? a:=by
 have hg:=h.grown
 obtain ⟨es,clock,es',clock',hb,rfl⟩:=h
 unfold World.cell?
 rw [heap_setBlock_other hb _ ha]
def intKE (P : Program) (k : TypeId) (h : P.underlying k = some (.int .i64)) : KE P k Int where
 kv x:=.int .i64 x
 kl x:=.int .i64 x
 ok x:=(Lit.int .i64 x).wf = true
 law:=int_keyed h
 hk x hx:=keyOf_int_mk h hx
 inj x y _ _ e:=by cases e;rfl
end Go.Proofs.YtnkelaohcbdjnaaGreat
