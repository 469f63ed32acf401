/- Histories: plain words and laws. -/
import Derived.Test.YtnkelaohcbdjnaaGreatK
import Derived.Deep.RegionHeld3
import Derived.Deep.Cut
import Derived.Deep.DeepCutAuto
import Derived.Deep.Upon
import Derived.Deep.AppendLies
set_option linter.unusedVariables false
set_option linter.unusedSimpArgs false
namespace Go.Proofs.YtnkelaohcbdjnaaGreat.Ev
open Go.RowKit Go.Maps
/-- an event: its numbers,its data's slice -/
structure Ev where
 k : Int
 at_ : Int
 ref : Int
 id : Int
 list : Int
 n : Int
 ao : Option Addr
 dl : Nat
 cp : Nat
def evc (e : Ev) : Array Value:=#[.int .i64 e.k,.int .i64 e.at_,.int .i64 e.ref,.int .i64 e.id,.int .i64 e.list,.int .i64 e.n,.slice e.ao e.dl e.cp]
/-- what is known of a history -/
structure Hi where
 n : Nat
 at_ : Int
 closed : Int
 task : Int
 begun : Bool
 kinds : Int → Option Int
 ids : Int → Option Int
 of_ : Int → Option Int
 from_ : Int → Option Int
def put1 (G : Int → Option Int) (x : Int) (v : Option Int) : Int → Option Int:=fun y=>if y = x then v else G y
/-- has an open one of a kind an Id? -/
noncomputable def usesB (s : Hi) (k id : Int) : Bool:=@decide (∃ x,s.kinds x = some k ∧ (s.ids x).getD 0 = id) (Classical.propDecidable _)
theorem usesB_true {s : Hi} {k id : Int} (h : ∃ x,s.kinds x = some k ∧ (s.ids x).getD 0 = id) : usesB s k id = true:=@decide_eq_true _ (Classical.propDecidable _) h
theorem usesB_false {s : Hi} {k id : Int} (h : ¬ ∃ x,s.kinds x = some k ∧ (s.ids x).getD 0 = id) : usesB s k id = false:=@decide_eq_false _ (Classical.propDecidable _) h
def betB (v : Int) : Bool:=decide (0 ≤ v) && decide (v ≤ 1099511627776)
theorem betB_iff (v : Int) : betB v = true ↔ 0 ≤ v ∧ v ≤ 1099511627776:=by simp [betB]
def closeB (v : Int) : Bool:=decide (19 ≤ v) && decide (v ≤ 23)
def rightB (e : Ev) : Bool:=decide (1 ≤ e.k) && (decide (e.k ≤ 23) && (betB e.at_ && (betB e.ref && (betB e.id && (betB e.list && (betB e.n && decide (e.dl ≤ 4096)))))))
/-- one that is open no more -/
def dropped (s : Hi) (x : Int) : Hi:={ s with kinds:=put1 s.kinds x none,ids:=put1 s.ids x none }
def hi0 : Hi:=⟨0,0,0,0,false,fun _=>none,fun _=>none,fun _=>none,fun _=>none⟩
def refB (s : Hi) (e : Ev) : Bool:=
 if e.k = 3 then (s.task != 0) && (!s.begun && (e.ref == s.task))
 else if e.k = 4 ∨ e.k = 5 ∨ e.k = 6 then (s.task != 0) && (s.begun && (e.ref == s.task))
 else if e.k = 8 then ((s.kinds e.ref).getD 0 == 7) && !(s.from_ e.ref).isSome
 else if e.k = 9 ∨ e.k = 10 ∨ e.k = 11 then (s.of_ e.ref).getD 0 != 0
 else if e.k = 13 ∨ e.k = 14 then (s.kinds e.ref).getD 0 == 12
 else if e.k = 18 then (s.kinds e.ref).getD 0 == 17
 else e.ref == 0
noncomputable def faultC (s : Hi) (e : Ev) : Nat:=
 if rightB e = false then 1
 else if e.at_ < s.at_ then 2
 else if (((s.n : Int) == 0) == (e.k == 1)) = false then 3
 else if s.closed ≠ 0 then 4
 else if refB s e = false then 5
 else if e.k = 2 ∧ s.task ≠ 0 then 6
 else @ite _ ((e.k = 7 ∨ e.k = 12 ∨ e.k = 17) ∧ usesB s e.k e.id = true) (Classical.propDecidable _) 7 0
def step1 (s : Hi) (e : Ev) : Hi:={ s with n:=s.n + 1,at_:=e.at_ }
def turned (s : Hi) (e : Ev) : Hi:=
 if e.k = 2 then { s with task:=s.n,begun:=false }
 else if e.k = 3 then { s with task:=s.n,begun:=true }
 else if e.k = 4 ∨ e.k = 5 ∨ e.k = 6 then { s with task:=0,begun:=false }
 else if e.k = 7 ∨ e.k = 12 ∨ e.k = 17 then { s with kinds:=put1 s.kinds s.n (some e.k),ids:=put1 s.ids s.n (some e.id) }
 else if e.k = 8 then { s with of_:=put1 s.of_ s.n (some e.ref),from_:=put1 s.from_ e.ref (some s.n) }
 else if e.k = 9 ∨ e.k = 10 ∨ e.k = 11 then dropped { s with of_:=put1 s.of_ e.ref none,from_:=put1 s.from_ ((s.of_ e.ref).getD 0) none } ((s.of_ e.ref).getD 0)
 else if e.k = 13 ∨ e.k = 14 ∨ e.k = 18 then dropped s e.ref
 else s
def closes (s : Hi) (e : Ev) : Hi:=if closeB e.k = true then { s with closed:=e.k } else s
def addH (s : Hi) (e : Ev) : Hi:=closes (turned (step1 s e) e) e
noncomputable def addO (s : Hi) (e : Ev) : Hi:=if faultC s e = 0 then addH s e else s
theorem addO_0 {s : Hi} {e : Ev} (h : faultC s e = 0) : addO s e = closes (turned (step1 s e) e) e:=if_pos h
theorem closes_no {s : Hi} {e : Ev} (h : closeB e.k = false) : closes s e = s:=if_neg (by rw [h];decide)
theorem closes_yes {s : Hi} {e : Ev} (h : closeB e.k = true) : closes s e = { s with closed:=e.k }:=if_pos h
/-- events that a slice shows -/
def RowV (W : World) (ao : Option Addr) (l : List Ev) : Prop:=
 l = [] ∨ ∃ b o,ao = some ⟨b,o,none⟩ ∧ b < W.heap.size ∧ ∀ i e,l[i]? = some e → ∀ j v,(evc e)[j]? = some v → W.cell? ⟨b,o + i * 7 + j,none⟩ = some v
theorem RowV.fr {S : Nat → Prop} {W W' : World} {ao : Option Addr} {l : List Ev} (h : RowV W ao l) (hf : Fr S W W') (hS : ∀ k,S k → W.heap.size ≤ k) : RowV W' ao l:=by
 rcases h with h | ⟨b,o,h1,h2,h3⟩
 ·exact .inl h
 ·refine .inr ⟨b,o,h1,Nat.lt_of_lt_of_le h2 hf.size,fun i e he j v hj=>?_⟩
  exact (World.cell?_of_block (hf.block b h2 (fun hs=>by have:=hS b hs;omega))).trans (h3 i e he j v hj)
/-- a history,event for event -/
noncomputable def feed : Hi → List Ev → Hi
 | s,[]=>s
 | s,e :: l=>feed (addO s e) l
theorem feed_snoc : ∀ (s : Hi) (l : List Ev) (e : Ev),feed s (l ++ [e]) = addO (feed s l) e
 | s,[],e=>rfl
 | s,a :: l,e=>feed_snoc (addO s a) l e
/-- the first i events fit -/
def Good (l : List Ev) (i : Nat) : Prop:=∀ j e,j < i → l[j]? = some e → faultC (feed hi0 (l.take j)) e = 0
theorem Fr.above {S : Nat → Prop} {W W1 W2 : World} (h1 : Fr (fun _=>False) W W1) (h2 : Fr S W1 W2) (hS : ∀ k,S k → W.heap.size ≤ k) : Fr (fun _=>False) W W2:=
 ⟨h2.os.trans h1.os,h2.tape.trans h1.tape,h2.output.trans h1.output,Nat.le_trans h1.size h2.size,fun k hk _=>(h2.block k (Nat.lt_of_lt_of_le hk h1.size) (fun e=>by have:=hS k e;omega)).trans (h1.block k hk id)⟩
def rKind (l : List Ev) (at_ : Int) : Int:=if at_ < 1 ∨ (l.length : Int) < at_ then 0 else match l[(at_ - 1).toNat]? with | some e=>e.k | none=>0
def hitB (at_ : Int) (ks : List Int) (e : Ev) : Bool:=(e.ref == at_) && ks.any (fun k=>e.k == k)
def rNamed (l : List Ev) (at_ : Int) (ks : List Int) : Bool:=l.any (hitB at_ ks)
def wkB (at_ : Int) (e : Ev) : Bool:=(e.k == 8) && (e.ref == at_)
def rWorks (l : List Ev) (at_ : Int) : Int:=match l.findIdx? (wkB at_) with | some i=>(i : Int) + 1 | none=>0
def rLastN (l : List Ev) (k : Int) : Nat → Nat
 | 0=>0
 | n + 1=>match l[n]? with | some e=>if e.k = k then n + 1 else rLastN l k n | none=>rLastN l k n
def rLast (l : List Ev) (k : Int) : Nat:=rLastN l k l.length
theorem rKind_at {l : List Ev} {i : Nat} {e : Ev} (h : l[i]? = some e) : rKind l ((i : Int) + 1) = e.k:=by
 have hi:=(List.getElem?_eq_some_iff.1 h).1
 unfold rKind
 rw [if_neg (by omega),show ((i : Int) + 1 - 1).toNat = i by omega,h]
theorem rKind_out {l : List Ev} {at_ : Int} (h : at_ < 1 ∨ (l.length : Int) < at_) : rKind l at_ = 0:=if_pos h
theorem rWorks_at {l : List Ev} {at_ : Int} {i : Nat} {e : Ev} (h : l[i]? = some e) (hw : wkB at_ e = true) (hn : ∀ j e',j < i → l[j]? = some e' → wkB at_ e' = false) : rWorks l at_ = (i : Int) + 1:=by
 obtain ⟨hi,he⟩:=List.getElem?_eq_some_iff.1 h
 have : l.findIdx? (wkB at_) = some i:=by
  rw [List.findIdx?_eq_some_iff_getElem]
  refine ⟨hi,by rw [he];exact hw,fun j hj=>?_⟩
  have:=hn j l[j] hj (List.getElem?_eq_getElem (by omega))
  simp [this]
 unfold rWorks
 rw [this]
theorem rWorks_no {l : List Ev} {at_ : Int} (hn : ∀ (j : Nat) (e' : Ev),l[j]? = some e' → wkB at_ e' = false) : rWorks l at_ = 0:=by
 have : l.findIdx? (wkB at_) = none:=by
  rw [List.findIdx?_eq_none_iff]
  intro e he
  obtain ⟨j,hj⟩:=List.getElem?_of_mem he
  exact hn j e hj
 unfold rWorks
 rw [this]
theorem rNamed_yes {l : List Ev} {at_ : Int} {ks : List Int} {e : Ev} (he : e ∈ l) (h : hitB at_ ks e = true) : rNamed l at_ ks = true:=List.any_eq_true.2 ⟨e,he,h⟩
theorem rNamed_no {l : List Ev} {at_ : Int} {ks : List Int} (h : ∀ (j : Nat) (e : Ev),l[j]? = some e → hitB at_ ks e = false) : rNamed l at_ ks = false:=by
 rw [Bool.eq_false_iff]
 intro ht
 obtain ⟨e,he,hh⟩:=List.any_eq_true.1 ht
 obtain ⟨j,hj⟩:=List.getElem?_of_mem he
 rw [h j e hj] at hh
 cases hh
theorem RowV.at_ {W : World} {ao : Option Addr} {l : List Ev} {i : Nat} {e : Ev} (h : RowV W ao l) (he : l[i]? = some e) : ∃ b o,ao = some ⟨b,o,none⟩ ∧ ∀ w',Fr (fun _=>False) W w' → ∀ j v,(evc e)[j]? = some v → w'.cell? ⟨b,o + i * 7 + j,none⟩ = some v:=by
 rcases h with h | ⟨b,o,h1,h2,h3⟩
 ·rw [h] at he;simp at he
 ·exact ⟨b,o,h1,fun w' hf j v hj=>(World.cell?_of_block (hf.block b h2 id)).trans (h3 i e he j v hj)⟩
def rOpen (l : List Ev) (at_ : Int) : Bool:=
 if rKind l at_ = 7 then (rWorks l at_ == 0) || !rNamed l (rWorks l at_) [9,10,11]
 else if rKind l at_ = 12 then !rNamed l at_ [13,14]
 else if rKind l at_ = 17 then !rNamed l at_ [18]
 else false
def rTask (l : List Ev) : Int × Int:=
 if rLast l 2 = 0 then (0,0)
 else if rLast l 3 < rLast l 2 then (1,(rLast l 2 : Int))
 else if rNamed l (rLast l 3 : Int) [4,5,6] = true then (0,0)
 else (2,(rLast l 3 : Int))
def refAt (l : List Ev) (at_ : Int) : Int:=match l[(at_ - 1).toNat]? with | some e=>e.ref | none=>0
def rRefs (l : List Ev) (e : Ev) : Bool:=
 if e.k = 3 then ((rTask l).1 == 1) && (e.ref == (rTask l).2)
 else if e.k = 4 ∨ e.k = 5 ∨ e.k = 6 then ((rTask l).1 == 2) && (e.ref == (rTask l).2)
 else if e.k = 8 then (rKind l e.ref == 7) && (rWorks l e.ref == 0)
 else if e.k = 9 ∨ e.k = 10 ∨ e.k = 11 then (rKind l e.ref == 8) && rOpen l (refAt l e.ref)
 else if e.k = 13 ∨ e.k = 14 then (rKind l e.ref == 12) && rOpen l e.ref
 else if e.k = 18 then (rKind l e.ref == 17) && rOpen l e.ref
 else e.ref == 0
def lastAt (l : List Ev) : Int:=match l.getLast? with | some x=>x.at_ | none=>0
def usedB (l : List Ev) (e : Ev) (i : Nat) : Bool:=match l[i]? with | some x=>(x.k == e.k) && ((x.id == e.id) && rOpen l ((i : Int) + 1)) | none=>false
def rUsed (l : List Ev) (e : Ev) : Bool:=(List.range l.length).any (usedB l e)
def rWhyC (l : List Ev) (e : Ev) : Nat:=
 if rightB e = false then 1
 else if 0 < l.length ∧ e.at_ < lastAt l then 2
 else if (((l.length : Int) == 0) == (e.k == 1)) = false then 3
 else if l.any (fun x=>closeB x.k) = true then 4
 else if rRefs l e = false then 5
 else if e.k = 2 ∧ (rTask l).1 ≠ 0 then 6
 else if (e.k = 7 ∨ e.k = 12 ∨ e.k = 17) ∧ rUsed l e = true then 7
 else 0
theorem used_yes {l : List Ev} {e : Ev} {i : Nat} (hi : i < l.length) (h : usedB l e i = true) : rUsed l e = true:=List.any_eq_true.2 ⟨i,List.mem_range.2 hi,h⟩
def evAt (l : List Ev) (x : Int) : Option Ev:=if x < 1 then none else l[(x - 1).toNat]?
theorem evAt_out {l : List Ev} {x : Int} (h : x < 1 ∨ (l.length : Int) < x) : evAt l x = none:=by
 unfold evAt
 by_cases h1 : x < 1
 ·exact if_pos h1
 ·rw [if_neg h1]
  exact List.getElem?_eq_none (by omega)
theorem evAt_snoc (l : List Ev) (e : Ev) (x : Int) : evAt (l ++ [e]) x = if x = (l.length : Int) + 1 then some e else evAt l x:=by
 by_cases h : x = (l.length : Int) + 1
 ·rw [if_pos h]
  unfold evAt
  rw [if_neg (by omega),show (x - 1).toNat = l.length by omega]
  simp
 ·rw [if_neg h]
  unfold evAt
  by_cases h1 : x < 1
  ·rw [if_pos h1,if_pos h1]
  ·rw [if_neg h1,if_neg h1]
   by_cases h2 : (x - 1).toNat < l.length
   ·exact List.getElem?_append_left h2
   ·rw [List.getElem?_eq_none (by simp;omega),List.getElem?_eq_none (by omega)]
theorem rKind_ev (l : List Ev) (x : Int) : rKind l x = match evAt l x with | some e=>e.k | none=>0:=by
 by_cases h : x < 1 ∨ (l.length : Int) < x
 ·rw [rKind_out h,evAt_out h]
 ·unfold rKind evAt
  rw [if_neg h,if_neg (by omega)]
  try (cases l[(x - 1).toNat]? <;> rfl)
theorem rKind_snoc (l : List Ev) (e : Ev) (x : Int) : rKind (l ++ [e]) x = if x = (l.length : Int) + 1 then e.k else rKind l x:=by
 rw [rKind_ev,evAt_snoc]
 by_cases h : x = (l.length : Int) + 1
 ·rw [if_pos h,if_pos h]
 ·rw [if_neg h,if_neg h,rKind_ev]
theorem refAt_ev {l : List Ev} {x : Int} (h : 1 ≤ x) : refAt l x = match evAt l x with | some e=>e.ref | none=>0:=by
 unfold refAt evAt
 rw [if_neg (by omega)]
 try (cases l[(x - 1).toNat]? <;> rfl)
theorem rNamed_snoc (l : List Ev) (e : Ev) (y : Int) (ks : List Int) : rNamed (l ++ [e]) y ks = (rNamed l y ks || hitB y ks e):=by
 simp [rNamed]
theorem rWorks_snoc (l : List Ev) (e : Ev) (x : Int) : rWorks (l ++ [e]) x = if rWorks l x ≠ 0 then rWorks l x else if wkB x e = true then (l.length : Int) + 1 else 0:=by
 unfold rWorks
 rw [List.findIdx?_append]
 cases h : l.findIdx? (wkB x) with
 | some i=>
   rw [if_pos (by show (i : Int) + 1 ≠ 0;omega)]
   rfl
 | none=>
   rw [if_neg (by decide)]
   by_cases hw : wkB x e = true
   ·simp [hw,List.findIdx?_cons]
   ·simp [hw,List.findIdx?_cons]
theorem rWorks_spec (l : List Ev) (x : Int) (h : rWorks l x ≠ 0) : ∃ e,evAt l (rWorks l x) = some e ∧ e.k = 8 ∧ e.ref = x ∧ 1 ≤ rWorks l x ∧ rWorks l x ≤ l.length:=by
 cases hi : l.findIdx? (wkB x) with
 | none=>exact absurd (by unfold rWorks;rw [hi]) h
 | some i=>
   have hv : rWorks l x = (i : Int) + 1:=by unfold rWorks;rw [hi]
   rw [List.findIdx?_eq_some_iff_getElem] at hi
   obtain ⟨h1,h2,_⟩:=hi
   simp only [wkB,Bool.and_eq_true,beq_iff_eq] at h2
   rw [hv]
   refine ⟨l[i],?_,h2.1,h2.2,by omega,by omega⟩
   unfold evAt
   rw [if_neg (by omega),show ((i : Int) + 1 - 1).toNat = i by omega]
   exact List.getElem?_eq_getElem h1
theorem rLastN_snoc (l : List Ev) (e : Ev) (k : Int) : ∀ n,n ≤ l.length → rLastN (l ++ [e]) k n = rLastN l k n
 | 0,_=>rfl
 | n + 1,h=>by
   show (match (l ++ [e])[n]? with | some x=>if x.k = k then n + 1 else rLastN (l ++ [e]) k n | none=>rLastN (l ++ [e]) k n) = (match l[n]? with | some x=>if x.k = k then n + 1 else rLastN l k n | none=>rLastN l k n)
   rw [List.getElem?_append_left (by omega),rLastN_snoc l e k n (by omega)]
theorem rLast_snoc (l : List Ev) (e : Ev) (k : Int) : rLast (l ++ [e]) k = if e.k = k then l.length + 1 else rLast l k:=by
 unfold rLast
 rw [List.length_append,show l.length + [e].length = l.length + 1 from rfl]
 show (match (l ++ [e])[l.length]? with | some x=>if x.k = k then l.length + 1 else rLastN (l ++ [e]) k l.length | none=>rLastN (l ++ [e]) k l.length) = _
 rw [show (l ++ [e])[l.length]? = some e by simp,rLastN_snoc l e k _ (Nat.le_refl _)]
theorem rLastN_le (l : List Ev) (k : Int) : ∀ n,rLastN l k n ≤ n
 | 0=>Nat.le_refl _
 | n + 1=>by
   have:=rLastN_le l k n
   unfold rLastN
   split
   ·split
    ·exact Nat.le_refl _
    ·exact Nat.le_succ_of_le this
   ·exact Nat.le_succ_of_le this
theorem rLast_le (l : List Ev) (k : Int) : rLast l k ≤ l.length:=rLastN_le l k _
theorem lastAt_snoc (l : List Ev) (e : Ev) : lastAt (l ++ [e]) = e.at_:=by simp [lastAt]
/-- no event refers past the end -/
def RefsIn (l : List Ev) : Prop:=∀ y ∈ l,0 ≤ y.ref ∧ y.ref ≤ l.length
theorem works_past {l : List Ev} (h : RefsIn l) {x : Int} (hx : (l.length : Int) < x) : rWorks l x = 0:=by
 apply Classical.byContradiction
 intro hn
 obtain ⟨e,he,_,hr,h1,h2⟩:=rWorks_spec l x hn
 unfold evAt at he
 rw [if_neg (by omega)] at he
 have:=h e (List.mem_of_getElem? he)
 omega
theorem named_past {l : List Ev} (h : RefsIn l) {x : Int} (hx : (l.length : Int) < x) (ks : List Int) : rNamed l x ks = false:=by
 rw [Bool.eq_false_iff]
 intro ht
 obtain ⟨y,hy,hh⟩:=List.any_eq_true.1 ht
 simp only [hitB,Bool.and_eq_true,beq_iff_eq] at hh
 have:=h y hy
 omega
/-- a new place -/
theorem rOpen_new {l : List Ev} {e : Ev} (h : RefsIn l) (he : e.ref ≤ l.length) : rOpen (l ++ [e]) ((l.length : Int) + 1) = (e.k == 7 || (e.k == 12 || e.k == 17)):=by
 have hk : rKind (l ++ [e]) ((l.length : Int) + 1) = e.k:=by rw [rKind_snoc,if_pos rfl]
 have hw : rWorks (l ++ [e]) ((l.length : Int) + 1) = 0:=by
  rw [rWorks_snoc,works_past h (by omega),if_neg (by simp),if_neg]
  simp only [wkB,Bool.and_eq_true,beq_iff_eq]
  omega
 have hn : ∀ ks,rNamed (l ++ [e]) ((l.length : Int) + 1) ks = false:=fun ks=>by
  rw [rNamed_snoc,named_past h (by omega)]
  have : (e.ref == (l.length : Int) + 1) = false:=by simp;omega
  simp [hitB,this]
 unfold rOpen
 rw [hk,hw,hn,hn]
 by_cases h7 : e.k = 7
 ·simp [h7]
 ·by_cases h12 : e.k = 12
  ·simp [h12]
  ·by_cases h17 : e.k = 17
   ·simp [h17]
   ·simp [h7,h12,h17]
theorem rOpen_none {l : List Ev} {x : Int} (h : x < 1 ∨ (l.length : Int) < x) : rOpen l x = false:=by
 unfold rOpen
 rw [rKind_out h]
 rfl
def idAt (l : List Ev) (x : Int) : Int:=match evAt l x with | some e=>e.id | none=>0
structure Inv (l : List Ev) (s : Hi) : Prop where
 n : s.n = l.length
 at_ : s.at_ = lastAt l
 cl : s.closed ≠ 0 ↔ (l.any fun x=>closeB x.k) = true
 rf : RefsIn l
 tk : (s.task = 0 ∧ s.begun = false ∧ (rLast l 2 = 0 ∨ (rLast l 2 ≤ rLast l 3 ∧ rNamed l (rLast l 3 : Int) [4,5,6] = true))) ∨
  (rLast l 2 ≠ 0 ∧ s.task = (rLast l 2 : Int) ∧ s.begun = false ∧ rLast l 3 < rLast l 2) ∨
  (rLast l 2 ≠ 0 ∧ s.task = (rLast l 3 : Int) ∧ s.begun = true ∧ rLast l 2 ≤ rLast l 3 ∧ rNamed l (rLast l 3 : Int) [4,5,6] = false)
 kd : ∀ x,s.kinds x = if rOpen l x = true then some (rKind l x) else none
 id : ∀ x,rOpen l x = true → (s.ids x).getD 0 = idAt l x
 fr : ∀ x,rOpen l x = true → rKind l x = 7 → s.from_ x = if rWorks l x = 0 then none else some (rWorks l x)
 of : ∀ w,s.of_ w = if rKind l w = 8 ∧ rOpen l (refAt l w) = true then some (refAt l w) else none
 wk : ∀ w,rKind l w = 8 → rKind l (refAt l w) = 7 ∧ rWorks l (refAt l w) = w
theorem inv0 : Inv [] hi0:=by
 have hk : ∀ x,rKind [] x = 0:=fun x=>by
  by_cases h : x < 1
  ·exact rKind_out (.inl h)
  ·exact rKind_out (.inr (by simp;omega))
 have ho : ∀ x,rOpen [] x = false:=fun x=>by unfold rOpen;rw [hk];rfl
 refine ⟨rfl,rfl,by simp [hi0],fun y hy=>(by cases hy),.inl ⟨rfl,rfl,.inl rfl⟩,fun x=>?_,fun x h=>?_,fun x h=>?_,fun w=>?_,fun w h=>?_⟩
 ·rw [ho];rfl
 ·rw [ho] at h;cases h
 ·rw [ho] at h;cases h
 ·rw [if_neg (by rw [hk];omega)];rfl
 ·rw [hk] at h;omega
theorem kind_in {l : List Ev} {x : Int} (h : rKind l x ≠ 0) : 1 ≤ x ∧ x ≤ l.length:=by
 apply Classical.byContradiction
 intro hn
 exact h (rKind_out (by omega))
theorem open_in {l : List Ev} {x : Int} (h : rOpen l x = true) : 1 ≤ x ∧ x ≤ l.length:=by
 apply Classical.byContradiction
 intro hn
 rw [rOpen_none (by omega)] at h
 cases h
theorem Inv.task {l : List Ev} {s : Hi} (h : Inv l s) : (s.task = 0 ∧ s.begun = false ∧ rTask l = (0,0)) ∨ (s.task ≠ 0 ∧ s.begun = false ∧ rTask l = (1,s.task)) ∨ (s.task ≠ 0 ∧ s.begun = true ∧ rTask l = (2,s.task)):=by
 rcases h.tk with ⟨h1,h2,h3⟩ | ⟨h1,h2,h3,h4⟩ | ⟨h1,h2,h3,h4,h5⟩
 ·refine .inl ⟨h1,h2,?_⟩
  unfold rTask
  rcases h3 with h3 | ⟨h3,h4⟩
  ·rw [if_pos h3]
  ·by_cases h0 : rLast l 2 = 0
   ·rw [if_pos h0]
   ·rw [if_neg h0,if_neg (by omega),if_pos h4]
 ·refine .inr (.inl ⟨by rw [h2];omega,h3,?_⟩)
  unfold rTask
  rw [if_neg h1,if_pos h4,h2]
 ·refine .inr (.inr ⟨by rw [h2];omega,h3,?_⟩)
  unfold rTask
  rw [if_neg h1,if_neg (by omega),if_neg (by rw [h5];decide),h2]
theorem Inv.refs {l : List Ev} {s : Hi} (h : Inv l s) (e : Ev) : refB s e = rRefs l e:=by
 unfold refB rRefs
 by_cases h3 : e.k = 3
 ·rw [if_pos h3,if_pos h3]
  rcases h.task with ⟨a,b,c⟩ | ⟨a,b,c⟩ | ⟨a,b,c⟩ <;> rw [c] <;> simp [a,b]
 rw [if_neg h3,if_neg h3]
 by_cases h4 : e.k = 4 ∨ e.k = 5 ∨ e.k = 6
 ·rw [if_pos h4,if_pos h4]
  rcases h.task with ⟨a,b,c⟩ | ⟨a,b,c⟩ | ⟨a,b,c⟩ <;> rw [c] <;> simp [a,b]
 rw [if_neg h4,if_neg h4]
 by_cases h8 : e.k = 8
 ·rw [if_pos h8,if_pos h8,h.kd]
  by_cases ho : rOpen l e.ref = true
  ·rw [if_pos ho]
   by_cases h7 : rKind l e.ref = 7
   ·rw [h.fr _ ho h7]
    by_cases hw : rWorks l e.ref = 0
    ·simp [hw,h7]
    ·simp [hw,h7]
   ·have hq : (rKind l e.ref == 7) = false:=by rw [Bool.eq_false_iff];exact fun hh=>h7 (by simpa using hh)
    show ((rKind l e.ref == 7) && _) = ((rKind l e.ref == 7) && _)
    rw [hq];rfl
  ·rw [if_neg ho]
   have : ¬ (rKind l e.ref = 7 ∧ rWorks l e.ref = 0):=fun hh=>ho (by unfold rOpen;rw [if_pos hh.1,hh.2];rfl)
   by_cases h7 : rKind l e.ref = 7
   ·have hw : rWorks l e.ref ≠ 0:=fun hw=>this ⟨h7,hw⟩
    simp [h7,hw]
   ·simp [h7]
 rw [if_neg h8,if_neg h8]
 by_cases h9 : e.k = 9 ∨ e.k = 10 ∨ e.k = 11
 ·rw [if_pos h9,if_pos h9,h.of]
  by_cases ho : rKind l e.ref = 8 ∧ rOpen l (refAt l e.ref) = true
  ·rw [if_pos ho]
   have:=open_in ho.2
   have hne : refAt l e.ref ≠ 0:=by omega
   simp [ho.1,ho.2,hne]
  ·rw [if_neg ho]
   by_cases h8' : rKind l e.ref = 8
   ·have : rOpen l (refAt l e.ref) = false:=by
     rw [Bool.eq_false_iff];exact fun hh=>ho ⟨h8',hh⟩
    simp [this]
   ·simp [h8']
 rw [if_neg h9,if_neg h9]
 have hk : ∀ k : Int,k ≠ 0 → ((s.kinds e.ref).getD 0 == k) = ((rKind l e.ref == k) && rOpen l e.ref):=fun k hk0=>by
  rw [h.kd]
  by_cases ho : rOpen l e.ref = true
  ·rw [if_pos ho,ho];simp
  ·have : rOpen l e.ref = false:=by rw [Bool.eq_false_iff];exact ho
   rw [if_neg ho,this]
   have : ((0 : Int) == k) = false:=by simp;omega
   simp [this]
 by_cases h13 : e.k = 13 ∨ e.k = 14
 ·rw [if_pos h13,if_pos h13,hk 12 (by decide)]
 rw [if_neg h13,if_neg h13]
 by_cases h18 : e.k = 18
 ·rw [if_pos h18,if_pos h18,hk 17 (by decide)]
 rw [if_neg h18,if_neg h18]
theorem Inv.uses {l : List Ev} {s : Hi} (h : Inv l s) (e : Ev) : usesB s e.k e.id = rUsed l e:=by
 have h1 : (∃ x,s.kinds x = some e.k ∧ (s.ids x).getD 0 = e.id) ↔ rUsed l e = true:=by
  constructor
  ·rintro ⟨x,hx,hid⟩
   rw [h.kd] at hx
   by_cases ho : rOpen l x = true
   ·rw [if_pos ho] at hx
    have hk:=Option.some.inj hx
    rw [h.id x ho] at hid
    have hin:=open_in ho
    obtain ⟨i,rfl⟩ : ∃ i : Nat,x = (i : Int) + 1:=⟨(x - 1).toNat,by omega⟩
    obtain ⟨y,hy⟩ : ∃ y,l[i]? = some y:=⟨_,List.getElem?_eq_getElem (by omega)⟩
    have he : evAt l ((i : Int) + 1) = some y:=by
     unfold evAt
     rw [if_neg (by omega),show ((i : Int) + 1 - 1).toNat = i by omega,hy]
    rw [rKind_ev,he] at hk
    unfold idAt at hid
    rw [he] at hid
    refine used_yes (i:=i) (by omega) ?_
    unfold usedB
    rw [hy]
    have e1 : y.k = e.k:=hk
    have e2 : y.id = e.id:=hid
    simp [e1,e2,ho]
   ·rw [if_neg ho] at hx;cases hx
  ·intro hu
   obtain ⟨i,hi,hh⟩:=List.any_eq_true.1 hu
   unfold usedB at hh
   cases hy : l[i]? with
   | none=>rw [hy] at hh;cases hh
   | some y=>
     rw [hy] at hh
     simp only [Bool.and_eq_true,beq_iff_eq] at hh
     obtain ⟨e1,e2,ho⟩:=hh
     have he : evAt l ((i : Int) + 1) = some y:=by
      unfold evAt
      rw [if_neg (by omega),show ((i : Int) + 1 - 1).toNat = i by omega,hy]
     refine ⟨(i : Int) + 1,?_,?_⟩
     ·rw [h.kd,if_pos ho,rKind_ev,he,← e1]
     ·rw [h.id _ ho];unfold idAt;rw [he];exact e2
 by_cases hu : rUsed l e = true
 ·rw [hu];exact usesB_true (h1.2 hu)
 ·rw [usesB_false (fun hh=>hu (h1.1 hh))]
  exact (Bool.eq_false_iff.2 hu).symm
theorem Inv.why {l : List Ev} {s : Hi} (h : Inv l s) (e : Ev) : rWhyC l e = faultC s e:=by
 unfold rWhyC faultC
 by_cases h1 : rightB e = false
 ·rw [if_pos h1,if_pos h1]
 rw [if_neg h1,if_neg h1]
 have h1' : rightB e = true:=by simpa using h1
 have hat : 0 ≤ e.at_:=by
  simp only [rightB,Bool.and_eq_true,betB_iff] at h1'
  exact h1'.2.2.1.1
 have e2 : (0 < l.length ∧ e.at_ < lastAt l) ↔ e.at_ < s.at_:=by
  rw [h.at_]
  refine ⟨fun h=>h.2,fun hh=>⟨?_,hh⟩⟩
  cases l with
  | nil=>exact absurd hh (by show ¬ e.at_ < 0;omega)
  | cons a l=>simp
 by_cases h2 : e.at_ < s.at_
 ·rw [if_pos (e2.2 h2),if_pos h2]
 rw [if_neg (fun hh=>h2 (e2.1 hh)),if_neg h2,h.n]
 by_cases h3 : (((l.length : Int) == 0) == (e.k == 1)) = false
 ·rw [if_pos h3,if_pos h3]
 rw [if_neg h3,if_neg h3]
 by_cases h4 : s.closed ≠ 0
 ·rw [if_pos (h.cl.1 h4),if_pos h4]
 rw [if_neg (fun hh=>h4 (h.cl.2 hh)),if_neg h4,h.refs]
 by_cases h5 : rRefs l e = false
 ·rw [if_pos h5,if_pos h5]
 rw [if_neg h5,if_neg h5]
 have e6 : (rTask l).1 ≠ 0 ↔ s.task ≠ 0:=by
  rcases h.task with ⟨a,b,c⟩ | ⟨a,b,c⟩ | ⟨a,b,c⟩ <;> rw [c] <;> simp [a]
 by_cases h6 : e.k = 2 ∧ s.task ≠ 0
 ·rw [if_pos ⟨h6.1,e6.2 h6.2⟩,if_pos h6]
 rw [if_neg (fun hh=>h6 ⟨hh.1,e6.1 hh.2⟩),if_neg h6,h.uses]
 by_cases h7 : (e.k = 7 ∨ e.k = 12 ∨ e.k = 17) ∧ rUsed l e = true
 ·rw [if_pos h7];exact (if_pos h7).symm
 ·rw [if_neg h7];exact (if_neg h7).symm
/-- does an event end what is open at a place? -/
def dead (l : List Ev) (e : Ev) (x : Int) : Bool:=
 (rKind l x == 7 && ([9,10,11].any (fun k=>e.k == k) && (e.ref == rWorks l x && rWorks l x != 0))) ||
 ((rKind l x == 12 && ([13,14].any (fun k=>e.k == k) && e.ref == x)) || (rKind l x == 17 && ([18].any (fun k=>e.k == k) && e.ref == x)))
theorem rOpen_snoc {l : List Ev} {e : Ev} (h : RefsIn l) (he : e.ref ≤ l.length) {x : Int} (hx : x ≠ (l.length : Int) + 1) : rOpen (l ++ [e]) x = (rOpen l x && !dead l e x):=by
 have hk : rKind (l ++ [e]) x = rKind l x:=by rw [rKind_snoc,if_neg hx]
 unfold rOpen dead
 rw [hk]
 by_cases h7 : rKind l x = 7
 ·rw [if_pos h7,if_pos h7,h7]
  by_cases hw : rWorks l x = 0
  ·have h1 : rWorks (l ++ [e]) x = 0 ∨ rWorks (l ++ [e]) x = (l.length : Int) + 1 ∧ e.k = 8:=by
    rw [rWorks_snoc,if_neg (fun hh=>hh hw)]
    by_cases hb : wkB x e = true
    ·rw [if_pos hb]
     simp only [wkB,Bool.and_eq_true,beq_iff_eq] at hb
     exact .inr ⟨rfl,hb.1⟩
    ·rw [if_neg hb];exact .inl rfl
   rcases h1 with h1 | ⟨h1,h8⟩
   ·rw [h1,hw];simp
   ·have hn : rNamed (l ++ [e]) ((l.length : Int) + 1) [9,10,11] = false:=by
     rw [rNamed_snoc,named_past h (by omega)]
     simp [hitB,h8]
    rw [h1,hn,hw];simp
  ·have h1 : rWorks (l ++ [e]) x = rWorks l x:=by rw [rWorks_snoc,if_pos hw]
   rw [h1,rNamed_snoc]
   have hw0 : (rWorks l x == 0) = false:=by simp [hw]
   have hw1 : (rWorks l x != 0) = true:=by simp [hw]
   rw [hw0,hw1]
   cases rNamed l (rWorks l x) [9,10,11] <;> simp [hitB,Bool.and_comm]
 rw [if_neg h7,if_neg h7]
 have q7 : (rKind l x == 7) = false:=by rw [Bool.eq_false_iff];exact fun hh=>h7 (by simpa using hh)
 rw [q7]
 by_cases h12 : rKind l x = 12
 ·rw [if_pos h12,if_pos h12,h12,rNamed_snoc]
  cases rNamed l x [13,14] <;> simp [hitB,Bool.and_comm]
 rw [if_neg h12,if_neg h12]
 have q12 : (rKind l x == 12) = false:=by rw [Bool.eq_false_iff];exact fun hh=>h12 (by simpa using hh)
 rw [q12]
 by_cases h17 : rKind l x = 17
 ·rw [if_pos h17,if_pos h17,h17,rNamed_snoc]
  cases rNamed l x [18] <;> simp [hitB,Bool.and_comm]
 rw [if_neg h17,if_neg h17]
 rfl
theorem dead_no {l : List Ev} {e : Ev} (h : ¬ (e.k = 9 ∨ e.k = 10 ∨ e.k = 11 ∨ e.k = 13 ∨ e.k = 14 ∨ e.k = 18)) (x : Int) : dead l e x = false:=by
 have h9 : ([9,10,11].any (fun k=>e.k == k)) = false:=by simp;omega
 have h13 : ([13,14].any (fun k=>e.k == k)) = false:=by simp;omega
 have h18 : ([18].any (fun k=>e.k == k)) = false:=by simp;omega
 unfold dead
 rw [h9,h13,h18]
 simp
theorem ref_in {l : List Ev} {e : Ev} (hr : rRefs l e = true) (h0 : rLast l 2 ≤ l.length) : 0 ≤ e.ref ∧ e.ref ≤ l.length:=by
 have hl2:=rLast_le l 2
 have hl3:=rLast_le l 3
 have ht : 0 ≤ (rTask l).2 ∧ (rTask l).2 ≤ l.length:=by
  unfold rTask
  split
  ·exact ⟨by decide,by omega⟩
  split
  ·exact ⟨by omega,by omega⟩
  split
  ·exact ⟨by decide,by omega⟩
  ·exact ⟨by omega,by omega⟩
 have hk : ∀ k : Int,k ≠ 0 → rKind l e.ref = k → 0 ≤ e.ref ∧ e.ref ≤ l.length:=fun k hk he=>by
  have:=kind_in (l:=l) (x:=e.ref) (by omega)
  omega
 unfold rRefs at hr
 split at hr
 ·simp only [Bool.and_eq_true,beq_iff_eq] at hr;omega
 split at hr
 ·simp only [Bool.and_eq_true,beq_iff_eq] at hr;omega
 split at hr
 ·simp only [Bool.and_eq_true,beq_iff_eq] at hr;exact hk 7 (by decide) hr.1
 split at hr
 ·simp only [Bool.and_eq_true,beq_iff_eq] at hr;exact hk 8 (by decide) hr.1
 split at hr
 ·simp only [Bool.and_eq_true,beq_iff_eq] at hr;exact hk 12 (by decide) hr.1
 split at hr
 ·simp only [Bool.and_eq_true,beq_iff_eq] at hr;exact hk 17 (by decide) hr.1
 ·have : e.ref = 0:=by simpa using hr
  omega
theorem idAt_snoc (l : List Ev) (e : Ev) (x : Int) : idAt (l ++ [e]) x = if x = (l.length : Int) + 1 then e.id else idAt l x:=by
 unfold idAt
 rw [evAt_snoc]
 by_cases h : x = (l.length : Int) + 1
 ·rw [if_pos h,if_pos h]
 ·rw [if_neg h,if_neg h]
theorem refAt_snoc {l : List Ev} {e : Ev} {x : Int} (h1 : 1 ≤ x) : refAt (l ++ [e]) x = if x = (l.length : Int) + 1 then e.ref else refAt l x:=by
 rw [refAt_ev h1,refAt_ev h1,evAt_snoc]
 by_cases h : x = (l.length : Int) + 1
 ·rw [if_pos h,if_pos h]
 ·rw [if_neg h,if_neg h]
theorem refAt_in {l : List Ev} (h : RefsIn l) {x : Int} (h1 : 1 ≤ x) (h2 : x ≤ l.length) : 0 ≤ refAt l x ∧ refAt l x ≤ l.length:=by
 obtain ⟨y,hy⟩ : ∃ y,l[(x - 1).toNat]? = some y:=⟨_,List.getElem?_eq_getElem (by omega)⟩
 unfold refAt
 rw [hy]
 exact h y (List.mem_of_getElem? hy)
theorem fault_none {s : Hi} {e : Ev} (hf : faultC s e = 0) : s.closed = 0 ∧ refB s e = true ∧ ¬ (e.k = 2 ∧ s.task ≠ 0):=by
 unfold faultC at hf
 split at hf
 ·cases hf
 split at hf
 ·cases hf
 split at hf
 ·cases hf
 split at hf
 ·cases hf
 rename_i h4
 split at hf
 ·cases hf
 rename_i h5
 split at hf
 ·cases hf
 rename_i h6
 exact ⟨Classical.byContradiction h4,by simpa using h5,h6⟩
theorem closes_flds (t : Hi) (e : Ev) : (closes t e).n = t.n ∧ (closes t e).at_ = t.at_ ∧ (closes t e).task = t.task ∧ (closes t e).begun = t.begun ∧ (closes t e).kinds = t.kinds ∧ (closes t e).ids = t.ids ∧ (closes t e).of_ = t.of_ ∧ (closes t e).from_ = t.from_:=by
 unfold closes
 split <;> exact ⟨rfl,rfl,rfl,rfl,rfl,rfl,rfl,rfl⟩
theorem turned_keep (t : Hi) (e : Ev) : (turned t e).n = t.n ∧ (turned t e).at_ = t.at_ ∧ (turned t e).closed = t.closed:=by
 unfold turned
 repeat' split
 all_goals exact ⟨rfl,rfl,rfl⟩
def Inv2 (l : List Ev) (s : Hi) : Prop:=Inv l s ∧ ∀ x v,s.from_ x = some v → x ≤ l.length
/-- what is needed of the history that is one event longer -/
structure Nxt (l : List Ev) (e : Ev) (t : Hi) : Prop where
 tk : (t.task = 0 ∧ t.begun = false ∧ (rLast (l ++ [e]) 2 = 0 ∨ (rLast (l ++ [e]) 2 ≤ rLast (l ++ [e]) 3 ∧ rNamed (l ++ [e]) (rLast (l ++ [e]) 3 : Int) [4,5,6] = true))) ∨
  (rLast (l ++ [e]) 2 ≠ 0 ∧ t.task = (rLast (l ++ [e]) 2 : Int) ∧ t.begun = false ∧ rLast (l ++ [e]) 3 < rLast (l ++ [e]) 2) ∨
  (rLast (l ++ [e]) 2 ≠ 0 ∧ t.task = (rLast (l ++ [e]) 3 : Int) ∧ t.begun = true ∧ rLast (l ++ [e]) 2 ≤ rLast (l ++ [e]) 3 ∧ rNamed (l ++ [e]) (rLast (l ++ [e]) 3 : Int) [4,5,6] = false)
 kd : ∀ x,t.kinds x = if rOpen (l ++ [e]) x = true then some (rKind (l ++ [e]) x) else none
 id : ∀ x,rOpen (l ++ [e]) x = true → (t.ids x).getD 0 = idAt (l ++ [e]) x
 fr : ∀ x,rOpen (l ++ [e]) x = true → rKind (l ++ [e]) x = 7 → t.from_ x = if rWorks (l ++ [e]) x = 0 then none else some (rWorks (l ++ [e]) x)
 of : ∀ w,t.of_ w = if rKind (l ++ [e]) w = 8 ∧ rOpen (l ++ [e]) (refAt (l ++ [e]) w) = true then some (refAt (l ++ [e]) w) else none
 fd : ∀ x v,t.from_ x = some v → x ≤ ((l ++ [e]).length : Int)
theorem works_snoc_no {l : List Ev} {e : Ev} {x : Int} (h : ¬ (e.k = 8 ∧ e.ref = x)) : rWorks (l ++ [e]) x = rWorks l x:=by
 rw [rWorks_snoc]
 by_cases h0 : rWorks l x = 0
 ·rw [if_neg (fun hh=>hh h0),if_neg,h0]
  simp only [wkB,Bool.and_eq_true,beq_iff_eq]
  exact h
 ·rw [if_pos h0]
theorem tk_same {l : List Ev} {e : Ev} {s t : Hi} (h : Inv l s) (h2 : e.k ≠ 2) (h3 : e.k ≠ 3) (h456 : ¬ (e.k = 4 ∨ e.k = 5 ∨ e.k = 6)) (ht : t.task = s.task) (hb : t.begun = s.begun) :
 (t.task = 0 ∧ t.begun = false ∧ (rLast (l ++ [e]) 2 = 0 ∨ (rLast (l ++ [e]) 2 ≤ rLast (l ++ [e]) 3 ∧ rNamed (l ++ [e]) (rLast (l ++ [e]) 3 : Int) [4,5,6] = true))) ∨
 (rLast (l ++ [e]) 2 ≠ 0 ∧ t.task = (rLast (l ++ [e]) 2 : Int) ∧ t.begun = false ∧ rLast (l ++ [e]) 3 < rLast (l ++ [e]) 2) ∨
 (rLast (l ++ [e]) 2 ≠ 0 ∧ t.task = (rLast (l ++ [e]) 3 : Int) ∧ t.begun = true ∧ rLast (l ++ [e]) 2 ≤ rLast (l ++ [e]) 3 ∧ rNamed (l ++ [e]) (rLast (l ++ [e]) 3 : Int) [4,5,6] = false):=by
 have e2 : rLast (l ++ [e]) 2 = rLast l 2:=by rw [rLast_snoc,if_neg h2]
 have e3 : rLast (l ++ [e]) 3 = rLast l 3:=by rw [rLast_snoc,if_neg h3]
 have en : ∀ y,rNamed (l ++ [e]) y [4,5,6] = rNamed l y [4,5,6]:=fun y=>by
  rw [rNamed_snoc]
  have : hitB y [4,5,6] e = false:=by
   rw [Bool.eq_false_iff]
   intro hh
   simp [hitB] at hh
   omega
  rw [this,Bool.or_false]
 rw [e2,e3,en,ht,hb]
 exact h.tk
/-- kinds that neither open nor end anything -/
theorem nxt_plain {l : List Ev} {e : Ev} {s t : Hi} (h : Inv l s) (hd : ∀ x v,s.from_ x = some v → x ≤ (l.length : Int)) (hin : 0 ≤ e.ref ∧ e.ref ≤ l.length)
 (hk : ¬ (e.k = 7 ∨ e.k = 12 ∨ e.k = 17 ∨ e.k = 8 ∨ e.k = 9 ∨ e.k = 10 ∨ e.k = 11 ∨ e.k = 13 ∨ e.k = 14 ∨ e.k = 18)) (e1 : t.kinds = s.kinds) (e2 : t.ids = s.ids) (e3 : t.of_ = s.of_) (e4 : t.from_ = s.from_)
 (tk : (t.task = 0 ∧ t.begun = false ∧ (rLast (l ++ [e]) 2 = 0 ∨ (rLast (l ++ [e]) 2 ≤ rLast (l ++ [e]) 3 ∧ rNamed (l ++ [e]) (rLast (l ++ [e]) 3 : Int) [4,5,6] = true))) ∨
 (rLast (l ++ [e]) 2 ≠ 0 ∧ t.task = (rLast (l ++ [e]) 2 : Int) ∧ t.begun = false ∧ rLast (l ++ [e]) 3 < rLast (l ++ [e]) 2) ∨
 (rLast (l ++ [e]) 2 ≠ 0 ∧ t.task = (rLast (l ++ [e]) 3 : Int) ∧ t.begun = true ∧ rLast (l ++ [e]) 2 ≤ rLast (l ++ [e]) 3 ∧ rNamed (l ++ [e]) (rLast (l ++ [e]) 3 : Int) [4,5,6] = false)) : Nxt l e t:=by
 have hn : rOpen (l ++ [e]) ((l.length : Int) + 1) = false:=by
  rw [rOpen_new h.rf hin.2]
  simp;omega
 have ho : ∀ x,rOpen (l ++ [e]) x = rOpen l x:=fun x=>by
  by_cases hx : x = (l.length : Int) + 1
  ·subst hx;rw [hn,rOpen_none (by omega)]
  ·rw [rOpen_snoc h.rf hin.2 hx,dead_no (by omega)];simp
 have hkk : ∀ x,rOpen l x = true → rKind (l ++ [e]) x = rKind l x:=fun x hx=>by
  have:=open_in hx
  rw [rKind_snoc,if_neg (by omega)]
 refine ⟨tk,fun x=>?_,fun x hx=>?_,fun x hx h7=>?_,fun w=>?_,fun x v hx=>?_⟩
 ·rw [e1,h.kd,ho]
  by_cases hx : rOpen l x = true
  ·rw [if_pos hx,if_pos hx,hkk x hx]
  ·rw [if_neg hx,if_neg hx]
 ·rw [ho] at hx
  have:=open_in hx
  rw [e2,h.id x hx,idAt_snoc,if_neg (by omega)]
 ·rw [ho] at hx
  rw [hkk x hx] at h7
  rw [e4,h.fr x hx h7,works_snoc_no (by omega)]
 ·rw [e3,h.of,rKind_snoc]
  by_cases hw : w = (l.length : Int) + 1
  ·rw [if_pos hw,if_neg (by rw [rKind_out (by omega)];omega),if_neg (by omega)]
  ·rw [if_neg hw]
   by_cases h8 : rKind l w = 8
   ·have:=kind_in (l:=l) (x:=w) (by omega)
    rw [refAt_snoc (by omega),if_neg hw,ho]
   ·rw [if_neg (fun hh=>h8 hh.1),if_neg (fun hh=>h8 hh.1)]
 ·rw [e4] at hx
  have:=hd x v hx
  simp
  omega
theorem put1_same (G : Int → Option Int) (x : Int) (v : Option Int) : put1 G x v x = v:=if_pos rfl
theorem put1_other (G : Int → Option Int) {x y : Int} (v : Option Int) (h : y ≠ x) : put1 G x v y = G y:=if_neg h
theorem kind_keep {l : List Ev} {e : Ev} {x : Int} (h : rOpen l x = true) : rKind (l ++ [e]) x = rKind l x:=by
 have:=open_in h
 rw [rKind_snoc,if_neg (by omega)]
/-- one that opens -/
theorem nxt_open {l : List Ev} {e : Ev} {s t : Hi} (h : Inv l s) (hd : ∀ x v,s.from_ x = some v → x ≤ (l.length : Int)) (hin : 0 ≤ e.ref ∧ e.ref ≤ l.length)
 (hk : e.k = 7 ∨ e.k = 12 ∨ e.k = 17) (N : Int) (hN : N = (l.length : Int) + 1) (e1 : t.kinds = put1 s.kinds N (some e.k)) (e2 : t.ids = put1 s.ids N (some e.id)) (e3 : t.of_ = s.of_) (e4 : t.from_ = s.from_) (e5 : t.task = s.task) (e6 : t.begun = s.begun) : Nxt l e t:=by
 have hn : rOpen (l ++ [e]) N = true:=by
  rw [hN,rOpen_new h.rf hin.2]
  simp;omega
 have ho : ∀ x,x ≠ N → rOpen (l ++ [e]) x = rOpen l x:=fun x hx=>by
  rw [rOpen_snoc h.rf hin.2 (by rw [← hN];exact hx),dead_no (by omega)];simp
 refine ⟨tk_same h (by omega) (by omega) (by omega) e5 e6,fun x=>?_,fun x hx=>?_,fun x hx h7=>?_,fun w=>?_,fun x v hx=>?_⟩
 ·rw [e1]
  by_cases hx : x = N
  ·subst hx
   rw [put1_same,if_pos hn,rKind_snoc,if_pos hN]
  ·rw [put1_other _ _ hx,h.kd,ho x hx]
   by_cases hx2 : rOpen l x = true
   ·rw [if_pos hx2,if_pos hx2,kind_keep hx2]
   ·rw [if_neg hx2,if_neg hx2]
 ·rw [e2]
  by_cases hx2 : x = N
  ·subst hx2
   rw [put1_same,idAt_snoc,if_pos hN];rfl
  ·rw [put1_other _ _ hx2,idAt_snoc,if_neg (by rw [← hN];exact hx2)]
   rw [ho x hx2] at hx
   exact h.id x hx
 ·rw [e4,works_snoc_no (by omega)]
  by_cases hx2 : x = N
  ·rw [works_past h.rf (by omega),if_pos rfl]
   cases hfx : s.from_ x with
   | none=>rfl
   | some v=>have:=hd x v hfx;omega
  ·rw [ho x hx2] at hx
   rw [kind_keep hx] at h7
   exact h.fr x hx h7
 ·rw [e3,h.of,rKind_snoc]
  by_cases hw : w = (l.length : Int) + 1
  ·rw [if_pos hw,if_neg (by rw [rKind_out (by omega)];omega),if_neg (by omega)]
  ·rw [if_neg hw]
   by_cases h8 : rKind l w = 8
   ·have h1:=kind_in (l:=l) (x:=w) (by omega)
    have h2:=refAt_in h.rf h1.1 h1.2
    rw [refAt_snoc (by omega),if_neg hw,ho _ (by omega)]
   ·rw [if_neg (fun hh=>h8 hh.1),if_neg (fun hh=>h8 hh.1)]
 ·rw [e4] at hx
  have:=hd x v hx
  simp
  omega
/-- an activity that begins -/
theorem nxt_works {l : List Ev} {e : Ev} {s t : Hi} (h : Inv l s) (hd : ∀ x v,s.from_ x = some v → x ≤ (l.length : Int)) (hin : 0 ≤ e.ref ∧ e.ref ≤ l.length)
 (hk : e.k = 8) (hr7 : rKind l e.ref = 7) (hw0 : rWorks l e.ref = 0) (N : Int) (hN : N = (l.length : Int) + 1) (e1 : t.kinds = s.kinds) (e2 : t.ids = s.ids) (e3 : t.of_ = put1 s.of_ N (some e.ref)) (e4 : t.from_ = put1 s.from_ e.ref (some N)) (e5 : t.task = s.task) (e6 : t.begun = s.begun) : Nxt l e t:=by
 have hn : rOpen (l ++ [e]) N = false:=by
  rw [hN,rOpen_new h.rf hin.2]
  simp;omega
 have ho : ∀ x,rOpen (l ++ [e]) x = rOpen l x:=fun x=>by
  by_cases hx : x = N
  ·rw [hx,hn,rOpen_none (by omega)]
  ·rw [rOpen_snoc h.rf hin.2 (by rw [← hN];exact hx),dead_no (by omega)];simp
 have hopen : rOpen l e.ref = true:=by unfold rOpen;rw [if_pos hr7,hw0];rfl
 refine ⟨tk_same h (by omega) (by omega) (by omega) e5 e6,fun x=>?_,fun x hx=>?_,fun x hx h7=>?_,fun w=>?_,fun x v hx=>?_⟩
 ·rw [e1,h.kd,ho]
  by_cases hx : rOpen l x = true
  ·rw [if_pos hx,if_pos hx,kind_keep hx]
  ·rw [if_neg hx,if_neg hx]
 ·rw [ho] at hx
  have:=open_in hx
  rw [e2,h.id x hx,idAt_snoc,if_neg (by omega)]
 ·rw [ho] at hx
  rw [kind_keep hx] at h7
  rw [e4]
  by_cases hx2 : x = e.ref
  ·have hw0 : rWorks l x = 0:=by rw [hx2];exact hw0
   have hwk : rWorks (l ++ [e]) x = N:=by rw [rWorks_snoc,if_neg (by rw [hw0];simp),if_pos (by simp [wkB,hk,hx2]),hN]
   rw [hx2,put1_same,← hx2,hwk,if_neg (by omega)]
  ·rw [put1_other _ _ hx2,works_snoc_no (fun hh=>hx2 hh.2.symm)]
   exact h.fr x hx h7
 ·rw [e3]
  by_cases hw : w = N
  ·have hkw : rKind (l ++ [e]) w = 8:=by rw [rKind_snoc,if_pos (by rw [← hN];exact hw),hk]
   have hrw : refAt (l ++ [e]) w = e.ref:=by rw [refAt_snoc (by omega),if_pos (by rw [← hN];exact hw)]
   rw [hw,put1_same,← hw,hkw,hrw,ho,if_pos ⟨rfl,hopen⟩]
  ·have hkw : rKind (l ++ [e]) w = rKind l w:=by rw [rKind_snoc,if_neg (by rw [← hN];exact hw)]
   rw [put1_other _ _ hw,h.of,hkw]
   by_cases h8 : rKind l w = 8
   ·have h1:=kind_in (l:=l) (x:=w) (by omega)
    have hrw : refAt (l ++ [e]) w = refAt l w:=by rw [refAt_snoc (by omega),if_neg (by rw [← hN];exact hw)]
    rw [hrw,ho]
   ·rw [if_neg (fun hh=>h8 hh.1),if_neg (fun hh=>h8 hh.1)]
 ·rw [e4] at hx
  by_cases hx2 : x = e.ref
  ·simp;omega
  ·rw [put1_other _ _ hx2] at hx
   have:=hd x v hx
   simp
   omega
/-- one that ends what is open at x0 -/
theorem nxt_end {l : List Ev} {e : Ev} {s t : Hi} (h : Inv l s) (hd : ∀ x v,s.from_ x = some v → x ≤ (l.length : Int)) (hin : 0 ≤ e.ref ∧ e.ref ≤ l.length)
 (hk : e.k = 9 ∨ e.k = 10 ∨ e.k = 11 ∨ e.k = 13 ∨ e.k = 14 ∨ e.k = 18) (x0 : Int) (hx0 : 1 ≤ x0 ∧ x0 ≤ l.length) (hdead : ∀ x,rOpen l x = true → (dead l e x = true ↔ x = x0))
 (e1 : t.kinds = put1 s.kinds x0 none) (e2 : t.ids = put1 s.ids x0 none) (e3 : ∀ w,t.of_ w = if rKind l w = 8 ∧ rOpen l (refAt l w) = true ∧ refAt l w ≠ x0 then some (refAt l w) else none) (e4 : ∀ x,x ≠ x0 → t.from_ x = s.from_ x) (e4' : ∀ v,t.from_ x0 = some v → x0 ≤ (l.length : Int)) (e5 : t.task = s.task) (e6 : t.begun = s.begun) : Nxt l e t:=by
 have hn : rOpen (l ++ [e]) ((l.length : Int) + 1) = false:=by
  rw [rOpen_new h.rf hin.2]
  simp;omega
 have ho : ∀ x,rOpen (l ++ [e]) x = true ↔ rOpen l x = true ∧ x ≠ x0:=fun x=>by
  by_cases hx : x = (l.length : Int) + 1
  ·subst hx
   rw [hn,rOpen_none (by omega)]
   simp
  ·rw [rOpen_snoc h.rf hin.2 hx]
   by_cases hx2 : rOpen l x = true
   ·have:=hdead x hx2
    rw [hx2]
    by_cases hx3 : x = x0
    ·rw [this.2 hx3];simp [hx3]
    ·have hq : dead l e x = false:=by rw [Bool.eq_false_iff];exact fun hh=>hx3 (this.1 hh)
     rw [hq];simp [hx3]
   ·have hq : rOpen l x = false:=by rw [Bool.eq_false_iff];exact hx2
    rw [hq];simp
 refine ⟨tk_same h (by omega) (by omega) (by omega) e5 e6,fun x=>?_,fun x hx=>?_,fun x hx h7=>?_,fun w=>?_,fun x v hx=>?_⟩
 ·rw [e1]
  by_cases hx : x = x0
  ·subst hx
   rw [put1_same,if_neg (fun hh=>((ho x).1 hh).2 rfl)]
  ·rw [put1_other _ _ hx,h.kd]
   by_cases hx2 : rOpen l x = true
   ·rw [if_pos hx2,if_pos ((ho x).2 ⟨hx2,hx⟩),kind_keep hx2]
   ·rw [if_neg hx2,if_neg (fun hh=>hx2 ((ho x).1 hh).1)]
 ·obtain ⟨h1,h2⟩:=(ho x).1 hx
  have:=open_in h1
  rw [e2,put1_other _ _ h2,h.id x h1,idAt_snoc,if_neg (by omega)]
 ·obtain ⟨h1,h2⟩:=(ho x).1 hx
  rw [kind_keep h1] at h7
  rw [e4 x h2,works_snoc_no (by omega)]
  exact h.fr x h1 h7
 ·rw [e3,rKind_snoc]
  by_cases hw : w = (l.length : Int) + 1
  ·rw [if_pos hw,if_neg (fun hh=>by have:=kind_in (l:=l) (x:=w) (by omega);omega),if_neg (by omega)]
  ·rw [if_neg hw]
   by_cases h8 : rKind l w = 8
   ·have h1:=kind_in (l:=l) (x:=w) (by omega)
    rw [refAt_snoc (by omega),if_neg hw]
    by_cases hh : rOpen l (refAt l w) = true ∧ refAt l w ≠ x0
    ·rw [if_pos ⟨h8,hh.1,hh.2⟩,if_pos ⟨h8,(ho _).2 hh⟩]
    ·rw [if_neg (fun a=>hh a.2),if_neg (fun a=>hh ((ho _).1 a.2))]
   ·rw [if_neg (fun hh=>h8 hh.1),if_neg (fun hh=>h8 hh.1)]
 ·by_cases hx2 : x = x0
  ·subst hx2
   have:=e4' v hx
   simp
   omega
  ·rw [e4 x hx2] at hx
   have:=hd x v hx
   simp
   omega
theorem refs_8 {l : List Ev} {e : Ev} (hk : e.k = 8) (hr : rRefs l e = true) : rKind l e.ref = 7 ∧ rWorks l e.ref = 0:=by
 unfold rRefs at hr
 rw [if_neg (by omega),if_neg (by omega),if_pos hk] at hr
 simpa using hr
theorem refs_9 {l : List Ev} {e : Ev} (hk : e.k = 9 ∨ e.k = 10 ∨ e.k = 11) (hr : rRefs l e = true) : rKind l e.ref = 8 ∧ rOpen l (refAt l e.ref) = true:=by
 unfold rRefs at hr
 rw [if_neg (by omega),if_neg (by omega),if_neg (by omega),if_pos hk] at hr
 simpa using hr
theorem refs_13 {l : List Ev} {e : Ev} (hk : e.k = 13 ∨ e.k = 14) (hr : rRefs l e = true) : rKind l e.ref = 12 ∧ rOpen l e.ref = true:=by
 unfold rRefs at hr
 rw [if_neg (by omega),if_neg (by omega),if_neg (by omega),if_neg (by omega),if_pos hk] at hr
 simpa using hr
theorem refs_18 {l : List Ev} {e : Ev} (hk : e.k = 18) (hr : rRefs l e = true) : rKind l e.ref = 17 ∧ rOpen l e.ref = true:=by
 unfold rRefs at hr
 rw [if_neg (by omega),if_neg (by omega),if_neg (by omega),if_neg (by omega),if_neg (by omega),if_pos hk] at hr
 simpa using hr
theorem Inv2.nxt {l : List Ev} {s : Hi} (h : Inv2 l s) (e : Ev) (hf : faultC s e = 0) : Nxt l e (turned (step1 s e) e):=by
 obtain ⟨H,hd⟩:=h
 obtain ⟨hc0,hrb,h26⟩:=fault_none hf
 have hr : rRefs l e = true:=by rw [← H.refs];exact hrb
 have hin:=ref_in hr (rLast_le l 2)
 have hN : (((step1 s e).n : Nat) : Int) = (l.length : Int) + 1:=by show ((s.n + 1 : Nat) : Int) = _;rw [H.n];omega
 have hl2:=rLast_le l 2
 have hl3:=rLast_le l 3
 by_cases h2 : e.k = 2
 ·have ht : turned (step1 s e) e = { step1 s e with task:=(step1 s e).n,begun:=false }:=by unfold turned;rw [if_pos h2]
  have e2 : rLast (l ++ [e]) 2 = l.length + 1:=by rw [rLast_snoc,if_pos h2]
  have e3 : rLast (l ++ [e]) 3 = rLast l 3:=by rw [rLast_snoc,if_neg (by omega)]
  rw [ht]
  refine nxt_plain H hd hin (by omega) rfl rfl rfl rfl (.inr (.inl ⟨by omega,?_,rfl,by omega⟩))
  show (((step1 s e).n : Nat) : Int) = _
  rw [hN,e2];omega
 by_cases h3 : e.k = 3
 ·have ht : turned (step1 s e) e = { step1 s e with task:=(step1 s e).n,begun:=true }:=by unfold turned;rw [if_neg h2,if_pos h3]
  have e2 : rLast (l ++ [e]) 2 = rLast l 2:=by rw [rLast_snoc,if_neg h2]
  have e3 : rLast (l ++ [e]) 3 = l.length + 1:=by rw [rLast_snoc,if_pos h3]
  have h20 : rLast l 2 ≠ 0:=fun h0=>by
   have hr':=hr
   unfold rRefs at hr'
   rw [if_pos h3] at hr'
   have : rTask l = (0,0):=by unfold rTask;rw [if_pos h0]
   rw [this] at hr'
   simp at hr'
  have hnm : rNamed (l ++ [e]) ((l.length : Int) + 1) [4,5,6] = false:=by
   rw [rNamed_snoc,named_past H.rf (by omega)]
   have : hitB ((l.length : Int) + 1) [4,5,6] e = false:=by
    rw [Bool.eq_false_iff];intro hh;simp [hitB] at hh;omega
   rw [this];rfl
  rw [ht]
  refine nxt_plain H hd hin (by omega) rfl rfl rfl rfl (.inr (.inr ⟨by omega,?_,rfl,by omega,?_⟩))
  ·show (((step1 s e).n : Nat) : Int) = _
   rw [hN,e3];omega
  ·rw [e3,show (((l.length + 1 : Nat)) : Int) = (l.length : Int) + 1 by omega];exact hnm
 by_cases h4 : e.k = 4 ∨ e.k = 5 ∨ e.k = 6
 ·have ht : turned (step1 s e) e = { step1 s e with task:=0,begun:=false }:=by unfold turned;rw [if_neg h2,if_neg h3,if_pos h4]
  have e2 : rLast (l ++ [e]) 2 = rLast l 2:=by rw [rLast_snoc,if_neg h2]
  have e3 : rLast (l ++ [e]) 3 = rLast l 3:=by rw [rLast_snoc,if_neg h3]
  have hr':=hr
  unfold rRefs at hr'
  rw [if_neg h3,if_pos h4] at hr'
  simp only [Bool.and_eq_true,beq_iff_eq] at hr'
  rw [ht]
  refine nxt_plain H hd hin (by omega) rfl rfl rfl rfl (.inl ⟨rfl,rfl,.inr ⟨?_,?_⟩⟩)
  ·rw [e2,e3]
   rcases H.tk with ⟨a,b,c⟩ | ⟨a,b,c,d⟩ | ⟨a,b,c,d,f⟩
   ·rcases H.task with ⟨_,_,x⟩ | ⟨x,_⟩ | ⟨x,_⟩
    ·rw [x] at hr';exact absurd hr'.1 (by decide)
    ·exact absurd a x
    ·exact absurd a x
   ·have : rTask l = (1,(rLast l 2 : Int)):=by unfold rTask;rw [if_neg a,if_pos d]
    rw [this] at hr';exact absurd hr'.1 (by show ¬ (1 : Int) = 2;decide)
   ·exact d
  ·rw [e3,rNamed_snoc]
   have hrf : e.ref = (rLast l 3 : Int):=by
    rcases H.tk with ⟨a,b,c⟩ | ⟨a,b,c,d⟩ | ⟨a,b,c,d,f⟩
    ·rcases H.task with ⟨_,_,x⟩ | ⟨x,_⟩ | ⟨x,_⟩
     ·rw [x] at hr';exact absurd hr'.1 (by decide)
     ·exact absurd a x
     ·exact absurd a x
    ·have : rTask l = (1,(rLast l 2 : Int)):=by unfold rTask;rw [if_neg a,if_pos d]
     rw [this] at hr';exact absurd hr'.1 (by show ¬ (1 : Int) = 2;decide)
    ·have : rTask l = (2,(rLast l 3 : Int)):=by unfold rTask;rw [if_neg a,if_neg (by omega),if_neg (by rw [f];decide)]
     rw [this] at hr';exact hr'.2
   have : hitB (rLast l 3 : Int) [4,5,6] e = true:=by
    simp only [hitB,Bool.and_eq_true,beq_iff_eq]
    refine ⟨hrf,?_⟩
    simp;omega
   rw [this,Bool.or_true]
 by_cases h7 : e.k = 7 ∨ e.k = 12 ∨ e.k = 17
 ·have ht : turned (step1 s e) e = { step1 s e with kinds:=put1 (step1 s e).kinds (step1 s e).n (some e.k),ids:=put1 (step1 s e).ids (step1 s e).n (some e.id) }:=by unfold turned;rw [if_neg h2,if_neg h3,if_neg h4,if_pos h7]
  rw [ht]
  exact nxt_open H hd hin h7 _ hN rfl rfl rfl rfl rfl rfl
 by_cases h8 : e.k = 8
 ·have ht : turned (step1 s e) e = { step1 s e with of_:=put1 (step1 s e).of_ (step1 s e).n (some e.ref),from_:=put1 (step1 s e).from_ e.ref (some ((step1 s e).n : Int)) }:=by unfold turned;rw [if_neg h2,if_neg h3,if_neg h4,if_neg h7,if_pos h8]
  rw [ht]
  obtain ⟨a,b⟩:=refs_8 h8 hr
  exact nxt_works H hd hin h8 a b _ hN rfl rfl rfl rfl rfl rfl
 by_cases h9 : e.k = 9 ∨ e.k = 10 ∨ e.k = 11
 ·obtain ⟨a,b⟩:=refs_9 h9 hr
  have hof : s.of_ e.ref = some (refAt l e.ref):=by rw [H.of,if_pos ⟨a,b⟩]
  have hx0 : (s.of_ e.ref).getD 0 = refAt l e.ref:=by rw [hof];rfl
  have ht : turned (step1 s e) e = dropped { step1 s e with of_:=put1 s.of_ e.ref none,from_:=put1 s.from_ (refAt l e.ref) none } (refAt l e.ref):=by
   unfold turned
   rw [if_neg h2,if_neg h3,if_neg h4,if_neg h7,if_neg h8,if_pos h9]
   show dropped { step1 s e with of_:=put1 s.of_ e.ref none,from_:=put1 s.from_ ((s.of_ e.ref).getD 0) none } ((s.of_ e.ref).getD 0) = _
   rw [hx0]
  rw [ht]
  have hwk:=H.wk e.ref a
  have hin2:=kind_in (l:=l) (x:=e.ref) (by omega)
  refine nxt_end H hd hin (by omega) (refAt l e.ref) (open_in b) (fun x hx=>?_) rfl rfl (fun w=>?_) (fun x hx=>put1_other _ _ hx) (fun v hv=>?_) rfl rfl
  ·constructor
   ·intro hdd
    unfold dead at hdd
    have h13 : ([13,14].any (fun k=>e.k == k)) = false:=by simp;omega
    have h18 : ([18].any (fun k=>e.k == k)) = false:=by simp;omega
    rw [h13,h18] at hdd
    simp only [Bool.false_and,Bool.and_false,Bool.or_false,Bool.and_eq_true,beq_iff_eq,bne_iff_ne,ne_eq] at hdd
    obtain ⟨_,_,h4',h5'⟩:=hdd
    obtain ⟨y,hy,_,hy2,hy3,_⟩:=rWorks_spec l x h5'
    rw [h4',refAt_ev hy3,hy]
    exact hy2.symm
   ·intro hx2
    rw [hx2]
    unfold dead
    rw [hwk.1,hwk.2]
    have : ([9,10,11].any (fun k=>e.k == k)) = true:=by simp;omega
    rw [this]
    have hne : e.ref ≠ 0:=by omega
    simp [hne]
  ·show put1 s.of_ e.ref none w = _
   by_cases hw : w = e.ref
   ·rw [hw,put1_same,if_neg (fun hh=>hh.2.2 rfl)]
   ·rw [put1_other _ _ hw,H.of]
    by_cases hh : rKind l w = 8 ∧ rOpen l (refAt l w) = true
    ·have hne : refAt l w ≠ refAt l e.ref:=fun hx=>by
      have h1:=(H.wk w hh.1).2
      rw [hx,hwk.2] at h1
      exact hw h1.symm
     rw [if_pos hh,if_pos ⟨hh.1,hh.2,hne⟩]
    ·rw [if_neg hh,if_neg (fun a=>hh ⟨a.1,a.2.1⟩)]
  ·have : put1 s.from_ (refAt l e.ref) none (refAt l e.ref) = some v:=hv
   rw [put1_same] at this
   cases this
 have hend : ∀ K : Int,rKind l e.ref = K → (K = 12 ∧ (e.k = 13 ∨ e.k = 14) ∨ K = 17 ∧ e.k = 18) → rOpen l e.ref = true → Nxt l e (dropped (step1 s e) e.ref):=fun K hK hc ho=>by
  refine nxt_end H hd hin (by omega) e.ref (open_in ho) (fun x hx=>?_) rfl rfl (fun w=>?_) (fun x hx=>rfl) (fun v hv=>hin.2) rfl rfl
  ·have h9' : ([9,10,11].any (fun k=>e.k == k)) = false:=by simp;omega
   unfold dead
   rw [h9']
   constructor
   ·intro hdd
    simp only [Bool.false_and,Bool.and_false,Bool.false_or,Bool.or_eq_true,Bool.and_eq_true,beq_iff_eq] at hdd
    rcases hdd with hdd | hdd
    ·exact hdd.2.2.symm
    ·exact hdd.2.2.symm
   ·intro hx2
    rw [hx2,hK]
    rcases hc with ⟨rfl,hc⟩ | ⟨rfl,hc⟩
    ·rcases hc with hc | hc <;> simp [hc]
    ·simp [hc]
  ·show s.of_ w = _
   rw [H.of]
   by_cases hh : rKind l w = 8 ∧ rOpen l (refAt l w) = true
   ·have hne : refAt l w ≠ e.ref:=fun hx=>by
     have h1:=(H.wk w hh.1).1
     rw [hx,hK] at h1
     omega
    rw [if_pos hh,if_pos ⟨hh.1,hh.2,hne⟩]
   ·rw [if_neg hh,if_neg (fun a=>hh ⟨a.1,a.2.1⟩)]
 by_cases h13 : e.k = 13 ∨ e.k = 14 ∨ e.k = 18
 ·have ht : turned (step1 s e) e = dropped (step1 s e) e.ref:=by unfold turned;rw [if_neg h2,if_neg h3,if_neg h4,if_neg h7,if_neg h8,if_neg h9,if_pos h13]
  rw [ht]
  by_cases h18 : e.k = 18
  ·obtain ⟨a,b⟩:=refs_18 h18 hr
   exact hend 17 a (.inr ⟨rfl,h18⟩) b
  ·obtain ⟨a,b⟩:=refs_13 (by omega) hr
   exact hend 12 a (.inl ⟨rfl,by omega⟩) b
 have ht : turned (step1 s e) e = step1 s e:=by unfold turned;rw [if_neg h2,if_neg h3,if_neg h4,if_neg h7,if_neg h8,if_neg h9,if_neg h13]
 rw [ht]
 exact nxt_plain H hd hin (by omega) rfl rfl rfl rfl (tk_same H h2 h3 h4 rfl rfl)
theorem Inv2.step {l : List Ev} {s : Hi} (h : Inv2 l s) (e : Ev) (hf : faultC s e = 0) : Inv2 (l ++ [e]) (addO s e):=by
 have nx:=h.nxt e hf
 obtain ⟨H,hd⟩:=h
 obtain ⟨hc0,hrb,h26⟩:=fault_none hf
 have hr : rRefs l e = true:=by rw [← H.refs];exact hrb
 have hin:=ref_in hr (rLast_le l 2)
 rw [addO_0 hf]
 obtain ⟨f1,f2,f3,f4,f5,f6,f7,f8⟩:=closes_flds (turned (step1 s e) e) e
 obtain ⟨k1,k2,k3⟩:=turned_keep (step1 s e) e
 refine ⟨⟨?_,?_,?_,?_,?_,?_,?_,?_,?_,?_⟩,?_⟩
 ·rw [f1,k1];show s.n + 1 = _;rw [H.n];simp
 ·rw [f2,k2,lastAt_snoc];rfl
 ·have hany : (l.any fun x=>closeB x.k) = false:=by
   rw [Bool.eq_false_iff];exact fun hh=>(H.cl.2 hh) hc0
  rw [List.any_append,hany]
  by_cases hc : closeB e.k = true
  ·rw [closes_yes hc]
   have : e.k ≠ 0:=by simp only [closeB,Bool.and_eq_true,decide_eq_true_eq] at hc;omega
   simp [hc,this]
  ·have hc' : closeB e.k = false:=by rw [Bool.eq_false_iff];exact hc
   rw [closes_no hc',k3]
   show s.closed ≠ 0 ↔ _
   simp [hc0,hc']
 ·intro y hy
  rcases List.mem_append.1 hy with hy | hy
  ·have:=H.rf y hy;simp;omega
  ·simp at hy;subst hy;simp;omega
 ·rw [f3,f4];exact nx.tk
 ·rw [f5];exact nx.kd
 ·rw [f6];exact nx.id
 ·rw [f8];exact nx.fr
 ·rw [f7];exact nx.of
 ·intro w hw
  by_cases hwN : w = (l.length : Int) + 1
  ·rw [rKind_snoc,if_pos hwN] at hw
   obtain ⟨a,b⟩:=refs_8 hw hr
   have hrw : refAt (l ++ [e]) w = e.ref:=by rw [refAt_snoc (by omega),if_pos hwN]
   rw [hrw,rKind_snoc,if_neg (by omega)]
   refine ⟨a,?_⟩
   rw [rWorks_snoc,if_neg (by rw [b];simp),if_pos (by simp [wkB,hw]),hwN]
  ·rw [rKind_snoc,if_neg hwN] at hw
   have h1:=kind_in (l:=l) (x:=w) (by omega)
   have h2:=refAt_in H.rf h1.1 h1.2
   have h3:=H.wk w hw
   have hrw : refAt (l ++ [e]) w = refAt l w:=by rw [refAt_snoc (by omega),if_neg hwN]
   rw [hrw,rKind_snoc,if_neg (by omega)]
   refine ⟨h3.1,?_⟩
   rw [rWorks_snoc,if_pos (by rw [h3.2];omega),h3.2]
 ·rw [f8];exact nx.fd
theorem good_inv : ∀ (n : Nat) (l : List Ev),l.length = n → Good l l.length → Inv2 l (feed hi0 l)
 | 0,l,hn,hg=>by
   have : l = []:=List.eq_nil_of_length_eq_zero hn
   subst this
   exact ⟨inv0,fun x v h=>by cases h⟩
 | n + 1,l,hn,hg=>by
   rcases List.eq_nil_or_concat l with rfl | ⟨l',e,hle⟩
   ·cases hn
   ·rw [List.concat_eq_append] at hle
    subst hle
    have hf:=hg l'.length e (by simp) (by simp)
    rw [List.take_left' rfl] at hf
    have hg' : Good l' l'.length:=fun j x hj hx=>by
     have:=hg j x (by simp;omega) (by rw [List.getElem?_append_left hj];exact hx)
     rw [List.take_append_of_le_length (by omega)] at this
     exact this
    rw [feed_snoc]
    exact (good_inv n l' (by simpa using hn) hg').step e hf
theorem Good.take {l : List Ev} {i : Nat} (h : Good l i) (hi : i ≤ l.length) : Good (l.take i) (l.take i).length:=fun j e hj he=>by
 have hji : j < i:=by rw [List.length_take] at hj;omega
 rw [List.getElem?_take_of_lt hji] at he
 rw [List.take_take,show min j i = j by omega]
 exact h j e hji he
end Go.Proofs.YtnkelaohcbdjnaaGreat.Ev
set_option linter.unusedVariables false
set_option linter.unusedSimpArgs false
namespace Go.Proofs.YtnkelaohcbdjnaaGreat.Ev
open Go.RowKit Go.Maps
set_option maxRecDepth 100000 in
set_option maxHeartbeats 1000000 in
theorem rkind_any (W : World) (ao : Option Addr) (cp : Nat) (l : List Ev) (hl : RowV W ao l) (hn : l.length ≤ 100000) (at_ : Int) : Calls Tryz.prog 107 #[.slice ao l.length cp,.int .i64 at_] W fun r W'=>r = .returned (.int .i64 (rKind l at_)) ∧ Fr (fun _=>False) W W':=by
 obtain ⟨n,hnl⟩ : ∃ n,l.length = n:=⟨_,rfl⟩
 by_cases h1 : at_ < 1
 ·rw [rKind_out (.inl h1),hnl]
  have p1 : decide (at_ < 1) = true:=decide_eq_true h1
  clear hl hn hnl
  go_enter Tryz.func107,Tryz.ntmps107
  go_wp2
  go_ret
  exact ⟨rfl,Fr.refl _ _⟩
 have p1 : decide (at_ < 1) = false:=decide_eq_false h1
 by_cases h2 : (l.length : Int) < at_
 ·rw [rKind_out (.inr h2),hnl]
  rw [hnl] at h2
  have p2 : decide ((n : Int) < at_) = true:=decide_eq_true h2
  clear hl hn hnl
  go_enter Tryz.func107,Tryz.ntmps107
  go_wp2
  go_ret
  exact ⟨rfl,Fr.refl _ _⟩
 obtain ⟨i,rfl⟩ : ∃ i : Nat,at_ = (i : Int) + 1:=⟨(at_ - 1).toNat,by omega⟩
 obtain ⟨e,he⟩ : ∃ e,l[i]? = some e:=⟨_,List.getElem?_eq_getElem (by omega)⟩
 rw [rKind_at he]
 rw [hnl] at h2 hn ⊢
 have p2 : decide ((n : Int) < (i : Int) + 1) = false:=decide_eq_false h2
 obtain ⟨b,o,rfl,hc⟩:=hl.at_ he
 have c0 : W.cell? ⟨b,o + i * 7,none⟩ = some (.int .i64 e.k):=hc W (Fr.refl _ _) 0 _ rfl
 have hin : i < n:=by omega
 clear hl hc he hnl h1 h2
 go_enter Tryz.func107,Tryz.ntmps107
 go_wp2
 go_ret
 exact ⟨rfl,Fr.refl _ _⟩
set_option maxRecDepth 100000 in
set_option maxHeartbeats 2000000 in
theorem rworks_any (W : World) (ao : Option Addr) (cp : Nat) (l : List Ev) (hl : RowV W ao l) (hn : l.length ≤ 100000) (at_ : Int) : Calls Tryz.prog 108 #[.slice ao l.length cp,.int .i64 at_] W fun r W'=>r = .returned (.int .i64 (rWorks l at_)) ∧ Fr (fun _=>False) W W':=by
 obtain ⟨n,hnl⟩ : ∃ n,l.length = n:=⟨_,rfl⟩
 obtain ⟨r,hr⟩ : ∃ r,rWorks l at_ = r:=⟨_,rfl⟩
 rw [hr]
 rw [hnl] at hn ⊢
 have HNL:=Lib.hid hnl
 have HR:=Lib.hid hr
 have HROW:=Lib.hid hl
 have HN:=Lib.hid hn
 clear hnl hr hl hn
 go_enter Tryz.func108,Tryz.ntmps108
 go_wp2_with fail
 go_loopw [5] (fun iv wr=>∃ i : Nat,i ≤ n ∧ iv = .int .i64 i ∧ (∀ (j : Nat) (e : Ev),j < i → l[j]? = some e → wkB at_ e = false) ∧ Fr (fun _=>False) W wr) (fun iv _=>n - (intOf iv).toNat)
 case atStart=>exact ⟨0,Nat.zero_le _,rfl,fun j e hj=>by omega,Fr.refl _ _⟩
 case round=>
  obtain ⟨i,hi,rfl,hb,hf⟩:=hrel
  have HBF:=Lib.hid hb
  have HF:=Lib.hid hf
  clear hb hf
  have hnn:=HN.out
  by_cases hlt : i < n
  ·have p0 : decide ((i : Int) < n) = true:=decide_eq_true (by omega)
   obtain ⟨e,he⟩ : ∃ e,l[i]? = some e:=⟨_,List.getElem?_eq_getElem (by rw [HNL.out];exact hlt)⟩
   have HE:=Lib.hid he
   obtain ⟨b,o,rfl,hc⟩:=HROW.out.at_ he
   have c0 : wr.cell? ⟨b,o + i * 7,none⟩ = some (.int .i64 e.k):=hc wr HF.out 0 _ rfl
   have c2 : wr.cell? ⟨b,o + i * 7 + 2,none⟩ = some (.int .i64 e.ref):=hc wr HF.out 2 _ rfl
   clear hc he
   have NEXT : Hid (wkB at_ e = false → ∀ (j : Nat) (e' : Ev),j < i + 1 → l[j]? = some e' → wkB at_ e' = false):=Lib.hid (fun hw j e' hj he'=>by
    by_cases hji : j = i
    ·subst hji
     rw [HE.out] at he'
     cases he'
     exact hw
    ·exact HBF.out j e' (by omega) he')
   by_cases h1 : e.k = 8
   ·have p1 : (e.k == 8) = true:=by simp [h1]
    have HH:=Lib.hid h1
    clear h1
    by_cases h2 : e.ref = at_
    ·have p2 : (e.ref == at_) = true:=by simp [h2]
     have HH2:=Lib.hid h2
     clear h2
     go_wp2
     go_ret
     have:=rWorks_at HE.out (by simp [wkB,HH.out,HH2.out]) HBF.out
     exact ⟨by rw [← HR.out,this];rfl,HF.out⟩
    ·have p2 : (e.ref == at_) = false:=by simp [h2]
     have HW:=Lib.hid (NEXT.out (by simp [wkB,h2]))
     clear h2
     go_wp2
     go_roundw
     case rel=>exact ⟨i + 1,by omega,by go_num,HW.out,HF.out⟩
     case measure=>simp [intOf];omega
   ·have p1 : (e.k == 8) = false:=by simp [h1]
    have HW:=Lib.hid (NEXT.out (by simp [wkB,h1]))
    clear h1
    go_wp2
    go_roundw
    case rel=>exact ⟨i + 1,by omega,by go_num,HW.out,HF.out⟩
    case measure=>simp [intOf];omega
  ·obtain rfl : i = n:=by omega
   have p0 : decide ((i : Int) < i) = false:=decide_eq_false (by omega)
   have HZ:=Lib.hid (rWorks_no (l:=l) (at_:=at_) (fun j e hj=>HBF.out j e (by have:=(List.getElem?_eq_some_iff.1 hj).1;have:=HNL.out;omega) hj))
   go_wp2
   go_ret
   exact ⟨by rw [← HR.out,HZ.out];rfl,HF.out⟩
/-- kinds,as a slice shows them -/
def KRow (W : World) (kb : Nat) (ks : List Int) : Prop:=kb < W.heap.size ∧ ∀ j k,ks[j]? = some k → W.cell? ⟨kb,j,none⟩ = some (.int .i64 k)
theorem KRow.fr {W W' : World} {kb : Nat} {ks : List Int} (h : KRow W kb ks) (hf : Fr (fun _=>False) W W') : KRow W' kb ks:=
 ⟨Nat.lt_of_lt_of_le h.1 hf.size,fun j k hk=>(World.cell?_of_block (hf.block kb h.1 id)).trans (h.2 j k hk)⟩
theorem KRow.new (W : World) (ks : List Int) (cs : Array Value) (hcs : cs = (ks.map (Value.int .i64)).toArray) : KRow (W.alloc (.cells cs 3)) W.heap.size ks:=by
 subst hcs
 refine ⟨by simp,fun j k hk=>?_⟩
 rw [(Blk.new W 3 _).cell]
 simp [hk]
set_option maxRecDepth 100000 in
set_option maxHeartbeats 4000000 in
theorem rnamed_any (W : World) (ao : Option Addr) (cp : Nat) (l : List Ev) (hl : RowV W ao l) (hn : l.length ≤ 100000) (at_ : Int) (kb m : Nat) (ks : List Int) (hk : KRow W kb ks) (hm : ks.length = m) (hm1 : m ≤ 10) : Calls Tryz.prog 109 #[.slice ao l.length cp,.int .i64 at_,.slice (some ⟨kb,0,none⟩) m m] W fun r W'=>r = .returned (.bool (rNamed l at_ ks)) ∧ Fr (fun _=>False) W W':=by
 obtain ⟨n,hnl⟩ : ∃ n,l.length = n:=⟨_,rfl⟩
 obtain ⟨r,hr⟩ : ∃ r,rNamed l at_ ks = r:=⟨_,rfl⟩
 rw [hr]
 rw [hnl] at hn ⊢
 have HNL:=Lib.hid hnl
 have HR:=Lib.hid hr
 have HROW:=Lib.hid hl
 have HK:=Lib.hid hk
 have HM:=Lib.hid hm
 have HN:=Lib.hid (And.intro hn hm1)
 clear hnl hr hl hn hk hm hm1
 go_enter Tryz.func109,Tryz.ntmps109
 go_wp2_with fail
 go_loopw [7,8] (fun iv kv wr=>∃ i : Nat,i ≤ n ∧ iv = .int .i64 i ∧ (∀ (j : Nat) (e : Ev),j < i → l[j]? = some e → hitB at_ ks e = false) ∧ Fr (fun _=>False) W wr) (fun iv _ _=>n - (intOf iv).toNat)
 case atStart=>exact ⟨0,Nat.zero_le _,rfl,fun j e hj=>by omega,Fr.refl _ _⟩
 case round=>
  obtain ⟨i,hi,rfl,hb,hf⟩:=hrel
  have HBF:=Lib.hid hb
  have HF:=Lib.hid hf
  clear hb hf
  have hnn:=HN.out
  by_cases hlt : i < n
  ·have p0 : decide ((i : Int) < n) = true:=decide_eq_true (by omega)
   obtain ⟨e,he⟩ : ∃ e,l[i]? = some e:=⟨_,List.getElem?_eq_getElem (by rw [HNL.out];exact hlt)⟩
   have HE:=Lib.hid he
   obtain ⟨b,o,rfl,hc⟩:=HROW.out.at_ he
   have HCC:=Lib.hid hc
   clear hc he
   have HI:=Lib.hid (And.intro hi hlt)
   go_wp2_with fail
   go_loopw [8] (fun kv wz=>∃ j : Nat,j ≤ m ∧ kv = .int .i64 j ∧ (∀ (x : Nat) (k : Int),x < j → ks[x]? = some k → (e.ref == at_ && e.k == k) = false) ∧ Fr (fun _=>False) W wz) (fun kv _=>m - (intOf kv).toNat)
   case atStart=>exact ⟨0,Nat.zero_le _,rfl,fun x k hx=>by omega,HF.out⟩
   case round=>
    obtain ⟨j,hj,rfl,hbk,hfz⟩:=hrel
    have HBK:=Lib.hid hbk
    have HFZ:=Lib.hid hfz
    clear hbk hfz
    by_cases hjl : j < m
    ·have p1 : decide ((j : Int) < m) = true:=decide_eq_true (by omega)
     obtain ⟨k,hkk⟩ : ∃ k,ks[j]? = some k:=⟨_,List.getElem?_eq_getElem (by rw [HM.out];exact hjl)⟩
     have HKK:=Lib.hid hkk
     have ck : wr.cell? ⟨kb,j,none⟩ = some (.int .i64 k):=(HK.out.fr HFZ.out).2 j k hkk
     have c0 : wr.cell? ⟨b,o + i * 7,none⟩ = some (.int .i64 e.k):=HCC.out wr HFZ.out 0 _ rfl
     have c2 : wr.cell? ⟨b,o + i * 7 + 2,none⟩ = some (.int .i64 e.ref):=HCC.out wr HFZ.out 2 _ rfl
     clear hkk
     have NEXT : Hid ((e.ref == at_ && e.k == k) = false → ∀ (x : Nat) (k' : Int),x < j + 1 → ks[x]? = some k' → (e.ref == at_ && e.k == k') = false):=Lib.hid (fun hw x k' hx hk'=>by
      by_cases hxj : x = j
      ·subst hxj
       rw [HKK.out] at hk'
       cases hk'
       exact hw
      ·exact HBK.out x k' (by omega) hk')
     by_cases h1 : e.ref = at_
     ·have p2 : (e.ref == at_) = true:=by simp [h1]
      have HH1:=Lib.hid h1
      clear h1
      by_cases h2 : e.k = k
      ·have p3 : (e.k == k) = true:=by simp [h2]
       have HH2:=Lib.hid h2
       clear h2
       go_upto_region 7 with (fail)
       go_quiet (fail)
       go_wp2
       go_ret
       have hy:=rNamed_yes (at_:=at_) (ks:=ks) (List.mem_of_getElem? HE.out) (by
        simp only [hitB,Bool.and_eq_true,beq_iff_eq,List.any_eq_true]
        exact ⟨HH1.out,k,List.mem_of_getElem? HKK.out,HH2.out⟩)
       exact ⟨by rw [← HR.out,hy];rfl,HFZ.out.trans (Fr.drewN _ _ _)⟩
      ·have p3 : (e.k == k) = false:=by simp [h2]
       have HW:=Lib.hid (NEXT.out (by simp [h2]))
       clear h2
       go_upto_region 7 with (fail)
       go_quiet (fail)
       go_wp2
       go_roundw
       case rel=>exact ⟨j + 1,by omega,by go_num,HW.out,HFZ.out.trans (Fr.drewN _ _ _)⟩
       case measure=>simp [intOf];omega
     ·have p2 : (e.ref == at_) = false:=by simp [h1]
      have HW:=Lib.hid (NEXT.out (by simp [h1]))
      clear h1
      go_upto_region 7 with (fail)
      go_quiet (fail)
      go_wp2
      go_roundw
      case rel=>exact ⟨j + 1,by omega,by go_num,HW.out,HFZ.out.trans (Fr.drewN _ _ _)⟩
      case measure=>simp [intOf];omega
    ·obtain rfl : j = m:=by omega
     have p1 : decide ((j : Int) < j) = false:=decide_eq_false (by omega)
     have HW : Hid (hitB at_ ks e = false):=Lib.hid (by
      rw [Bool.eq_false_iff]
      intro hh
      simp only [hitB,Bool.and_eq_true,beq_iff_eq,List.any_eq_true] at hh
      obtain ⟨h1,k,hk,h2⟩:=hh
      obtain ⟨x,hx⟩:=List.getElem?_of_mem hk
      have:=HBK.out x k (by have:=(List.getElem?_eq_some_iff.1 hx).1;have:=HM.out;omega) hx
      simp [h1,h2] at this)
     go_wp2
     go_roundw
     case rel=>
      refine ⟨i + 1,by omega,by go_num,fun x e' hx hx'=>?_,HFZ.out⟩
      by_cases hxi : x = i
      ·subst hxi
       rw [HE.out] at hx'
       cases hx'
       exact HW.out
      ·exact HBF.out x e' (by omega) hx'
     case measure=>simp [intOf];omega
  ·obtain rfl : i = n:=by omega
   have p0 : decide ((i : Int) < i) = false:=decide_eq_false (by omega)
   have HZ:=Lib.hid (rNamed_no (l:=l) (at_:=at_) (ks:=ks) (fun j e hj=>HBF.out j e (by have:=(List.getElem?_eq_some_iff.1 hj).1;have:=HNL.out;omega) hj))
   go_wp2
   go_ret
   exact ⟨by rw [← HR.out,HZ.out];rfl,HF.out⟩
set_option maxRecDepth 100000 in
set_option maxHeartbeats 4000000 in
theorem ropen_any (W : World) (ao : Option Addr) (cp n : Nat) (l : List Ev) (hl : RowV W ao l) (hnl : l.length = n) (hn : n ≤ 100000) (at_ : Int) : Calls Tryz.prog 101 #[.slice ao n cp,.int .i64 at_] W fun r W'=>r = .returned (.bool (rOpen l at_)) ∧ Fr (fun _=>False) W W':=by
 subst hnl
 have HKD:=Lib.hid (rkind_any W ao cp l hl hn at_)
 have HWK:=Lib.hid (fun w (hf : Fr (fun _=>False) W w)=>rworks_any w ao cp l (hl.fr hf (fun k e=>e.elim)) hn at_)
 have HNM:=Lib.hid (fun w (hf : Fr (fun _=>False) W w) a kb m ks hk hm h10=>rnamed_any w ao cp l (hl.fr hf (fun k e=>e.elim)) hn a kb m ks hk hm h10)
 obtain ⟨n,hnl⟩ : ∃ n,l.length = n:=⟨_,rfl⟩
 rw [hnl] at HKD
 simp only [hnl] at HWK HNM
 rw [hnl]
 obtain ⟨r,hr⟩ : ∃ r,rOpen l at_ = r:=⟨_,rfl⟩
 rw [hr]
 have HR:=Lib.hid hr
 obtain ⟨k,hk⟩ : ∃ k,rKind l at_ = k:=⟨_,rfl⟩
 have HK:=Lib.hid hk
 rw [hk] at HKD
 obtain ⟨w0,hw0⟩ : ∃ w,rWorks l at_ = w:=⟨_,rfl⟩
 have HW0:=Lib.hid hw0
 rw [hw0] at HWK
 clear hl hn hnl hr hk hw0
 go_enter Tryz.func101,Tryz.ntmps101
 go_upto_region 2 with (first | (go_at_call 107;refine HKD.out.mono ?_;rintro r1 w1 ⟨rfl,hf1⟩) | go_in)
 have HF1:=Lib.hid hf1
 clear hf1 HKD
 by_cases h7 : k = 7
 ·have p7 : (k == 7) = true:=by simp [h7]
  have HH:=Lib.hid h7
  clear h7
  go_upto_region 4 with (first | (go_at_call 108;refine (HWK.out _ HF1.out).mono ?_;rintro r2 w2 ⟨rfl,hf2⟩) | go_in)
  have HF2:=Lib.hid (HF1.out.trans hf2)
  clear hf2
  by_cases hz0 : w0 = 0
  ·have q0 : (w0 == 0) = true:=by simp [hz0]
   have HZ0:=Lib.hid hz0
   clear hz0
   go_wp2
   go_ret
   exact ⟨by rw [← HR.out];simp [rOpen,HK.out,HH.out,HW0.out,HZ0.out],HF2.out⟩
  ·have q0 : (w0 == 0) = false:=by simp [hz0]
   have HZ0:=Lib.hid hz0
   clear hz0
   go_wp2_with (first | (go_at_call 109;refine (HNM.out _ (HF2.out.trans (Fr.alloc _ _ _)) w0 _ 3 [9,10,11] (KRow.new _ [9,10,11] #[.int .i64 9,.int .i64 10,.int .i64 11] rfl) rfl (by omega)).mono ?_;rintro r3 w3 ⟨rfl,hf3⟩;have HF3:=Lib.hid ((HF2.out.trans (Fr.alloc _ _ _)).trans hf3);clear hf3;generalize hz : rNamed l w0 [9,10,11] = z;have HZ:=Lib.hid hz;clear hz) | go_in)
   go_ret
   exact ⟨by rw [← HR.out];simp [rOpen,HK.out,HH.out,HW0.out,HZ0.out,HZ.out],HF3.out⟩
 have p7 : (k == 7) = false:=by simp [h7]
 by_cases h12 : k = 12
 ·have p12 : (k == 12) = true:=by simp [h12]
  have HH:=Lib.hid h12
  clear h12
  go_wp2_with (first | (go_at_call 109;refine (HNM.out _ (HF1.out.trans (Fr.alloc _ _ _)) at_ _ 2 [13,14] (KRow.new _ [13,14] #[.int .i64 13,.int .i64 14] rfl) rfl (by omega)).mono ?_;rintro r3 w3 ⟨rfl,hf3⟩;have HF3:=Lib.hid ((HF1.out.trans (Fr.alloc _ _ _)).trans hf3);clear hf3;generalize hz : rNamed l at_ [13,14] = z;have HZ:=Lib.hid hz;clear hz) | go_in)
  go_ret
  exact ⟨by rw [← HR.out];simp [rOpen,HK.out,HH.out,HZ.out],HF3.out⟩
 have p12 : (k == 12) = false:=by simp [h12]
 by_cases h17 : k = 17
 ·have p17 : (k == 17) = true:=by simp [h17]
  have HH:=Lib.hid h17
  clear h17
  go_wp2_with (first | (go_at_call 109;refine (HNM.out _ (HF1.out.trans (Fr.alloc _ _ _)) at_ _ 1 [18] (KRow.new _ [18] #[.int .i64 18] rfl) rfl (by omega)).mono ?_;rintro r3 w3 ⟨rfl,hf3⟩;have HF3:=Lib.hid ((HF1.out.trans (Fr.alloc _ _ _)).trans hf3);clear hf3;generalize hz : rNamed l at_ [18] = z;have HZ:=Lib.hid hz;clear hz) | go_in)
  go_ret
  exact ⟨by rw [← HR.out];simp [rOpen,HK.out,HH.out,HZ.out],HF3.out⟩
 have p17 : (k == 17) = false:=by simp [h17]
 go_wp2
 go_ret
 exact ⟨by rw [← HR.out];simp [rOpen,HK.out,h7,h12,h17],HF1.out⟩
end Go.Proofs.YtnkelaohcbdjnaaGreat.Ev
set_option linter.unusedVariables false
set_option linter.unusedSimpArgs false
namespace Go.Proofs.YtnkelaohcbdjnaaGreat.Ev
open Go.RowKit Go.Maps
/-- the status of a history -/
def statK (k : Int) : Int:=if k = 19 then 6 else if k = 20 then 2 else if k = 21 then 3 else if k = 22 then 4 else if k = 23 then 5 else 1
def statL (l : List Ev) : Int:=match l.getLast? with | none=>0 | some e=>statK e.k
set_option maxRecDepth 100000 in
set_option maxHeartbeats 2000000 in
theorem rstat_any (W : World) (ao : Option Addr) (cp : Nat) (l : List Ev) (hl : RowV W ao l) (hn : l.length ≤ 100000) : Calls Tryz.prog 96 #[.slice ao l.length cp] W fun r W'=>r = .returned (.int .i64 (statL l)) ∧ Fr (fun _=>False) W W':=by
 rcases List.eq_nil_or_concat l with rfl | ⟨l',e,hle⟩
 ·rw [show ([] : List Ev).length = 0 from rfl]
  go_enter Tryz.func96,Tryz.ntmps96
  go_wp2
  go_ret
  exact ⟨rfl,Fr.refl _ _⟩
 ·rw [List.concat_eq_append] at hle
  subst hle
  have hs : statL (l' ++ [e]) = statK e.k:=by simp [statL]
  rw [hs]
  rcases hl with h0 | ⟨b,o,rfl,hb,hc⟩
  ·simp at h0
  have c0 : W.cell? ⟨b,o + l'.length * 7,none⟩ = some (.int .i64 e.k):=hc l'.length e (by simp) 0 _ rfl
  have hlen : (l' ++ [e]).length = l'.length + 1:=by simp
  rw [hlen] at hn ⊢
  obtain ⟨n,hnn⟩ : ∃ n,l'.length = n:=⟨_,rfl⟩
  rw [hnn] at hn c0 ⊢
  have p0 : (((n + 1 : Nat) : Int) == 0) = false:=by simp;omega
  have w1 : IntKind.i64.wrap (((n + 1 : Nat) : Int) - 1) = (n : Int):=by simp [IntKind.wrap,IntKind.bits,IntKind.signed];omega
  obtain ⟨k,hk⟩ : ∃ k,e.k = k:=⟨_,rfl⟩
  rw [hk] at c0 ⊢
  clear hk hc hs hlen hnn
  have hn2 : n + 1 ≤ 100000:=hn
  by_cases h19 : k = 19
  ·subst h19
   go_enter Tryz.func96,Tryz.ntmps96
   go_wp2
   go_ret
   exact ⟨rfl,Fr.refl _ _⟩
  have r19 : (k == 19) = false:=by simp [h19]
  by_cases h20 : k = 20
  ·subst h20
   go_enter Tryz.func96,Tryz.ntmps96
   go_wp2
   go_ret
   exact ⟨rfl,Fr.refl _ _⟩
  have r20 : (k == 20) = false:=by simp [h20]
  by_cases h21 : k = 21
  ·subst h21
   go_enter Tryz.func96,Tryz.ntmps96
   go_wp2
   go_ret
   exact ⟨rfl,Fr.refl _ _⟩
  have r21 : (k == 21) = false:=by simp [h21]
  by_cases h22 : k = 22
  ·subst h22
   go_enter Tryz.func96,Tryz.ntmps96
   go_wp2
   go_ret
   exact ⟨rfl,Fr.refl _ _⟩
  have r22 : (k == 22) = false:=by simp [h22]
  by_cases h23 : k = 23
  ·subst h23
   go_enter Tryz.func96,Tryz.ntmps96
   go_wp2
   go_ret
   exact ⟨rfl,Fr.refl _ _⟩
  have r23 : (k == 23) = false:=by simp [h23]
  go_enter Tryz.func96,Tryz.ntmps96
  go_wp2
  go_ret
  exact ⟨by simp [statK,h19,h20,h21,h22,h23],Fr.refl _ _⟩
end Go.Proofs.YtnkelaohcbdjnaaGreat.Ev
set_option linter.unusedVariables false
set_option linter.unusedSimpArgs false
namespace Go.Proofs.YtnkelaohcbdjnaaGreat.Ev
open Go.RowKit Go.Maps
def iv (xs : List Int) : List Value:=xs.map (Value.int .i64)
/-- a row of integers of the call's own -/
def OwnI (W : World) (B : Nat) (v : Value) (xs : List Int) : Prop:=W.ownsRow B 3 1 v xs.length (iv xs)
/-- integers that a slice shows -/
def RowI (W : World) (ao : Option Addr) (xs : List Int) : Prop:=
 xs = [] ∨ ∃ b o,ao = some ⟨b,o,none⟩ ∧ b < W.heap.size ∧ ∀ i x,xs[i]? = some x → W.cell? ⟨b,o + i,none⟩ = some (.int .i64 x)
theorem RowI.fr {S : Nat → Prop} {W W' : World} {ao : Option Addr} {xs : List Int} (h : RowI W ao xs) (hf : Fr S W W') (hS : ∀ a,ao = some a → ¬ S a.block) : RowI W' ao xs:=by
 rcases h with h | ⟨b,o,rfl,h2,h3⟩
 ·exact .inl h
 ·exact .inr ⟨b,o,rfl,Nat.lt_of_lt_of_le h2 hf.size,fun i x hx=>(World.cell?_of_block (hf.block b h2 (hS _ rfl))).trans (h3 i x hx)⟩
theorem RowI.take {W : World} {ao : Option Addr} {xs : List Int} (h : RowI W ao xs) (n : Nat) : RowI W ao (xs.take n):=by
 rcases h with h | ⟨b,o,rfl,h2,h3⟩
 ·exact .inl (by rw [h];simp)
 ·refine .inr ⟨b,o,rfl,h2,fun i x hx=>h3 i x ?_⟩
  rw [List.getElem?_take] at hx
  split at hx
  ·exact hx
  ·cases hx
theorem RowI.drop {W : World} {b o : Nat} {xs : List Int} (h : RowI W (some ⟨b,o,none⟩) xs) (n : Nat) : RowI W (some ⟨b,o + n,none⟩) (xs.drop n):=by
 rcases h with h | ⟨b',o',e,h2,h3⟩
 ·exact .inl (by rw [h];simp)
 ·cases e
  refine .inr ⟨b,o + n,rfl,h2,fun i x hx=>?_⟩
  rw [List.getElem?_drop] at hx
  rw [show o + n + i = o + (n + i) by omega]
  exact h3 _ x hx
theorem OwnI.form {W : World} {B : Nat} {v : Value} {xs : List Int} (h : OwnI W B v xs) : (v = .slice none 0 0 ∧ xs = []) ∨ ∃ g cap,v = .slice (some ⟨g,0,none⟩) xs.length cap ∧ B ≤ g ∧ g < W.heap.size ∧ xs.length ≤ cap ∧ cap ≤ maxLen ∧ ∀ i x,xs[i]? = some x → W.cell? ⟨g,i,none⟩ = some (.int .i64 x):=by
 obtain ⟨hl,⟨h1,h2⟩ | ⟨g,cap,cur,h1,hb,hgb,hn,hcap,hcs,hct⟩⟩:=h
 ·exact .inl ⟨h1,List.eq_nil_of_length_eq_zero h2⟩
 ·refine .inr ⟨g,cap,h1,hb,(Array.getElem?_eq_some_iff.1 hgb).1,hn,hcap,fun i x hx=>?_⟩
  have hi:=(List.getElem?_eq_some_iff.1 hx).1
  have : (cur.toList.take (xs.length * 1))[i]? = some (.int .i64 x):=by rw [hct];unfold iv;rw [List.getElem?_map,hx];rfl
  rw [Nat.mul_one,List.getElem?_take_of_lt hi,Array.getElem?_toList] at this
  simp only [World.cell?,hgb,Option.isSome_none,Bool.false_eq_true,if_false]
  exact this
theorem OwnI.row {W : World} {B : Nat} {v : Value} {xs : List Int} (h : OwnI W B v xs) : ∃ ao cap,v = .slice ao xs.length cap ∧ xs.length ≤ cap ∧ cap ≤ maxLen ∧ RowI W ao xs ∧ ∀ a,ao = some a → v.ownBlock = some a.block:=by
 rcases h.form with ⟨rfl,rfl⟩ | ⟨g,cap,rfl,_,hlt,hn,hm,hc⟩
 ·exact ⟨none,0,rfl,Nat.le_refl _,by decide,.inl rfl,fun a e=>by cases e⟩
 ·exact ⟨_,cap,rfl,hn,hm,.inr ⟨g,0,rfl,hlt,fun i x hx=>by rw [Nat.zero_add];exact hc i x hx⟩,fun a e=>by cases e;rfl⟩
theorem OwnI.fr {S : Nat → Prop} {W W' : World} {B : Nat} {v : Value} {xs : List Int} (h : OwnI W B v xs) (hf : Fr S W W') (hS : ∀ k,v.ownBlock = some k → ¬ S k) : OwnI W' B v xs:=by
 obtain ⟨hl,hown⟩:=h
 refine ⟨hl,?_⟩
 rcases hown with h1 | ⟨g',cp',cur,h1,hb,hgb,r⟩
 ·exact .inl h1
 ·exact .inr ⟨g',cp',cur,h1,hb,(hf.block g' (Array.getElem?_eq_some_iff.1 hgb).1 (hS g' (by rw [h1];rfl))).trans hgb,r⟩
theorem OwnI.ob {W : World} {B : Nat} {v : Value} {xs : List Int} (h : OwnI W B v xs) {k : Nat} (hk : v.ownBlock = some k) : B ≤ k ∧ k < W.heap.size ∧ ∃ cs,W.heap[k]? = some (.cells cs 3 (0,0)):=by
 obtain ⟨hl,hown⟩:=h
 rcases hown with ⟨h1,_⟩ | ⟨g',cp',cur,h1,hb,hgb,r⟩
 ·rw [h1] at hk;cases hk
 ·rw [h1] at hk
  cases hk
  exact ⟨hb,(Array.getElem?_eq_some_iff.1 hgb).1,cur,hgb⟩
theorem OwnI.none (W : World) (B : Nat) : OwnI W B (.slice none 0 0) []:=⟨rfl,.inl ⟨rfl,rfl⟩⟩
theorem OwnI.empty (W : World) (B : Nat) (hB : B ≤ W.heap.size) : OwnI (W.alloc (.cells #[] 3)) B (.slice (some ⟨W.heap.size,0,Option.none⟩) 0 0) []:=
 ⟨rfl,.inr ⟨_,0,#[],rfl,hB,World.alloc_heap_new _ _,Nat.le_refl _,by decide,rfl,rfl⟩⟩
theorem infoI : (Tryz.prog.info? 3).map (fun i=>(i.zero.map Value.cells,i.size,i.bytes)) = some (some #[.int .i64 0],1,8):=by kernel_rfl
theorem infoI' : ∃ (i : TypeInfo) (z : Value),Tryz.prog.info? 3 = some i ∧ i.zero = some z ∧ i.size = 1 ∧ i.bytes = 8 ∧ z.cells.size = 1:=by
 have h:=infoI
 cases hi : Tryz.prog.info? 3 with
 | none=>rw [hi] at h;cases h
 | some i=>
   rw [hi] at h
   simp only [Option.map_some,Option.some.injEq,Prod.mk.injEq] at h
   obtain ⟨h1,h2,h3⟩:=h
   cases hz : i.zero with
   | none=>rw [hz] at h1;cases h1
   | some z=>
     rw [hz] at h1
     simp only [Option.map_some,Option.some.injEq] at h1
     exact ⟨i,z,rfl,hz,h2,h3,by rw [h1];rfl⟩
/-- integers behind a row of one's own -/
theorem app_i (W : World) (B : Nat) (v : Value) (xs ys : List Int) (ty : TypeId) (hB : B ≤ W.heap.size) (hown : OwnI W B v xs) (ao : Option Addr) (cp m : Nat) (hr : RowI W ao ys) (hm : ys.length = m) (hn : xs.length + m ≤ 100000) :
 ∃ (v' : Value) (W' : World),(Builtin.append_ #[116,116] ty #[v,.slice ao m cp]).run Tryz.prog W = .ok v' W' ∧ OwnI W' B v' (xs ++ ys) ∧ Fr (fun k=>v.ownBlock = some k) W W' ∧ (v'.ownBlock = v.ownBlock ∨ v'.ownBlock = some W.heap.size):=by
 subst hm
 obtain ⟨i,z,hi,hz,hs,hby,hzs⟩:=infoI'
 cases ys with
 | nil=>
   refine ⟨v,W,?_,by rw [List.append_nil];exact hown,Fr.refl _ _,.inl rfl⟩
   have hsrc : Go.Src Tryz.prog i.size 116 (.slice ao 0 cp) 0 [] W:=by
    cases ao with
    | none=>exact Go.Src.ofNil _ Tryz.underlying116 cp
    | some a=>exact Go.Src.ofSlice _ Tryz.underlying116 a 0 cp [] (by simp) (by simp) (by simp)
   rcases hown.form with ⟨rfl,rfl⟩ | ⟨g,cap,rfl,_,_,h4,_⟩
   ·exact Go.run_append_nothing W 116 116 ty 3 i Tryz.underlying116 hi Option.none 0 0 (Nat.le_refl _) _ hsrc
   ·exact Go.run_append_nothing W 116 116 ty 3 i Tryz.underlying116 hi _ _ cap h4 _ hsrc
 | cons y ys=>
   rcases hr with h | ⟨b,o,rfl,hbl,hc⟩
   ·cases h
   obtain ⟨g,cap,W',h1,h2,h3,h4,h5⟩:=Go.run_append_lies (P:=Tryz.prog) W 116 ty B 3 i z 1 8 Tryz.underlying116 hi hz hs hby hzs (by omega) v xs.length (iv xs) hown ⟨b,o,Option.none⟩ (y :: ys).length cp (iv (y :: ys)) (by simp [iv]) (fun j u hj=>by
    unfold iv at hj
    rw [List.getElem?_map] at hj
    cases hx : (y :: ys)[j]? with
    | none=>rw [hx] at hj;cases hj
    | some x=>rw [hx] at hj;cases hj;rw [off_add];exact hc j x hx) (by unfold iv;intro u hu;obtain ⟨x,_,rfl⟩:=List.mem_map.1 hu;rfl) (by simp) (by unfold maxLen;omega) (by omega) hB _ rfl
   refine ⟨_,W',h1,?_,Fr.grown h3 (fun k e=>e),?_⟩
   ·have e1 : iv xs ++ iv (y :: ys) = iv (xs ++ (y :: ys)):=by simp [iv]
    have e2 : xs.length + (y :: ys).length = (xs ++ (y :: ys)).length:=by simp
    rw [e1,e2] at h2
    unfold OwnI
    rw [e2]
    exact h2
   ·rcases h4 with h4 | h4
    ·exact .inl h4.symm
    ·exact .inr (by rw [h4];rfl)
theorem RowI.at_ {W : World} {ao : Option Addr} {xs : List Int} {i : Nat} {x : Int} (h : RowI W ao xs) (he : xs[i]? = some x) : ∃ b o,ao = some ⟨b,o,none⟩ ∧ W.cell? ⟨b,o + i,none⟩ = some (.int .i64 x):=by
 rcases h with h | ⟨b,o,h1,h2,h3⟩
 ·rw [h] at he;simp at he
 ·exact ⟨b,o,h1,h3 i x he⟩
theorem ins_pw {xs : List Int} {x : Int} {n : Nat} (h : xs.Pairwise (· ≤ ·)) (h1 : ∀ j y,j < n → xs[j]? = some y → y < x) (h2 : ∀ y,xs[n]? = some y → x ≤ y) : (xs.take n ++ [x] ++ xs.drop n).Pairwise (· ≤ ·):=by
 have hsp : (xs.take n ++ xs.drop n).Pairwise (· ≤ ·):=by rw [List.take_append_drop];exact h
 obtain ⟨p1,p2,p3⟩:=List.pairwise_append.1 hsp
 have hb : ∀ a ∈ xs.take n,a ≤ x:=fun a ha=>by
  obtain ⟨j,hj⟩:=List.getElem?_of_mem ha
  rw [List.getElem?_take] at hj
  split at hj
  ·exact Int.le_of_lt (h1 j a (by assumption) hj)
  ·cases hj
 have ha : ∀ b ∈ xs.drop n,x ≤ b:=fun b hb=>by
  cases hd : xs.drop n with
  | nil=>rw [hd] at hb;cases hb
  | cons c r=>
    have hc : xs[n]? = some c:=by
     have:=List.getElem?_drop (xs:=xs) (i:=n) (j:=0)
     rw [hd] at this
     simpa using this.symm
    have hxc:=h2 c hc
    rw [hd] at hb p2
    rcases List.mem_cons.1 hb with rfl | hb
    ·exact hxc
    ·exact Int.le_trans hxc ((List.pairwise_cons.1 p2).1 b hb)
 rw [List.append_assoc]
 refine List.pairwise_append.2 ⟨p1,?_,fun a h4 b h5=>?_⟩
 ·show List.Pairwise _ (x :: xs.drop n)
  exact List.pairwise_cons.2 ⟨ha,p2⟩
 ·rcases List.mem_cons.1 h5 with rfl | h5
  ·exact hb a h4
  ·exact p3 a h4 b h5
theorem ins_perm (xs : List Int) (x : Int) (n : Nat) : (xs.take n ++ [x] ++ xs.drop n).Perm (xs ++ [x]):=by
 have h1 : (xs.take n ++ [x] ++ xs.drop n).Perm (xs.take n ++ (xs.drop n ++ [x])):=by
  rw [List.append_assoc]
  exact List.Perm.append_left _ List.perm_append_comm
 rw [← List.append_assoc,List.take_append_drop] at h1
 exact h1
theorem rOpen_kind {l : List Ev} {x : Int} (h : rOpen l x = true) : rKind l x = 7 ∨ rKind l x = 12 ∨ rKind l x = 17:=by
 unfold rOpen at h
 by_cases h7 : rKind l x = 7
 ·exact .inl h7
 rw [if_neg h7] at h
 by_cases h12 : rKind l x = 12
 ·exact .inr (.inl h12)
 rw [if_neg h12] at h
 by_cases h17 : rKind l x = 17
 ·exact .inr (.inr h17)
 rw [if_neg h17] at h
 cases h
def inK (l : List Ev) (k : Int) (i : Nat) : Bool:=(rKind l ((i : Int) + 1) == k) && rOpen l ((i : Int) + 1)
def rIds (l : List Ev) (k : Int) (n : Nat) : List Int:=((List.range n).filter (inK l k)).map fun (i : Nat)=>idAt l ((i : Int) + 1)
theorem rIds_succ (l : List Ev) (k : Int) (n : Nat) : rIds l k (n + 1) = if inK l k n = true then rIds l k n ++ [idAt l ((n : Int) + 1)] else rIds l k n:=by
 unfold rIds
 rw [List.range_succ,List.filter_append,List.map_append]
 by_cases h : inK l k n = true
 ·rw [if_pos h];simp [h]
 ·rw [if_neg h];simp [h]
/-- no two of a kind have one Id -/
theorem good_uniq : ∀ (n : Nat) (l : List Ev),l.length = n → Good l l.length → ∀ x y,rOpen l x = true → rOpen l y = true → rKind l x = rKind l y → idAt l x = idAt l y → x = y
 | 0,l,hn,_=>fun x y hx=>by
   have : l = []:=List.eq_nil_of_length_eq_zero hn
   subst this
   have:=open_in hx
   simp at this;omega
 | n + 1,l,hn,hg=>by
   rcases List.eq_nil_or_concat l with rfl | ⟨l',e,hle⟩
   ·cases hn
   rw [List.concat_eq_append] at hle
   subst hle
   have hf:=hg l'.length e (by simp) (by simp)
   rw [List.take_left' rfl] at hf
   have hg' : Good l' l'.length:=fun j x hj hx=>by
    have:=hg j x (by simp;omega) (by rw [List.getElem?_append_left hj];exact hx)
    rw [List.take_append_of_le_length (by omega)] at this
    exact this
   have ih:=good_uniq n l' (by simpa using hn) hg'
   have hI:=(good_inv _ l' rfl hg').1
   have hin:=ref_in (show rRefs l' e = true by rw [← hI.refs];exact (fault_none hf).2.1) (rLast_le l' 2)
   have old : ∀ x,x ≠ (l'.length : Int) + 1 → rOpen (l' ++ [e]) x = true → rOpen l' x = true ∧ rKind (l' ++ [e]) x = rKind l' x ∧ idAt (l' ++ [e]) x = idAt l' x:=fun x hx ho=>by
    rw [rOpen_snoc hI.rf hin.2 hx,Bool.and_eq_true] at ho
    exact ⟨ho.1,by rw [rKind_snoc,if_neg hx],by rw [idAt_snoc,if_neg hx]⟩
   have new : ∀ x,x ≠ (l'.length : Int) + 1 → rOpen (l' ++ [e]) x = true → rOpen (l' ++ [e]) ((l'.length : Int) + 1) = true → rKind (l' ++ [e]) x = rKind (l' ++ [e]) ((l'.length : Int) + 1) → idAt (l' ++ [e]) x = idAt (l' ++ [e]) ((l'.length : Int) + 1) → False:=fun x hx ho hn hk hid=>by
    obtain ⟨o1,o2,o3⟩:=old x hx ho
    rw [o2,rKind_snoc,if_pos rfl] at hk
    rw [o3,idAt_snoc,if_pos rfl] at hid
    have hkk:=rOpen_kind o1
    rw [hk] at hkk
    have hu : usesB (feed hi0 l') e.k e.id = true:=usesB_true ⟨x,by rw [hI.kd,if_pos o1,hk],by rw [hI.id x o1,hid]⟩
    have hne : faultC (feed hi0 l') e ≠ 0:=by
     unfold faultC
     repeat' split
     all_goals first | (intro h;cases h;done) | skip
     rename_i h7
     exact absurd ⟨hkk,hu⟩ h7
    exact hne hf
   intro x y hx hy hk hid
   by_cases ex : x = (l'.length : Int) + 1
   ·by_cases ey : y = (l'.length : Int) + 1
    ·rw [ex,ey]
    ·subst ex
     exact (new y ey hy hx hk.symm hid.symm).elim
   ·by_cases ey : y = (l'.length : Int) + 1
    ·subst ey
     exact (new x ex hx hy hk hid).elim
    ·obtain ⟨a1,a2,a3⟩:=old x ex hx
     obtain ⟨b1,b2,b3⟩:=old y ey hy
     exact ih x y a1 b1 (by rw [← a2,← b2];exact hk) (by rw [← a3,← b3];exact hid)
/-- an append,out of its run -/
theorem wp_append_runI {P : Program} {o : Oper} {a : Act} {K : Act → World → Prop} {Q : Exit → Act → World → Prop} {w w' : World} (s x : Operand) (t : TypeId) (ho : o.op = .call { callee:=.builtin .append,args:=#[s,x],argTypes:=#[t,t] }) (v y r : Value) (hs : a.eval s = v) (hx : a.eval x = y)
 (hr : (Builtin.append_ #[t,t] o.type #[v,y]).run P w = .ok r w') (h : K (a.put o.dst r) w') : o.wp P a w K Q:=by
 unfold Oper.wp execOp
 simp only [ho,resolve,invoke,builtin,Sem.run_bind,Sem.run_pure,Result.andThen_ok,List.map_toArray,List.map_cons,List.map_nil,hs,hx,hr]
 exact h
theorem wpList_appRun {P : Program} {ops : Array Oper} {rest : List Oper} {o : Oper} {a : Act} {Q : Exit → Act → World → Prop} {w w' : World} (hgd : o.guard = none) (s x : Operand) (t : TypeId) (ho : o.op = .call { callee:=.builtin .append,args:=#[s,x],argTypes:=#[t,t] }) (v y r : Value) (hs : a.eval s = v) (hx : a.eval x = y)
 (hr : (Builtin.append_ #[t,t] o.type #[v,y]).run P w = .ok r w') (h : wpList P ops Q rest (a.put o.dst r) w') : wpList P ops Q (o :: rest) a w:=
 wpList_plain hgd fun _ hK=>wp_append_runI s x t ho v y r hs hx hr (hK _ _ h)
theorem rowI1 {W : World} {b : Nat} {x : Int} (h : Blk W b 3 #[.int .i64 x]) : RowI W (some ⟨b,0,none⟩) [x]:=
 .inr ⟨b,0,rfl,h.lt,fun i y hy=>by
  rcases i with _ | i
  ·cases hy;exact h.cell 0
  ·simp at hy⟩
theorem RowI.frN {W W2 : World} {N : Nat} {ao : Option Addr} {xs : List Int} (h : RowI W ao xs) (hN : W.heap.size = N) (hf : Fr (fun k=>N ≤ k) W W2) : RowI W2 ao xs:=by
 rcases h with h | ⟨b,o,rfl,h2,h3⟩
 ·exact .inl h
 ·exact .inr ⟨b,o,rfl,Nat.lt_of_lt_of_le h2 hf.size,fun i x hx=>(World.cell?_of_block (hf.block b h2 (fun e=>by omega))).trans (h3 i x hx)⟩
theorem OwnI.lt {W : World} {B : Nat} {v : Value} {xs : List Int} (h : OwnI W B v xs) {k : Nat} (hk : v.ownBlock = some k) : k < W.heap.size:=(h.ob hk).2.1
set_option maxRecDepth 100000 in
set_option maxHeartbeats 4000000 in
theorem ropenk_any (W : World) (ao : Option Addr) (cp n : Nat) (l : List Ev) (hl : RowV W ao l) (hnl : l.length = n) (hcp : n ≤ cp) (hn : n ≤ 10000) (k : Int) : Calls Tryz.prog 85 #[.slice ao n cp,.int .i64 k] W fun r W'=>∃ (v : Value) (xs : List Int),r = .returned v ∧ OwnI W' W.heap.size v xs ∧ xs.Pairwise (· ≤ ·) ∧ xs.Perm (rIds l k n) ∧ Fr (fun _=>False) W W':=by
 have HNL:=Lib.hid hnl
 have HN:=Lib.hid hn
 have HROW:=Lib.hid hl
 have HCP:=Lib.hid hcp
 obtain ⟨B,hB⟩ : ∃ B,W.heap.size = B:=⟨_,rfl⟩
 have HB:=Lib.hid hB
 rw [hB]
 clear hnl hn hl hcp hB
 go_enter Tryz.func85,Tryz.ntmps85
 go_wp2_with fail
 go_loopw [5,6] (fun ov iv wr=>∃ (i : Nat) (vo : Value) (xs : List Int),i ≤ n ∧ iv = .int .i64 i ∧ vo = ov ∧ OwnI wr B vo xs ∧ xs.Pairwise (· ≤ ·) ∧ xs.Perm (rIds l k i) ∧ Fr (fun _=>False) W wr) (fun _ iv _=>n - (intOf iv).toNat)
 case atStart=>exact ⟨0,_,[],Nat.zero_le _,rfl,rfl,OwnI.none _ _,List.Pairwise.nil,List.Perm.refl _,Fr.refl _ _⟩
 case round=>
  obtain ⟨i,vo,xs,hi,rfl,rfl,ho,hp,hq,hf⟩:=hrel
  have HO:=Lib.hid ho
  have HP:=Lib.hid hp
  have HQ:=Lib.hid hq
  have HF:=Lib.hid hf
  clear ho hp hq hf
  have hnn:=HN.out
  by_cases hlt : i < n
  ·have p0 : decide ((i : Int) < n) = true:=decide_eq_true (by omega)
   have p0' : decide (i < n) = true:=decide_eq_true hlt
   obtain ⟨e,he⟩ : ∃ e,l[i]? = some e:=⟨_,List.getElem?_eq_getElem (by rw [HNL.out];exact hlt)⟩
   have HKD:=Lib.hid (rKind_at he)
   have HID : Hid (idAt l ((i : Int) + 1) = e.id):=Lib.hid (by
    unfold idAt evAt
    rw [if_neg (by omega),show ((i : Int) + 1 - 1).toNat = i by omega,he])
   have HLEN : Hid (xs.length ≤ i):=Lib.hid (by
    rw [HQ.out.length_eq]
    unfold rIds
    rw [List.length_map]
    exact Nat.le_trans (List.length_filter_le _ _) (by rw [List.length_range];exact Nat.le_refl _))
   have hrow:=HROW.out
   obtain ⟨b,o,rfl,hc⟩:=hrow.at_ he
   have c0 : wr.cell? ⟨b,o + i * 7 + 0,none⟩ = some (.int .i64 e.k):=hc wr HF.out 0 _ rfl
   have HC3 : Hid (∀ w',Fr (fun _=>False) W w' → w'.cell? ⟨b,o + i * 7 + 3,none⟩ = some (.int .i64 e.id)):=Lib.hid (fun w' h=>hc w' h 3 _ rfl)
   rw [Nat.add_zero] at c0
   have hw : wrap64 ((i : Int) + 1) = (i : Int) + 1:=by rw [wrap64];omega
   have HW:=Lib.hid hw
   have HI:=Lib.hid (And.intro hi hlt)
   clear he hc hi hw
   obtain ⟨kd,hkd⟩ : ∃ z,e.k = z:=⟨_,rfl⟩
   rw [hkd] at c0 HKD
   clear hkd
   have HNEXT : Hid (rIds l k (i + 1) = if ((kd == k) && rOpen l ((i : Int) + 1)) = true then rIds l k i ++ [e.id] else rIds l k i):=Lib.hid (by
    rw [rIds_succ,HID.out]
    unfold inK
    rw [HKD.out])
   obtain ⟨bo,hbo⟩ : ∃ z,rOpen l ((i : Int) + 1) = z:=⟨_,rfl⟩
   have HOP:=Lib.hid (ropen_any wr _ cp n l (HROW.out.fr HF.out (fun _ e=>e.elim)) HNL.out (by omega) ((i : Int) + 1))
   rw [hbo] at HOP HNEXT
   clear hbo
   by_cases hk : ¬ kd = k
   ·have p1 : (kd == k) = false:=by simp [hk]
    rw [p1,Bool.false_and,if_neg (by decide)] at HNEXT
    go_wp2
    go_roundw
    case rel=>exact ⟨i + 1,vo,xs,by have:=HI.out;omega,by go_num,rfl,HO.out.fr (Fr.refl _ _) (fun _ _ h=>h),HP.out,by rw [HNEXT.out];exact HQ.out,HF.out.trans (Fr.refl _ _)⟩
    case measure=>have:=HI.out;simp [intOf];omega
   have hk2 : kd = k:=Classical.byContradiction hk
   subst hk2
   clear hk
   have p1 : (kd == kd) = true:=by simp
   rw [p1,Bool.true_and] at HNEXT
   cases bo with
   | false=>
     rw [if_neg (by decide)] at HNEXT
     go_wp2_with (first | (go_at_call 101;refine HOP.out.mono ?_;rintro r2 w2 ⟨rfl,hf2⟩) | go_in)
     go_roundw
     case rel=>exact ⟨i + 1,vo,xs,by have:=HI.out;omega,by go_num,rfl,HO.out.fr hf2 (fun _ _ h=>h),HP.out,by rw [HNEXT.out];exact HQ.out,HF.out.trans hf2⟩
     case measure=>have:=HI.out;simp [intOf];omega
   | true=>
     rw [if_pos rfl] at HNEXT
     obtain ⟨id,hid⟩ : ∃ z,e.id = z:=⟨_,rfl⟩
     rw [hid] at HNEXT HC3
     clear hid
     go_upto_region 6 with (first | (go_at_call 101;refine HOP.out.mono ?_;rintro r2 w2 ⟨rfl,hf2⟩) | go_in)
     have HF2:=Lib.hid (HF.out.trans hf2)
     have ho2:=HO.out.fr hf2 (fun _ _ h=>h)
     obtain ⟨ao2,cap,rfl,hxc,hxm,hxr,hxo⟩:=ho2.row
     have HO2:=Lib.hid ho2
     have HXR:=Lib.hid hxr
     have HXO:=Lib.hid hxo
     clear ho2 hxr hxo hf2 HF HOP p1 p0 p0' hnn
     obtain ⟨m,hm⟩ : ∃ m,xs.length = m:=⟨_,rfl⟩
     rw [hm] at hxc HLEN
     have HM:=Lib.hid hm
     have HCAP:=Lib.hid (And.intro hxc hxm)
     simp only [hm]
     clear hm hxc hxm HO
     go_wp2_with fail
     go_loopw [7] (fun jv wz=>∃ j : Nat,j ≤ m ∧ jv = .int .i64 j ∧ (∀ q y,q < j → xs[q]? = some y → y < id) ∧ Fr (fun _=>False) w2 wz) (fun jv _=>m - (intOf jv).toNat)
     case atStart=>exact ⟨0,Nat.zero_le _,rfl,fun q y h=>by omega,Fr.refl _ _⟩
     case round=>
      obtain ⟨j,hj,rfl,hlow,hfz⟩:=hrel
      have HLOW:=Lib.hid hlow
      have HFZ:=Lib.hid hfz
      have HJ:=Lib.hid hj
      clear hlow hfz
      by_cases hjl : j < m
      ·have p2 : decide ((j : Int) < m) = true:=decide_eq_true (by omega)
       have p2' : decide (j < m) = true:=decide_eq_true hjl
       obtain ⟨x,hx⟩ : ∃ x,xs[j]? = some x:=⟨_,List.getElem?_eq_getElem (by rw [HM.out];exact hjl)⟩
       have hx0:=(HXR.out.fr HFZ.out (fun _ _ h=>h)).at_ hx
       obtain ⟨b3,o3,rfl,d0⟩:=hx0
       have d1:=HC3.out _ (HF2.out.trans HFZ.out)
       have HX:=Lib.hid hx
       have HJL:=Lib.hid hjl
       clear hx
       by_cases hlt2 : x < id
       ·have p3 : decide (x < id) = true:=decide_eq_true hlt2
        have hwj : wrap64 ((j : Int) + 1) = ((j + 1 : Nat) : Int):=by have:=HLEN.out;have:=HN.out;have:=HI.out;rw [wrap64];omega
        have HWJ:=Lib.hid hwj
        clear hwj
        go_upto_region 7 with (fail)
        go_quiet (fail)
        go_wp2
        go_roundw
        case rel=>
         refine ⟨j + 1,by have:=HJL.out;omega,by rw [HWJ.out],fun q y hq hy=>?_,HFZ.out.trans (Fr.drewN _ _ _)⟩
         by_cases e : q = j
         ·subst e
          rw [HX.out] at hy
          cases hy
          exact hlt2
         ·exact HLOW.out q y (by omega) hy
        case measure=>(try rw [HWJ.out]);clear HWJ;have:=HJL.out;simp [intOf];omega
       ·have p3 : decide (x < id) = false:=decide_eq_false hlt2
        have HGE : Hid (∀ y,xs[j]? = some y → id ≤ y):=Lib.hid (fun y hy=>by rw [HX.out] at hy;cases hy;omega)
        clear HX HJL hlt2
        go_upto_region 7 with (fail)
        go_quiet (fail)
        go_upto_region 9 with (fail)
        have hfd : Fr (fun _=>False) wr ((wr.drewN nq).drew):=⟨rfl,rfl,rfl,Nat.le_refl _,fun _ _ _=>rfl⟩
        have HF8 : Hid (Fr (fun _=>False) W ((wr.drewN nq).drew)):=Lib.hid (HF2.out.trans (HFZ.out.trans hfd))
        have HX8 : Hid (RowI ((wr.drewN nq).drew) (some ⟨b3,o3,none⟩) xs):=Lib.hid (HXR.out.fr (HFZ.out.trans hfd) (fun _ _ h=>h))
        refine wp_region_held_drew (S:=fun (w' : World)=>w'.cell? ⟨b,o + i * 7 + 3,none⟩ = some (.int .i64 id)) (by kernel_rfl) (HC3.out _ HF8.out) (fun hHeld=>?_)
        obtain ⟨w8,hw8⟩ : ∃ w,(wr.drewN nq).drew = w:=⟨_,rfl⟩
        rw [hw8] at hHeld HF8 HX8 ⊢
        have FACT : Hid (∀ w',Fr (fun k=>w8.heap.size ≤ k) w8 w' → w'.cell? ⟨b,o + i * 7 + 3,none⟩ = some (.int .i64 id)):=Lib.hid (fun w' hf=>HC3.out _ (Fr.above HF8.out hf (fun k hk=>by have:=HF8.out.size;omega)))
        obtain ⟨base,hbase⟩ : ∃ z,w8.heap.size = z:=⟨_,rfl⟩
        have HBASE:=Lib.hid hbase
        have HBB : Hid (B ≤ base):=Lib.hid (by have:=HF8.out.size;have:=HB.out;omega)
        rw [hbase] at FACT
        have HG8 : Hid (Fr (fun k=>base ≤ k) w8 w8):=Lib.hid (Fr.refl _ _)
        have hjcap : j ≤ cap:=by have:=HCAP.out.1;have:=HJ.out;omega
        have HJC:=Lib.hid hjcap
        have HM5 : Hid (m ≤ 10000):=Lib.hid (by have:=HLEN.out;have:=HN.out;have:=HI.out;omega)
        have HTK : Hid ((xs.take j).length = j):=Lib.hid (by rw [List.length_take,HM.out];exact Nat.min_eq_left HJ.out)
        clear hw8 hfd hbase HFZ
        refine wpAnyH_take (i:=1) (oi:=_) (v:=?vpa1) rfl (by kernel_rfl) (by kernel_rfl) (by kernel_rfl) (fun _ _ _ h=>h) (Or.inl ⟨by rfl,?ypa1⟩) (by assumption) ?rpa1
        case ypa1=>intro w1 hSw;have s1:=hSw;go_simp;try with_reducible rfl
        try simp only [lD,lE,lF,Act.put,lG,lH,lI]
        refine wpAnyH_take (i:=2) (oi:=_) (v:=?vpa2) rfl (by kernel_rfl) (by kernel_rfl) (by kernel_rfl) (fun _ _ _ h=>h) (Or.inl ⟨by rfl,?ypa2⟩) (by assumption) ?rpa2
        case ypa2=>intro w1 hSw;have s1:=hSw;go_simp;try with_reducible rfl
        try simp only [lD,lE,lF,Act.put,lG,lH,lI]
        refine wpAnyH_take (i:=3) (oi:=_) (v:=?vpa3) rfl (by kernel_rfl) (by kernel_rfl) (by kernel_rfl) (fun _ _ _ h=>h) (Or.inl ⟨by rfl,?ypa3⟩) (by assumption) ?rpa3
        case ypa3=>intro w1 hSw;have s1:=hSw;go_simp;try with_reducible rfl
        try simp only [lD,lE,lF,Act.put,lG,lH,lI]
        refine wpAnyH_take (i:=5) (oi:=_) (v:=?vpa5) rfl (by kernel_rfl) (by kernel_rfl) (by kernel_rfl) (fun _ _ _ h=>h) (Or.inl ⟨by rfl,?ypa5⟩) (by assumption) ?rpa5
        case ypa5=>intro w1 hSw;have s1:=hSw;go_simp;try with_reducible rfl
        try simp only [lD,lE,lF,Act.put,lG,lH,lI]
        refine wpAnyH_take (i:=6) (oi:=_) (v:=?vpa6) rfl (by kernel_rfl) (by kernel_rfl) (by kernel_rfl) (fun _ _ _ h=>h) (Or.inl ⟨by rfl,?ypa6⟩) (by assumption) ?rpa6
        case ypa6=>intro w1 hSw;have s1:=hSw;go_simp;try with_reducible rfl
        try simp only [lD,lE,lF,Act.put,lG,lH,lI]
        refine wpAnyH_take (i:=7) (oi:=_) (v:=?vpa7) rfl (by kernel_rfl) (by kernel_rfl) (by kernel_rfl) (fun _ _ _ h=>h) (Or.inl ⟨by rfl,?ypa7⟩) (by assumption) ?rpa7
        case ypa7=>intro w1 hSw;have s1:=hSw;go_simp;try with_reducible rfl
        try simp only [lD,lE,lF,Act.put,lG,lH,lI]
        refine wpAnyH_take (i:=8) (oi:=_) (v:=?vpa8) rfl (by kernel_rfl) (by kernel_rfl) (by kernel_rfl) (fun _ _ _ h=>h) (Or.inl ⟨by rfl,?ypa8⟩) (by assumption) ?rpa8
        case ypa8=>intro w1 hSw;have s1:=hSw;go_simp;try with_reducible rfl
        try simp only [lD,lE,lF,Act.put,lG,lH,lI]
        refine wpAnyH_take (i:=9) (oi:=_) (v:=?vpa9) rfl (by kernel_rfl) (by kernel_rfl) (by kernel_rfl) (fun _ _ _ h=>h) (Or.inl ⟨by rfl,?ypa9⟩) (by assumption) ?rpa9
        case ypa9=>intro w1 hSw;have s1:=hSw;go_simp;try with_reducible rfl
        try simp only [lD,lE,lF,Act.put,lG,lH,lI]
        refine wpAnyH_ready (rs:=[0,10]) (by kernel_rfl) (by simp) ?_
        refine AllReadyH.cons (o:=_) rfl (fun K hK=>?_) (AllReadyH.cons (o:=_) rfl (fun K hK=>?_) AllReadyH.nil)
        ·rw [if_pos (by rfl)]
         try simp only [lD,lE,lF]
         go_simp
         have hleA1 : B ≤ w8.heap.size:=by have:=HG8.out.size;have:=HBASE.out;have:=HBB.out;omega
         have hoA1:=OwnI.empty w8 B hleA1
         have hfA1 : Fr (fun _=>False) w8 (w8.alloc (.cells #[] 3)):=Fr.alloc _ _ _
         have hgeA1 : base ≤ w8.heap.size:=by have:=HG8.out.size;have:=HBASE.out;omega
         obtain ⟨g0,hg0⟩ : ∃ g,w8.heap.size = g:=⟨_,rfl⟩
         obtain ⟨wA1,hwA1⟩ : ∃ w,w8.alloc (.cells #[] 3) = w:=⟨_,rfl⟩
         rw [hwA1] at hoA1 hfA1 ⊢
         rw [hg0] at hoA1 hgeA1 ⊢
         have HG0:=Lib.hid hgeA1
         have HO:=Lib.hid hoA1
         have HGA1 : Hid (Fr (fun k=>base ≤ k) w8 wA1):=Lib.hid (HG8.out.trans (hfA1.mono fun _ e=>e.elim))
         have HFL:=Lib.hid hfA1
         clear hoA1 hfA1 hwA1 hg0 hleA1 hgeA1
         refine hK.out _ _ (FACT.out _ HGA1.out) (fun hHA1=>?_)
         clear hK K
         try simp only [lD,lE,lF,Act.put,lG,lH,lI]
         refine wpAnyH_ready (rs:=[4,10]) (by kernel_rfl) (by simp) ?_
         refine AllReadyH.cons (o:=_) rfl (fun K hK=>?_) (AllReadyH.cons (o:=_) rfl (fun K hK=>?_) AllReadyH.nil)
         ·rw [if_pos (by rfl)]
          try simp only [lD,lE,lF]
          obtain ⟨v2,wA2,hrunA2,hownA2,hfA2,hobA2⟩:=app_i wA1 B (.slice (some ⟨g0,0,none⟩) 0 0) [] (xs.take j) 116 (by have:=HGA1.out.size;have:=HBASE.out;have:=HBB.out;omega) HO.out (some ⟨b3,o3,none⟩) cap j ((HX8.out.frN HBASE.out HGA1.out).take j) HTK.out (by have:=HM5.out;have:=HJ.out;simp;omega)
          rw [List.nil_append] at hownA2
          refine wp_append_runI _ _ _ rfl _ _ _ rfl rfl hrunA2 ?_
          have HGA2 : Hid (Fr (fun k=>base ≤ k) w8 wA2):=Lib.hid (HGA1.out.trans (hfA2.mono fun k e=>by cases e;exact HG0.out))
          have HOB : Hid (∀ k,v2.ownBlock = some k → base ≤ k):=Lib.hid (fun k e=>by
           rcases hobA2 with h | h
           ·rw [h] at e;cases e;exact HG0.out
           ·rw [h] at e;cases e;have:=HGA1.out.size;have:=HBASE.out;omega)
          clear HO
          have HO:=Lib.hid hownA2
          clear hownA2 hfA2 hrunA2 hobA2
          refine hK.out _ _ (FACT.out _ HGA2.out) (fun hHA2=>?_)
          clear hK K
          try simp only [lD,lE,lF,Act.put,lG,lH,lI]
          refine wpAnyH_ready (rs:=[10]) (by kernel_rfl) (by simp) ?_
          refine AllReadyH.cons (o:=_) rfl (fun K hK=>?_) AllReadyH.nil
          rw [if_pos (by rfl)]
          try simp only [lD,lE,lF]
          go_simp
          have hbA3:=Blk.new wA2 3 #[.int .i64 id]
          have hfA3 : Fr (fun _=>False) wA2 (wA2.alloc (.cells #[.int .i64 id] 3)):=Fr.alloc _ _ _
          obtain ⟨g1,hg1⟩ : ∃ g,wA2.heap.size = g:=⟨_,rfl⟩
          obtain ⟨wA3,hwA3⟩ : ∃ w,wA2.alloc (.cells #[.int .i64 id] 3) = w:=⟨_,rfl⟩
          rw [hwA3] at hbA3 hfA3 ⊢
          rw [hg1] at hbA3 ⊢
          have HGA3 : Hid (Fr (fun k=>base ≤ k) w8 wA3):=Lib.hid (HGA2.out.trans (hfA3.mono fun _ e=>e.elim))
          have HEA3:=Lib.hid hbA3
          have HOA3:=Lib.hid (HO.out.fr hfA3 (fun _ _ h=>h))
          clear HO
          have HO:=HOA3
          clear HOA3
          clear hbA3 hfA3 hwA3 hg1
          refine hK.out _ _ (FACT.out _ HGA3.out) (fun hHA3=>?_)
          clear hK K
          try simp only [lD,lE,lF,Act.put,lG,lH,lI]
          have HEV:=HEA3
          clear HEA3
          refine wpAnyH_ready (rs:=[11]) (by kernel_rfl) (by simp) ?_
          refine AllReadyH.cons (o:=_) rfl (fun K hK=>?_) AllReadyH.nil
          rw [if_pos (by rfl)]
          try simp only [lD,lE,lF]
          obtain ⟨v3,wA4,hrunA4,hownA4,hfA4,hobA4⟩:=app_i wA3 B v2 (xs.take j) [id] 116 (by have:=HGA3.out.size;have:=HBASE.out;have:=HBB.out;omega) HO.out (some ⟨g1,0,none⟩) 1 1 (rowI1 HEV.out) rfl (by have:=HM5.out;have:=HJ.out;rw [HTK.out];omega)
          refine wp_append_runI _ _ _ rfl _ _ _ rfl rfl hrunA4 ?_
          have HGA4 : Hid (Fr (fun k=>base ≤ k) w8 wA4):=Lib.hid (HGA3.out.trans (hfA4.mono fun k e=>HOB.out k e))
          have HOC : Hid (∀ k,v3.ownBlock = some k → base ≤ k):=Lib.hid (fun k e=>by
           rcases hobA4 with h | h
           ·rw [h] at e;exact HOB.out k e
           ·rw [h] at e;cases e;have:=HGA3.out.size;have:=HBASE.out;omega)
          have HON:=Lib.hid hownA4
          clear hownA4 hfA4 hrunA4 hobA4 HEV HO HOB
          refine hK.out _ _ (FACT.out _ HGA4.out) (fun hHA4=>?_)
          clear hK K
          try simp only [lD,lE,lF,Act.put,lG,lH,lI]
          refine wpAnyH_take (i:=12) (oi:=_) (v:=?vpb12) rfl (by kernel_rfl) (by kernel_rfl) (by kernel_rfl) (fun _ _ _ h=>h) (Or.inl ⟨by rfl,?ypb12⟩) (by assumption) ?rpb12
          case ypb12=>intro w1 hSw;have s1:=hSw;go_simp;try with_reducible rfl
          try simp only [lD,lE,lF,Act.put,lG,lH,lI]
          refine wpAnyH_done (by kernel_rfl) ?_ _
          clear FACT
          have HTL : Hid ((xs.take j ++ [id]).length ≤ 20000):=Lib.hid (by rw [List.length_append,HTK.out];have:=HM5.out;have:=HJ.out;simp;omega)
          obtain ⟨v4,wz4,hrun4,hown4,hf4,_⟩:=app_i wA4 B v3 (xs.take j ++ [id]) (xs.drop j) 116 (by have:=HGA4.out.size;have:=HBASE.out;have:=HBB.out;omega) HON.out (if cap = j then some ⟨b3,o3,none⟩ else some ⟨b3,o3 + j,none⟩) (cap - j) (m - j) (by rw [if_neg (by have:=HJC.out;have:=HCAP.out.1;omega)];exact (HX8.out.frN HBASE.out HGA4.out).drop j) (by rw [List.length_drop,HM.out]) (by have:=HTL.out;have:=HM5.out;omega)
          have HOW4:=Lib.hid hown4
          have HF4:=Lib.hid (Fr.above HF8.out (HGA4.out.trans (hf4.mono fun k e=>HOC.out k e)) (fun k hk=>by have:=HF8.out.size;have:=HBASE.out;omega))
          clear hown4 hf4
          go_wp2_with (at_builtin;refine wpList_appRun rfl _ _ _ rfl _ _ _ rfl rfl hrun4 ?_)
          clear hrun4
          go_roundw
          case rel=>exact ⟨i + 1,v4,_,by have:=HI.out;omega,by rw [HW.out];go_num,rfl,HOW4.out,ins_pw HP.out HLOW.out HGE.out,by rw [HNEXT.out];exact (ins_perm xs id j).trans (HQ.out.append_right [id]),HF4.out⟩
          case measure=>(try rw [HW.out]);clear HW;have:=HI.out;simp [intOf];omega
         ·rw [if_pos (by rfl)]
          try simp only [lD,lE,lF]
          go_simp
          have hbB2:=Blk.new wA1 3 #[.int .i64 id]
          have hfB2 : Fr (fun _=>False) wA1 (wA1.alloc (.cells #[.int .i64 id] 3)):=Fr.alloc _ _ _
          obtain ⟨g1,hg1⟩ : ∃ g,wA1.heap.size = g:=⟨_,rfl⟩
          have HNE : Hid (g1 ≠ g0):=Lib.hid (fun e=>by have h1:=HO.out.lt (k:=g0) rfl;omega)
          obtain ⟨wB2,hwB2⟩ : ∃ w,wA1.alloc (.cells #[.int .i64 id] 3) = w:=⟨_,rfl⟩
          rw [hwB2] at hbB2 hfB2 ⊢
          rw [hg1] at hbB2 ⊢
          have HGB2 : Hid (Fr (fun k=>base ≤ k) w8 wB2):=Lib.hid (HGA1.out.trans (hfB2.mono fun _ e=>e.elim))
          have HEB2:=Lib.hid hbB2
          have HOB2:=Lib.hid (HO.out.fr hfB2 (fun _ _ h=>h))
          clear HO
          have HO:=HOB2
          clear HOB2
          clear hbB2 hfB2 hwB2 hg1
          refine hK.out _ _ (FACT.out _ HGB2.out) (fun hHB2=>?_)
          clear hK K
          try simp only [lD,lE,lF,Act.put,lG,lH,lI]
          refine wpAnyH_ready (rs:=[4]) (by kernel_rfl) (by simp) ?_
          refine AllReadyH.cons (o:=_) rfl (fun K hK=>?_) AllReadyH.nil
          rw [if_pos (by rfl)]
          try simp only [lD,lE,lF]
          obtain ⟨v2,wB3,hrunB3,hownB3,hfB3,hobB3⟩:=app_i wB2 B (.slice (some ⟨g0,0,none⟩) 0 0) [] (xs.take j) 116 (by have:=HGB2.out.size;have:=HBASE.out;have:=HBB.out;omega) HO.out (some ⟨b3,o3,none⟩) cap j ((HX8.out.frN HBASE.out HGB2.out).take j) HTK.out (by have:=HM5.out;have:=HJ.out;simp;omega)
          rw [List.nil_append] at hownB3
          refine wp_append_runI _ _ _ rfl _ _ _ rfl rfl hrunB3 ?_
          have HGB3 : Hid (Fr (fun k=>base ≤ k) w8 wB3):=Lib.hid (HGB2.out.trans (hfB3.mono fun k e=>by cases e;exact HG0.out))
          have HOB : Hid (∀ k,v2.ownBlock = some k → base ≤ k):=Lib.hid (fun k e=>by
           rcases hobB3 with h | h
           ·rw [h] at e;cases e;exact HG0.out
           ·rw [h] at e;cases e;have:=HGB2.out.size;have:=HBASE.out;omega)
          have HEV:=Lib.hid (HEB2.out.fr hfB3 (fun e=>HNE.out (Option.some.inj e).symm))
          clear HEB2
          clear HO
          have HO:=Lib.hid hownB3
          clear hownB3 hfB3 hrunB3 hobB3
          refine hK.out _ _ (FACT.out _ HGB3.out) (fun hHB3=>?_)
          clear hK K
          try simp only [lD,lE,lF,Act.put,lG,lH,lI]
          refine wpAnyH_ready (rs:=[11]) (by kernel_rfl) (by simp) ?_
          refine AllReadyH.cons (o:=_) rfl (fun K hK=>?_) AllReadyH.nil
          rw [if_pos (by rfl)]
          try simp only [lD,lE,lF]
          obtain ⟨v3,wB4,hrunB4,hownB4,hfB4,hobB4⟩:=app_i wB3 B v2 (xs.take j) [id] 116 (by have:=HGB3.out.size;have:=HBASE.out;have:=HBB.out;omega) HO.out (some ⟨g1,0,none⟩) 1 1 (rowI1 HEV.out) rfl (by have:=HM5.out;have:=HJ.out;rw [HTK.out];omega)
          refine wp_append_runI _ _ _ rfl _ _ _ rfl rfl hrunB4 ?_
          have HGB4 : Hid (Fr (fun k=>base ≤ k) w8 wB4):=Lib.hid (HGB3.out.trans (hfB4.mono fun k e=>HOB.out k e))
          have HOC : Hid (∀ k,v3.ownBlock = some k → base ≤ k):=Lib.hid (fun k e=>by
           rcases hobB4 with h | h
           ·rw [h] at e;exact HOB.out k e
           ·rw [h] at e;cases e;have:=HGB3.out.size;have:=HBASE.out;omega)
          have HON:=Lib.hid hownB4
          clear hownB4 hfB4 hrunB4 hobB4 HEV HO HOB
          refine hK.out _ _ (FACT.out _ HGB4.out) (fun hHB4=>?_)
          clear hK K
          try simp only [lD,lE,lF,Act.put,lG,lH,lI]
          refine wpAnyH_take (i:=12) (oi:=_) (v:=?vpc12) rfl (by kernel_rfl) (by kernel_rfl) (by kernel_rfl) (fun _ _ _ h=>h) (Or.inl ⟨by rfl,?ypc12⟩) (by assumption) ?rpc12
          case ypc12=>intro w1 hSw;have s1:=hSw;go_simp;try with_reducible rfl
          try simp only [lD,lE,lF,Act.put,lG,lH,lI]
          refine wpAnyH_done (by kernel_rfl) ?_ _
          clear FACT
          have HTL : Hid ((xs.take j ++ [id]).length ≤ 20000):=Lib.hid (by rw [List.length_append,HTK.out];have:=HM5.out;have:=HJ.out;simp;omega)
          obtain ⟨v4,wz4,hrun4,hown4,hf4,_⟩:=app_i wB4 B v3 (xs.take j ++ [id]) (xs.drop j) 116 (by have:=HGB4.out.size;have:=HBASE.out;have:=HBB.out;omega) HON.out (if cap = j then some ⟨b3,o3,none⟩ else some ⟨b3,o3 + j,none⟩) (cap - j) (m - j) (by rw [if_neg (by have:=HJC.out;have:=HCAP.out.1;omega)];exact (HX8.out.frN HBASE.out HGB4.out).drop j) (by rw [List.length_drop,HM.out]) (by have:=HTL.out;have:=HM5.out;omega)
          have HOW4:=Lib.hid hown4
          have HF4:=Lib.hid (Fr.above HF8.out (HGB4.out.trans (hf4.mono fun k e=>HOC.out k e)) (fun k hk=>by have:=HF8.out.size;have:=HBASE.out;omega))
          clear hown4 hf4
          go_wp2_with (at_builtin;refine wpList_appRun rfl _ _ _ rfl _ _ _ rfl rfl hrun4 ?_)
          clear hrun4
          go_roundw
          case rel=>exact ⟨i + 1,v4,_,by have:=HI.out;omega,by rw [HW.out];go_num,rfl,HOW4.out,ins_pw HP.out HLOW.out HGE.out,by rw [HNEXT.out];exact (ins_perm xs id j).trans (HQ.out.append_right [id]),HF4.out⟩
          case measure=>(try rw [HW.out]);clear HW;have:=HI.out;simp [intOf];omega
        ·rw [if_pos (by rfl)]
         try simp only [lD,lE,lF]
         go_simp
         have hbC1:=Blk.new w8 3 #[.int .i64 id]
         have hfC1 : Fr (fun _=>False) w8 (w8.alloc (.cells #[.int .i64 id] 3)):=Fr.alloc _ _ _
         obtain ⟨g1,hg1⟩ : ∃ g,w8.heap.size = g:=⟨_,rfl⟩
         obtain ⟨wC1,hwC1⟩ : ∃ w,w8.alloc (.cells #[.int .i64 id] 3) = w:=⟨_,rfl⟩
         rw [hwC1] at hbC1 hfC1 ⊢
         rw [hg1] at hbC1 ⊢
         have HGC1 : Hid (Fr (fun k=>base ≤ k) w8 wC1):=Lib.hid (HG8.out.trans (hfC1.mono fun _ e=>e.elim))
         have HEC1:=Lib.hid hbC1
         clear hbC1 hfC1 hwC1 hg1
         refine hK.out _ _ (FACT.out _ HGC1.out) (fun hHC1=>?_)
         clear hK K
         try simp only [lD,lE,lF,Act.put,lG,lH,lI]
         refine wpAnyH_ready (rs:=[0]) (by kernel_rfl) (by simp) ?_
         refine AllReadyH.cons (o:=_) rfl (fun K hK=>?_) AllReadyH.nil
         rw [if_pos (by rfl)]
         try simp only [lD,lE,lF]
         go_simp
         have hleC2 : B ≤ wC1.heap.size:=by have:=HGC1.out.size;have:=HBASE.out;have:=HBB.out;omega
         have hoC2:=OwnI.empty wC1 B hleC2
         have hfC2 : Fr (fun _=>False) wC1 (wC1.alloc (.cells #[] 3)):=Fr.alloc _ _ _
         have hgeC2 : base ≤ wC1.heap.size:=by have:=HGC1.out.size;have:=HBASE.out;omega
         obtain ⟨g0,hg0⟩ : ∃ g,wC1.heap.size = g:=⟨_,rfl⟩
         obtain ⟨wC2,hwC2⟩ : ∃ w,wC1.alloc (.cells #[] 3) = w:=⟨_,rfl⟩
         rw [hwC2] at hoC2 hfC2 ⊢
         rw [hg0] at hoC2 hgeC2 ⊢
         have HG0:=Lib.hid hgeC2
         have HO:=Lib.hid hoC2
         have HGC2 : Hid (Fr (fun k=>base ≤ k) w8 wC2):=Lib.hid (HGC1.out.trans (hfC2.mono fun _ e=>e.elim))
         have HFL:=Lib.hid hfC2
         have HNE : Hid (g1 ≠ g0):=Lib.hid (fun e=>by have h1:=HEC1.out.lt;omega)
         have HEC2:=Lib.hid (HEC1.out.fr HFL.out (fun e=>e))
         clear HEC1
         clear hoC2 hfC2 hwC2 hg0 hleC2 hgeC2
         refine hK.out _ _ (FACT.out _ HGC2.out) (fun hHC2=>?_)
         clear hK K
         try simp only [lD,lE,lF,Act.put,lG,lH,lI]
         refine wpAnyH_ready (rs:=[4]) (by kernel_rfl) (by simp) ?_
         refine AllReadyH.cons (o:=_) rfl (fun K hK=>?_) AllReadyH.nil
         rw [if_pos (by rfl)]
         try simp only [lD,lE,lF]
         obtain ⟨v2,wC3,hrunC3,hownC3,hfC3,hobC3⟩:=app_i wC2 B (.slice (some ⟨g0,0,none⟩) 0 0) [] (xs.take j) 116 (by have:=HGC2.out.size;have:=HBASE.out;have:=HBB.out;omega) HO.out (some ⟨b3,o3,none⟩) cap j ((HX8.out.frN HBASE.out HGC2.out).take j) HTK.out (by have:=HM5.out;have:=HJ.out;simp;omega)
         rw [List.nil_append] at hownC3
         refine wp_append_runI _ _ _ rfl _ _ _ rfl rfl hrunC3 ?_
         have HGC3 : Hid (Fr (fun k=>base ≤ k) w8 wC3):=Lib.hid (HGC2.out.trans (hfC3.mono fun k e=>by cases e;exact HG0.out))
         have HOB : Hid (∀ k,v2.ownBlock = some k → base ≤ k):=Lib.hid (fun k e=>by
          rcases hobC3 with h | h
          ·rw [h] at e;cases e;exact HG0.out
          ·rw [h] at e;cases e;have:=HGC2.out.size;have:=HBASE.out;omega)
         have HEV:=Lib.hid (HEC2.out.fr hfC3 (fun e=>HNE.out (Option.some.inj e).symm))
         clear HEC2
         clear HO
         have HO:=Lib.hid hownC3
         clear hownC3 hfC3 hrunC3 hobC3
         refine hK.out _ _ (FACT.out _ HGC3.out) (fun hHC3=>?_)
         clear hK K
         try simp only [lD,lE,lF,Act.put,lG,lH,lI]
         refine wpAnyH_ready (rs:=[11]) (by kernel_rfl) (by simp) ?_
         refine AllReadyH.cons (o:=_) rfl (fun K hK=>?_) AllReadyH.nil
         rw [if_pos (by rfl)]
         try simp only [lD,lE,lF]
         obtain ⟨v3,wC4,hrunC4,hownC4,hfC4,hobC4⟩:=app_i wC3 B v2 (xs.take j) [id] 116 (by have:=HGC3.out.size;have:=HBASE.out;have:=HBB.out;omega) HO.out (some ⟨g1,0,none⟩) 1 1 (rowI1 HEV.out) rfl (by have:=HM5.out;have:=HJ.out;rw [HTK.out];omega)
         refine wp_append_runI _ _ _ rfl _ _ _ rfl rfl hrunC4 ?_
         have HGC4 : Hid (Fr (fun k=>base ≤ k) w8 wC4):=Lib.hid (HGC3.out.trans (hfC4.mono fun k e=>HOB.out k e))
         have HOC : Hid (∀ k,v3.ownBlock = some k → base ≤ k):=Lib.hid (fun k e=>by
          rcases hobC4 with h | h
          ·rw [h] at e;exact HOB.out k e
          ·rw [h] at e;cases e;have:=HGC3.out.size;have:=HBASE.out;omega)
         have HON:=Lib.hid hownC4
         clear hownC4 hfC4 hrunC4 hobC4 HEV HO HOB
         refine hK.out _ _ (FACT.out _ HGC4.out) (fun hHC4=>?_)
         clear hK K
         try simp only [lD,lE,lF,Act.put,lG,lH,lI]
         refine wpAnyH_take (i:=12) (oi:=_) (v:=?vpd12) rfl (by kernel_rfl) (by kernel_rfl) (by kernel_rfl) (fun _ _ _ h=>h) (Or.inl ⟨by rfl,?ypd12⟩) (by assumption) ?rpd12
         case ypd12=>intro w1 hSw;have s1:=hSw;go_simp;try with_reducible rfl
         try simp only [lD,lE,lF,Act.put,lG,lH,lI]
         refine wpAnyH_done (by kernel_rfl) ?_ _
         clear FACT
         have HTL : Hid ((xs.take j ++ [id]).length ≤ 20000):=Lib.hid (by rw [List.length_append,HTK.out];have:=HM5.out;have:=HJ.out;simp;omega)
         obtain ⟨v4,wz4,hrun4,hown4,hf4,_⟩:=app_i wC4 B v3 (xs.take j ++ [id]) (xs.drop j) 116 (by have:=HGC4.out.size;have:=HBASE.out;have:=HBB.out;omega) HON.out (if cap = j then some ⟨b3,o3,none⟩ else some ⟨b3,o3 + j,none⟩) (cap - j) (m - j) (by rw [if_neg (by have:=HJC.out;have:=HCAP.out.1;omega)];exact (HX8.out.frN HBASE.out HGC4.out).drop j) (by rw [List.length_drop,HM.out]) (by have:=HTL.out;have:=HM5.out;omega)
         have HOW4:=Lib.hid hown4
         have HF4:=Lib.hid (Fr.above HF8.out (HGC4.out.trans (hf4.mono fun k e=>HOC.out k e)) (fun k hk=>by have:=HF8.out.size;have:=HBASE.out;omega))
         clear hown4 hf4
         go_wp2_with (at_builtin;refine wpList_appRun rfl _ _ _ rfl _ _ _ rfl rfl hrun4 ?_)
         clear hrun4
         go_roundw
         case rel=>exact ⟨i + 1,v4,_,by have:=HI.out;omega,by rw [HW.out];go_num,rfl,HOW4.out,ins_pw HP.out HLOW.out HGE.out,by rw [HNEXT.out];exact (ins_perm xs id j).trans (HQ.out.append_right [id]),HF4.out⟩
         case measure=>(try rw [HW.out]);clear HW;have:=HI.out;simp [intOf];omega
      ·obtain rfl : j = m:=by omega
       have p2 : decide ((j : Int) < j) = false:=decide_eq_false (by omega)
       have p2' : decide (j < j) = false:=decide_eq_false (by omega)
       have HGE : Hid (∀ y,xs[j]? = some y → id ≤ y):=Lib.hid (fun y hy=>by have:=(List.getElem?_eq_some_iff.1 hy).1;have:=HM.out;omega)
       clear hjl
       go_upto_region 7 with (fail)
       go_quiet (fail)
       go_upto_region 9 with (fail)
       have hfd : Fr (fun _=>False) wr ((wr.drewN nq).drew):=⟨rfl,rfl,rfl,Nat.le_refl _,fun _ _ _=>rfl⟩
       have HF8 : Hid (Fr (fun _=>False) W ((wr.drewN nq).drew)):=Lib.hid (HF2.out.trans (HFZ.out.trans hfd))
       have HX8 : Hid (RowI ((wr.drewN nq).drew) ao2 xs):=Lib.hid (HXR.out.fr (HFZ.out.trans hfd) (fun _ _ h=>h))
       refine wp_region_held_drew (S:=fun (w' : World)=>w'.cell? ⟨b,o + i * 7 + 3,none⟩ = some (.int .i64 id)) (by kernel_rfl) (HC3.out _ HF8.out) (fun hHeld=>?_)
       obtain ⟨w8,hw8⟩ : ∃ w,(wr.drewN nq).drew = w:=⟨_,rfl⟩
       rw [hw8] at hHeld HF8 HX8 ⊢
       have FACT : Hid (∀ w',Fr (fun k=>w8.heap.size ≤ k) w8 w' → w'.cell? ⟨b,o + i * 7 + 3,none⟩ = some (.int .i64 id)):=Lib.hid (fun w' hf=>HC3.out _ (Fr.above HF8.out hf (fun k hk=>by have:=HF8.out.size;omega)))
       obtain ⟨base,hbase⟩ : ∃ z,w8.heap.size = z:=⟨_,rfl⟩
       have HBASE:=Lib.hid hbase
       have HBB : Hid (B ≤ base):=Lib.hid (by have:=HF8.out.size;have:=HB.out;omega)
       rw [hbase] at FACT
       have HG8 : Hid (Fr (fun k=>base ≤ k) w8 w8):=Lib.hid (Fr.refl _ _)
       have hjcap : j ≤ cap:=by have:=HCAP.out.1;have:=HJ.out;omega
       have HJC:=Lib.hid hjcap
       have HM5 : Hid (j ≤ 10000):=Lib.hid (by have:=HLEN.out;have:=HN.out;have:=HI.out;omega)
       have HTK : Hid ((xs.take j).length = j):=Lib.hid (by rw [List.length_take,HM.out];exact Nat.min_eq_left HJ.out)
       clear hw8 hfd hbase HFZ
       refine wpAnyH_take (i:=1) (oi:=_) (v:=?vqa1) rfl (by kernel_rfl) (by kernel_rfl) (by kernel_rfl) (fun _ _ _ h=>h) (Or.inl ⟨by rfl,?yqa1⟩) (by assumption) ?rqa1
       case yqa1=>intro w1 hSw;have s1:=hSw;go_simp;try with_reducible rfl
       try simp only [lD,lE,lF,Act.put,lG,lH,lI]
       refine wpAnyH_take (i:=2) (oi:=_) (v:=?vqa2) rfl (by kernel_rfl) (by kernel_rfl) (by kernel_rfl) (fun _ _ _ h=>h) (Or.inl ⟨by rfl,?yqa2⟩) (by assumption) ?rqa2
       case yqa2=>intro w1 hSw;have s1:=hSw;go_simp;try with_reducible rfl
       try simp only [lD,lE,lF,Act.put,lG,lH,lI]
       refine wpAnyH_take (i:=3) (oi:=_) (v:=?vqa3) rfl (by kernel_rfl) (by kernel_rfl) (by kernel_rfl) (fun _ _ _ h=>h) (Or.inl ⟨by rfl,?yqa3⟩) (by assumption) ?rqa3
       case yqa3=>intro w1 hSw;have s1:=hSw;go_simp;try with_reducible rfl
       try simp only [lD,lE,lF,Act.put,lG,lH,lI]
       refine wpAnyH_take (i:=5) (oi:=_) (v:=?vqa5) rfl (by kernel_rfl) (by kernel_rfl) (by kernel_rfl) (fun _ _ _ h=>h) (Or.inl ⟨by rfl,?yqa5⟩) (by assumption) ?rqa5
       case yqa5=>intro w1 hSw;have s1:=hSw;go_simp;try with_reducible rfl
       try simp only [lD,lE,lF,Act.put,lG,lH,lI]
       refine wpAnyH_take (i:=6) (oi:=_) (v:=?vqa6) rfl (by kernel_rfl) (by kernel_rfl) (by kernel_rfl) (fun _ _ _ h=>h) (Or.inl ⟨by rfl,?yqa6⟩) (by assumption) ?rqa6
       case yqa6=>intro w1 hSw;have s1:=hSw;go_simp;try with_reducible rfl
       try simp only [lD,lE,lF,Act.put,lG,lH,lI]
       refine wpAnyH_take (i:=7) (oi:=_) (v:=?vqa7) rfl (by kernel_rfl) (by kernel_rfl) (by kernel_rfl) (fun _ _ _ h=>h) (Or.inl ⟨by rfl,?yqa7⟩) (by assumption) ?rqa7
       case yqa7=>intro w1 hSw;have s1:=hSw;go_simp;try with_reducible rfl
       try simp only [lD,lE,lF,Act.put,lG,lH,lI]
       refine wpAnyH_take (i:=8) (oi:=_) (v:=?vqa8) rfl (by kernel_rfl) (by kernel_rfl) (by kernel_rfl) (fun _ _ _ h=>h) (Or.inl ⟨by rfl,?yqa8⟩) (by assumption) ?rqa8
       case yqa8=>intro w1 hSw;have s1:=hSw;go_simp;try with_reducible rfl
       try simp only [lD,lE,lF,Act.put,lG,lH,lI]
       refine wpAnyH_take (i:=9) (oi:=_) (v:=?vqa9) rfl (by kernel_rfl) (by kernel_rfl) (by kernel_rfl) (fun _ _ _ h=>h) (Or.inl ⟨by rfl,?yqa9⟩) (by assumption) ?rqa9
       case yqa9=>intro w1 hSw;have s1:=hSw;go_simp;try with_reducible rfl
       try simp only [lD,lE,lF,Act.put,lG,lH,lI]
       refine wpAnyH_ready (rs:=[0,10]) (by kernel_rfl) (by simp) ?_
       refine AllReadyH.cons (o:=_) rfl (fun K hK=>?_) (AllReadyH.cons (o:=_) rfl (fun K hK=>?_) AllReadyH.nil)
       ·rw [if_pos (by rfl)]
        try simp only [lD,lE,lF]
        go_simp
        have hleA1 : B ≤ w8.heap.size:=by have:=HG8.out.size;have:=HBASE.out;have:=HBB.out;omega
        have hoA1:=OwnI.empty w8 B hleA1
        have hfA1 : Fr (fun _=>False) w8 (w8.alloc (.cells #[] 3)):=Fr.alloc _ _ _
        have hgeA1 : base ≤ w8.heap.size:=by have:=HG8.out.size;have:=HBASE.out;omega
        obtain ⟨g0,hg0⟩ : ∃ g,w8.heap.size = g:=⟨_,rfl⟩
        obtain ⟨wA1,hwA1⟩ : ∃ w,w8.alloc (.cells #[] 3) = w:=⟨_,rfl⟩
        rw [hwA1] at hoA1 hfA1 ⊢
        rw [hg0] at hoA1 hgeA1 ⊢
        have HG0:=Lib.hid hgeA1
        have HO:=Lib.hid hoA1
        have HGA1 : Hid (Fr (fun k=>base ≤ k) w8 wA1):=Lib.hid (HG8.out.trans (hfA1.mono fun _ e=>e.elim))
        have HFL:=Lib.hid hfA1
        clear hoA1 hfA1 hwA1 hg0 hleA1 hgeA1
        refine hK.out _ _ (FACT.out _ HGA1.out) (fun hHA1=>?_)
        clear hK K
        try simp only [lD,lE,lF,Act.put,lG,lH,lI]
        refine wpAnyH_ready (rs:=[4,10]) (by kernel_rfl) (by simp) ?_
        refine AllReadyH.cons (o:=_) rfl (fun K hK=>?_) (AllReadyH.cons (o:=_) rfl (fun K hK=>?_) AllReadyH.nil)
        ·rw [if_pos (by rfl)]
         try simp only [lD,lE,lF]
         obtain ⟨v2,wA2,hrunA2,hownA2,hfA2,hobA2⟩:=app_i wA1 B (.slice (some ⟨g0,0,none⟩) 0 0) [] (xs.take j) 116 (by have:=HGA1.out.size;have:=HBASE.out;have:=HBB.out;omega) HO.out ao2 cap j ((HX8.out.frN HBASE.out HGA1.out).take j) HTK.out (by have:=HM5.out;have:=HJ.out;simp;omega)
         rw [List.nil_append] at hownA2
         refine wp_append_runI _ _ _ rfl _ _ _ rfl rfl hrunA2 ?_
         have HGA2 : Hid (Fr (fun k=>base ≤ k) w8 wA2):=Lib.hid (HGA1.out.trans (hfA2.mono fun k e=>by cases e;exact HG0.out))
         have HOB : Hid (∀ k,v2.ownBlock = some k → base ≤ k):=Lib.hid (fun k e=>by
          rcases hobA2 with h | h
          ·rw [h] at e;cases e;exact HG0.out
          ·rw [h] at e;cases e;have:=HGA1.out.size;have:=HBASE.out;omega)
         clear HO
         have HO:=Lib.hid hownA2
         clear hownA2 hfA2 hrunA2 hobA2
         refine hK.out _ _ (FACT.out _ HGA2.out) (fun hHA2=>?_)
         clear hK K
         try simp only [lD,lE,lF,Act.put,lG,lH,lI]
         refine wpAnyH_ready (rs:=[10]) (by kernel_rfl) (by simp) ?_
         refine AllReadyH.cons (o:=_) rfl (fun K hK=>?_) AllReadyH.nil
         rw [if_pos (by rfl)]
         try simp only [lD,lE,lF]
         go_simp
         have hbA3:=Blk.new wA2 3 #[.int .i64 id]
         have hfA3 : Fr (fun _=>False) wA2 (wA2.alloc (.cells #[.int .i64 id] 3)):=Fr.alloc _ _ _
         obtain ⟨g1,hg1⟩ : ∃ g,wA2.heap.size = g:=⟨_,rfl⟩
         obtain ⟨wA3,hwA3⟩ : ∃ w,wA2.alloc (.cells #[.int .i64 id] 3) = w:=⟨_,rfl⟩
         rw [hwA3] at hbA3 hfA3 ⊢
         rw [hg1] at hbA3 ⊢
         have HGA3 : Hid (Fr (fun k=>base ≤ k) w8 wA3):=Lib.hid (HGA2.out.trans (hfA3.mono fun _ e=>e.elim))
         have HEA3:=Lib.hid hbA3
         have HOA3:=Lib.hid (HO.out.fr hfA3 (fun _ _ h=>h))
         clear HO
         have HO:=HOA3
         clear HOA3
         clear hbA3 hfA3 hwA3 hg1
         refine hK.out _ _ (FACT.out _ HGA3.out) (fun hHA3=>?_)
         clear hK K
         try simp only [lD,lE,lF,Act.put,lG,lH,lI]
         have HEV:=HEA3
         clear HEA3
         refine wpAnyH_ready (rs:=[11]) (by kernel_rfl) (by simp) ?_
         refine AllReadyH.cons (o:=_) rfl (fun K hK=>?_) AllReadyH.nil
         rw [if_pos (by rfl)]
         try simp only [lD,lE,lF]
         obtain ⟨v3,wA4,hrunA4,hownA4,hfA4,hobA4⟩:=app_i wA3 B v2 (xs.take j) [id] 116 (by have:=HGA3.out.size;have:=HBASE.out;have:=HBB.out;omega) HO.out (some ⟨g1,0,none⟩) 1 1 (rowI1 HEV.out) rfl (by have:=HM5.out;have:=HJ.out;rw [HTK.out];omega)
         refine wp_append_runI _ _ _ rfl _ _ _ rfl rfl hrunA4 ?_
         have HGA4 : Hid (Fr (fun k=>base ≤ k) w8 wA4):=Lib.hid (HGA3.out.trans (hfA4.mono fun k e=>HOB.out k e))
         have HOC : Hid (∀ k,v3.ownBlock = some k → base ≤ k):=Lib.hid (fun k e=>by
          rcases hobA4 with h | h
          ·rw [h] at e;exact HOB.out k e
          ·rw [h] at e;cases e;have:=HGA3.out.size;have:=HBASE.out;omega)
         have HON:=Lib.hid hownA4
         clear hownA4 hfA4 hrunA4 hobA4 HEV HO HOB
         refine hK.out _ _ (FACT.out _ HGA4.out) (fun hHA4=>?_)
         clear hK K
         try simp only [lD,lE,lF,Act.put,lG,lH,lI]
         refine wpAnyH_take (i:=12) (oi:=_) (v:=?vqb12) rfl (by kernel_rfl) (by kernel_rfl) (by kernel_rfl) (fun _ _ _ h=>h) (Or.inl ⟨by rfl,?yqb12⟩) (by assumption) ?rqb12
         case yqb12=>intro w1 hSw;have s1:=hSw;go_simp;try with_reducible rfl
         try simp only [lD,lE,lF,Act.put,lG,lH,lI]
         refine wpAnyH_done (by kernel_rfl) ?_ _
         clear FACT
         have HTL : Hid ((xs.take j ++ [id]).length ≤ 20000):=Lib.hid (by rw [List.length_append,HTK.out];have:=HM5.out;have:=HJ.out;simp;omega)
         obtain ⟨v4,wz4,hrun4,hown4,hf4,_⟩:=app_i wA4 B v3 (xs.take j ++ [id]) (xs.drop j) 116 (by have:=HGA4.out.size;have:=HBASE.out;have:=HBB.out;omega) HON.out (if cap = j then ao2 else Option.map (fun x=>x.add j) ao2) (cap - j) 0 (.inl (List.drop_eq_nil_of_le (by have:=HM.out;omega))) (by rw [List.length_drop,HM.out];omega) (by have:=HTL.out;have:=HM5.out;omega)
         have HOW4:=Lib.hid hown4
         have HF4:=Lib.hid (Fr.above HF8.out (HGA4.out.trans (hf4.mono fun k e=>HOC.out k e)) (fun k hk=>by have:=HF8.out.size;have:=HBASE.out;omega))
         clear hown4 hf4
         go_wp2_with (at_builtin;refine wpList_appRun rfl _ _ _ rfl _ _ _ rfl rfl hrun4 ?_)
         clear hrun4
         go_roundw
         case rel=>exact ⟨i + 1,v4,_,by have:=HI.out;omega,by rw [HW.out];go_num,rfl,HOW4.out,ins_pw HP.out HLOW.out HGE.out,by rw [HNEXT.out];exact (ins_perm xs id j).trans (HQ.out.append_right [id]),HF4.out⟩
         case measure=>(try rw [HW.out]);clear HW;have:=HI.out;simp [intOf];omega
        ·rw [if_pos (by rfl)]
         try simp only [lD,lE,lF]
         go_simp
         have hbB2:=Blk.new wA1 3 #[.int .i64 id]
         have hfB2 : Fr (fun _=>False) wA1 (wA1.alloc (.cells #[.int .i64 id] 3)):=Fr.alloc _ _ _
         obtain ⟨g1,hg1⟩ : ∃ g,wA1.heap.size = g:=⟨_,rfl⟩
         have HNE : Hid (g1 ≠ g0):=Lib.hid (fun e=>by have h1:=HO.out.lt (k:=g0) rfl;omega)
         obtain ⟨wB2,hwB2⟩ : ∃ w,wA1.alloc (.cells #[.int .i64 id] 3) = w:=⟨_,rfl⟩
         rw [hwB2] at hbB2 hfB2 ⊢
         rw [hg1] at hbB2 ⊢
         have HGB2 : Hid (Fr (fun k=>base ≤ k) w8 wB2):=Lib.hid (HGA1.out.trans (hfB2.mono fun _ e=>e.elim))
         have HEB2:=Lib.hid hbB2
         have HOB2:=Lib.hid (HO.out.fr hfB2 (fun _ _ h=>h))
         clear HO
         have HO:=HOB2
         clear HOB2
         clear hbB2 hfB2 hwB2 hg1
         refine hK.out _ _ (FACT.out _ HGB2.out) (fun hHB2=>?_)
         clear hK K
         try simp only [lD,lE,lF,Act.put,lG,lH,lI]
         refine wpAnyH_ready (rs:=[4]) (by kernel_rfl) (by simp) ?_
         refine AllReadyH.cons (o:=_) rfl (fun K hK=>?_) AllReadyH.nil
         rw [if_pos (by rfl)]
         try simp only [lD,lE,lF]
         obtain ⟨v2,wB3,hrunB3,hownB3,hfB3,hobB3⟩:=app_i wB2 B (.slice (some ⟨g0,0,none⟩) 0 0) [] (xs.take j) 116 (by have:=HGB2.out.size;have:=HBASE.out;have:=HBB.out;omega) HO.out ao2 cap j ((HX8.out.frN HBASE.out HGB2.out).take j) HTK.out (by have:=HM5.out;have:=HJ.out;simp;omega)
         rw [List.nil_append] at hownB3
         refine wp_append_runI _ _ _ rfl _ _ _ rfl rfl hrunB3 ?_
         have HGB3 : Hid (Fr (fun k=>base ≤ k) w8 wB3):=Lib.hid (HGB2.out.trans (hfB3.mono fun k e=>by cases e;exact HG0.out))
         have HOB : Hid (∀ k,v2.ownBlock = some k → base ≤ k):=Lib.hid (fun k e=>by
          rcases hobB3 with h | h
          ·rw [h] at e;cases e;exact HG0.out
          ·rw [h] at e;cases e;have:=HGB2.out.size;have:=HBASE.out;omega)
         have HEV:=Lib.hid (HEB2.out.fr hfB3 (fun e=>HNE.out (Option.some.inj e).symm))
         clear HEB2
         clear HO
         have HO:=Lib.hid hownB3
         clear hownB3 hfB3 hrunB3 hobB3
         refine hK.out _ _ (FACT.out _ HGB3.out) (fun hHB3=>?_)
         clear hK K
         try simp only [lD,lE,lF,Act.put,lG,lH,lI]
         refine wpAnyH_ready (rs:=[11]) (by kernel_rfl) (by simp) ?_
         refine AllReadyH.cons (o:=_) rfl (fun K hK=>?_) AllReadyH.nil
         rw [if_pos (by rfl)]
         try simp only [lD,lE,lF]
         obtain ⟨v3,wB4,hrunB4,hownB4,hfB4,hobB4⟩:=app_i wB3 B v2 (xs.take j) [id] 116 (by have:=HGB3.out.size;have:=HBASE.out;have:=HBB.out;omega) HO.out (some ⟨g1,0,none⟩) 1 1 (rowI1 HEV.out) rfl (by have:=HM5.out;have:=HJ.out;rw [HTK.out];omega)
         refine wp_append_runI _ _ _ rfl _ _ _ rfl rfl hrunB4 ?_
         have HGB4 : Hid (Fr (fun k=>base ≤ k) w8 wB4):=Lib.hid (HGB3.out.trans (hfB4.mono fun k e=>HOB.out k e))
         have HOC : Hid (∀ k,v3.ownBlock = some k → base ≤ k):=Lib.hid (fun k e=>by
          rcases hobB4 with h | h
          ·rw [h] at e;exact HOB.out k e
          ·rw [h] at e;cases e;have:=HGB3.out.size;have:=HBASE.out;omega)
         have HON:=Lib.hid hownB4
         clear hownB4 hfB4 hrunB4 hobB4 HEV HO HOB
         refine hK.out _ _ (FACT.out _ HGB4.out) (fun hHB4=>?_)
         clear hK K
         try simp only [lD,lE,lF,Act.put,lG,lH,lI]
         refine wpAnyH_take (i:=12) (oi:=_) (v:=?vqc12) rfl (by kernel_rfl) (by kernel_rfl) (by kernel_rfl) (fun _ _ _ h=>h) (Or.inl ⟨by rfl,?yqc12⟩) (by assumption) ?rqc12
         case yqc12=>intro w1 hSw;have s1:=hSw;go_simp;try with_reducible rfl
         try simp only [lD,lE,lF,Act.put,lG,lH,lI]
         refine wpAnyH_done (by kernel_rfl) ?_ _
         clear FACT
         have HTL : Hid ((xs.take j ++ [id]).length ≤ 20000):=Lib.hid (by rw [List.length_append,HTK.out];have:=HM5.out;have:=HJ.out;simp;omega)
         obtain ⟨v4,wz4,hrun4,hown4,hf4,_⟩:=app_i wB4 B v3 (xs.take j ++ [id]) (xs.drop j) 116 (by have:=HGB4.out.size;have:=HBASE.out;have:=HBB.out;omega) HON.out (if cap = j then ao2 else Option.map (fun x=>x.add j) ao2) (cap - j) 0 (.inl (List.drop_eq_nil_of_le (by have:=HM.out;omega))) (by rw [List.length_drop,HM.out];omega) (by have:=HTL.out;have:=HM5.out;omega)
         have HOW4:=Lib.hid hown4
         have HF4:=Lib.hid (Fr.above HF8.out (HGB4.out.trans (hf4.mono fun k e=>HOC.out k e)) (fun k hk=>by have:=HF8.out.size;have:=HBASE.out;omega))
         clear hown4 hf4
         go_wp2_with (at_builtin;refine wpList_appRun rfl _ _ _ rfl _ _ _ rfl rfl hrun4 ?_)
         clear hrun4
         go_roundw
         case rel=>exact ⟨i + 1,v4,_,by have:=HI.out;omega,by rw [HW.out];go_num,rfl,HOW4.out,ins_pw HP.out HLOW.out HGE.out,by rw [HNEXT.out];exact (ins_perm xs id j).trans (HQ.out.append_right [id]),HF4.out⟩
         case measure=>(try rw [HW.out]);clear HW;have:=HI.out;simp [intOf];omega
       ·rw [if_pos (by rfl)]
        try simp only [lD,lE,lF]
        go_simp
        have hbC1:=Blk.new w8 3 #[.int .i64 id]
        have hfC1 : Fr (fun _=>False) w8 (w8.alloc (.cells #[.int .i64 id] 3)):=Fr.alloc _ _ _
        obtain ⟨g1,hg1⟩ : ∃ g,w8.heap.size = g:=⟨_,rfl⟩
        obtain ⟨wC1,hwC1⟩ : ∃ w,w8.alloc (.cells #[.int .i64 id] 3) = w:=⟨_,rfl⟩
        rw [hwC1] at hbC1 hfC1 ⊢
        rw [hg1] at hbC1 ⊢
        have HGC1 : Hid (Fr (fun k=>base ≤ k) w8 wC1):=Lib.hid (HG8.out.trans (hfC1.mono fun _ e=>e.elim))
        have HEC1:=Lib.hid hbC1
        clear hbC1 hfC1 hwC1 hg1
        refine hK.out _ _ (FACT.out _ HGC1.out) (fun hHC1=>?_)
        clear hK K
        try simp only [lD,lE,lF,Act.put,lG,lH,lI]
        refine wpAnyH_ready (rs:=[0]) (by kernel_rfl) (by simp) ?_
        refine AllReadyH.cons (o:=_) rfl (fun K hK=>?_) AllReadyH.nil
        rw [if_pos (by rfl)]
        try simp only [lD,lE,lF]
        go_simp
        have hleC2 : B ≤ wC1.heap.size:=by have:=HGC1.out.size;have:=HBASE.out;have:=HBB.out;omega
        have hoC2:=OwnI.empty wC1 B hleC2
        have hfC2 : Fr (fun _=>False) wC1 (wC1.alloc (.cells #[] 3)):=Fr.alloc _ _ _
        have hgeC2 : base ≤ wC1.heap.size:=by have:=HGC1.out.size;have:=HBASE.out;omega
        obtain ⟨g0,hg0⟩ : ∃ g,wC1.heap.size = g:=⟨_,rfl⟩
        obtain ⟨wC2,hwC2⟩ : ∃ w,wC1.alloc (.cells #[] 3) = w:=⟨_,rfl⟩
        rw [hwC2] at hoC2 hfC2 ⊢
        rw [hg0] at hoC2 hgeC2 ⊢
        have HG0:=Lib.hid hgeC2
        have HO:=Lib.hid hoC2
        have HGC2 : Hid (Fr (fun k=>base ≤ k) w8 wC2):=Lib.hid (HGC1.out.trans (hfC2.mono fun _ e=>e.elim))
        have HFL:=Lib.hid hfC2
        have HNE : Hid (g1 ≠ g0):=Lib.hid (fun e=>by have h1:=HEC1.out.lt;omega)
        have HEC2:=Lib.hid (HEC1.out.fr HFL.out (fun e=>e))
        clear HEC1
        clear hoC2 hfC2 hwC2 hg0 hleC2 hgeC2
        refine hK.out _ _ (FACT.out _ HGC2.out) (fun hHC2=>?_)
        clear hK K
        try simp only [lD,lE,lF,Act.put,lG,lH,lI]
        refine wpAnyH_ready (rs:=[4]) (by kernel_rfl) (by simp) ?_
        refine AllReadyH.cons (o:=_) rfl (fun K hK=>?_) AllReadyH.nil
        rw [if_pos (by rfl)]
        try simp only [lD,lE,lF]
        obtain ⟨v2,wC3,hrunC3,hownC3,hfC3,hobC3⟩:=app_i wC2 B (.slice (some ⟨g0,0,none⟩) 0 0) [] (xs.take j) 116 (by have:=HGC2.out.size;have:=HBASE.out;have:=HBB.out;omega) HO.out ao2 cap j ((HX8.out.frN HBASE.out HGC2.out).take j) HTK.out (by have:=HM5.out;have:=HJ.out;simp;omega)
        rw [List.nil_append] at hownC3
        refine wp_append_runI _ _ _ rfl _ _ _ rfl rfl hrunC3 ?_
        have HGC3 : Hid (Fr (fun k=>base ≤ k) w8 wC3):=Lib.hid (HGC2.out.trans (hfC3.mono fun k e=>by cases e;exact HG0.out))
        have HOB : Hid (∀ k,v2.ownBlock = some k → base ≤ k):=Lib.hid (fun k e=>by
         rcases hobC3 with h | h
         ·rw [h] at e;cases e;exact HG0.out
         ·rw [h] at e;cases e;have:=HGC2.out.size;have:=HBASE.out;omega)
        have HEV:=Lib.hid (HEC2.out.fr hfC3 (fun e=>HNE.out (Option.some.inj e).symm))
        clear HEC2
        clear HO
        have HO:=Lib.hid hownC3
        clear hownC3 hfC3 hrunC3 hobC3
        refine hK.out _ _ (FACT.out _ HGC3.out) (fun hHC3=>?_)
        clear hK K
        try simp only [lD,lE,lF,Act.put,lG,lH,lI]
        refine wpAnyH_ready (rs:=[11]) (by kernel_rfl) (by simp) ?_
        refine AllReadyH.cons (o:=_) rfl (fun K hK=>?_) AllReadyH.nil
        rw [if_pos (by rfl)]
        try simp only [lD,lE,lF]
        obtain ⟨v3,wC4,hrunC4,hownC4,hfC4,hobC4⟩:=app_i wC3 B v2 (xs.take j) [id] 116 (by have:=HGC3.out.size;have:=HBASE.out;have:=HBB.out;omega) HO.out (some ⟨g1,0,none⟩) 1 1 (rowI1 HEV.out) rfl (by have:=HM5.out;have:=HJ.out;rw [HTK.out];omega)
        refine wp_append_runI _ _ _ rfl _ _ _ rfl rfl hrunC4 ?_
        have HGC4 : Hid (Fr (fun k=>base ≤ k) w8 wC4):=Lib.hid (HGC3.out.trans (hfC4.mono fun k e=>HOB.out k e))
        have HOC : Hid (∀ k,v3.ownBlock = some k → base ≤ k):=Lib.hid (fun k e=>by
         rcases hobC4 with h | h
         ·rw [h] at e;exact HOB.out k e
         ·rw [h] at e;cases e;have:=HGC3.out.size;have:=HBASE.out;omega)
        have HON:=Lib.hid hownC4
        clear hownC4 hfC4 hrunC4 hobC4 HEV HO HOB
        refine hK.out _ _ (FACT.out _ HGC4.out) (fun hHC4=>?_)
        clear hK K
        try simp only [lD,lE,lF,Act.put,lG,lH,lI]
        refine wpAnyH_take (i:=12) (oi:=_) (v:=?vqd12) rfl (by kernel_rfl) (by kernel_rfl) (by kernel_rfl) (fun _ _ _ h=>h) (Or.inl ⟨by rfl,?yqd12⟩) (by assumption) ?rqd12
        case yqd12=>intro w1 hSw;have s1:=hSw;go_simp;try with_reducible rfl
        try simp only [lD,lE,lF,Act.put,lG,lH,lI]
        refine wpAnyH_done (by kernel_rfl) ?_ _
        clear FACT
        have HTL : Hid ((xs.take j ++ [id]).length ≤ 20000):=Lib.hid (by rw [List.length_append,HTK.out];have:=HM5.out;have:=HJ.out;simp;omega)
        obtain ⟨v4,wz4,hrun4,hown4,hf4,_⟩:=app_i wC4 B v3 (xs.take j ++ [id]) (xs.drop j) 116 (by have:=HGC4.out.size;have:=HBASE.out;have:=HBB.out;omega) HON.out (if cap = j then ao2 else Option.map (fun x=>x.add j) ao2) (cap - j) 0 (.inl (List.drop_eq_nil_of_le (by have:=HM.out;omega))) (by rw [List.length_drop,HM.out];omega) (by have:=HTL.out;have:=HM5.out;omega)
        have HOW4:=Lib.hid hown4
        have HF4:=Lib.hid (Fr.above HF8.out (HGC4.out.trans (hf4.mono fun k e=>HOC.out k e)) (fun k hk=>by have:=HF8.out.size;have:=HBASE.out;omega))
        clear hown4 hf4
        go_wp2_with (at_builtin;refine wpList_appRun rfl _ _ _ rfl _ _ _ rfl rfl hrun4 ?_)
        clear hrun4
        go_roundw
        case rel=>exact ⟨i + 1,v4,_,by have:=HI.out;omega,by rw [HW.out];go_num,rfl,HOW4.out,ins_pw HP.out HLOW.out HGE.out,by rw [HNEXT.out];exact (ins_perm xs id j).trans (HQ.out.append_right [id]),HF4.out⟩
        case measure=>(try rw [HW.out]);clear HW;have:=HI.out;simp [intOf];omega
  ·obtain rfl : i = n:=by omega
   have p0 : decide ((i : Int) < i) = false:=decide_eq_false (by omega)
   have p0' : decide (i < i) = false:=decide_eq_false (by omega)
   go_wp2
   go_ret
   exact ⟨_,xs,rfl,HO.out,HP.out,HQ.out,HF.out⟩
end Go.Proofs.YtnkelaohcbdjnaaGreat.Ev
