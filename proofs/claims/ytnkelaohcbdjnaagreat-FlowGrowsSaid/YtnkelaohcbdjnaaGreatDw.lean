/- Decisions in memory,and what bad looks at. -/
import Derived.Test.YtnkelaohcbdjnaaGreatTk
import Derived.Test.YtnkelaohcbdjnaaGreatQx
import Derived.Maps.RangeWalk
import Derived.Sort.MapsRangeIn
import Derived.Deep.RegionHeld3
import Derived.Deep.Cut
import Derived.Deep.DeepCutAuto
set_option linter.unusedVariables false
set_option linter.unusedSimpArgs false
namespace Go.Proofs.YtnkelaohcbdjnaaGreat
open Go.RowKit Go.Maps
theorem ranges_fr {S : Nat → Prop} {w w' : World} {P : Program} {k : TypeId} {R : Value → Option (DataW Value × List MemPlace)} {b r n : Nat} {D : DataW Value} {left : Lit → Bool} {cnt : Nat} (h : w.ranges P k R b r n D left cnt) (hf : Fr S w w') (hb : ¬ S b) (hr : ¬ S r) : w'.ranges P k R b r n D left cnt:=by
 obtain ⟨es,clock,since,seen,c0,h1,h2,h3,h4,h5,h6⟩:=h
 exact ⟨es,clock,since,seen,c0,(hf.block b (Array.getElem?_eq_some_iff.1 h1).1 hb).trans h1,h2,h3,h4,(hf.block r (Array.getElem?_eq_some_iff.1 h5).1 hr).trans h5,h6⟩
theorem ranges_le {w : World} {P : Program} {k : TypeId} {R : Value → Option (DataW Value × List MemPlace)} {b r n : Nat} {D : DataW Value} {left : Lit → Bool} {cnt : Nat} (h : w.ranges P k R b r n D left cnt) : cnt ≤ n:=by
 obtain ⟨es,clock,since,seen,c0,h1,h2,h3,h4,h5,h6,h7,h8⟩:=h
 rw [← h7]
 refine Nat.le_trans ?_ h3
 unfold leftOf
 exact Array.size_filter_le
/-- a decision -/
structure Dv where
 k : Int
 i : Int
 l : Int
 n : Int
 d : List Value
def dvc (x : Dv) (v : Value) : List Value:=[.int .i64 x.k,.int .i64 x.i,.int .i64 x.l,.int .i64 x.n,v]
/-- a row of decisions,in no block of S -/
def RowD (S : Nat → Prop) (W : World) (ao : Option Addr) (l : List Dv) : Prop:=
 l = [] ∨ ∃ b o,ao = some ⟨b,o,none⟩ ∧ b < W.heap.size ∧ ¬ S b ∧ ∀ (i : Nat) (x : Dv),l[i]? = some x → ∃ va vc,RowB S W (.slice va x.d.length vc) x.d ∧ ∀ (j : Nat) (u : Value),(dvc x (.slice va x.d.length vc))[j]? = some u → W.cell? ⟨b,o + i * 5 + j,none⟩ = some u
theorem RowD.fr {S S0 : Nat → Prop} {W W' : World} {ao : Option Addr} {l : List Dv} (h : RowD S W ao l) (hf : Fr S0 W W') (h0 : ∀ k,S0 k → S k) : RowD S W' ao l:=by
 rcases h with h | ⟨b,o,h1,h2,h3,h4⟩
 ·exact .inl h
 ·refine .inr ⟨b,o,h1,Nat.lt_of_lt_of_le h2 hf.size,h3,fun i x hx=>?_⟩
  obtain ⟨va,vc,h5,h6⟩:=h4 i x hx
  exact ⟨va,vc,h5.fr (hf.mono h0),fun j u hj=>(World.cell?_of_block (hf.block b h2 (fun e=>h3 (h0 b e)))).trans (h6 j u hj)⟩
theorem RowD.to {S S' : Nat → Prop} {W : World} {ao : Option Addr} {l : List Dv} (h : RowD S W ao l) (hs : ∀ k,k < W.heap.size → S' k → S k) : RowD S' W ao l:=by
 rcases h with h | ⟨b,o,h1,h2,h3,h4⟩
 ·exact .inl h
 ·refine .inr ⟨b,o,h1,h2,fun e=>h3 (hs b h2 e),fun i x hx=>?_⟩
  obtain ⟨va,vc,h5,h6⟩:=h4 i x hx
  exact ⟨va,vc,h5.to hs,h6⟩
theorem RowD.at_ {S : Nat → Prop} {W : World} {ao : Option Addr} {l : List Dv} (h : RowD S W ao l) {i : Nat} {x : Dv} (hx : l[i]? = some x) : ∃ b o va vc,ao = some ⟨b,o,none⟩ ∧ RowB S W (.slice va x.d.length vc) x.d ∧ ∀ w',Fr (fun _=>False) W w' → ∀ (j : Nat) (u : Value),(dvc x (.slice va x.d.length vc))[j]? = some u → w'.cell? ⟨b,o + i * 5 + j,none⟩ = some u:=by
 rcases h with h | ⟨b,o,h1,h2,h3,h4⟩
 ·rw [h] at hx;simp at hx
 ·obtain ⟨va,vc,h5,h6⟩:=h4 i x hx
  exact ⟨b,o,va,vc,h1,h5,fun w' hf j u hj=>(World.cell?_of_block (hf.block b h2 id)).trans (h6 j u hj)⟩
def mayD (x : Dv) : Bool:=mayB x.k x.i x.l x.n x.d.length
theorem wrap_i64' (x : Int) : IntKind.i64.wrap x = wrap64 x:=by
 rw [wrap64]
 simp [IntKind.wrap,IntKind.bits,IntKind.signed]
 split <;> omega
theorem mayD_id {x : Dv} (h : mayD x = true) : 0 ≤ x.i ∧ x.i ≤ 1048576:=by
 unfold mayD mayB at h
 have key : ∀ a b c d,mayF a b c d x.i x.l x.n x.d.length = true → 0 ≤ x.i ∧ x.i ≤ 1048576:=fun a b c d hm=>by
  unfold mayF at hm
  split at hm
  ·cases hm
  ·rw [Bool.and_eq_true] at hm
   have:=hm.1
   simp only [fnum,Bool.and_eq_true,decide_eq_true_eq] at this
   exact this
 repeat' (split at h)
 all_goals first
  | exact key _ _ _ _ h
  | cases h
/-- what is wrong with one decision -/
def wrongD (id : Int) (asked : Bool) (M : Int × Int → Bool) (x : Dv) (more : Bool) : Bool:=
 !mayD x || (decide (5 ≤ x.k) && more || (!(takeM M x.k x.i).2 || (x.k == 4 && x.i == id || x.k == 7 && !asked)))
/-- may decisions not be? -/
def badL (id : Int) (asked : Bool) : (Int × Int → Bool) → List Dv → Bool
 | _,[]=>false
 | M,x :: l=>wrongD id asked M x (!l.isEmpty) || badL id asked (takeM M x.k x.i).1 l
/-- what is open,by kind and Id -/
noncomputable def openM (s : FSt) : Int × Int → Bool:=fun y=>@decide (∃ x w,s.mp x = some (opv y.1 y.2 w)) (Classical.propDecidable _)
theorem openM_iff (s : FSt) (y : Int × Int) : openM s y = true ↔ ∃ x w,s.mp x = some (opv y.1 y.2 w):=by
 unfold openM
 exact @decide_eq_true_iff _ (Classical.propDecidable _)
noncomputable def badS (s : FSt) (l : List Dv) : Bool:=decide (32 < l.length) || badL s.id s.asked (openM s) l
theorem gfr {S : Nat → Prop} {W w5 w7 : World} {g : Nat} (h5 : Fr (fun _=>False) W w5) (h7 : Fr (fun e=>e = g) w5 w7) (hg : W.heap.size ≤ g) : Fr S W w7:=
 ⟨h7.os.trans h5.os,h7.tape.trans h5.tape,h7.output.trans h5.output,Nat.le_trans h5.size h7.size,fun k hk hn=>(h7.block k (Nat.lt_of_lt_of_le hk h5.size) (by omega)).trans (h5.block k hk id)⟩
/-- the places still to come keep the rest;what came is in the set -/
def Seen (s : FSt) (left : Lit → Bool) (M : Int × Int → Bool) : Prop:=(∀ x k i w,s.mp x = some (opv k i w) → left (.int .i64 x) = false → M (k,i) = true) ∧ ∀ y,M y = true → ∃ x w,s.mp x = some (opv y.1 y.2 w)
end Go.Proofs.YtnkelaohcbdjnaaGreat
