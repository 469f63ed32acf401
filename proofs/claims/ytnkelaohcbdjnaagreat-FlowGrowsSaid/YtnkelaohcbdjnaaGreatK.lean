/- Kept worlds,whole blocks,byte rows. -/
import Derived.Test.YtnkelaohcbdjnaaGreatM
import Derived.Test.YtnkelaohcbdjnaaGreatChecked
import Derived.DeepKeys5
import Derived.ArgAppend
import Derived.RowKit2
import Derived.OwnWalk
import Derived.Maps.AppendAt
import Derived.WalkSpells
import Derived.Deep.QuietTactic
import Derived.BigQuiet
import Derived.LoopTactic
set_option linter.unusedVariables false
set_option linter.unusedSimpArgs false
namespace Go.Proofs.YtnkelaohcbdjnaaGreat
open Go.RowKit Go.Maps
/-- all blocks but those of S are as they were -/
structure Fr (S : Nat → Prop) (w w' : World) : Prop where
 os : w'.os = w.os
 tape : w'.tape = w.tape
 output : w'.output = w.output
 size : w.heap.size ≤ w'.heap.size
 block : ∀ k,k < w.heap.size → ¬ S k → w'.heap[k]? = w.heap[k]?
theorem Fr.refl (S : Nat → Prop) (w : World) : Fr S w w:=⟨rfl,rfl,rfl,Nat.le_refl _,fun _ _ _=>rfl⟩
theorem Fr.trans {S : Nat → Prop} {a b c : World} (h : Fr S a b) (k : Fr S b c) : Fr S a c:=
 ⟨k.os.trans h.os,k.tape.trans h.tape,k.output.trans h.output,Nat.le_trans h.size k.size,fun i hi hs=>(k.block i (Nat.lt_of_lt_of_le hi h.size) hs).trans (h.block i hi hs)⟩
theorem Fr.mono {S S' : Nat → Prop} {w w' : World} (h : Fr S w w') (hs : ∀ k,S k → S' k) : Fr S' w w':=⟨h.os,h.tape,h.output,h.size,fun k hk hn=>h.block k hk (fun e=>hn (hs k e))⟩
theorem Fr.grown {S : Nat → Prop} {w w' : World} {row : Option Nat} (hg : w.grownBy w' row) (hr : ∀ k,row = some k → S k) : Fr S w w':=
 ⟨hg.os,hg.tape,hg.output,hg.size,fun k hk hn=>hg.block k hk (fun e=>hn (hr k e.symm))⟩
theorem Fr.drewN (S : Nat → Prop) (w : World) (n : Nat) : Fr S w (w.drewN n):=⟨rfl,rfl,rfl,Nat.le_refl _,fun _ _ _=>rfl⟩
theorem Fr.alloc (S : Nat → Prop) (w : World) (o : Obj) : Fr S w (w.alloc o):=.grown (World.grownBy_alloc w o none) (fun k e=>nomatch e)
theorem Fr.below {S : Nat → Prop} {w w' : World} {B : Nat} (h : Fr S w w') (hB : B ≤ w.heap.size) (hs : ∀ k,S k → B ≤ k) : Below B w w':=
 ⟨h.os,h.tape,h.output,h.size,fun k hk=>h.block k (by omega) (fun e=>by have:=hs k e;omega)⟩
/-- a whole block -/
def Blk (W : World) (B : Nat) (t : TypeId) (cs : Array Value) : Prop:=W.heap[B]? = some (.cells cs t (0,0))
theorem Blk.lt {W : World} {B : Nat} {t : TypeId} {cs : Array Value} (h : Blk W B t cs) : B < W.heap.size:=(Array.getElem?_eq_some_iff.1 h).1
theorem Blk.fr {S : Nat → Prop} {W W' : World} {B : Nat} {t : TypeId} {cs : Array Value} (h : Blk W B t cs) (hg : Fr S W W') (hne : ¬ S B) : Blk W' B t cs:=(hg.block B h.lt hne).trans h
theorem Blk.alloc {W : World} {B : Nat} {t : TypeId} {cs : Array Value} (h : Blk W B t cs) (o : Obj) : Blk (W.alloc o) B t cs:=h.fr (S:=fun _=>False) (Fr.alloc _ W o) id
theorem Blk.new (W : World) (t : TypeId) (cs : Array Value) : Blk (W.alloc (.cells cs t)) W.heap.size t cs:=World.alloc_heap_new W _
theorem Blk.cell {W : World} {B : Nat} {t : TypeId} {cs : Array Value} (h : Blk W B t cs) (o : Nat) : W.cell? ⟨B,o,none⟩ = cs[o]?:=by simp [World.cell?,show W.heap[B]? = _ from h]
theorem Blk.frozen {W : World} {B : Nat} {t : TypeId} {cs : Array Value} (h : Blk W B t cs) (o : Nat) : W.frozen? ⟨B,o,none⟩ = false:=by simp [World.frozen?,show W.heap[B]? = _ from h]
theorem off_add (b off k : Nat) : (⟨b,off,none⟩ : Addr).add k = ⟨b,off + k,none⟩:=by
 unfold Addr.add
 by_cases h : k = 0 <;> simp [h]
theorem add_block (a : Addr) (k : Nat) : (a.add k).block = a.block:=by
 unfold Addr.add
 by_cases h : k = 0 <;> simp [h]
theorem lt_of_cell {W : World} {a : Addr} {v : Value} (h : W.cell? a = some v) : a.block < W.heap.size:=by
 apply Classical.byContradiction
 intro hn
 have : W.heap[a.block]? = none:=Array.getElem?_eq_none (by omega)
 simp [World.cell?,this] at h
theorem Mp.fr {P : Program} {k : TypeId} {κ : Type} [DecidableEq κ] {E : KE P k κ} {S : Nat → Prop} {W W' : World} {b c : Nat} {F : κ → Option Value} (h : Mp E W b c F) (hg : Fr S W W') (hne : ¬ S b) : Mp E W' b c F:=by
 obtain ⟨D,⟨es,clock,hb,r⟩,s⟩:=h
 exact ⟨D,⟨es,clock,(hg.block b (Array.getElem?_eq_some_iff.1 hb).1 hne).trans hb,r⟩,s⟩
/-- A SLICE OF BYTES THAT SHOWS l,in no block of S -/
def RowB (S : Nat → Prop) (W : World) (v : Value) (l : List Value) : Prop:=
 ∃ ao cap,v = .slice ao l.length cap ∧ l.length ≤ cap ∧ cap ≤ maxLen ∧ (ao = none → cap = 0) ∧ ∀ a,ao = some a → (l ≠ [] → ¬ S a.block) ∧ ∀ j u,l[j]? = some u → W.cell? (a.add j) = some u
theorem RowB.fr {S : Nat → Prop} {W W' : World} {v : Value} {l : List Value} (h : RowB S W v l) (hg : Fr S W W') : RowB S W' v l:=by
 obtain ⟨ao,cap,rfl,h1,h2,h3,h4⟩:=h
 refine ⟨ao,cap,rfl,h1,h2,h3,fun a ha=>⟨(h4 a ha).1,fun j u hj=>?_⟩⟩
 have:=(h4 a ha).2 j u hj
 have hb:=hg.block (a.add j).block (lt_of_cell this) (by rw [add_block];exact (h4 a ha).1 (fun e=>by rw [e] at hj;simp at hj))
 rw [← this]
 exact World.cell?_of_block hb
theorem RowB.nil (S : Nat → Prop) (W : World) : RowB S W (.slice none 0 0) []:=⟨none,0,rfl,Nat.le_refl _,by decide,fun _=>rfl,fun a h=>nomatch h⟩
theorem RowB.to {S S' : Nat → Prop} {W : World} {v : Value} {l : List Value} (h : RowB S W v l) (hs : ∀ k,k < W.heap.size → S' k → S k) : RowB S' W v l:=by
 obtain ⟨ao,cap,rfl,h1,h2,h3,h4⟩:=h
 refine ⟨ao,cap,rfl,h1,h2,h3,fun a ha=>⟨fun hl e=>?_,(h4 a ha).2⟩⟩
 obtain ⟨u,hu⟩ : ∃ u,l[0]? = some u:=by cases l with | nil=>exact absurd rfl hl | cons u l=>exact ⟨u,rfl⟩
 have:=lt_of_cell ((h4 a ha).2 0 u hu)
 rw [add_block] at this
 exact (h4 a ha).1 hl (hs _ this e)
theorem under3 : Tryz.prog.underlying 3 = some (.int .i64):=Tryz.underlying3
noncomputable def iKE : KE Tryz.prog 3 Int:=intKE Tryz.prog 3 under3
theorem Blk.set {W : World} {B : Nat} {t : TypeId} {cs : Array Value} (k : Nat) (v : Value) (h : Blk W B t cs) : Blk (W.setCell ⟨B,k,none⟩ v) B t (cs.setIfInBounds k v):=by
 obtain ⟨hlt,hk⟩:=Array.getElem?_eq_some_iff.1 h
 show (W.heap.modify B _)[B]? = _
 rw [Array.getElem?_eq_getElem (by rw [Array.size_modify];exact hlt),Array.getElem_modify_self,hk]
 rfl
theorem Fr.setCell {S : Nat → Prop} (w : World) (a : Addr) (v : Value) (h : S a.block) : Fr S w (w.setCell a v):=
 ⟨rfl,rfl,rfl,Nat.le_of_eq (by simp [World.setCell]),fun k hk hn=>Below.heap_setCell _ _ _ k (fun e=>hn (by rw [e];exact h))⟩
end Go.Proofs.YtnkelaohcbdjnaaGreat
