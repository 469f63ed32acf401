/- Clones,what may be. -/
import Derived.Test.YtnkelaohcbdjnaaGreatK
import Derived.Shelf.SlMaps.Clone
set_option linter.unusedVariables false
set_option linter.unusedSimpArgs false
namespace Go.Proofs.YtnkelaohcbdjnaaGreat
open Go.RowKit Go.Maps
theorem infoE : (Tryz.prog.info? 5).map (fun i=>(i.zero,i.size,i.bytes)) = some (some (.int .u8 0),1,1):=by kernel_rfl
set_option maxRecDepth 100000 in
/-- a copy -/
theorem clone_any (S S' : Nat → Prop) (W : World) (v : Value) (l : List Value) (h : RowB S W v l) (hle : l.length ≤ 1000000) (hone : ∀ u ∈ l,u.oneCell' = true) (hS : ∀ k,S' k → k < W.heap.size) :
 Calls Tryz.prog 28 #[v] W fun e W'=>∃ v',e = .returned v' ∧ RowB S' W' v' l ∧ Fr (fun _=>False) W W':=by
 obtain ⟨ao,cap,rfl,h1,h2,h3,h4⟩:=h
 have hnil:=fun W=>Lib.run_eql_slice_nil (P:=Tryz.prog) W 36 5 ao l.length cap 0 0 Tryz.underlying36
 cases ao with
 | none=>
   obtain rfl:=h3 rfl
   have hl : l = []:=List.eq_nil_of_length_eq_zero (by omega)
   subst hl
   simp only [Option.isNone_none,List.length_nil] at hnil
   rw [List.length_nil]
   clear h4 hone
   go_enter Tryz.func28,Tryz.ntmps28
   go_wp2
   go_ret
   exact ⟨_,rfl,RowB.nil _ _,Fr.refl _ _⟩
 | some a=>
   obtain ⟨i0,hi,hz0,hz1,hz2⟩:=info_parts infoE
   simp only [Option.isNone_some] at hnil
   have hown : (W.alloc (.cells #[] 5)).ownsRow W.heap.size 5 1 (.slice (some ⟨W.heap.size,0,none⟩) 0 0) 0 []:=⟨rfl,.inr ⟨_,0,#[],rfl,Nat.le_refl _,World.alloc_heap_new _ _,Nat.le_refl _,by decide,rfl,rfl⟩⟩
   have hnews : ∀ (j : Nat) (u : Value),l[j]? = some u → (W.alloc (.cells #[] 5)).cell? (a.add j) = some u:=fun j u h=>by
    have h2:=(h4 a rfl).2 j u h
    rw [← h2]
    unfold World.cell?
    have:=lt_of_cell h2
    rw [Below.heap_alloc W _ _ this]
   have hsz : W.heap.size ≤ (W.alloc (.cells #[] 5)).heap.size:=by simp
   have b1 : 0 + l.length ≤ maxLen:=by unfold maxLen;omega
   have b2 : (0 + l.length) * 1 ≤ 140737488355328:=by omega
   have HN:=Lib.hid hnews
   have HO:=Lib.hid hone
   clear h4 hnews hone h3
   go_enter Tryz.func28,Tryz.ntmps28
   go_wp2_with (at_builtin;refine wpList_append_own _ rfl _ _ _ rfl W.heap.size 5 i0 (.int .u8 0) 1 1 Tryz.underlying36 hi hz0 hz1 hz2 rfl Nat.zero_lt_one (.slice (some ⟨W.heap.size,0,none⟩) 0 0) 0 [] rfl hown a l.length cap l rfl (Nat.mul_one _).symm HN.out HO.out b1 b2 hsz ?_;intro v' W1 hown1 hgrow1 hnil1)
   go_ret
   obtain ⟨_,hown2⟩:=hown1
   have hfr : Fr (fun _=>False) W W1:=⟨hgrow1.os,hgrow1.tape,hgrow1.output,Nat.le_trans hsz hgrow1.size,fun k hk _=>(hgrow1.block k (by simp;omega) (fun e=>by have:=Option.some.inj e;simp at this;omega)).trans (Below.heap_alloc W _ k hk)⟩
   rcases hown2 with ⟨h1,_⟩ | ⟨g,cp,cur,h1,hb,hgb,hnc,hcm,hsz',ht⟩
   ·have:=hnil1.1 h1
    simp at this
   ·refine ⟨v',rfl,⟨some ⟨g,0,none⟩,cp,by rw [h1];simp,by simpa using hnc,hcm,fun h=>(by cases h),fun x hx=>?_⟩,hfr⟩
    obtain rfl:=Option.some.inj hx
    refine ⟨fun _ e=>by have:=hS _ e;simp at this;omega,fun j u hj=>?_⟩
    rw [off_add]
    simp only [List.nil_append,Nat.zero_add,Nat.mul_one] at ht
    have hj' : j < l.length:=(List.getElem?_eq_some_iff.1 hj).1
    rw [← ht,List.getElem?_take_of_lt hj'] at hj
    simp only [World.cell?,hgb]
    simpa using hj
end Go.Proofs.YtnkelaohcbdjnaaGreat
