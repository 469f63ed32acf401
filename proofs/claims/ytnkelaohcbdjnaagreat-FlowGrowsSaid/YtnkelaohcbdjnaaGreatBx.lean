/- A run in memory: its numbers,its events,what is open. -/
import Derived.Test.YtnkelaohcbdjnaaGreatA
set_option linter.unusedVariables false
set_option linter.unusedSimpArgs false
namespace Go.Proofs.YtnkelaohcbdjnaaGreat
open Go.RowKit Go.Maps
/-- an event -/
structure Rv where
 k : Int
 a : Int
 r : Int
 i : Int
 l : Int
 n : Int
 d : List Value
structure FSt where
 id : Int
 run : Int
 list : Int
 n : Int
 task : Int
 at_ : Int
 bg : Int
 turn : Int
 late : Bool
 asked : Bool
 l : List Rv
 mc : Nat
 mp : Int → Option Value
def fcells (s : FSt) (sl mv : Value) : Array Value:=#[.int .i64 s.id,.int .i64 s.run,.int .i64 s.list,.int .i64 s.n,sl,.int .i64 s.task,.int .i64 s.at_,.int .i64 s.bg,.int .i64 s.turn,.bool s.late,.bool s.asked,mv]
/-- an event's cells -/
def ev (k at_ ref id list n : Int) (d : Value) : List Value:=[.int .i64 k,.int .i64 at_,.int .i64 ref,.int .i64 id,.int .i64 list,.int .i64 n,d]
def evv (e : Rv) (v : Value) : List Value:=ev e.k e.a e.r e.i e.l e.n v
def rowsOf (l : List Rv) (vs : List Value) : List (List Value):=List.zipWith evv l vs
theorem rowsOf_len {l : List Rv} {vs : List Value} (h : vs.length = l.length) : (rowsOf l vs).length = l.length:=by
 unfold rowsOf
 rw [List.length_zipWith,h,Nat.min_self]
theorem rowsOf_snoc {l : List Rv} {vs : List Value} (h : vs.length = l.length) (e : Rv) (v : Value) : rowsOf (l ++ [e]) (vs ++ [v]) = rowsOf l vs ++ [evv e v]:=by
 unfold rowsOf
 rw [List.zipWith_append h.symm]
 rfl
theorem rowsOf_at {l : List Rv} {vs : List Value} {i : Nat} {e : Rv} {v : Value} (h1 : l[i]? = some e) (h2 : vs[i]? = some v) : (rowsOf l vs)[i]? = some (evv e v):=by
 unfold rowsOf
 rw [List.getElem?_zipWith,h1,h2]
/-- the events' bytes -/
def Dat (S : Nat → Prop) (W : World) (l : List Rv) (vs : List Value) : Prop:=∀ (i : Nat) (e : Rv) (v : Value),l[i]? = some e → vs[i]? = some v → RowB S W v e.d
theorem Dat.fr {S : Nat → Prop} {W W' : World} {l : List Rv} {vs : List Value} (h : Dat S W l vs) (hf : Fr S W W') : Dat S W' l vs:=fun i e v h1 h2=>(h i e v h1 h2).fr hf
theorem Dat.to {S S' : Nat → Prop} {W : World} {l : List Rv} {vs : List Value} (h : Dat S W l vs) (hs : ∀ k,k < W.heap.size → S' k → S k) : Dat S' W l vs:=fun i e v h1 h2=>(h i e v h1 h2).to hs
theorem Dat.snoc {S : Nat → Prop} {W : World} {l : List Rv} {vs : List Value} (h : Dat S W l vs) (hl : vs.length = l.length) (e : Rv) (v : Value) (hv : RowB S W v e.d) : Dat S W (l ++ [e]) (vs ++ [v]):=fun i e' v' h1 h2=>by
 rcases Nat.lt_or_ge i l.length with hi | hi
 ·rw [List.getElem?_append_left hi] at h1
  rw [List.getElem?_append_left (by omega)] at h2
  exact h i e' v' h1 h2
 ·rw [List.getElem?_append_right hi] at h1
  rw [List.getElem?_append_right (by omega)] at h2
  have h3:=(List.getElem?_eq_some_iff.1 h1).1
  simp only [List.length_cons,List.length_nil] at h3
  have e1 : i - l.length = 0:=by omega
  have e2 : i - vs.length = 0:=by omega
  rw [e1] at h1
  rw [e2] at h2
  cases h1
  cases h2
  exact hv
theorem Dat.rows {S : Nat → Prop} {W : World} {l : List Rv} {vs : List Value} (h : Dat S W l vs) (hl : vs.length = l.length) : ∀ r ∈ rowsOf l vs,r.length = 7 ∧ ∀ u ∈ r,u.oneCell' = true:=fun r hr=>by
 obtain ⟨i,hi⟩:=List.getElem?_of_mem hr
 have hlt:=(List.getElem?_eq_some_iff.1 hi).1
 rw [rowsOf_len hl] at hlt
 obtain ⟨e,he⟩ : ∃ e,l[i]? = some e:=⟨_,List.getElem?_eq_getElem hlt⟩
 obtain ⟨v,hv⟩ : ∃ v,vs[i]? = some v:=⟨_,List.getElem?_eq_getElem (by omega)⟩
 rw [rowsOf_at he hv] at hi
 cases hi
 obtain ⟨ao,cap,rfl,_⟩:=h i e v he hv
 refine ⟨rfl,fun u hu=>?_⟩
 simp [evv,ev] at hu
 rcases hu with rfl | rfl | rfl | rfl | rfl | rfl | rfl <;> rfl
/-- rows of seven that a slice shows,in no block of S -/
def RowE (S : Nat → Prop) (W : World) (ao : Option Addr) (cp : Nat) (rows : List (List Value)) : Prop:=
 rows.length ≤ cp ∧ cp ≤ maxLen ∧ (ao = none → rows = [] ∧ cp = 0) ∧ ∀ a,ao = some a → ∃ g,a = ⟨g,0,none⟩ ∧ ¬ S g ∧ g < W.heap.size ∧ ∀ j u,rows.flatten[j]? = some u → W.cell? ⟨g,j,none⟩ = some u
theorem RowE.fr {S : Nat → Prop} {W W' : World} {ao : Option Addr} {cp : Nat} {rows : List (List Value)} (h : RowE S W ao cp rows) (hf : Fr S W W') : RowE S W' ao cp rows:=by
 obtain ⟨h1,h2,h3,h4⟩:=h
 refine ⟨h1,h2,h3,fun a ha=>?_⟩
 obtain ⟨g,e,h5,h6,h7⟩:=h4 a ha
 exact ⟨g,e,h5,Nat.lt_of_lt_of_le h6 hf.size,fun j u hj=>(World.cell?_of_block (hf.block g h6 h5)).trans (h7 j u hj)⟩
theorem RowE.to {S S' : Nat → Prop} {W : World} {ao : Option Addr} {cp : Nat} {rows : List (List Value)} (h : RowE S W ao cp rows) (hs : ∀ k,k < W.heap.size → S' k → S k) : RowE S' W ao cp rows:=by
 obtain ⟨h1,h2,h3,h4⟩:=h
 refine ⟨h1,h2,h3,fun a ha=>?_⟩
 obtain ⟨g,e,h5,h6,h7⟩:=h4 a ha
 exact ⟨g,e,fun k=>h5 (hs g h6 k),h6,h7⟩
/-- THE RUN in block fb,its map in block mb -/
structure FL (S : Nat → Prop) (W : World) (fb mb : Nat) (s : FSt) : Prop where
 f : ∃ ao cp vs,vs.length = s.l.length ∧ Blk W fb 57 (fcells s (.slice ao s.l.length cp) (.map (some mb))) ∧ RowE S W ao cp (rowsOf s.l vs) ∧ Dat S W s.l vs
 m : Mp iKE W mb s.mc s.mp
 ok : ∀ e ∈ s.l,e.d.length ≤ 100000 ∧ ∀ u ∈ e.d,u.oneCell' = true
 few : s.l.length ≤ 100000
theorem FL.fr {S S0 : Nat → Prop} {W W' : World} {fb mb : Nat} {s : FSt} (h : FL S W fb mb s) (hf : Fr S0 W W') (h0 : ∀ k,S0 k → S k) (h1 : ¬ S0 fb) (h2 : ¬ S0 mb) : FL S W' fb mb s:=by
 obtain ⟨ao,cp,vs,hv,h3,h4,h5⟩:=h.f
 exact ⟨⟨ao,cp,vs,hv,h3.fr hf h1,h4.fr (hf.mono h0),h5.fr (hf.mono h0)⟩,h.m.fr hf h2,h.ok,h.few⟩
theorem FL.fr0 {S : Nat → Prop} {W W' : World} {fb mb : Nat} {s : FSt} (h : FL S W fb mb s) (hf : Fr (fun _=>False) W W') : FL S W' fb mb s:=h.fr hf (fun _ e=>e.elim) id id
theorem FL.lt {S : Nat → Prop} {W : World} {fb mb : Nat} {s : FSt} (h : FL S W fb mb s) : fb < W.heap.size ∧ mb < W.heap.size:=by
 obtain ⟨ao,cp,vs,hv,h3,h4⟩:=h.f
 exact ⟨h3.lt,h.m.lt⟩
theorem FL.to {S S' : Nat → Prop} {W : World} {fb mb : Nat} {s : FSt} (h : FL S W fb mb s) (hs : ∀ k,k < W.heap.size → S' k → S k) : FL S' W fb mb s:=by
 obtain ⟨⟨ao,cp,vs,hv,h1,h2,h6⟩,h3,h4,h5⟩:=h
 exact ⟨⟨ao,cp,vs,hv,h1,h2.to hs,h6.to hs⟩,h3,h4,h5⟩
theorem mp_ne {W : World} {b c B : Nat} {F : Int → Option Value} {t : TypeId} {cs : Array Value} (h : Mp iKE W b c F) (hb : Blk W B t cs) : B ≠ b:=by
 rintro rfl
 obtain ⟨D,⟨es,clock,hb',_⟩,_⟩:=h
 have:=hb.symm.trans hb'
 cases this
theorem flat7 : ∀ {rows : List (List Value)},(∀ r ∈ rows,r.length = 7) → rows.flatten.length = rows.length * 7
 | [],_=>rfl
 | r :: rows,h=>by
   have:=flat7 (rows:=rows) (fun r hr=>h r (List.mem_cons_of_mem _ hr))
   have h2:=h r List.mem_cons_self
   rw [List.flatten_cons,List.length_append,List.length_cons]
   omega
theorem flat_at7 : ∀ {rows : List (List Value)} {i : Nat} {r : List Value},(∀ r ∈ rows,r.length = 7) → rows[i]? = some r → ∀ {j : Nat} {u : Value},r[j]? = some u → rows.flatten[i * 7 + j]? = some u
 | r :: rows,0,_,h,hi,j,u,hj=>by
   cases hi
   rw [List.flatten_cons,Nat.zero_mul,Nat.zero_add,List.getElem?_append_left (List.getElem?_eq_some_iff.1 hj).1,hj]
 | r :: rows,i + 1,r',h,hi,j,u,hj=>by
   have h2:=h r List.mem_cons_self
   rw [List.flatten_cons,List.getElem?_append_right (by omega),show (i + 1) * 7 + j - r.length = i * 7 + j from by omega]
   exact flat_at7 (fun r hr=>h r (List.mem_cons_of_mem _ hr)) hi hj
/-- the event's cells -/
theorem FL.at_ {S : Nat → Prop} {W : World} {fb mb : Nat} {s : FSt} (h : FL S W fb mb s) : ∃ ao cp,Blk W fb 57 (fcells s (.slice ao s.l.length cp) (.map (some mb))) ∧ s.l.length ≤ cp ∧ cp ≤ maxLen ∧ (ao = none → s.l = [] ∧ cp = 0) ∧ ∀ a,ao = some a → ∃ g,a = ⟨g,0,none⟩ ∧ ¬ S g ∧ g < W.heap.size ∧ ∀ (i : Nat) (e : Rv),s.l[i]? = some e → ∃ v,RowB S W v e.d ∧ ∀ (j : Nat) (u : Value),(evv e v)[j]? = some u → W.cell? ⟨g,i * 7 + j,none⟩ = some u:=by
 obtain ⟨ao,cp,vs,hv,h3,⟨h4,h5,h6,h7⟩,h8⟩:=h.f
 rw [rowsOf_len hv] at h4
 refine ⟨ao,cp,h3,h4,h5,fun e=>?_,fun a ha=>?_⟩
 ·obtain ⟨h9,h10⟩:=h6 e
  have h11:=congrArg List.length h9
  rw [rowsOf_len hv] at h11
  exact ⟨List.eq_nil_of_length_eq_zero h11,h10⟩
 ·obtain ⟨g,rfl,hg,hgl,hc⟩:=h7 a ha
  refine ⟨g,rfl,hg,hgl,fun i e he=>?_⟩
  obtain ⟨v,hvv⟩ : ∃ v,vs[i]? = some v:=⟨_,List.getElem?_eq_getElem (by have:=(List.getElem?_eq_some_iff.1 he).1;omega)⟩
  exact ⟨v,h8 i e v he hvv,fun j u hj=>hc _ u (flat_at7 (fun r hr=>(h8.rows hv r hr).1) (rowsOf_at he hvv) hj)⟩
/-- the last event's cells -/
theorem FL.last {S : Nat → Prop} {W : World} {fb mb : Nat} {s : FSt} {e : Rv} (h : FL S W fb mb s) (hr : s.l.getLast? = some e) : ∃ g cp v,Blk W fb 57 (fcells s (.slice (some ⟨g,0,none⟩) s.l.length cp) (.map (some mb))) ∧ 0 < s.l.length ∧ s.l.length ≤ cp ∧ ¬ S g ∧ g < W.heap.size ∧ RowB S W v e.d ∧ ∀ j u,(evv e v)[j]? = some u → W.cell? ⟨g,(s.l.length - 1) * 7 + j,none⟩ = some u:=by
 obtain ⟨ao,cp,h3,h4,h5,h6,h7⟩:=h.at_
 have hne : s.l ≠ []:=fun e=>by rw [e] at hr;cases hr
 cases ao with
 | none=>exact absurd (h6 rfl).1 hne
 | some a=>
   obtain ⟨g,rfl,hg,hgl,hc⟩:=h7 a rfl
   have hi : s.l[s.l.length - 1]? = some e:=by rw [← List.getLast?_eq_getElem?];exact hr
   obtain ⟨v,h8,h9⟩:=hc _ e hi
   exact ⟨g,cp,v,h3,List.length_pos_iff.2 hne,h4,hg,hgl,h8,h9⟩
set_option maxRecDepth 100000 in
theorem len_any (S : Nat → Prop) (W : World) (fb mb : Nat) (s : FSt) (h : FL S W fb mb s) : Calls Tryz.prog 17 #[.pointer (some ⟨fb,0,none⟩)] W fun e W'=>e = .returned (.int .i64 (s.l.length : Int)) ∧ W = W':=by
 obtain ⟨ao,cp,vs,hv,h3,h4⟩:=h.f
 have c4:=h3.cell 4
 simp only [fcells,lA,lB,lC] at c4
 obtain ⟨m,hm⟩ : ∃ m,s.l.length = m:=⟨_,rfl⟩
 rw [hm] at c4 ⊢
 clear h h3 h4 hm hv
 go_enter Tryz.func17,Tryz.ntmps17
 go_wp2
 go_ret
 exact ⟨rfl,rfl⟩
set_option maxRecDepth 100000 in
theorem clip_any (W : World) (ao : Option Addr) (n cp : Nat) (h : n ≤ cp) (hn : ao = none → n = 0 ∧ cp = 0) (h2 : cp ≤ maxLen) : Calls Tryz.prog 58 #[.slice ao n cp] W fun e W'=>e = .returned (.slice ao n n) ∧ W = W':=by
 unfold maxLen at h2
 cases ao with
 | none=>
   obtain ⟨rfl,rfl⟩:=hn rfl
   go_enter Tryz.func58,Tryz.ntmps58
   go_wp2
   go_ret
   exact ⟨rfl,rfl⟩
 | some a=>
   clear hn
   go_enter Tryz.func58,Tryz.ntmps58
   go_wp2
   go_ret
   exact ⟨rfl,rfl⟩
end Go.Proofs.YtnkelaohcbdjnaaGreat
