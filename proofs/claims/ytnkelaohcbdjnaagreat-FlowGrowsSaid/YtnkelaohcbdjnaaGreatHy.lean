/- Whether bytes and a tick may be;the status: plain words. -/
import Derived.Test.YtnkelaohcbdjnaaGreatBx
import Derived.Maps.RangeWalk
import Derived.Deep.RegionHeld3
import Derived.Deep.Cut
import Derived.Deep.DeepCutAuto
import Derived.WideKeyEntry
set_option linter.unusedVariables false
set_option linter.unusedSimpArgs false
namespace Go.Proofs.YtnkelaohcbdjnaaGreat
open Go.RowKit Go.Maps
def rightP (l : List Rv) (n : Nat) (now : Int) : Prop:=n ≤ 4096 ∧ 0 ≤ now ∧ now ≤ 1099511627776 ∧ ∀ e,l.getLast? = some e → e.a ≤ now
def rightB (l : List Rv) (n : Nat) (now : Int) : Bool:=decide (n ≤ 4096 ∧ 0 ≤ now ∧ now ≤ 1099511627776) && (match l.getLast? with
 | none=>true
 | some e=>decide (e.a ≤ now))
theorem rightB_iff {l : List Rv} {n : Nat} {now : Int} : rightB l n now = true ↔ rightP l n now:=by
 unfold rightB rightP
 rw [Bool.and_eq_true,decide_eq_true_iff]
 cases h : l.getLast? with
 | none=>exact ⟨fun h=>⟨h.1.1,h.1.2.1,h.1.2.2,fun e he=>(by cases he)⟩,fun h=>⟨⟨h.1,h.2.1,h.2.2.1⟩,rfl⟩⟩
 | some e=>
   simp only [decide_eq_true_iff]
   exact ⟨fun h=>⟨h.1.1,h.1.2.1,h.1.2.2,fun e' he=>(by cases he;exact h.2)⟩,fun h=>⟨⟨h.1,h.2.1,h.2.2.1⟩,h.2.2.2 e rfl⟩⟩
theorem rightB_true {l : List Rv} {n : Nat} {now : Int} (h : rightP l n now) : rightB l n now = true:=rightB_iff.2 h
theorem rightB_false {l : List Rv} {n : Nat} {now : Int} (h : ¬ rightP l n now) : rightB l n now = false:=by
 cases hb : rightB l n now with
 | false=>rfl
 | true=>exact absurd (rightB_iff.1 hb) h
def statusK (l : List Rv) : Int:=match l.getLast? with
 | none=>0
 | some e=>if e.k = 19 then 6 else if e.k = 20 then 2 else if e.k = 21 then 3 else if e.k = 22 then 4 else if e.k = 23 then 5 else 1
end Go.Proofs.YtnkelaohcbdjnaaGreat
set_option linter.unusedVariables false
set_option linter.unusedSimpArgs false
namespace Go.Proofs.YtnkelaohcbdjnaaGreat
open Go.RowKit Go.Maps
/-- an open thing,as the map holds it -/
def opv (k i w : Int) : Value:=.agg #[.int .i64 k,.int .i64 i,.int .i64 w]
/-- how many there are then -/
def cup (F : Int → Option Value) (x : Int) (c : Nat) : Nat:=if (F x).isSome then c else c + 1
def cdn (F : Int → Option Value) (x : Int) (c : Nat) : Nat:=if (F x).isSome then c - 1 else c
/-- what came while decisions are made -/
def lateB (s : FSt) : Bool:=s.late || (s.task == 2)
def OpenOk (s : FSt) : Prop:=∀ x v,s.mp x = some v → 1 ≤ x ∧ x ≤ s.l.length ∧ ∃ k i w,v = opv k i w
def sched (s : FSt) (now : Int) : FSt:={ s with task:=1,at_:=(s.l.length : Int) + 1,bg:=0,turn:=s.turn,late:=false,l:=s.l ++ [⟨2,now,0,0,s.list,s.turn,[]⟩] }
def start (id run : Int) : FSt:=⟨id,run,0,0,0,0,0,0,false,false,[],0,fun _=>none⟩
def begun1 (id run list n now : Int) (ds : List Value) : FSt:=sched { start id run with list:=list,n:=n,l:=[⟨1,now,0,0,list,n,ds⟩] } now
def began (s : FSt) (now ref : Int) : FSt:={ s with task:=2,bg:=(s.l.length : Int) + 1,late:=false,l:=s.l ++ [⟨3,now,ref,0,0,0,[]⟩] }
def missed (s : FSt) (now : Int) : FSt:={ s with task:=0,turn:=wrap64 (s.turn + 1),l:=s.l ++ [⟨5,now,s.bg,0,0,0,[]⟩] }
def faulted (s : FSt) (now n : Int) : FSt:={ s with task:=0,turn:=wrap64 (s.turn + 1),l:=s.l ++ [⟨6,now,s.bg,0,0,n,[]⟩] }
def decided (s : FSt) (now : Int) : FSt:={ s with task:=0,turn:=0,l:=s.l ++ [⟨4,now,s.bg,0,0,0,[]⟩] }
def shut (s : FSt) (k now : Int) (ds : List Value) : FSt:={ s with task:=0,mc:=0,mp:=fun _=>none,l:=s.l ++ [⟨k,now,0,0,0,0,ds⟩] }
def signaled (s : FSt) (now : Int) (ds : List Value) : FSt:={ s with late:=lateB s,l:=s.l ++ [⟨15,now,0,0,0,0,ds⟩] }
def canceled (s : FSt) (now : Int) : FSt:={ s with late:=lateB s,asked:=true,mc:=cdn s.mp 0 s.mc,mp:=upd s.mp 0 none,l:=s.l ++ [⟨16,now,0,0,0,0,[]⟩] }
def endedS (s : FSt) (key k now w i : Int) (ds : List Value) : FSt:={ s with late:=lateB s,mc:=cdn s.mp key s.mc,mp:=upd s.mp key none,l:=s.l ++ [⟨k,now,w,i,0,0,ds⟩] }
def childS (s : FSt) (key now idn st : Int) (ds : List Value) : FSt:={ s with late:=lateB s,mc:=cdn s.mp key s.mc,mp:=upd s.mp key none,l:=s.l ++ [⟨18,now,key,idn,0,st,ds⟩] }
def firedS (s : FSt) (key now idn : Int) : FSt:={ s with late:=lateB s,mc:=cdn s.mp key s.mc,mp:=upd s.mp key none,l:=s.l ++ [⟨13,now,key,idn,0,0,[]⟩] }
def worksS (s : FSt) (ref now idn : Int) : FSt:={ s with mc:=cup s.mp ref s.mc,mp:=upd s.mp ref (some (opv 7 idn ((s.l.length : Int) + 1))),l:=s.l ++ [⟨8,now,ref,idn,0,0,[]⟩] }
def openedS (s : FSt) (k now idn list n : Int) (ds : List Value) : FSt:={ s with mc:=cup s.mp ((s.l.length : Int) + 1) s.mc,mp:=upd s.mp ((s.l.length : Int) + 1) (some (opv k idn 0)),l:=s.l ++ [⟨k,now,0,idn,list,n,ds⟩] }
def unsetS (s : FSt) (key now idn : Int) : FSt:={ s with mc:=cdn s.mp key s.mc,mp:=upd s.mp key none,l:=s.l ++ [⟨14,now,key,idn,0,0,[]⟩] }
/-- what comes out -/
structure Ov where
 k : Int
 list : Int
 ref : Int
 turn : Int
 at_ : Int
 id : Int
 n : Int
 d : List Value
def ovc (o : Ov) (v : Value) : List Value:=[.int .i64 o.k,.int .i64 o.list,.int .i64 o.ref,.int .i64 o.turn,.int .i64 o.at_,.int .i64 o.id,.int .i64 o.n,v]
/-- a slice that shows what comes out,in blocks from B on -/
def Outs (B : Nat) (W : World) (v : Value) (os : List Ov) : Prop:=
 (v = .slice none 0 0 ∧ os = []) ∨ ∃ g cp,v = .slice (some ⟨g,0,none⟩) os.length cp ∧ B ≤ g ∧ g < W.heap.size ∧ os.length ≤ cp ∧ cp ≤ maxLen ∧
   ∀ (i : Nat) (o : Ov),os[i]? = some o → ∃ u,RowB (fun k=>k < B) W u o.d ∧ ∀ (j : Nat) (x : Value),(ovc o u)[j]? = some x → W.cell? ⟨g,i * 8 + j,none⟩ = some x
theorem Outs.nil (B : Nat) (W : World) : Outs B W (.slice none 0 0) []:=.inl ⟨rfl,rfl⟩
theorem Outs.fr {S : Nat → Prop} {B : Nat} {W W' : World} {v : Value} {os : List Ov} (h : Outs B W v os) (hf : Fr S W W') (hS : ∀ k,S k → k < B) : Outs B W' v os:=by
 rcases h with h | ⟨g,cp,h1,h2,h3,h4,h5,h6⟩
 ·exact .inl h
 ·refine .inr ⟨g,cp,h1,h2,Nat.lt_of_lt_of_le h3 hf.size,h4,h5,fun i o ho=>?_⟩
  obtain ⟨u,h7,h8⟩:=h6 i o ho
  exact ⟨u,h7.fr (hf.mono hS),fun j x hx=>(World.cell?_of_block (hf.block g h3 (fun e=>by have:=hS g e;omega))).trans (h8 j x hx)⟩
theorem Outs.weak {B B' : Nat} {W : World} {v : Value} {os : List Ov} (h : Outs B W v os) (hb : B' ≤ B) : Outs B' W v os:=by
 rcases h with h | ⟨g,cp,h1,h2,h3,h4,h5,h6⟩
 ·exact .inl h
 ·exact .inr ⟨g,cp,h1,Nat.le_trans hb h2,h3,h4,h5,fun i o ho=>by
   obtain ⟨u,h7,h8⟩:=h6 i o ho
   exact ⟨u,h7.to (fun k _ e=>Nat.lt_of_lt_of_le e hb),h8⟩⟩
theorem Outs.one {B : Nat} {W : World} {g : Nat} {t : TypeId} (hg : B ≤ g) (o : Ov) (u : Value) (hu : RowB (fun k=>k < B) W u o.d) (hb : Blk W g t (ovc o u).toArray) : Outs B W (.slice (some ⟨g,0,none⟩) 1 1) [o]:=by
 refine .inr ⟨g,1,rfl,hg,hb.lt,Nat.le_refl _,by decide,fun i o' ho=>?_⟩
 cases i with
 | zero=>
   cases ho
   refine ⟨u,hu,fun j x hx=>?_⟩
   have:=hb.cell j
   rw [lA,hx] at this
   simpa using this
 | succ i=>simp at ho
/-- the run behind wake,and what comes out -/
def wakeS (s : FSt) (now : Int) : FSt:=if s.task = 0 then sched s now else s
def wakeO (s : FSt) (now : Int) : List Ov:=if s.task = 0 then [⟨1,s.list,(s.l.length : Int) + 1,s.turn,0,0,0,[]⟩] else []
theorem wakeS_len (s : FSt) (now : Int) : (wakeS s now).l.length ≤ s.l.length + 1:=by
 unfold wakeS sched
 split
 ·simp
 ·omega
theorem ikey {x : Int} (h : 0 ≤ x ∧ x ≤ 1000000) : iKE.ok x:=by show (Lit.int .i64 x).wf = true;exact WalkArith.wf_i64 ⟨by omega,by omega⟩
theorem statusK_snoc (s : FSt) (l : List Rv) (e : Rv) : statusK (l ++ [e]) = if e.k = 19 then 6 else if e.k = 20 then 2 else if e.k = 21 then 3 else if e.k = 22 then 4 else if e.k = 23 then 5 else 1:=by
 unfold statusK
 rw [List.getLast?_concat]
/-- THE RUN IN MEMORY,in a frame: S names what may be turned by anyone -/
structure PF (S : Nat → Prop) (W : World) (fb mb : Nat) (s : FSt) : Prop where
 fl : FL S W fb mb s
 f : S fb
 m : S mb
 lt : ∀ k,S k → k < W.heap.size
theorem PF.fr {S S0 : Nat → Prop} {W W' : World} {fb mb : Nat} {s : FSt} (h : PF S W fb mb s) (hf : Fr S0 W W') (h0 : ∀ k,S0 k → S k) (h1 : ¬ S0 fb) (h2 : ¬ S0 mb) : PF S W' fb mb s:=⟨h.fl.fr hf h0 h1 h2,h.f,h.m,fun k hk=>Nat.lt_of_lt_of_le (h.lt k hk) hf.size⟩
theorem PF.fr0 {S : Nat → Prop} {W W' : World} {fb mb : Nat} {s : FSt} (h : PF S W fb mb s) (hf : Fr (fun _=>False) W W') : PF S W' fb mb s:=h.fr hf (fun _ e=>e.elim) id id
/-- cells turned in the run's own block -/
theorem PF.cells {S : Nat → Prop} {W W' : World} {fb mb : Nat} {s s' : FSt} (h : PF S W fb mb s) (hf : Fr (fun k=>k = fb) W W') (hl : s'.l = s.l) (hc : s'.mc = s.mc) (hm : s'.mp = s.mp) (hb : ∀ v,Blk W fb 57 (fcells s v (.map (some mb))) → Blk W' fb 57 (fcells s' v (.map (some mb)))) : PF S W' fb mb s':=by
 obtain ⟨⟨⟨ao,cp,vs,hv,h1,h2,h6⟩,h3,h4,h5⟩,h7,h8,h9⟩:=h
 refine ⟨⟨⟨ao,cp,vs,by rw [hl];exact hv,by rw [hl];exact hb _ h1,by rw [hl];exact h2.fr (hf.mono fun k e=>e ▸ h7),by rw [hl];exact h6.fr (hf.mono fun k e=>e ▸ h7)⟩,by rw [hc,hm];exact h3.fr hf (fun e=>mp_ne h3 h1 e.symm),by rw [hl];exact h4,by rw [hl];exact h5⟩,h7,h8,fun k hk=>Nat.lt_of_lt_of_le (h9 k hk) hf.size⟩
/-- the map turned -/
theorem PF.turned {S : Nat → Prop} {W W' : World} {fb mb : Nat} {s : FSt} (h : PF S W fb mb s) (hf : Fr (fun k=>k = mb) W W') (c : Nat) (F : Int → Option Value) (hm : Mp iKE W' mb c F) : PF S W' fb mb { s with mc:=c,mp:=F }:=by
 obtain ⟨⟨⟨ao,cp,vs,hv,h1,h2,h6⟩,h3,h4,h5⟩,h7,h8,h9⟩:=h
 exact ⟨⟨⟨ao,cp,vs,hv,h1.fr hf (fun e=>mp_ne h3 h1 e),h2.fr (hf.mono fun k e=>e ▸ h8),h6.fr (hf.mono fun k e=>e ▸ h8)⟩,hm,h4,h5⟩,h7,h8,fun k hk=>Nat.lt_of_lt_of_le (h9 k hk) hf.size⟩
theorem PF.blk {S : Nat → Prop} {W : World} {fb mb : Nat} {s : FSt} (h : PF S W fb mb s) : ∃ ao cp,Blk W fb 57 (fcells s (.slice ao s.l.length cp) (.map (some mb))):=by
 obtain ⟨ao,cp,vs,_,h1,_⟩:=h.fl.f
 exact ⟨ao,cp,h1⟩
theorem PF.to {S S' : Nat → Prop} {W : World} {fb mb : Nat} {s : FSt} (h : PF S W fb mb s) (hs : ∀ k,k < W.heap.size → S' k → S k) (h1 : S' fb) (h2 : S' mb) (h3 : ∀ k,S' k → k < W.heap.size) : PF S' W fb mb s:=⟨h.fl.to hs,h1,h2,h3⟩
end Go.Proofs.YtnkelaohcbdjnaaGreat
set_option linter.unusedVariables false
set_option linter.unusedSimpArgs false
namespace Go.Proofs.YtnkelaohcbdjnaaGreat
open Go.RowKit Go.Maps
theorem next_raw {D : DataW Value} {F : Int → Option Value} (hD : ∀ x,iKE.ok x → Maps.has D (iKE.kl x) = (F x).isSome ∧ ∀ z,D.atKey (iKE.kl x) z = (match F x with | some v=>.held v | none=>z)) {x : Int} {cv : Value} {kl : Lit} {y : DataW Value × List MemPlace}
 (hkey : keyOf Tryz.prog 3 (.int .i64 x) = some kl) (hR : rawR cv = some y) (hat : ∀ zd,D.atKey kl zd = y.1) : kl = .int .i64 x ∧ iKE.ok x ∧ F x = some cv:=by
 obtain ⟨x',ex,rfl,hw⟩:=Maps.keyOf_int_inv under3 hkey
 cases ex
 refine ⟨rfl,hw,?_⟩
 have h2:=(hD x hw).2
 have hy : y = (.held cv,[]):=(Option.some.inj hR).symm
 subst hy
 cases hF : F x with
 | none=>
   have e2:=(h2 (.map [])).symm.trans (hat (.map []))
   rw [hF] at e2
   cases e2
 | some t=>
   have e1:=(h2 (.map [])).symm.trans (hat (.map []))
   rw [hF] at e1
   exact congrArg some (DataW.held.inj e1)
set_option maxRecDepth 100000 in
set_option maxHeartbeats 2000000 in
theorem find_any (S : Nat → Prop) (W : World) (fb mb : Nat) (s : FSt) (h : FL S W fb mb s) (hok : OpenOk s) (hl : s.l.length ≤ 100000) (kind id : Int) :
 Calls Tryz.prog 83 #[.pointer (some ⟨fb,0,none⟩),.int .i64 kind,.int .i64 id] W fun e W'=>∃ z,e = .returned (.int .i64 z) ∧ ((z = 0 ∧ ∀ x k i w,s.mp x = some (opv k i w) → ¬ (k = kind ∧ i = id)) ∨ ∃ w,s.mp z = some (opv kind id w)) ∧ Fr (fun _=>False) W W':=by
 obtain ⟨ao2,cp2,vs2,_,hfb,_⟩:=h.f
 have c11:=hfb.cell 11
 simp only [fcells,lA,lB,lC] at c11
 obtain ⟨D,hown,hsize,hD⟩:=h.m
 have HDD:=Lib.hid hD
 have HOK:=Lib.hid (And.intro hok hl)
 have HLT:=Lib.hid h.lt
 clear hD h hfb hok hl
 go_enter Tryz.func83,Tryz.ntmps83
 go_wp2_with (at_range;refine wpList_range_own _ rfl _ 55 rfl 3 102 (int_keyed under3) Tryz.underlying55 rawR mb s.mc D rfl hown ?_;intro w7 hrg7 hg7 hs7)
 go_frame
 go_loopw [7,8] (fun _ _ wz=>∃ left cnt,wz.ranges Tryz.prog 3 rawR mb W.heap.size s.mc D left cnt ∧ (∀ x k i w,s.mp x = some (opv k i w) → left (.int .i64 x) = false → ¬ (k = kind ∧ i = id)) ∧ Fr (fun _=>False) W wz) (fun _ _ wz=>wz.rangeLeft mb W.heap.size)
 case atStart=>
  refine ⟨_,_,hrg7,fun x k i w hx hl=>?_,Fr.grown hg7 (fun k e=>nomatch e)⟩
  have hok : iKE.ok x:=by have:=HOK.out.1 x _ hx;have:=HOK.out.2;exact ikey (by omega)
  have:=(HDD.out x hok).1
  have e : Maps.has D (.int .i64 x) = (s.mp x).isSome:=this
  rw [e,hx] at hl
  simp at hl
 case round=>
  obtain ⟨left,cnt,hrg,hC,hf7⟩:=hrel
  clear hrg7 hg7 hs7
  have HF7:=Lib.hid hf7
  have HC:=Lib.hid hC
  clear hf7 hC
  go_wp2_with (at_next;refine wpList_next_ranges _ rfl _ rfl 3 (int_keyed under3) rawR (Value.int .i64) _root_.id (fun key kl h=>by obtain ⟨x,rfl,_⟩:=Maps.keyOf_int_inv under3 h;exact ⟨x,rfl⟩) (fun v y _=>⟨v,rfl⟩) mb W.heap.size s.mc D left cnt rfl hrg ?_ ?_)
  case _=>
   intro hc0 hl0
   have HZ:=Lib.hid (fun x k i w h=>HC.out x k i w h (hl0 _))
   clear hc0 hl0 hown
   go_wp2
   go_ret
   exact ⟨0,rfl,.inl ⟨rfl,HZ.out⟩,HF7.out⟩
  case _=>
   intro x cv kl y1 y2 w8 cnt8 hkey hlk hR hat hrg8 hlt8 hg8 hs8 hen
   obtain ⟨rfl,hxk,hxt⟩:=next_raw HDD.out hkey hR hat
   obtain ⟨_,_,k1,i1,o1,rfl⟩:=HOK.out.1 x cv hxt
   have hlt:=HLT.out
   have HF8 : Hid (Fr (fun _=>False) W w8):=Lib.hid (⟨hg8.os.trans HF7.out.os,hg8.tape.trans HF7.out.tape,hg8.output.trans HF7.out.output,Nat.le_trans HF7.out.size hg8.size,fun k hk hn=>(hg8.block k (Nat.lt_of_lt_of_le hk HF7.out.size) (fun e=>by have:=Option.some.inj e;omega)).trans (HF7.out.block k hk hn)⟩)
   have HRG8:=Lib.hid hrg8
   have HLT8:=Lib.hid hlt8
   have HRG:=Lib.hid hrg
   have HXT:=Lib.hid hxt
   have HLE:=Lib.hid (Nat.le_trans (by omega : W.heap.size + 0 ≤ W.heap.size) HF8.out.size)
   clear hkey hlk hR hat hrg8 hg8 hs8 hxt hrg hlt8 hown hlt
   unfold opv at hen ⊢
   by_cases h1 : k1 = kind
   ·subst h1
    have p1 : (k1 == k1 : Bool) = true:=by simp
    by_cases h2 : i1 = id
    ·subst h2
     have p2 : (i1 == i1) = true:=by simp
     go_wp2
     go_ret
     exact ⟨x,rfl,.inr ⟨o1,HXT.out⟩,HF8.out.trans (Fr.alloc _ _ _)⟩
    ·have p2 : (i1 == id) = false:=by simp [h2]
     go_wp2
     go_roundw
     case rel=>
      refine ⟨_,_,(HRG8.out.alloc _),fun y k i w hy hl hm=>?_,(HF8.out.trans (Fr.alloc _ _ _))⟩
      by_cases e : y = x
      ·subst e
       have:=HXT.out.symm.trans hy
       unfold opv at this
       cases this
       exact h2 hm.2
      ·refine HC.out y k i w hy ?_ hm
       have hk : (Lit.int .i64 y).sameKey (.int .i64 x) = false:=by simp [Lit.sameKey,e]
       simpa [hk] using hl
     case measure=>rw [(HRG8.out.alloc _).left_eq,HRG.out.left_eq];exact HLT8.out
   ·have p1 : (k1 == kind) = false:=by simp [h1]
    go_wp2
    go_roundw
    case rel=>
     refine ⟨_,_,(HRG8.out.alloc _),fun y k i w hy hl hm=>?_,(HF8.out.trans (Fr.alloc _ _ _))⟩
     by_cases e : y = x
     ·subst e
      have:=HXT.out.symm.trans hy
      unfold opv at this
      cases this
      exact h1 hm.1
     ·refine HC.out y k i w hy ?_ hm
      have hk : (Lit.int .i64 y).sameKey (.int .i64 x) = false:=by simp [Lit.sameKey,e]
      simpa [hk] using hl
    case measure=>rw [(HRG8.out.alloc _).left_eq,HRG.out.left_eq];exact HLT8.out
set_option maxRecDepth 100000 in
set_option maxHeartbeats 2000000 in
theorem of_any (S : Nat → Prop) (W : World) (fb mb : Nat) (s : FSt) (h : FL S W fb mb s) (hok : OpenOk s) (hl : s.l.length ≤ 100000) (works : Int) :
 Calls Tryz.prog 59 #[.pointer (some ⟨fb,0,none⟩),.int .i64 works] W fun e W'=>∃ z,e = .returned (.int .i64 z) ∧ ((z = 0 ∧ ∀ x k i w,s.mp x = some (opv k i w) → ¬ (k = 7 ∧ w = works)) ∨ ∃ i,s.mp z = some (opv 7 i works)) ∧ Fr (fun _=>False) W W':=by
 obtain ⟨ao2,cp2,vs2,_,hfb,_⟩:=h.f
 have c11:=hfb.cell 11
 simp only [fcells,lA,lB,lC] at c11
 obtain ⟨D,hown,hsize,hD⟩:=h.m
 have HDD:=Lib.hid hD
 have HOK:=Lib.hid (And.intro hok hl)
 have HLT:=Lib.hid h.lt
 clear hD h hfb hok hl
 go_enter Tryz.func59,Tryz.ntmps59
 go_wp2_with (at_range;refine wpList_range_own _ rfl _ 55 rfl 3 102 (int_keyed under3) Tryz.underlying55 rawR mb s.mc D rfl hown ?_;intro w7 hrg7 hg7 hs7)
 go_frame
 go_loopw [5,6] (fun _ _ wz=>∃ left cnt,wz.ranges Tryz.prog 3 rawR mb W.heap.size s.mc D left cnt ∧ (∀ x k i w,s.mp x = some (opv k i w) → left (.int .i64 x) = false → ¬ (k = 7 ∧ w = works)) ∧ Fr (fun _=>False) W wz) (fun _ _ wz=>wz.rangeLeft mb W.heap.size)
 case atStart=>
  refine ⟨_,_,hrg7,fun x k i w hx hl=>?_,Fr.grown hg7 (fun k e=>nomatch e)⟩
  have hok : iKE.ok x:=by have:=HOK.out.1 x _ hx;have:=HOK.out.2;exact ikey (by omega)
  have:=(HDD.out x hok).1
  have e : Maps.has D (.int .i64 x) = (s.mp x).isSome:=this
  rw [e,hx] at hl
  simp at hl
 case round=>
  obtain ⟨left,cnt,hrg,hC,hf7⟩:=hrel
  clear hrg7 hg7 hs7
  have HF7:=Lib.hid hf7
  have HC:=Lib.hid hC
  clear hf7 hC
  go_wp2_with (at_next;refine wpList_next_ranges _ rfl _ rfl 3 (int_keyed under3) rawR (Value.int .i64) _root_.id (fun key kl h=>by obtain ⟨x,rfl,_⟩:=Maps.keyOf_int_inv under3 h;exact ⟨x,rfl⟩) (fun v y _=>⟨v,rfl⟩) mb W.heap.size s.mc D left cnt rfl hrg ?_ ?_)
  case _=>
   intro hc0 hl0
   have HZ:=Lib.hid (fun x k i w h=>HC.out x k i w h (hl0 _))
   clear hc0 hl0 hown
   go_wp2
   go_ret
   exact ⟨0,rfl,.inl ⟨rfl,HZ.out⟩,HF7.out⟩
  case _=>
   intro x cv kl y1 y2 w8 cnt8 hkey hlk hR hat hrg8 hlt8 hg8 hs8 hen
   obtain ⟨rfl,hxk,hxt⟩:=next_raw HDD.out hkey hR hat
   obtain ⟨_,_,k1,i1,o1,rfl⟩:=HOK.out.1 x cv hxt
   have hlt:=HLT.out
   have HF8 : Hid (Fr (fun _=>False) W w8):=Lib.hid (⟨hg8.os.trans HF7.out.os,hg8.tape.trans HF7.out.tape,hg8.output.trans HF7.out.output,Nat.le_trans HF7.out.size hg8.size,fun k hk hn=>(hg8.block k (Nat.lt_of_lt_of_le hk HF7.out.size) (fun e=>by have:=Option.some.inj e;omega)).trans (HF7.out.block k hk hn)⟩)
   have HRG8:=Lib.hid hrg8
   have HLT8:=Lib.hid hlt8
   have HRG:=Lib.hid hrg
   have HXT:=Lib.hid hxt
   have HLE:=Lib.hid (Nat.le_trans (by omega : W.heap.size + 0 ≤ W.heap.size) HF8.out.size)
   clear hkey hlk hR hat hrg8 hg8 hs8 hxt hrg hlt8 hown hlt
   unfold opv at hen ⊢
   by_cases h1 : k1 = 7
   ·subst h1
    have p1 : (7 == 7 : Bool) = true:=by simp
    by_cases h2 : o1 = works
    ·subst h2
     have p2 : (o1 == o1) = true:=by simp
     go_wp2
     go_ret
     exact ⟨x,rfl,.inr ⟨i1,HXT.out⟩,HF8.out.trans (Fr.alloc _ _ _)⟩
    ·have p2 : (o1 == works) = false:=by simp [h2]
     go_wp2
     go_roundw
     case rel=>
      refine ⟨_,_,(HRG8.out.alloc _),fun y k i w hy hl hm=>?_,(HF8.out.trans (Fr.alloc _ _ _))⟩
      by_cases e : y = x
      ·subst e
       have:=HXT.out.symm.trans hy
       unfold opv at this
       cases this
       exact h2 hm.2
      ·refine HC.out y k i w hy ?_ hm
       have hk : (Lit.int .i64 y).sameKey (.int .i64 x) = false:=by simp [Lit.sameKey,e]
       simpa [hk] using hl
     case measure=>rw [(HRG8.out.alloc _).left_eq,HRG.out.left_eq];exact HLT8.out
   ·have p1 : (k1 == 7) = false:=by simp [h1]
    go_wp2
    go_roundw
    case rel=>
     refine ⟨_,_,(HRG8.out.alloc _),fun y k i w hy hl hm=>?_,(HF8.out.trans (Fr.alloc _ _ _))⟩
     by_cases e : y = x
     ·subst e
      have:=HXT.out.symm.trans hy
      unfold opv at this
      cases this
      exact h1 hm.1
     ·refine HC.out y k i w hy ?_ hm
      have hk : (Lit.int .i64 y).sameKey (.int .i64 x) = false:=by simp [Lit.sameKey,e]
      simpa [hk] using hl
    case measure=>rw [(HRG8.out.alloc _).left_eq,HRG.out.left_eq];exact HLT8.out
end Go.Proofs.YtnkelaohcbdjnaaGreat
set_option linter.unusedVariables false
set_option linter.unusedSimpArgs false
namespace Go.Proofs.YtnkelaohcbdjnaaGreat
open Go.RowKit Go.Maps
set_option maxRecDepth 100000 in
set_option maxHeartbeats 1000000 in
theorem right_any (S : Nat → Prop) (W : World) (fb mb : Nat) (s : FSt) (h : FL S W fb mb s) (ao : Option Addr) (n cp : Nat) (now : Int) :
 Calls Tryz.prog 20 #[.pointer (some ⟨fb,0,none⟩),.slice ao n cp,.int .i64 now] W fun e W'=>e = .returned (.bool (rightB s.l n now)) ∧ ∃ k,W' = W.drewN k:=by
 by_cases hn : n ≤ 4096
 rotate_left
 ·have HB:=Lib.hid (rightB_false (l:=s.l) (now:=now) (fun e=>hn e.1))
  have p1 : decide ((n : Int) ≤ 4096) = false:=decide_eq_false (by omega)
  have p1' : decide (n ≤ 4096) = false:=decide_eq_false hn
  clear h hn
  go_enter Tryz.func20,Tryz.ntmps20
  go_wp2
  (try go_quiet (fail))
  (try go_wp2)
  go_ret
  exact ⟨by rw [HB.out];rfl,by first | exact ⟨0,rfl⟩ | exact ⟨_,rfl⟩⟩
 have p1 : decide ((n : Int) ≤ 4096) = true:=decide_eq_true (by omega)
 have p1' : decide (n ≤ 4096) = true:=decide_eq_true hn
 by_cases h0 : 0 ≤ now
 rotate_left
 ·have HB:=Lib.hid (rightB_false (l:=s.l) (n:=n) (now:=now) (fun e=>h0 e.2.1))
  have p2 : decide (0 ≤ now) = false:=decide_eq_false h0
  clear h hn h0
  go_enter Tryz.func20,Tryz.ntmps20
  go_wp2
  (try go_quiet (fail))
  (try go_wp2)
  go_ret
  exact ⟨by rw [HB.out];rfl,by first | exact ⟨0,rfl⟩ | exact ⟨_,rfl⟩⟩
 have p2 : decide (0 ≤ now) = true:=decide_eq_true h0
 by_cases h1 : now ≤ 1099511627776
 rotate_left
 ·have HB:=Lib.hid (rightB_false (l:=s.l) (n:=n) (now:=now) (fun e=>h1 e.2.2.1))
  have p3 : decide (now ≤ 1099511627776) = false:=decide_eq_false h1
  clear h hn h0 h1
  go_enter Tryz.func20,Tryz.ntmps20
  go_wp2
  (try go_quiet (fail))
  (try go_wp2)
  go_ret
  exact ⟨by rw [HB.out];rfl,by first | exact ⟨0,rfl⟩ | exact ⟨_,rfl⟩⟩
 have p3 : decide (now ≤ 1099511627776) = true:=decide_eq_true h1
 cases hr : s.l.getLast? with
 | none=>
   have hnil : s.l = []:=List.getLast?_eq_none_iff.1 hr
   have HB:=Lib.hid (rightB_true (l:=s.l) (n:=n) (now:=now) ⟨hn,h0,h1,fun e he=>(by rw [hr] at he;cases he)⟩)
   obtain ⟨ao2,cp2,h3,_⟩:=h.at_
   have c4:=h3.cell 4
   simp only [fcells,hnil,List.length_nil,lA,lB,lC] at c4
   clear h h3 hr hnil hn h0 h1
   go_enter Tryz.func20,Tryz.ntmps20
   go_wp2
   (try go_quiet (fail))
   (try go_wp2)
   go_ret
   exact ⟨by rw [HB.out];rfl,by first | exact ⟨0,rfl⟩ | exact ⟨_,rfl⟩⟩
 | some e=>
   have hfew:=h.few
   obtain ⟨g,cp2,v,h3,hpos,hcp,_,_,_,hc⟩:=h.last hr
   have c4:=h3.cell 4
   simp only [fcells,lA,lB,lC] at c4
   have d1:=hc 1 (.int .i64 e.a) rfl
   obtain ⟨q,hq⟩ : ∃ q,s.l.length = q + 1:=⟨s.l.length - 1,by omega⟩
   rw [hq] at c4 hcp hfew d1
   rw [show q + 1 - 1 = q from rfl] at d1
   have p5 : (((q + 1 : Nat) : Int) == 0) = false:=by simp;omega
   have p6 : ((q : Int) + 1 == 0) = false:=by simp;omega
   obtain ⟨x,hx⟩ : ∃ x,e.a = x:=⟨_,rfl⟩
   rw [hx] at d1
   by_cases ha : x ≤ now
   ·have p4 : decide (x ≤ now) = true:=decide_eq_true ha
    have HB:=Lib.hid (rightB_true (l:=s.l) (n:=n) (now:=now) ⟨hn,h0,h1,fun e' he=>(by rw [hr] at he;cases he;omega)⟩)
    clear h h3 hr hc hq hx hn h0 h1 ha
    go_enter Tryz.func20,Tryz.ntmps20
    go_wp2
    (try go_quiet (fail))
    (try go_wp2)
    go_ret
    exact ⟨by rw [HB.out];rfl,by first | exact ⟨0,rfl⟩ | exact ⟨_,rfl⟩⟩
   ·have p4 : decide (x ≤ now) = false:=decide_eq_false ha
    have HB:=Lib.hid (rightB_false (l:=s.l) (n:=n) (now:=now) (fun e'=>(by have:=e'.2.2.2 e hr;omega)))
    clear h h3 hr hc hq hx hn h0 h1 ha
    go_enter Tryz.func20,Tryz.ntmps20
    go_wp2
    (try go_quiet (fail))
    (try go_wp2)
    go_ret
    exact ⟨by rw [HB.out];rfl,by first | exact ⟨0,rfl⟩ | exact ⟨_,rfl⟩⟩
set_option maxRecDepth 100000 in
set_option maxHeartbeats 1000000 in
theorem status_any (S : Nat → Prop) (W : World) (fb mb : Nat) (s : FSt) (h : FL S W fb mb s) :
 Calls Tryz.prog 15 #[.pointer (some ⟨fb,0,none⟩)] W fun e W'=>e = .returned (.int .i64 (statusK s.l)) ∧ W = W':=by
 cases hr : s.l.getLast? with
 | none=>
   have hnil : s.l = []:=List.getLast?_eq_none_iff.1 hr
   have HB : Hid (statusK s.l = 0):=Lib.hid (by unfold statusK;rw [hr])
   obtain ⟨ao2,cp2,h3,_⟩:=h.at_
   have c4:=h3.cell 4
   simp only [fcells,hnil,List.length_nil,lA,lB,lC] at c4
   clear h h3 hr hnil
   go_enter Tryz.func15,Tryz.ntmps15
   go_wp2
   go_ret
   exact ⟨by rw [HB.out];rfl,rfl⟩
 | some e=>
   have hfew:=h.few
   obtain ⟨g,cp2,v,h3,hpos,hcp,_,_,_,hc⟩:=h.last hr
   have c4:=h3.cell 4
   simp only [fcells,lA,lB,lC] at c4
   have d0:=hc 0 (.int .i64 e.k) rfl
   obtain ⟨q,hq⟩ : ∃ q,s.l.length = q + 1:=⟨s.l.length - 1,by omega⟩
   rw [hq] at c4 hcp hfew d0
   rw [show q + 1 - 1 = q from rfl,Nat.add_zero] at d0
   have p5 : (((q + 1 : Nat) : Int) == 0) = false:=by simp;omega
   have p6 : ((q : Int) + 1 == 0) = false:=by simp;omega
   obtain ⟨k,hk⟩ : ∃ x,e.k = x:=⟨_,rfl⟩
   rw [hk] at d0
   by_cases k0 : k = 19
   ·have HB : Hid (statusK s.l = 6):=Lib.hid (by unfold statusK;rw [hr];dsimp only;rw [if_pos (by omega)])
    clear h h3 hr hc hq hk 
    subst k0
    go_enter Tryz.func15,Tryz.ntmps15
    go_wp2
    go_ret
    exact ⟨by rw [HB.out];rfl,rfl⟩
   have e0 : (k == 19) = false:=by simp [k0]
   by_cases k1 : k = 20
   ·have HB : Hid (statusK s.l = 2):=Lib.hid (by unfold statusK;rw [hr];dsimp only;rw [if_neg (by omega)];rw [if_pos (by omega)])
    clear h h3 hr hc hq hk k0
    subst k1
    go_enter Tryz.func15,Tryz.ntmps15
    go_wp2
    go_ret
    exact ⟨by rw [HB.out];rfl,rfl⟩
   have e1 : (k == 20) = false:=by simp [k1]
   by_cases k2 : k = 21
   ·have HB : Hid (statusK s.l = 3):=Lib.hid (by unfold statusK;rw [hr];dsimp only;rw [if_neg (by omega)];rw [if_neg (by omega)];rw [if_pos (by omega)])
    clear h h3 hr hc hq hk k0 k1
    subst k2
    go_enter Tryz.func15,Tryz.ntmps15
    go_wp2
    go_ret
    exact ⟨by rw [HB.out];rfl,rfl⟩
   have e2 : (k == 21) = false:=by simp [k2]
   by_cases k3 : k = 22
   ·have HB : Hid (statusK s.l = 4):=Lib.hid (by unfold statusK;rw [hr];dsimp only;rw [if_neg (by omega)];rw [if_neg (by omega)];rw [if_neg (by omega)];rw [if_pos (by omega)])
    clear h h3 hr hc hq hk k0 k1 k2
    subst k3
    go_enter Tryz.func15,Tryz.ntmps15
    go_wp2
    go_ret
    exact ⟨by rw [HB.out];rfl,rfl⟩
   have e3 : (k == 22) = false:=by simp [k3]
   by_cases k4 : k = 23
   ·have HB : Hid (statusK s.l = 5):=Lib.hid (by unfold statusK;rw [hr];dsimp only;rw [if_neg (by omega)];rw [if_neg (by omega)];rw [if_neg (by omega)];rw [if_neg (by omega)];rw [if_pos (by omega)])
    clear h h3 hr hc hq hk k0 k1 k2 k3
    subst k4
    go_enter Tryz.func15,Tryz.ntmps15
    go_wp2
    go_ret
    exact ⟨by rw [HB.out];rfl,rfl⟩
   have e4 : (k == 23) = false:=by simp [k4]
   have HB : Hid (statusK s.l = 1):=Lib.hid (by unfold statusK;rw [hr];dsimp only;rw [if_neg (by omega),if_neg (by omega),if_neg (by omega),if_neg (by omega),if_neg (by omega)])
   clear h h3 hr hc hq hk k0 k1 k2 k3 k4
   go_enter Tryz.func15,Tryz.ntmps15
   go_wp2
   go_ret
   exact ⟨by rw [HB.out];rfl,rfl⟩
end Go.Proofs.YtnkelaohcbdjnaaGreat
set_option linter.unusedVariables false
set_option linter.unusedSimpArgs false
namespace Go.Proofs.YtnkelaohcbdjnaaGreat
open Go.RowKit Go.Maps
set_option maxRecDepth 100000 in
/-- a map's copy -/
theorem mclone_any (W : World) (mb c : Nat) (F : Int → Option Value) (h : Mp iKE W mb c F) :
 Calls Tryz.prog 105 #[.map (some mb)] W fun e W'=>e = .returned (.map (some W.heap.size)) ∧ Mp iKE W' W.heap.size c F ∧ Fr (fun _=>False) W W':=by
 obtain ⟨D,⟨es,clock,hb,r⟩,hs⟩:=h
 have hq:=fun w=>run_eql_map_nil_sl (P:=Tryz.prog) w 55 3 102 (some mb) Tryz.underlying55
 have HR:=Lib.hid r
 have HS:=Lib.hid hs
 clear r hs
 go_enter Tryz.func105,Tryz.ntmps105
 go_wp2
 rw [run_callFunc_extern Tryz.func111 (by kernel_rfl) (by kernel_rfl) (by kernel_rfl) (e:=Extern.MapsClone.clone) (by kernel_rfl),run_maps_clone_sl W 55 hb]
 simp only [Result.andThen]
 rw [Oper.upon_value]
 go_wp2
 rw [run_typeAssert_map_sl _ 55 20 _ _ _ Tryz.underlying55]
 simp only [Result.andThen]
 rw [Oper.upon_value]
 go_wp2
 go_ret
 exact ⟨rfl,⟨D,⟨es,clock,World.alloc_heap_new W _,HR.out⟩,HS.out⟩,Fr.alloc _ _ _⟩
set_option maxRecDepth 100000 in
set_option maxHeartbeats 1000000 in
theorem twin_any (S : Nat → Prop) (W : World) (hS : ∀ k,S k → k < W.heap.size) (fb mb : Nat) (s : FSt) (h : FL S W fb mb s) :
 Calls Tryz.prog 91 #[.pointer (some ⟨fb,0,none⟩)] W fun e W'=>∃ xb xm : Nat,e = .returned (.pointer (some ⟨xb,0,none⟩)) ∧ W.heap.size ≤ xb ∧ W.heap.size ≤ xm ∧ FL (fun k=>S k ∨ k = xb ∨ k = xm) W' xb xm s ∧ Fr (fun _=>False) W W':=by
 obtain ⟨ao,cp,vs,hvl,hb,hrow,hdat⟩:=h.f
 obtain ⟨n,hn⟩ : ∃ n,s.l.length = n:=⟨_,rfl⟩
 rw [hn] at hb
 have c0:=hb.cell 0
 have c1:=hb.cell 1
 have c2:=hb.cell 2
 have c3:=hb.cell 3
 have c4:=hb.cell 4
 have c5:=hb.cell 5
 have c6:=hb.cell 6
 have c7:=hb.cell 7
 have c8:=hb.cell 8
 have c9:=hb.cell 9
 have c10:=hb.cell 10
 have c11:=hb.cell 11
 simp only [fcells,lA,lB,lC] at c0 c1 c2 c3 c4 c5 c6 c7 c8 c9 c10 c11
 have hlt:=hb.lt
 have HH:=Lib.hid h
 have HROW:=Lib.hid hrow
 have HDAT:=Lib.hid hdat
 have HVL:=Lib.hid hvl
 have HN:=Lib.hid hn
 clear h hb hrow hdat hvl hn
 go_enter Tryz.func91,Tryz.ntmps91
 go_wp2_with fail
 have hX:=Blk.new W 57 (fcells s (.slice ao n cp) (.map (some mb)))
 have hfA : Fr (fun _=>False) W (W.alloc (.cells (fcells s (.slice ao n cp) (.map (some mb))) 57)):=Fr.alloc _ _ _
 have hM:=HH.out.m.fr hfA id
 simp only [fcells] at hX hfA hM
 obtain ⟨w1,hw1⟩ : ∃ w1,W.alloc (.cells #[.int .i64 s.id,.int .i64 s.run,.int .i64 s.list,.int .i64 s.n,.slice ao n cp,.int .i64 s.task,.int .i64 s.at_,.int .i64 s.bg,.int .i64 s.turn,.bool s.late,.bool s.asked,.map (some mb)] 57) = w1:=⟨_,rfl⟩
 rw [hw1] at hX hfA hM ⊢
 obtain ⟨xb,hxb⟩ : ∃ b,W.heap.size = b:=⟨_,rfl⟩
 rw [hxb] at hX hlt
 have HXB:=Lib.hid hxb
 refine (mclone_any w1 mb s.mc _ hM).mono ?_
 rintro e w2 ⟨rfl,hM2,hf2⟩
 have hX2:=hX.fr hf2 id
 have x11:=hX2.cell 11
 have y11:=hX2.frozen 11
 simp only [lA,lB,lC] at x11
 obtain ⟨xm,hxm⟩ : ∃ b,w1.heap.size = b:=⟨_,rfl⟩
 have hsz:=hfA.size
 have hxl:=hX.lt
 rw [hxm] at hM2 hsz hxl
 have HX2:=Lib.hid hX2
 have HM2:=Lib.hid hM2
 have HF2:=Lib.hid (hfA.trans hf2)
 rw [hxb] at hsz
 clear hX hX2 hM2 hf2 hfA hM hw1
 rw [hxb,hxm]
 clear hxb hxm
 go_wp2
 go_ret
 have hset:=HX2.out.set 11 (.map (some xm))
 have hf3:=Fr.setCell (S:=fun k=>k = xb) w2 ⟨xb,11,none⟩ (.map (some xm)) rfl
 have hfW : Fr (fun _=>False) W (w2.setCell ⟨xb,11,none⟩ (.map (some xm))):=⟨hf3.os.trans HF2.out.os,hf3.tape.trans HF2.out.tape,hf3.output.trans HF2.out.output,Nat.le_trans HF2.out.size hf3.size,fun k hk _=>(hf3.block k (Nat.lt_of_lt_of_le hk HF2.out.size) (by have:=HXB.out;omega)).trans (HF2.out.block k hk id)⟩
 refine ⟨xb,xm,rfl,by have:=HXB.out;omega,by have:=HXB.out;omega,⟨⟨ao,cp,vs,HVL.out,?_,?_,?_⟩,HM2.out.fr hf3 (by omega),HH.out.ok,HH.out.few⟩,hfW⟩
 ·rw [HN.out];exact hset
 ·refine (HROW.out.to (S':=fun k=>S k ∨ k = xb ∨ k = xm) (fun k hk e=>?_)).fr (hfW.mono fun _ e=>e.elim)
  rcases e with e | e | e
  ·exact e
  ·have:=HXB.out;omega
  ·have:=HXB.out;omega
 ·refine (HDAT.out.to (S':=fun k=>S k ∨ k = xb ∨ k = xm) (fun k hk e=>?_)).fr (hfW.mono fun _ e=>e.elim)
  rcases e with e | e | e
  ·exact e
  ·have:=HXB.out;omega
  ·have:=HXB.out;omega
set_option maxRecDepth 100000 in
set_option maxHeartbeats 1000000 in
theorem wants_any (S : Nat → Prop) (W : World) (fb mb : Nat) (s : FSt) (h : FL S W fb mb s) (ref turn : Int) (ht : 0 ≤ turn) :
 Calls Tryz.prog 52 #[.pointer (some ⟨fb,0,none⟩),.int .i64 ref,.int .i64 turn] W fun e W'=>e = .returned (.bool (decide (s.task = 1 ∧ s.at_ = ref ∧ s.turn = turn))) ∧ ∃ k,W' = W.drewN k:=by
 obtain ⟨ao,cp,vs,hvl,hb,hrow,hdat⟩:=h.f
 clear hvl hdat
 have c5:=hb.cell 5
 have c6:=hb.cell 6
 have c8:=hb.cell 8
 simp only [fcells,lA,lB,lC] at c5 c6 c8
 obtain ⟨ta,hta⟩ : ∃ x,s.task = x:=⟨_,rfl⟩
 obtain ⟨aa,haa⟩ : ∃ x,s.at_ = x:=⟨_,rfl⟩
 obtain ⟨tu,htu⟩ : ∃ x,s.turn = x:=⟨_,rfl⟩
 rw [hta] at c5 ⊢
 rw [haa] at c6 ⊢
 rw [htu] at c8 ⊢
 have p0 : (turn == -1) = false:=by simp;omega
 clear h hb hrow hta haa htu
 by_cases h1 : ta = 1
 ·have p1 : (ta == 1) = true:=by simp [h1]
  by_cases h2 : aa = ref
  ·have p2 : (aa == ref) = true:=by simp [h2]
   by_cases h3 : tu = turn
   ·have p3 : (tu == turn) = true:=by simp [h3]
    have HD : Hid (decide (ta = 1 ∧ aa = ref ∧ tu = turn) = true):=Lib.hid (decide_eq_true ⟨h1,h2,h3⟩)
    clear h1 h2 h3
    go_enter Tryz.func52,Tryz.ntmps52
    go_wp2
    try go_quiet (fail)
    try go_wp2
    go_ret
    exact ⟨by rw [HD.out];rfl,0,rfl⟩
   ·have p3 : (tu == turn) = false:=by simp [h3]
    have HD : Hid (decide (ta = 1 ∧ aa = ref ∧ tu = turn) = false):=Lib.hid (decide_eq_false (fun e=>h3 e.2.2))
    clear h1 h2 h3
    go_enter Tryz.func52,Tryz.ntmps52
    go_wp2
    go_ret
    exact ⟨by rw [HD.out];rfl,0,rfl⟩
  ·have p2 : (aa == ref) = false:=by simp [h2]
   have HD : Hid (decide (ta = 1 ∧ aa = ref ∧ tu = turn) = false):=Lib.hid (decide_eq_false (fun e=>h2 e.2.1))
   clear h1 h2
   go_enter Tryz.func52,Tryz.ntmps52
   go_wp2
   go_ret
   exact ⟨by rw [HD.out];rfl,0,rfl⟩
 ·have p1 : (ta == 1) = false:=by simp [h1]
  have HD : Hid (decide (ta = 1 ∧ aa = ref ∧ tu = turn) = false):=Lib.hid (decide_eq_false (fun e=>h1 e.1))
  clear h1
  go_enter Tryz.func52,Tryz.ntmps52
  go_wp2
  go_ret
  exact ⟨by rw [HD.out];rfl,0,rfl⟩
end Go.Proofs.YtnkelaohcbdjnaaGreat
