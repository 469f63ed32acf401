/- What the checks of a history compute -/
import Derived.Test.YtnkelaohcbdjnaaGreatEvP
import Derived.Maps.RangeWalk
import Derived.Deep.RegionHeld3
import Derived.Deep.Cut
import Derived.Deep.DeepCutAuto
import Derived.WideKeyEntry
set_option linter.unusedVariables false
set_option linter.unusedSimpArgs false
namespace Go.Proofs.YtnkelaohcbdjnaaGreat.Ev
open Go.RowKit Go.Maps
theorem wf_of {x : Int} (h1 : -9223372036854775808 ≤ x) (h2 : x ≤ 9223372036854775807) : (Lit.int .i64 x).wf = true:=WalkArith.wf_i64 ⟨h1,h2⟩
theorem zero3 (W : World) : (zeroValue 3).run Tryz.prog W = .ok (.int .i64 0) W:=by kernel_rfl
def hcells (h : Hi) (kb ib ob fb : Nat) : Array Value:=#[.int .i64 h.n,.int .i64 h.at_,.int .i64 h.closed,.map (some kb),.map (some ib),.int .i64 h.task,.bool h.begun,.map (some ob),.map (some fb)]
def mI (G : Int → Option Int) : Int → Option Value:=fun x=>(G x).map (Value.int .i64)
theorem put1_map (G : Int → Option Int) (x : Int) (v : Option Int) : upd (mI G) x (v.map (Value.int .i64)) = mI (put1 G x v):=by
 funext y
 unfold upd mI put1
 split <;> rfl
/-- THE HISTORY in block hb,its maps in kb,ib,ob,fb -/
structure HS (W : World) (hb kb ib ob fb : Nat) (h : Hi) : Prop where
 b : Blk W hb 121 (hcells h kb ib ob fb)
 k : ∃ c,c ≤ h.n ∧ Mp iKE W kb c (mI h.kinds)
 i : ∃ c,c ≤ h.n ∧ Mp iKE W ib c (mI h.ids)
 o : ∃ c,c ≤ h.n ∧ Mp iKE W ob c (mI h.of_)
 f : ∃ c,c ≤ h.n ∧ Mp iKE W fb c (mI h.from_)
 ne : kb ≠ ib ∧ kb ≠ ob ∧ kb ≠ fb ∧ ib ≠ ob ∧ ib ≠ fb ∧ ob ≠ fb
 few : h.n ≤ 1000000
 dk : ∀ x v,h.kinds x = some v → 1 ≤ x ∧ x ≤ h.n
 dv : ∀ x v,h.of_ x = some v → 0 ≤ v ∧ v ≤ 1099511627776
theorem mp_ne {W : World} {b c B : Nat} {F : Int → Option Value} {t : TypeId} {cs : Array Value} (h : Mp iKE W b c F) (hb : Blk W B t cs) : B ≠ b:=by
 rintro rfl
 obtain ⟨D,⟨es,clock,hb',_⟩,_⟩:=h
 have:=hb.symm.trans hb'
 cases this
theorem HS.fr {S : Nat → Prop} {W W' : World} {hb kb ib ob fb : Nat} {h : Hi} (hs : HS W hb kb ib ob fb h) (hf : Fr S W W') (h1 : ¬ S hb) (h2 : ¬ S kb) (h3 : ¬ S ib) (h4 : ¬ S ob) (h5 : ¬ S fb) : HS W' hb kb ib ob fb h:=
 ⟨hs.b.fr hf h1,by obtain ⟨c,hc,hM⟩:=hs.k;exact ⟨c,hc,hM.fr hf h2⟩,by obtain ⟨c,hc,hM⟩:=hs.i;exact ⟨c,hc,hM.fr hf h3⟩,by obtain ⟨c,hc,hM⟩:=hs.o;exact ⟨c,hc,hM.fr hf h4⟩,by obtain ⟨c,hc,hM⟩:=hs.f;exact ⟨c,hc,hM.fr hf h5⟩,hs.ne,hs.few,hs.dk,hs.dv⟩
theorem HS.fr0 {W W' : World} {hb kb ib ob fb : Nat} {h : Hi} (hs : HS W hb kb ib ob fb h) (hf : Fr (fun _=>False) W W') : HS W' hb kb ib ob fb h:=hs.fr hf id id id id id
theorem HS.lt {W : World} {hb kb ib ob fb : Nat} {h : Hi} (hs : HS W hb kb ib ob fb h) : hb < W.heap.size ∧ kb < W.heap.size ∧ ib < W.heap.size ∧ ob < W.heap.size ∧ fb < W.heap.size:=by
 obtain ⟨_,_,h1⟩:=hs.k
 obtain ⟨_,_,h2⟩:=hs.i
 obtain ⟨_,_,h3⟩:=hs.o
 obtain ⟨_,_,h4⟩:=hs.f
 exact ⟨hs.b.lt,h1.lt,h2.lt,h3.lt,h4.lt⟩
theorem mlook {W : World} {b N : Nat} {G : Int → Option Int} (h : ∃ c,c ≤ N ∧ Mp iKE W b c (mI G)) {x : Int} (hx : iKE.ok x) : (Instr.lookup 119 (.map (some b)) (.int .i64 x) false).run Tryz.prog W = .ok (.int .i64 ((G x).getD 0)) W:=by
 obtain ⟨c,_,hM⟩:=h
 have:=hM.look Tryz.underlying119 (zero3 _) hx
 rw [show (iKE.kv x) = .int .i64 x from rfl] at this
 rw [this]
 unfold mI
 cases G x <;> rfl
theorem mlook_ok {W : World} {b N : Nat} {G : Int → Option Int} (h : ∃ c,c ≤ N ∧ Mp iKE W b c (mI G)) {x : Int} (hx : iKE.ok x) : (Instr.lookup 119 (.map (some b)) (.int .i64 x) true).run Tryz.prog W = .ok (.tuple #[.int .i64 ((G x).getD 0),.bool (G x).isSome]) W:=by
 obtain ⟨c,_,hM⟩:=h
 have:=hM.look_ok Tryz.underlying119 (zero3 _) hx
 rw [show (iKE.kv x) = .int .i64 x from rfl] at this
 rw [this]
 unfold mI
 cases G x <;> rfl
theorem frM {W W' : World} {b : Nat} (h : W.mapTurned W' b) : Fr (fun k=>k = b) W W':=.grown h.grown (fun k e=>(Option.some.inj e).symm)
theorem mdrop {W : World} {b N : Nat} {G : Int → Option Int} (h : ∃ c,c ≤ N ∧ Mp iKE W b c (mI G)) {x : Int} (hx : iKE.ok x) (ty : TypeId) :
 ∃ W',(Builtin.delete_ #[119,3] ty #[.map (some b),.int .i64 x]).run Tryz.prog W = .ok (.tuple #[]) W' ∧ (∃ c,c ≤ N ∧ Mp iKE W' b c (mI (put1 G x none))) ∧ Fr (fun k=>k = b) W W':=by
 obtain ⟨c,hc,hM⟩:=h
 obtain ⟨W',hrun,hM',ht⟩:=hM.drop Tryz.underlying119 hx ty
 have hM2:=hM'
 rw [show upd (mI G) x none = _ from put1_map G x none] at hM2
 exact ⟨W',hrun,⟨_,(by split <;> omega),hM2⟩,frM ht⟩
open Go.ChangeMaps Go.WideShapes in
/-- the two halves of a store into a map,keys of one kind -/
theorem halves {P : Program} {t k e : TypeId} {w : World} {b : Nat} {es : Array MapEntry} {clock : Nat} {R : Value → Option (DataW Value × List MemPlace)} (K : Keyed P k) (ht : P.underlying t = some (.map k e)) {z : Value} (hz : ∀ u : World,(zeroValue e).run P u = .ok z u) (hb : w.heap[b]? = some (.map es clock)) (F : Go.WideElems.Fit P k R es clock)
 {key : Value} {kl : Lit} (hkey : keyOf P k key = some kl) :
 ∃ (v0 : Value) (st : Nat) (es1 : Array MapEntry) (clock1 : Nat),(Instr.mapEntry t (.map (some b)) key).run P w = .ok (.tuple #[v0,goInt st]) (setBlock w b (.map es1 clock1)) ∧
  ∀ (w2 : World) (val : Value),w2.heap[b]? = some (.map es1 clock1) → ∃ es' clock',(Instr.entryStore t (.map (some b)) (goInt st) val).run P w2 = .ok () (setBlock w2 b (.map es' clock')) ∧
   (Instr.mapUpdate t (.map (some b)) key val).run P w = .ok () (setBlock w b (.map es' clock')):=by
 obtain ⟨s1,s2,_⟩:=F.stamped
 have hck:=K.check w false hkey
 have hst:=K.stays w hkey
 rcases K.find w hkey es.toList F.keys with ⟨h1,_⟩ | ⟨j,e0,h1,h2,h3⟩
 ·have hlast : (es.push ⟨key,z,clock⟩).findIdx? (fun e=>((e.born : Nat) : Int) == ((clock : Nat) : Int)) = some es.size:=by
   rw [Go.WideElems.findIdx_arr]
   refine Go.WideElems.findIdx_born (e0:=⟨key,z,clock⟩) ?_ (by simp)
   rw [Array.toList_push,List.map_append,List.nodup_append]
   refine ⟨s2,by simp,fun a ha c hc e1=>?_⟩
   simp only [List.map_cons,List.map_nil,List.mem_singleton] at hc
   obtain ⟨x,hx,rfl⟩:=List.mem_map.1 ha
   have:=s1 x hx
   omega
  refine ⟨z,clock,es.push ⟨key,z,clock⟩,clock + 1,?_,fun w2 val hw2=>⟨es.push ⟨key,val,clock⟩,clock + 1,?_,?_⟩⟩
  ·simp [Instr.mapEntry,run_underlying ht,MapKept.run_getObj_map hb,hck,h1,hz,MapKept.run_setObj_map _ hb,Result.andThen,setBlock]
  ·have hm : (es.push ⟨key,z,clock⟩).modify es.size (fun e=>{ e with val:=val }) = es.push ⟨key,val,clock⟩:=by
    apply Array.ext'
    rw [Array.toList_modify,Array.toList_push,Array.toList_push,← Array.length_toList,Go.WideElems.modify_last]
   simp [Instr.entryStore,MapKept.run_getObj_map hw2,asInt,asIntOf,goInt,hlast,hm,MapKept.run_setObj_map _ hw2,Result.andThen,setBlock]
  ·simp [Instr.mapUpdate,run_underlying ht,MapKept.run_getObj_map hb,hck,h1,MapKept.run_setObj_map _ hb,Result.andThen,setBlock]
 ·have hj : es[j]? = some e0:=by simpa using h2
  have hsame : es.modify j (fun e=>{ e with key:=key }) = es:=by
   apply Array.ext'
   rw [Array.toList_modify,modify_eq_set _ _ _ _ h2,show ({ e0 with key:=key } : MapEntry) = e0 by rw [← h3]]
   exact Go.WideElems.set_self _ _ _ h2
  refine ⟨e0.val,e0.born,es,clock,?_,fun w2 val hw2=>⟨es.modify j (fun e'=>{ e' with key:=key,val:=val }),clock,?_,?_⟩⟩
  ·simp [Instr.mapEntry,run_underlying ht,MapKept.run_getObj_map hb,hck,h1,hj,h3,hst,hsame,MapKept.run_setObj_map _ hb,Result.andThen,setBlock]
  ·have hi : es.findIdx? (fun e=>((e.born : Nat) : Int) == ((e0.born : Nat) : Int)) = some j:=by
    rw [Go.WideElems.findIdx_arr]
    exact Go.WideElems.findIdx_born s2 h2
   have hm : es.modify j (fun e=>{ e with val:=val }) = es.modify j (fun e'=>{ e' with key:=key,val:=val }):=by
    apply Array.ext'
    rw [Array.toList_modify,Array.toList_modify,modify_eq_set _ _ _ _ h2,modify_eq_set _ _ _ _ h2,← h3]
   simp [Instr.entryStore,MapKept.run_getObj_map hw2,asInt,asIntOf,goInt,hi,hm,MapKept.run_setObj_map _ hw2,Result.andThen,setBlock]
  ·simp [Instr.mapUpdate,run_underlying ht,MapKept.run_getObj_map hb,hck,h1,hj,h3,hst,MapKept.run_setObj_map _ hb,Result.andThen,setBlock]
open Go.ChangeMaps in
/-- an entry,then what is stored in it -/
theorem mentry {W : World} {b N : Nat} {G : Int → Option Int} (h : ∃ c,c ≤ N ∧ Mp iKE W b c (mI G)) (hN : N ≤ 1000000) {x : Int} (hx : iKE.ok x) :
 ∃ (v0 : Value) (st : Nat) (W1 : World),(Instr.mapEntry 119 (.map (some b)) (.int .i64 x)).run Tryz.prog W = .ok (.tuple #[v0,.int .i64 (st : Int)]) W1 ∧ Fr (fun k=>k = b) W W1 ∧
  ∀ (w2 : World) (v : Int),Fr (fun k=>k ≠ b) W1 w2 → ∃ W',(Instr.entryStore 119 (.map (some b)) (.int .i64 (st : Int)) (.int .i64 v)).run Tryz.prog w2 = .ok () W' ∧ Fr (fun k=>k = b) w2 W' ∧ ∃ c,c ≤ N + 1 ∧ Mp iKE W' b c (mI (put1 G x (some v))):=by
 obtain ⟨c,hc,hM⟩:=h
 have hM0:=hM
 obtain ⟨D,⟨es,clock,hb,Fi,hs,hDe⟩,hsz,hD⟩:=hM
 obtain ⟨v0,st,es1,clock1,h1,h3⟩:=halves (int_keyed under3) Tryz.underlying119 zero3 hb Fi (iKE.hk x hx)
 have hfr : Fr (fun k=>k = b) W (setBlock W b (.map es1 clock1)):=frM ⟨es,clock,es1,clock1,hb,rfl⟩
 have hb1 : (setBlock W b (.map es1 clock1)).heap[b]? = some (.map es1 clock1):=heap_setBlock_same hb _
 refine ⟨v0,st,_,h1,hfr,fun w2 v hf=>?_⟩
 have hb2 : w2.heap[b]? = some (.map es1 clock1):=(hf.block b (Array.getElem?_eq_some_iff.1 hb1).1 (fun e=>e rfl)).trans hb1
 obtain ⟨es',clock',h4,h5⟩:=h3 w2 (.int .i64 v) hb2
 refine ⟨_,h4,frM ⟨_,_,es',clock',hb2,rfl⟩,?_⟩
 obtain ⟨W',hrun,hM',ht⟩:=hM0.store Tryz.underlying119 (by unfold maxLen;omega) hx (.int .i64 v)
 have e1 : W' = setBlock W b (.map es' clock'):=by
  have:=hrun.symm.trans h5
  injection this
 subst e1
 rw [show upd (mI G) x (some (Value.int .i64 v)) = _ from put1_map G x (some v)] at hM'
 obtain ⟨D',⟨es2,clock2,hb3,r⟩,s⟩:=hM'
 refine ⟨_,(by split <;> omega),D',⟨es2,clock2,?_,r⟩,s⟩
 rw [heap_setBlock_same hb] at hb3
 rw [heap_setBlock_same hb2]
 exact hb3
theorem next_val {D : DataW Value} {F : Int → Option Int} (hD : ∀ x,iKE.ok x → Maps.has D (iKE.kl x) = (mI F x).isSome ∧ ∀ z,D.atKey (iKE.kl x) z = (match mI F x with | some v=>.held v | none=>z)) {x : Int} {cv : Value} {kl : Lit} {y : DataW Value × List MemPlace}
 (hkey : keyOf Tryz.prog 3 (.int .i64 x) = some kl) (hR : rawR cv = some y) (hat : ∀ zd,D.atKey kl zd = y.1) : kl = .int .i64 x ∧ iKE.ok x ∧ ∃ t,cv = .int .i64 t ∧ F x = some t:=by
 obtain ⟨x',ex,rfl,hw⟩:=Maps.keyOf_int_inv under3 hkey
 cases ex
 refine ⟨rfl,hw,?_⟩
 have h2:=(hD x hw).2
 have hy : y = (.held cv,[]):=(Option.some.inj hR).symm
 subst hy
 unfold mI at h2
 cases hF : F x with
 | none=>
   have e1:=(h2 (.held undef)).symm.trans (hat (.held undef))
   have e2:=(h2 (.map [])).symm.trans (hat (.map []))
   rw [hF] at e2
   cases e2
 | some t=>
   have e1:=(h2 (.map [])).symm.trans (hat (.map []))
   rw [hF] at e1
   injection e1 with e1
   exact ⟨t,e1.symm,rfl⟩
set_option maxRecDepth 100000 in
set_option maxHeartbeats 1000000 in
theorem uses_any (W : World) (hb kb ib ob fb : Nat) (s : Hi) (h : HS W hb kb ib ob fb s) (k id : Int) :
 Calls Tryz.prog 104 #[.pointer (some ⟨hb,0,none⟩),.int .i64 k,.int .i64 id] W fun e W'=>e = .returned (.bool (usesB s k id)) ∧ Fr (fun _=>False) W W':=by
 have c3:=h.b.cell 3
 have c4:=h.b.cell 4
 simp only [hcells,lA,lB,lC] at c3 c4
 obtain ⟨c,hc,D,hown,hsize,hD⟩:=h.k
 have HDD:=Lib.hid hD
 have HH:=Lib.hid h
 have HLT:=Lib.hid h.lt
 clear hD h
 go_enter Tryz.func104,Tryz.ntmps104
 go_wp2_with (at_range;refine wpList_range_own _ rfl _ 119 rfl 3 3 (int_keyed under3) Tryz.underlying119 rawR kb c D rfl hown ?_;intro w7 hrg7 hg7 hs7)
 go_frame
 go_loopw [7] (fun _ wz=>∃ left cnt,wz.ranges Tryz.prog 3 rawR kb W.heap.size c D left cnt ∧ (∀ x v,s.kinds x = some v → left (.int .i64 x) = false → ¬ (v = k ∧ (s.ids x).getD 0 = id)) ∧ Fr (fun _=>False) W wz) (fun _ wz=>wz.rangeLeft kb W.heap.size)
 case atStart=>
  refine ⟨_,_,hrg7,fun x v hx hl=>?_,Fr.grown hg7 (fun k e=>nomatch e)⟩
  have hok : iKE.ok x:=by have:=HH.out.dk x v hx;have:=HH.out.few;exact wf_of (by omega) (by omega)
  have:=(HDD.out x hok).1
  have e : Maps.has D (.int .i64 x) = (mI s.kinds x).isSome:=this
  rw [e] at hl
  unfold mI at hl
  rw [hx] at hl
  simp at hl
 case round=>
  obtain ⟨left,cnt,hrg,hC,hf7⟩:=hrel
  clear hrg7 hg7 hs7
  have HF7:=Lib.hid hf7
  have HC:=Lib.hid hC
  clear hf7 hC
  go_wp2_with (at_next;refine wpList_next_ranges _ rfl _ rfl 3 (int_keyed under3) rawR (Value.int .i64) _root_.id (fun key kl h=>by obtain ⟨x,rfl,_⟩:=Maps.keyOf_int_inv under3 h;exact ⟨x,rfl⟩) (fun v y _=>⟨v,rfl⟩) kb W.heap.size c D left cnt rfl hrg ?_ ?_)
  case _=>
   intro hc0 hl0
   have hu : usesB s k id = false:=usesB_false (by rintro ⟨x,h1,h2⟩;exact HC.out x k h1 (hl0 _) ⟨rfl,h2⟩)
   have HU:=Lib.hid hu
   clear hc0 hl0 hown hu
   go_wp2
   go_ret
   exact ⟨by rw [HU.out];rfl,HF7.out⟩
  case _=>
   intro x cv kl y1 y2 w8 cnt8 hkey hlk hR hat hrg8 hlt8 hg8 hs8 hen
   obtain ⟨rfl,hxk,t,rfl,hxt⟩:=next_val HDD.out hkey hR hat
   have hlt:=HLT.out
   have HF8 : Hid (Fr (fun _=>False) W w8):=Lib.hid (⟨hg8.os.trans HF7.out.os,hg8.tape.trans HF7.out.tape,hg8.output.trans HF7.out.output,Nat.le_trans HF7.out.size hg8.size,fun k hk hn=>(hg8.block k (Nat.lt_of_lt_of_le hk HF7.out.size) (fun e=>by have:=Option.some.inj e;omega)).trans (HF7.out.block k hk hn)⟩)
   have HH8:=Lib.hid (HH.out.fr0 HF8.out)
   have c4':=HH8.out.b.cell 4
   simp only [hcells,lA,lB,lC] at c4'
   have hml:=mlook HH8.out.i hxk
   have HRG8:=Lib.hid hrg8
   have HLT8:=Lib.hid hlt8
   have HRG:=Lib.hid hrg
   have HXT:=Lib.hid hxt
   clear hkey hlk hR hat hrg8 hg8 hs8 hxt hrg hlt8 hown c3 c4 hlt
   obtain ⟨z,hz⟩ : ∃ z,(s.ids x).getD 0 = z:=⟨_,rfl⟩
   rw [hz] at hml
   have HZ:=Lib.hid hz
   clear hz
   by_cases h1 : t = k
   ·subst h1
    have p1 : (t == t) = true:=by simp
    by_cases h2 : z = id
    ·subst h2
     have p2 : (z == z) = true:=by simp
     have HU:=Lib.hid (usesB_true (s:=s) ⟨x,HXT.out,HZ.out⟩)
     go_wp2
     go_ret
     exact ⟨by rw [HU.out];rfl,HF8.out⟩
    ·have p2 : (z == id) = false:=by simp [h2]
     go_wp2
     go_roundw
     case rel=>
      refine ⟨_,_,HRG8.out,fun y v hy hl hm=>?_,HF8.out⟩
      by_cases e : y = x
      ·subst e
       have:=HXT.out.symm.trans hy
       cases this
       exact h2 (HZ.out.symm.trans hm.2)
      ·refine HC.out y v hy ?_ hm
       have hk : (Lit.int .i64 y).sameKey (.int .i64 x) = false:=by simp [Lit.sameKey,e]
       simpa [hk] using hl
     case measure=>rw [HRG8.out.left_eq,HRG.out.left_eq];exact HLT8.out
   ·have p1 : (t == k) = false:=by simp [h1]
    go_wp2
    go_roundw
    case rel=>
     refine ⟨_,_,HRG8.out,fun y v hy hl hm=>?_,HF8.out⟩
     by_cases e : y = x
     ·subst e
      have:=HXT.out.symm.trans hy
      cases this
      exact h1 hm.1
     ·refine HC.out y v hy ?_ hm
      have hk : (Lit.int .i64 y).sameKey (.int .i64 x) = false:=by simp [Lit.sameKey,e]
      simpa [hk] using hl
    case measure=>rw [HRG8.out.left_eq,HRG.out.left_eq];exact HLT8.out
set_option maxRecDepth 100000 in
theorem between_any (W : World) (v : Int) : Calls Tryz.prog 110 #[.int .i64 v] W fun e W'=>e = .returned (.bool (betB v)) ∧ W = W':=by
 by_cases h1 : 0 ≤ v
 ·have p1 : decide (0 ≤ v) = true:=decide_eq_true h1
  by_cases h2 : v ≤ 1099511627776
  ·have p2 : decide (v ≤ 1099511627776) = true:=decide_eq_true h2
   go_enter Tryz.func110,Tryz.ntmps110
   go_wp2
   go_ret
   exact ⟨by simp only [betB,p1,p2];rfl,rfl⟩
  ·have p2 : decide (v ≤ 1099511627776) = false:=decide_eq_false h2
   go_enter Tryz.func110,Tryz.ntmps110
   go_wp2
   go_ret
   exact ⟨by simp only [betB,p1,p2];rfl,rfl⟩
 ·have p1 : decide (0 ≤ v) = false:=decide_eq_false h1
  go_enter Tryz.func110,Tryz.ntmps110
  go_wp2
  go_ret
  exact ⟨by simp only [betB,p1];rfl,rfl⟩
set_option maxRecDepth 100000 in
theorem closes_any (W : World) (v : Int) : Calls Tryz.prog 90 #[.int .i64 v] W fun e W'=>e = .returned (.bool (closeB v)) ∧ W = W':=by
 by_cases h1 : 19 ≤ v
 ·have p1 : decide (19 ≤ v) = true:=decide_eq_true h1
  by_cases h2 : v ≤ 23
  ·have p2 : decide (v ≤ 23) = true:=decide_eq_true h2
   go_enter Tryz.func90,Tryz.ntmps90
   go_wp2
   go_ret
   exact ⟨by simp only [closeB,p1,p2];rfl,rfl⟩
  ·have p2 : decide (v ≤ 23) = false:=decide_eq_false h2
   go_enter Tryz.func90,Tryz.ntmps90
   go_wp2
   go_ret
   exact ⟨by simp only [closeB,p1,p2];rfl,rfl⟩
 ·have p1 : decide (19 ≤ v) = false:=decide_eq_false h1
  go_enter Tryz.func90,Tryz.ntmps90
  go_wp2
  go_ret
  exact ⟨by simp only [closeB,p1];rfl,rfl⟩
set_option maxRecDepth 100000 in
set_option maxHeartbeats 2000000 in
theorem right_any (W : World) (e : Ev) : Calls Tryz.prog 102 #[.agg (evc e)] W fun r W'=>r = .returned (.bool (rightB e)) ∧ Fr (fun _=>False) W W':=by
 have hB:=Blk.new W 62 (evc e)
 have hF : Fr (fun _=>False) W (W.alloc (.cells (evc e) 62)):=Fr.alloc _ _ _
 obtain ⟨w1,hw1⟩ : ∃ w1,W.alloc (.cells (evc e) 62) = w1:=⟨_,rfl⟩
 rw [hw1] at hB hF
 obtain ⟨k,at_,ref,id,list,n,ao,dl,cp⟩:=e
 simp only [evc] at hw1 hB ⊢
 have c0:=hB.cell 0
 have c1:=hB.cell 1
 have c2:=hB.cell 2
 have c3:=hB.cell 3
 have c4:=hB.cell 4
 have c5:=hB.cell 5
 have c6:=hB.cell 6
 simp only [lA,lB,lC] at c0 c1 c2 c3 c4 c5 c6
 obtain ⟨bb,hbb⟩ : ∃ b,W.heap.size = b:=⟨_,rfl⟩
 rw [hbb] at c0 c1 c2 c3 c4 c5 c6
 have HF:=Lib.hid hF
 have HW1:=hw1
 clear hB hF
 obtain ⟨r,hr⟩ : ∃ r,rightB ⟨k,at_,ref,id,list,n,ao,dl,cp⟩ = r:=⟨_,rfl⟩
 simp only [hr]
 have HR:=Lib.hid hr
 clear hr
 go_enter Tryz.func102,Tryz.ntmps102
 go_upto_region 1 with (fail)
 try rw [hw1]
 try rw [hbb]
 clear hw1 hbb HW1
 by_cases h1 : 1 ≤ k
 ·have p1 : decide (1 ≤ k) = true:=decide_eq_true h1
  by_cases h2 : k ≤ 23
  ·have p2 : decide (k ≤ 23) = true:=decide_eq_true h2
   cases qat_ : betB at_ with
   | false=>
     go_wp2_with (first | (go_at_call 110;refine (between_any _ _).mono ?_;rintro e w2 ⟨rfl,rfl⟩) | go_in)
     go_ret
     exact ⟨by rw [← HR.out];simp only [rightB,p1,p2,qat_];rfl,HF.out⟩
   | true=>
     cases qref : betB ref with
     | false=>
       go_wp2_with (first | (go_at_call 110;refine (between_any _ _).mono ?_;rintro e w2 ⟨rfl,rfl⟩) | go_in)
       go_ret
       exact ⟨by rw [← HR.out];simp only [rightB,p1,p2,qat_,qref];rfl,HF.out⟩
     | true=>
       cases qid : betB id with
       | false=>
         go_wp2_with (first | (go_at_call 110;refine (between_any _ _).mono ?_;rintro e w2 ⟨rfl,rfl⟩) | go_in)
         go_ret
         exact ⟨by rw [← HR.out];simp only [rightB,p1,p2,qat_,qref,qid];rfl,HF.out⟩
       | true=>
         cases qlist : betB list with
         | false=>
           go_wp2_with (first | (go_at_call 110;refine (between_any _ _).mono ?_;rintro e w2 ⟨rfl,rfl⟩) | go_in)
           go_ret
           exact ⟨by rw [← HR.out];simp only [rightB,p1,p2,qat_,qref,qid,qlist];rfl,HF.out⟩
         | true=>
           cases qn : betB n with
           | false=>
             go_wp2_with (first | (go_at_call 110;refine (between_any _ _).mono ?_;rintro e w2 ⟨rfl,rfl⟩) | go_in)
             go_ret
             exact ⟨by rw [← HR.out];simp only [rightB,p1,p2,qat_,qref,qid,qlist,qn];rfl,HF.out⟩
           | true=>
             by_cases h3 : dl ≤ 4096
             ·have p3 : decide ((dl : Int) ≤ 4096) = true:=decide_eq_true (by omega)
              have p4 : decide (dl ≤ 4096) = true:=decide_eq_true h3
              go_wp2_with (first | (go_at_call 110;refine (between_any _ _).mono ?_;rintro e w2 ⟨rfl,rfl⟩) | go_in)
              go_ret
              exact ⟨by rw [← HR.out];simp only [rightB,p1,p2,qat_,qref,qid,qlist,qn,p4];rfl,HF.out⟩
             ·have p3 : decide ((dl : Int) ≤ 4096) = false:=decide_eq_false (by omega)
              have p4 : decide (dl ≤ 4096) = false:=decide_eq_false h3
              go_wp2_with (first | (go_at_call 110;refine (between_any _ _).mono ?_;rintro e w2 ⟨rfl,rfl⟩) | go_in)
              go_ret
              exact ⟨by rw [← HR.out];simp only [rightB,p1,p2,qat_,qref,qid,qlist,qn,p4];rfl,HF.out⟩
  ·have p2 : decide (k ≤ 23) = false:=decide_eq_false h2
   go_wp2_with (first | (go_at_call 110;refine (between_any _ _).mono ?_;rintro e w2 ⟨rfl,rfl⟩) | go_in)
   go_ret
   exact ⟨by rw [← HR.out];simp only [rightB,p1,p2];rfl,HF.out⟩
 ·have p1 : decide (1 ≤ k) = false:=decide_eq_false h1
  go_wp2_with (first | (go_at_call 110;refine (between_any _ _).mono ?_;rintro e w2 ⟨rfl,rfl⟩) | go_in)
  go_ret
  exact ⟨by rw [← HR.out];simp only [rightB,p1];rfl,HF.out⟩
set_option maxRecDepth 100000 in
set_option maxHeartbeats 1000000 in
theorem drop_any (W : World) (hb kb ib ob fb : Nat) (s : Hi) (h : HS W hb kb ib ob fb s) (x : Int) (hx : iKE.ok x) :
 Calls Tryz.prog 89 #[.pointer (some ⟨hb,0,none⟩),.int .i64 x] W fun e W'=>e = .returned (.tuple #[]) ∧ HS W' hb kb ib ob fb (dropped s x) ∧ Fr (fun k=>k = kb ∨ k = ib) W W':=by
 obtain ⟨W1,hrun1,hM1,hf1⟩:=mdrop h.k hx 0
 obtain ⟨_,_,hMk⟩:=h.k
 obtain ⟨_,_,hMi⟩:=h.i
 have hn1:=mp_ne hMk h.b
 have hn2:=mp_ne hMi h.b
 have hi1 : ∃ c,c ≤ s.n ∧ Mp iKE W1 ib c (mI s.ids):=by obtain ⟨c,hc,hM⟩:=h.i;exact ⟨c,hc,hM.fr hf1 (fun e=>h.ne.1 e.symm)⟩
 obtain ⟨W2,hrun2,hM2,hf2⟩:=mdrop hi1 hx 0
 have c3:=h.b.cell 3
 have c4:=(h.b.fr hf1 hn1).cell 4
 simp only [hcells,lA,lB,lC] at c3 c4
 have HH:=Lib.hid h
 have HM1:=Lib.hid hM1
 have HM2:=Lib.hid hM2
 have HF1:=Lib.hid hf1
 have HF2:=Lib.hid hf2
 have HN:=Lib.hid (And.intro hn1 hn2)
 clear hM1 hM2 hf1 hf2 h hMk hMi hn1 hn2 hi1
 go_enter Tryz.func89,Tryz.ntmps89
 go_wp2
 go_end0
 have h:=HH.out
 have hf12 : Fr (fun k=>k = kb ∨ k = ib) W W2:=(HF1.out.mono fun _ e=>.inl e).trans (HF2.out.mono fun _ e=>.inr e)
 obtain ⟨n1,n2,n3,n4,n5,n6⟩:=h.ne
 refine ⟨rfl,⟨h.b.fr hf12 (by have:=HN.out;omega),?_,HM2.out,?_,?_,h.ne,h.few,fun y v hy=>?_,h.dv⟩,hf12⟩
 ·obtain ⟨c,hc,hM⟩:=HM1.out;exact ⟨c,hc,hM.fr HF2.out n1⟩
 ·obtain ⟨c,hc,hM⟩:=h.o;exact ⟨c,hc,hM.fr hf12 (by omega)⟩
 ·obtain ⟨c,hc,hM⟩:=h.f;exact ⟨c,hc,hM.fr hf12 (by omega)⟩
 ·refine h.dk y v ?_
  unfold dropped put1 at hy
  dsimp only at hy
  split at hy
  ·cases hy
  ·exact hy
set_option maxRecDepth 100000 in
set_option maxHeartbeats 1000000 in
theorem begin_any (W : World) : Calls Tryz.prog 48 #[] W fun e W'=>∃ hb kb ib ob fb : Nat,e = .returned (.pointer (some ⟨hb,0,none⟩)) ∧ W.heap.size ≤ hb ∧ W.heap.size ≤ kb ∧ W.heap.size ≤ ib ∧ W.heap.size ≤ ob ∧ W.heap.size ≤ fb ∧ HS W' hb kb ib ob fb hi0 ∧ Fr (fun _=>False) W W':=by
 have hmm:=@run_makeMap Tryz.prog
 have hW : ∀ (w : World),Mp iKE (w.alloc (.map #[] 0)) w.heap.size 0 (mI fun _=>none):=fun w=>Mp.made iKE w
 have m1:=hW W
 have m2:=hW (W.alloc (.map #[] 0))
 have m3:=hW ((W.alloc (.map #[] 0)).alloc (.map #[] 0))
 have m4:=hW (((W.alloc (.map #[] 0)).alloc (.map #[] 0)).alloc (.map #[] 0))
 have hHS : HS (((((W.alloc (.map #[] 0)).alloc (.map #[] 0)).alloc (.map #[] 0)).alloc (.map #[] 0)).alloc (.cells (hcells hi0 W.heap.size (W.heap.size + 1) (W.heap.size + 1 + 1) (W.heap.size + 1 + 1 + 1)) 121)) (W.heap.size + 1 + 1 + 1 + 1) W.heap.size (W.heap.size + 1) (W.heap.size + 1 + 1) (W.heap.size + 1 + 1 + 1) hi0:=by
  simp only [World.size_alloc] at m2 m3 m4
  refine ⟨?_,⟨0,Nat.le_refl _,(((m1.alloc _).alloc _).alloc _).alloc _⟩,⟨0,Nat.le_refl _,((m2.alloc _).alloc _).alloc _⟩,⟨0,Nat.le_refl _,(m3.alloc _).alloc _⟩,⟨0,Nat.le_refl _,m4.alloc _⟩,by omega,by simp [hi0],fun x v h=>(by cases h),fun x v h=>(by cases h)⟩
  have:=Blk.new ((((W.alloc (.map #[] 0)).alloc (.map #[] 0)).alloc (.map #[] 0)).alloc (.map #[] 0)) 121 (hcells hi0 W.heap.size (W.heap.size + 1) (W.heap.size + 1 + 1) (W.heap.size + 1 + 1 + 1))
  simpa only [World.size_alloc] using this
 have hF : Fr (fun _=>False) W (((((W.alloc (.map #[] 0)).alloc (.map #[] 0)).alloc (.map #[] 0)).alloc (.map #[] 0)).alloc (.cells (hcells hi0 W.heap.size (W.heap.size + 1) (W.heap.size + 1 + 1) (W.heap.size + 1 + 1 + 1)) 121)):=((((Fr.alloc _ W _).trans (Fr.alloc _ _ _)).trans (Fr.alloc _ _ _)).trans (Fr.alloc _ _ _)).trans (Fr.alloc _ _ _)
 have HF:=Lib.hid hF
 have HHS:=Lib.hid hHS
 clear hW m1 m2 m3 m4 hHS hF
 go_enter Tryz.func48,Tryz.ntmps48
 go_wp2
 go_ret
 exact ⟨_,_,_,_,_,rfl,by omega,by omega,by omega,by omega,by omega,HHS.out,HF.out⟩
set_option maxRecDepth 100000 in
set_option maxHeartbeats 2000000 in
theorem ref_any (W : World) (hb kb ib ob fb : Nat) (s : Hi) (h : HS W hb kb ib ob fb s) (e : Ev) (hx : iKE.ok e.ref) :
 Calls Tryz.prog 103 #[.pointer (some ⟨hb,0,none⟩),.agg (evc e)] W fun r W'=>r = .returned (.bool (refB s e)) ∧ Fr (fun _=>False) W W':=by
 have hB:=Blk.new W 62 (evc e)
 have hF : Fr (fun _=>False) W (W.alloc (.cells (evc e) 62)):=Fr.alloc _ _ _
 obtain ⟨w1,hw1⟩ : ∃ w1,W.alloc (.cells (evc e) 62) = w1:=⟨_,rfl⟩
 rw [hw1] at hB hF
 obtain ⟨k,at_,ref,id,list,n,ao,dl,cp⟩:=e
 simp only [evc] at hw1 hB ⊢
 have c0:=hB.cell 0
 have c2:=hB.cell 2
 have h1:=h.fr0 hF
 have d3:=h1.b.cell 3
 have d5:=h1.b.cell 5
 have d6:=h1.b.cell 6
 have d7:=h1.b.cell 7
 have d8:=h1.b.cell 8
 simp only [hcells,lA,lB,lC] at c0 c2 d3 d5 d6 d7 d8
 have mk : ∀ z,(Instr.lookup 119 (.map (some kb)) (.int .i64 ref) false).run Tryz.prog (w1.drewN z) = .ok (.int .i64 ((s.kinds ref).getD 0)) (w1.drewN z):=fun z=>mlook (h1.fr0 (Fr.drewN _ w1 z)).k hx
 have mo : ∀ z,(Instr.lookup 119 (.map (some ob)) (.int .i64 ref) false).run Tryz.prog (w1.drewN z) = .ok (.int .i64 ((s.of_ ref).getD 0)) (w1.drewN z):=fun z=>mlook (h1.fr0 (Fr.drewN _ w1 z)).o hx
 have mf : ∀ z,(Instr.lookup 119 (.map (some fb)) (.int .i64 ref) true).run Tryz.prog (w1.drewN z) = .ok (.tuple #[.int .i64 ((s.from_ ref).getD 0),.bool (s.from_ ref).isSome]) (w1.drewN z):=fun z=>mlook_ok (h1.fr0 (Fr.drewN _ w1 z)).f hx
 obtain ⟨bb,hbb⟩ : ∃ b,W.heap.size = b:=⟨_,rfl⟩
 rw [hbb] at c0 c2
 have HF:=Lib.hid hF
 clear hB hF h1 h
 obtain ⟨r,hr⟩ : ∃ r,refB s ⟨k,at_,ref,id,list,n,ao,dl,cp⟩ = r:=⟨_,rfl⟩
 simp only [hr]
 have HR:=Lib.hid hr
 clear hr
 obtain ⟨zk,hzk⟩ : ∃ z,(s.kinds ref).getD 0 = z:=⟨_,rfl⟩
 obtain ⟨zo,hzo⟩ : ∃ z,(s.of_ ref).getD 0 = z:=⟨_,rfl⟩
 obtain ⟨zf,hzf⟩ : ∃ z,(s.from_ ref).getD 0 = z:=⟨_,rfl⟩
 obtain ⟨zb,hzb⟩ : ∃ z,(s.from_ ref).isSome = z:=⟨_,rfl⟩
 rw [hzk] at mk
 rw [hzo] at mo
 rw [hzf,hzb] at mf
 have HZ:=Lib.hid (And.intro hzk (And.intro hzo hzb))
 obtain ⟨n0,at0,cl0,task,begun,kinds,ids,of0,from0⟩:=s
 dsimp only at d3 d5 d6 d7 d8
 clear hzk hzo hzf hzb
 go_enter Tryz.func103,Tryz.ntmps103
 go_upto_region 2 with (fail)
 try rw [hw1]
 try rw [hbb]
 clear hw1 hbb
 by_cases k3 : k = 3
 ·subst k3
  by_cases ht : task = 0
  ·subst ht
   go_upto_region 5 with (fail)
   go_quiet (fail)
   go_wp2
   go_ret
   obtain ⟨z1,z2,z3⟩:=HZ.out
   try dsimp only at z1 z2 z3
   exact ⟨by rw [← HR.out];simp [refB,z1,z2,z3],HF.out.trans (Fr.drewN _ _ _)⟩
  ·have q1 : (task != 0) = true:=by simp [ht]
   cases begun with
   | true=>
     go_upto_region 5 with (fail)
     go_quiet (fail)
     go_wp2
     go_ret
     obtain ⟨z1,z2,z3⟩:=HZ.out
     try dsimp only at z1 z2 z3
     exact ⟨by rw [← HR.out];simp [refB,z1,z2,z3,ht],HF.out.trans (Fr.drewN _ _ _)⟩
   | false=>
     go_upto_region 5 with (fail)
     go_quiet (fail)
     go_wp2
     go_ret
     obtain ⟨z1,z2,z3⟩:=HZ.out
     try dsimp only at z1 z2 z3
     exact ⟨by rw [← HR.out];simp [refB,z1,z2,z3,ht],HF.out.trans (Fr.drewN _ _ _)⟩
 have n3 : (k == 3) = false:=by simp [k3]
 by_cases k4 : k = 4
 ·subst k4
  by_cases ht : task = 0
  ·subst ht
   go_upto_region 9 with (fail)
   go_quiet (fail)
   go_wp2
   go_ret
   obtain ⟨z1,z2,z3⟩:=HZ.out
   try dsimp only at z1 z2 z3
   exact ⟨by rw [← HR.out];simp [refB,z1,z2,z3],HF.out.trans (Fr.drewN _ _ _)⟩
  ·have q1 : (task != 0) = true:=by simp [ht]
   cases begun with
   | true=>
     go_upto_region 9 with (fail)
     go_quiet (fail)
     go_wp2
     go_ret
     obtain ⟨z1,z2,z3⟩:=HZ.out
     try dsimp only at z1 z2 z3
     exact ⟨by rw [← HR.out];simp [refB,z1,z2,z3,ht],HF.out.trans (Fr.drewN _ _ _)⟩
   | false=>
     go_upto_region 9 with (fail)
     go_quiet (fail)
     go_wp2
     go_ret
     obtain ⟨z1,z2,z3⟩:=HZ.out
     try dsimp only at z1 z2 z3
     exact ⟨by rw [← HR.out];simp [refB,z1,z2,z3,ht],HF.out.trans (Fr.drewN _ _ _)⟩
 have n4 : (k == 4) = false:=by simp [k4]
 by_cases k5 : k = 5
 ·subst k5
  by_cases ht : task = 0
  ·subst ht
   go_upto_region 9 with (fail)
   go_quiet (fail)
   go_wp2
   go_ret
   obtain ⟨z1,z2,z3⟩:=HZ.out
   try dsimp only at z1 z2 z3
   exact ⟨by rw [← HR.out];simp [refB,z1,z2,z3],HF.out.trans (Fr.drewN _ _ _)⟩
  ·have q1 : (task != 0) = true:=by simp [ht]
   cases begun with
   | true=>
     go_upto_region 9 with (fail)
     go_quiet (fail)
     go_wp2
     go_ret
     obtain ⟨z1,z2,z3⟩:=HZ.out
     try dsimp only at z1 z2 z3
     exact ⟨by rw [← HR.out];simp [refB,z1,z2,z3,ht],HF.out.trans (Fr.drewN _ _ _)⟩
   | false=>
     go_upto_region 9 with (fail)
     go_quiet (fail)
     go_wp2
     go_ret
     obtain ⟨z1,z2,z3⟩:=HZ.out
     try dsimp only at z1 z2 z3
     exact ⟨by rw [← HR.out];simp [refB,z1,z2,z3,ht],HF.out.trans (Fr.drewN _ _ _)⟩
 have n5 : (k == 5) = false:=by simp [k5]
 by_cases k6 : k = 6
 ·subst k6
  by_cases ht : task = 0
  ·subst ht
   go_upto_region 9 with (fail)
   go_quiet (fail)
   go_wp2
   go_ret
   obtain ⟨z1,z2,z3⟩:=HZ.out
   try dsimp only at z1 z2 z3
   exact ⟨by rw [← HR.out];simp [refB,z1,z2,z3],HF.out.trans (Fr.drewN _ _ _)⟩
  ·have q1 : (task != 0) = true:=by simp [ht]
   cases begun with
   | true=>
     go_upto_region 9 with (fail)
     go_quiet (fail)
     go_wp2
     go_ret
     obtain ⟨z1,z2,z3⟩:=HZ.out
     try dsimp only at z1 z2 z3
     exact ⟨by rw [← HR.out];simp [refB,z1,z2,z3,ht],HF.out.trans (Fr.drewN _ _ _)⟩
   | false=>
     go_upto_region 9 with (fail)
     go_quiet (fail)
     go_wp2
     go_ret
     obtain ⟨z1,z2,z3⟩:=HZ.out
     try dsimp only at z1 z2 z3
     exact ⟨by rw [← HR.out];simp [refB,z1,z2,z3,ht],HF.out.trans (Fr.drewN _ _ _)⟩
 have n6 : (k == 6) = false:=by simp [k6]
 by_cases k8 : k = 8
 ·subst k8
  by_cases h7 : zk = 7
  ·subst h7
   cases zb with
   | true=>
     go_upto_region 11 with (fail)
     go_quiet (fail)
     go_upto_region 12 with (fail)
     go_quiet (fail)
     go_wp2
     go_ret
     obtain ⟨z1,z2,z3⟩:=HZ.out
     try dsimp only at z1 z2 z3
     exact ⟨by rw [← HR.out];simp [refB,z1,z2,z3],HF.out.trans (Fr.drewN _ _ _)⟩
   | false=>
     go_upto_region 11 with (fail)
     go_quiet (fail)
     go_upto_region 12 with (fail)
     go_quiet (fail)
     go_wp2
     go_ret
     obtain ⟨z1,z2,z3⟩:=HZ.out
     try dsimp only at z1 z2 z3
     exact ⟨by rw [← HR.out];simp [refB,z1,z2,z3],HF.out.trans (Fr.drewN _ _ _)⟩
  ·have q1 : (zk == 7) = false:=by simp [h7]
   go_upto_region 11 with (fail)
   go_quiet (fail)
   go_upto_region 12 with (fail)
   go_quiet (fail)
   go_wp2
   go_ret
   obtain ⟨z1,z2,z3⟩:=HZ.out
   try dsimp only at z1 z2 z3
   exact ⟨by rw [← HR.out];simp [refB,z1,z2,z3,h7],HF.out.trans (Fr.drewN _ _ _)⟩
 have n8 : (k == 8) = false:=by simp [k8]
 by_cases k9 : k = 9
 ·subst k9
  by_cases h7 : zo = 0
  ·subst h7
   go_upto_region 16 with (fail)
   go_quiet (fail)
   go_wp2
   go_ret
   obtain ⟨z1,z2,z3⟩:=HZ.out
   try dsimp only at z1 z2 z3
   exact ⟨by rw [← HR.out];simp [refB,z1,z2,z3],HF.out.trans (Fr.drewN _ _ _)⟩
  ·have q1 : (zo == 0) = false:=by simp [h7]
   have q2 : (zo != 0) = true:=by simp [h7]
   go_upto_region 16 with (fail)
   go_quiet (fail)
   go_wp2
   go_ret
   obtain ⟨z1,z2,z3⟩:=HZ.out
   try dsimp only at z1 z2 z3
   exact ⟨by rw [← HR.out];simp [refB,z1,z2,z3,h7],HF.out.trans (Fr.drewN _ _ _)⟩
 have n9 : (k == 9) = false:=by simp [k9]
 by_cases k10 : k = 10
 ·subst k10
  by_cases h7 : zo = 0
  ·subst h7
   go_upto_region 16 with (fail)
   go_quiet (fail)
   go_wp2
   go_ret
   obtain ⟨z1,z2,z3⟩:=HZ.out
   try dsimp only at z1 z2 z3
   exact ⟨by rw [← HR.out];simp [refB,z1,z2,z3],HF.out.trans (Fr.drewN _ _ _)⟩
  ·have q1 : (zo == 0) = false:=by simp [h7]
   have q2 : (zo != 0) = true:=by simp [h7]
   go_upto_region 16 with (fail)
   go_quiet (fail)
   go_wp2
   go_ret
   obtain ⟨z1,z2,z3⟩:=HZ.out
   try dsimp only at z1 z2 z3
   exact ⟨by rw [← HR.out];simp [refB,z1,z2,z3,h7],HF.out.trans (Fr.drewN _ _ _)⟩
 have n10 : (k == 10) = false:=by simp [k10]
 by_cases k11 : k = 11
 ·subst k11
  by_cases h7 : zo = 0
  ·subst h7
   go_upto_region 16 with (fail)
   go_quiet (fail)
   go_wp2
   go_ret
   obtain ⟨z1,z2,z3⟩:=HZ.out
   try dsimp only at z1 z2 z3
   exact ⟨by rw [← HR.out];simp [refB,z1,z2,z3],HF.out.trans (Fr.drewN _ _ _)⟩
  ·have q1 : (zo == 0) = false:=by simp [h7]
   have q2 : (zo != 0) = true:=by simp [h7]
   go_upto_region 16 with (fail)
   go_quiet (fail)
   go_wp2
   go_ret
   obtain ⟨z1,z2,z3⟩:=HZ.out
   try dsimp only at z1 z2 z3
   exact ⟨by rw [← HR.out];simp [refB,z1,z2,z3,h7],HF.out.trans (Fr.drewN _ _ _)⟩
 have n11 : (k == 11) = false:=by simp [k11]
 by_cases k13 : k = 13
 ·subst k13
  by_cases h7 : zk = 12
  ·subst h7
   go_upto_region 22 with (fail)
   go_quiet (fail)
   go_wp2
   go_ret
   obtain ⟨z1,z2,z3⟩:=HZ.out
   try dsimp only at z1 z2 z3
   exact ⟨by rw [← HR.out];simp [refB,z1,z2,z3],HF.out.trans (Fr.drewN _ _ _)⟩
  ·have q1 : (zk == 12) = false:=by simp [h7]
   have q2 : (zk != 12) = true:=by simp [h7]
   go_upto_region 22 with (fail)
   go_quiet (fail)
   go_wp2
   go_ret
   obtain ⟨z1,z2,z3⟩:=HZ.out
   try dsimp only at z1 z2 z3
   exact ⟨by rw [← HR.out];simp [refB,z1,z2,z3,h7],HF.out.trans (Fr.drewN _ _ _)⟩
 have n13 : (k == 13) = false:=by simp [k13]
 by_cases k14 : k = 14
 ·subst k14
  by_cases h7 : zk = 12
  ·subst h7
   go_upto_region 22 with (fail)
   go_quiet (fail)
   go_wp2
   go_ret
   obtain ⟨z1,z2,z3⟩:=HZ.out
   try dsimp only at z1 z2 z3
   exact ⟨by rw [← HR.out];simp [refB,z1,z2,z3],HF.out.trans (Fr.drewN _ _ _)⟩
  ·have q1 : (zk == 12) = false:=by simp [h7]
   have q2 : (zk != 12) = true:=by simp [h7]
   go_upto_region 22 with (fail)
   go_quiet (fail)
   go_wp2
   go_ret
   obtain ⟨z1,z2,z3⟩:=HZ.out
   try dsimp only at z1 z2 z3
   exact ⟨by rw [← HR.out];simp [refB,z1,z2,z3,h7],HF.out.trans (Fr.drewN _ _ _)⟩
 have n14 : (k == 14) = false:=by simp [k14]
 by_cases k18 : k = 18
 ·subst k18
  by_cases h7 : zk = 17
  ·subst h7
   go_upto_region 22 with (fail)
   go_quiet (fail)
   go_wp2
   go_ret
   obtain ⟨z1,z2,z3⟩:=HZ.out
   try dsimp only at z1 z2 z3
   exact ⟨by rw [← HR.out];simp [refB,z1,z2,z3],HF.out.trans (Fr.drewN _ _ _)⟩
  ·have q1 : (zk == 17) = false:=by simp [h7]
   have q2 : (zk != 17) = true:=by simp [h7]
   go_upto_region 22 with (fail)
   go_quiet (fail)
   go_wp2
   go_ret
   obtain ⟨z1,z2,z3⟩:=HZ.out
   try dsimp only at z1 z2 z3
   exact ⟨by rw [← HR.out];simp [refB,z1,z2,z3,h7],HF.out.trans (Fr.drewN _ _ _)⟩
 have n18 : (k == 18) = false:=by simp [k18]
 have HK:=Lib.hid (show refB ⟨n0,at0,cl0,task,begun,kinds,ids,of0,from0⟩ ⟨k,at_,ref,id,list,n,ao,dl,cp⟩ = (ref == 0) by simp [refB,k3,k4,k5,k6,k8,k9,k10,k11,k13,k14,k18])
 by_cases h0 : ref = 0
 ·subst h0
  go_wp2
  go_ret
  exact ⟨by rw [← HR.out,HK.out];rfl,HF.out⟩
 ·have q1 : (ref == 0) = false:=by simp [h0]
  go_wp2
  go_ret
  exact ⟨by rw [← HR.out,HK.out,q1];rfl,HF.out⟩
def whyV : Nat → Value
 | 1=>.string ⟨#[101,118,101,110,116]⟩
 | 2=>.string ⟨#[116,105,109,101]⟩
 | 3=>.string ⟨#[102,105,114,115,116]⟩
 | 4=>.string ⟨#[99,108,111,115,101,100]⟩
 | 5=>.string ⟨#[114,101,102]⟩
 | 6=>.string ⟨#[116,97,115,107]⟩
 | 7=>.string ⟨#[105,100]⟩
 | _=>.string ⟨#[]⟩
theorem fault1 {s : Hi} {e : Ev} (h1 : rightB e = false) : faultC s e = 1:=by unfold faultC;rw [if_pos h1]
theorem fault2 {s : Hi} {e : Ev} (h1 : rightB e = true) (h2 : e.at_ < s.at_) : faultC s e = 2:=by unfold faultC;rw [if_neg (by rw [h1];decide),if_pos h2]
theorem fault3 {s : Hi} {e : Ev} (h1 : rightB e = true) (h2 : ¬ e.at_ < s.at_) (h3 : (((s.n : Int) == 0) == (e.k == 1)) = false) : faultC s e = 3:=by unfold faultC;rw [if_neg (by rw [h1];decide),if_neg h2,if_pos h3]
theorem fault4 {s : Hi} {e : Ev} (h1 : rightB e = true) (h2 : ¬ e.at_ < s.at_) (h3 : (((s.n : Int) == 0) == (e.k == 1)) = true) (h4 : s.closed ≠ 0) : faultC s e = 4:=by unfold faultC;rw [if_neg (by rw [h1];decide),if_neg h2,if_neg (by rw [h3];decide),if_pos h4]
theorem fault5 {s : Hi} {e : Ev} (h1 : rightB e = true) (h2 : ¬ e.at_ < s.at_) (h3 : (((s.n : Int) == 0) == (e.k == 1)) = true) (h4 : s.closed = 0) (h5 : refB s e = false) : faultC s e = 5:=by unfold faultC;rw [if_neg (by rw [h1];decide),if_neg h2,if_neg (by rw [h3];decide),if_neg (fun h=>h h4),if_pos h5]
theorem fault_rest {s : Hi} {e : Ev} (h1 : rightB e = true) (h2 : ¬ e.at_ < s.at_) (h3 : (((s.n : Int) == 0) == (e.k == 1)) = true) (h4 : s.closed = 0) (h5 : refB s e = true) : faultC s e = if e.k = 2 ∧ s.task ≠ 0 then 6 else @ite _ ((e.k = 7 ∨ e.k = 12 ∨ e.k = 17) ∧ usesB s e.k e.id = true) (Classical.propDecidable _) 7 0:=by unfold faultC;rw [if_neg (by rw [h1];decide),if_neg h2,if_neg (by rw [h3];decide),if_neg (fun h=>h h4),if_neg (by rw [h5];decide)]
theorem ok_of {e : Ev} (h : rightB e = true) : iKE.ok e.ref:=by
 have : betB e.ref = true:=by
  simp only [rightB,Bool.and_eq_true] at h
  exact h.2.2.2.1
 rw [betB_iff] at this
 exact wf_of (by omega) (by omega)
set_option maxRecDepth 100000 in
set_option maxHeartbeats 8000000 in
theorem fault_any (W : World) (hb kb ib ob fb : Nat) (s : Hi) (h : HS W hb kb ib ob fb s) (e : Ev) :
 Calls Tryz.prog 88 #[.pointer (some ⟨hb,0,none⟩),.agg (evc e)] W fun r W'=>r = .returned (whyV (faultC s e)) ∧ Fr (fun _=>False) W W':=by
 have hB:=Blk.new W 62 (evc e)
 have hF : Fr (fun _=>False) W (W.alloc (.cells (evc e) 62)):=Fr.alloc _ _ _
 obtain ⟨w1,hw1⟩ : ∃ w1,W.alloc (.cells (evc e) 62) = w1:=⟨_,rfl⟩
 rw [hw1] at hB hF
 have HS1:=Lib.hid (h.fr0 hF)
 obtain ⟨bb,hbb⟩ : ∃ b,W.heap.size = b:=⟨_,rfl⟩
 rw [hbb] at hB
 have HB1:=Lib.hid hB
 have HF1:=Lib.hid hF
 clear h hB hF
 obtain ⟨r,hr⟩ : ∃ r,whyV (faultC s e) = r:=⟨_,rfl⟩
 simp only [hr]
 have HR:=Lib.hid hr
 clear hr
 simp only [evc] at hw1
 rw [show Value.agg (evc e) = Value.agg #[.int .i64 e.k,.int .i64 e.at_,.int .i64 e.ref,.int .i64 e.id,.int .i64 e.list,.int .i64 e.n,.slice e.ao e.dl e.cp] from rfl]
 have HRT:=Lib.hid (fun w=>right_any w e)
 have HRF:=Lib.hid (fun w (h : HS w hb kb ib ob fb s) (hx : iKE.ok e.ref)=>ref_any w hb kb ib ob fb s h e hx)
 have HUS:=Lib.hid (fun w (h : HS w hb kb ib ob fb s)=>uses_any w hb kb ib ob fb s h e.k e.id)
 simp only [evc] at HRT HRF
 go_enter Tryz.func88,Tryz.ntmps88
 go_upto_region 1 with (fail)
 try rw [hw1]
 try rw [hbb]
 clear hw1 hbb
 have c0:=HB1.out.cell 0
 have c1:=HB1.out.cell 1
 have c2:=HB1.out.cell 2
 have c3:=HB1.out.cell 3
 have c4:=HB1.out.cell 4
 have c5:=HB1.out.cell 5
 have c6:=HB1.out.cell 6
 simp only [evc,lA,lB,lC] at c0 c1 c2 c3 c4 c5 c6
 have d0:=HS1.out.b.cell 0
 have d1:=HS1.out.b.cell 1
 have d2:=HS1.out.b.cell 2
 have d5:=HS1.out.b.cell 5
 simp only [hcells,lA,lB,lC] at d0 d1 d2 d5
 cases q1 : rightB e with
 | false=>
   go_upto_region 2 with (first | (go_at_call 102;refine (HRT.out _).mono ?_;rintro e2 w2 ⟨rfl,hf2⟩;rw [q1]) | go_in)
   have HF2:=Lib.hid (HF1.out.trans hf2)
   have HC : Hid (faultC s e = 1):=Lib.hid (fault1 q1)
   go_wp2
   go_ret
   exact ⟨by rw [← HR.out,HC.out];rfl,HF2.out⟩
 | true=>
 have HOK:=Lib.hid (ok_of q1)
 have HQ1:=Lib.hid q1
 go_upto_region 3 with (first | (go_at_call 102;refine (HRT.out _).mono ?_;rintro e2 w2 ⟨rfl,hf2⟩;rw [q1]) | go_in)
 clear c0 c1 c2 c3 c4 c5 c6 d0 d1 d2 d5
 have HS2:=Lib.hid (HS1.out.fr0 hf2)
 have HB2:=Lib.hid (HB1.out.fr hf2 id)
 have HF2:=Lib.hid (HF1.out.trans hf2)
 clear hf2 HS1 HB1 HF1 HRT q1
 have c0:=HB2.out.cell 0
 have c1:=HB2.out.cell 1
 have c2:=HB2.out.cell 2
 have c3:=HB2.out.cell 3
 have c4:=HB2.out.cell 4
 have c5:=HB2.out.cell 5
 have c6:=HB2.out.cell 6
 simp only [evc,lA,lB,lC] at c0 c1 c2 c3 c4 c5 c6
 have d0:=HS2.out.b.cell 0
 have d1:=HS2.out.b.cell 1
 have d2:=HS2.out.b.cell 2
 have d5:=HS2.out.b.cell 5
 simp only [hcells,lA,lB,lC] at d0 d1 d2 d5
 by_cases h2 : e.at_ < s.at_
 ·have p2 : decide (e.at_ < s.at_) = true:=decide_eq_true h2
  have HH2:=Lib.hid h2
  go_quiet (fail)
  have hf3 : Fr (fun _=>False) w2 (w2.drewN nq):=Fr.drewN _ w2 nq
  obtain ⟨w3,hw3⟩ : ∃ w,w2.drewN nq = w:=⟨_,rfl⟩
  rw [hw3] at hf3 ⊢
  clear c0 c1 c2 c3 c4 c5 c6 d0 d1 d2 d5
  have HS3:=Lib.hid (HS2.out.fr0 hf3)
  have HB3:=Lib.hid (HB2.out.fr hf3 id)
  have HF3:=Lib.hid (HF2.out.trans hf3)
  clear hw3 hf3 HS2 HB2 HF2
  have c0:=HB3.out.cell 0
  have c1:=HB3.out.cell 1
  have c2:=HB3.out.cell 2
  have c3:=HB3.out.cell 3
  have c4:=HB3.out.cell 4
  have c5:=HB3.out.cell 5
  have c6:=HB3.out.cell 6
  simp only [evc,lA,lB,lC] at c0 c1 c2 c3 c4 c5 c6
  have d0:=HS3.out.b.cell 0
  have d1:=HS3.out.b.cell 1
  have d2:=HS3.out.b.cell 2
  have d5:=HS3.out.b.cell 5
  simp only [hcells,lA,lB,lC] at d0 d1 d2 d5
  have HC : Hid (faultC s e = 2):=Lib.hid (fault2 HQ1.out HH2.out)
  go_wp2
  go_ret
  exact ⟨by rw [← HR.out,HC.out];rfl,HF3.out⟩
 have p2 : decide (e.at_ < s.at_) = false:=decide_eq_false h2
 have HH2 : Hid (s.at_ ≤ e.at_):=Lib.hid (Int.not_lt.1 h2)
 clear h2
 go_quiet (fail)
 have hf3 : Fr (fun _=>False) w2 (w2.drewN nq):=Fr.drewN _ w2 nq
 obtain ⟨w3,hw3⟩ : ∃ w,w2.drewN nq = w:=⟨_,rfl⟩
 rw [hw3] at hf3 ⊢
 clear c0 c1 c2 c3 c4 c5 c6 d0 d1 d2 d5
 have HS3:=Lib.hid (HS2.out.fr0 hf3)
 have HB3:=Lib.hid (HB2.out.fr hf3 id)
 have HF3:=Lib.hid (HF2.out.trans hf3)
 clear hw3 hf3 HS2 HB2 HF2
 have c0:=HB3.out.cell 0
 have c1:=HB3.out.cell 1
 have c2:=HB3.out.cell 2
 have c3:=HB3.out.cell 3
 have c4:=HB3.out.cell 4
 have c5:=HB3.out.cell 5
 have c6:=HB3.out.cell 6
 simp only [evc,lA,lB,lC] at c0 c1 c2 c3 c4 c5 c6
 have d0:=HS3.out.b.cell 0
 have d1:=HS3.out.b.cell 1
 have d2:=HS3.out.b.cell 2
 have d5:=HS3.out.b.cell 5
 simp only [hcells,lA,lB,lC] at d0 d1 d2 d5
 obtain ⟨bn,hbn⟩ : ∃ b,((s.n : Int) == 0) = b:=⟨_,rfl⟩
 obtain ⟨bk,hbk⟩ : ∃ b,(e.k == 1) = b:=⟨_,rfl⟩
 have HBN:=Lib.hid hbn
 have HBK:=Lib.hid hbk
 go_upto_region 5 with (fail)
 cases h3 : (bn == bk) with
 | false=>
   go_quiet (fail)
   have hf4 : Fr (fun _=>False) w3 (w3.drewN nq):=Fr.drewN _ w3 nq
   obtain ⟨w4,hw4⟩ : ∃ w,w3.drewN nq = w:=⟨_,rfl⟩
   rw [hw4] at hf4 ⊢
   clear c0 c1 c2 c3 c4 c5 c6 d0 d1 d2 d5
   have HS4:=Lib.hid (HS3.out.fr0 hf4)
   have HB4:=Lib.hid (HB3.out.fr hf4 id)
   have HF4:=Lib.hid (HF3.out.trans hf4)
   clear hw4 hf4 HS3 HB3 HF3
   have c0:=HB4.out.cell 0
   have c1:=HB4.out.cell 1
   have c2:=HB4.out.cell 2
   have c3:=HB4.out.cell 3
   have c4:=HB4.out.cell 4
   have c5:=HB4.out.cell 5
   have c6:=HB4.out.cell 6
   simp only [evc,lA,lB,lC] at c0 c1 c2 c3 c4 c5 c6
   have d0:=HS4.out.b.cell 0
   have d1:=HS4.out.b.cell 1
   have d2:=HS4.out.b.cell 2
   have d5:=HS4.out.b.cell 5
   simp only [hcells,lA,lB,lC] at d0 d1 d2 d5
   have H3 : Hid ((((s.n : Int) == 0) == (e.k == 1)) = false):=Lib.hid (by rw [HBN.out,HBK.out];exact h3)
   have HC : Hid (faultC s e = 3):=Lib.hid (fault3 HQ1.out (Int.not_lt.2 HH2.out) H3.out)
   go_wp2
   go_ret
   exact ⟨by rw [← HR.out,HC.out];rfl,HF4.out⟩
 | true=>
 go_quiet (fail)
 have hf4 : Fr (fun _=>False) w3 (w3.drewN nq):=Fr.drewN _ w3 nq
 obtain ⟨w4,hw4⟩ : ∃ w,w3.drewN nq = w:=⟨_,rfl⟩
 rw [hw4] at hf4 ⊢
 clear c0 c1 c2 c3 c4 c5 c6 d0 d1 d2 d5
 have HS4:=Lib.hid (HS3.out.fr0 hf4)
 have HB4:=Lib.hid (HB3.out.fr hf4 id)
 have HF4:=Lib.hid (HF3.out.trans hf4)
 clear hw4 hf4 HS3 HB3 HF3
 have c0:=HB4.out.cell 0
 have c1:=HB4.out.cell 1
 have c2:=HB4.out.cell 2
 have c3:=HB4.out.cell 3
 have c4:=HB4.out.cell 4
 have c5:=HB4.out.cell 5
 have c6:=HB4.out.cell 6
 simp only [evc,lA,lB,lC] at c0 c1 c2 c3 c4 c5 c6
 have d0:=HS4.out.b.cell 0
 have d1:=HS4.out.b.cell 1
 have d2:=HS4.out.b.cell 2
 have d5:=HS4.out.b.cell 5
 simp only [hcells,lA,lB,lC] at d0 d1 d2 d5
 have H3 : Hid ((((s.n : Int) == 0) == (e.k == 1)) = true):=Lib.hid (by rw [HBN.out,HBK.out];exact h3)
 by_cases h4 : s.closed = 0
 case neg=>
  have HH4:=Lib.hid h4
  have p4 : (s.closed != 0) = true:=by simp [h4]
  have HC : Hid (faultC s e = 4):=Lib.hid (fault4 HQ1.out (Int.not_lt.2 HH2.out) H3.out HH4.out)
  go_wp2
  go_ret
  exact ⟨by rw [← HR.out,HC.out];rfl,HF4.out⟩
 have p4 : (s.closed != 0) = false:=by simp [h4]
 clear hbn hbk
 go_upto_region 9 with (fail)
 have HH4:=Lib.hid h4
 have HRF4:=Lib.hid (HRF.out w4 HS4.out HOK.out)
 cases q5 : refB s e with
 | false=>
   go_upto_region 10 with (first | (go_at_call 103;refine HRF4.out.mono ?_;rintro e2 w5 ⟨rfl,hf5⟩;rw [q5]) | go_in)
   have HF5:=Lib.hid (HF4.out.trans hf5)
   have HC : Hid (faultC s e = 5):=Lib.hid (fault5 HQ1.out (Int.not_lt.2 HH2.out) H3.out HH4.out q5)
   go_wp2
   go_ret
   exact ⟨by rw [← HR.out,HC.out];rfl,HF5.out⟩
 | true=>
 have HRS:=Lib.hid (fault_rest HQ1.out (Int.not_lt.2 HH2.out) H3.out HH4.out q5)
 go_upto_region 11 with (first | (go_at_call 103;refine HRF4.out.mono ?_;rintro e2 w5 ⟨rfl,hf5⟩;rw [q5]) | go_in)
 clear c0 c1 c2 c3 c4 c5 c6 d0 d1 d2 d5
 have HS5:=Lib.hid (HS4.out.fr0 hf5)
 have HB5:=Lib.hid (HB4.out.fr hf5 id)
 have HF5:=Lib.hid (HF4.out.trans hf5)
 clear hf5 HS4 HB4 HF4 HRF4 HRF q5
 have c0:=HB5.out.cell 0
 have c1:=HB5.out.cell 1
 have c2:=HB5.out.cell 2
 have c3:=HB5.out.cell 3
 have c4:=HB5.out.cell 4
 have c5:=HB5.out.cell 5
 have c6:=HB5.out.cell 6
 simp only [evc,lA,lB,lC] at c0 c1 c2 c3 c4 c5 c6
 have d0:=HS5.out.b.cell 0
 have d1:=HS5.out.b.cell 1
 have d2:=HS5.out.b.cell 2
 have d5:=HS5.out.b.cell 5
 simp only [hcells,lA,lB,lC] at d0 d1 d2 d5
 by_cases h6 : e.k = 2 ∧ s.task ≠ 0
 ·have p6 : (e.k == 2) = true:=by simp [h6.1]
  have p7 : (s.task != 0) = true:=by simp [h6.2]
  have HC : Hid (faultC s e = 6):=Lib.hid (by rw [HRS.out,if_pos h6])
  go_wp2
  go_ret
  exact ⟨by rw [← HR.out,HC.out];rfl,HF5.out⟩
 have HH6:=Lib.hid h6
 by_cases h61 : e.k = 2
 ·have p6 : (e.k == 2) = true:=by simp [h61]
  have p7 : (s.task != 0) = false:=by simp;exact Classical.byContradiction fun h=>h6 ⟨h61,h⟩
  have r7 : (e.k == 7) = false:=by rw [h61];rfl
  have r12 : (e.k == 12) = false:=by rw [h61];rfl
  have r17 : (e.k == 17) = false:=by rw [h61];rfl
  have h7 : ¬ e.k = 7:=by omega
  have h12 : ¬ e.k = 12:=by omega
  have h17 : ¬ e.k = 17:=by omega
  have HC : Hid (faultC s e = 0):=Lib.hid (by rw [HRS.out,if_neg HH6.out];exact if_neg (fun h=>by omega))
  go_wp2
  go_ret
  exact ⟨by rw [← HR.out,HC.out];rfl,HF5.out⟩
 ·have p6 : (e.k == 2) = false:=by simp [h61]
  clear h6
  go_upto_region 13 with (fail)
  by_cases h7 : e.k = 7
  ·have r7 : (e.k == 7) = true:=by simp [h7]
   have r12 : (e.k == 12) = false:=by rw [h7];rfl
   have r17 : (e.k == 17) = false:=by rw [h7];rfl
   have HK:=Lib.hid h7
   clear h7
   have HUS5:=Lib.hid (HUS.out w5 HS5.out)
   cases q7 : usesB s e.k e.id with
   | true=>
     have HC : Hid (faultC s e = 7):=Lib.hid (by rw [HRS.out,if_neg HH6.out];exact if_pos ⟨by have:=HK.out;omega,q7⟩)
     go_wp2_with (first | (go_at_call 104;refine HUS5.out.mono ?_;rintro e2 w6 ⟨rfl,hf6⟩;rw [q7]) | go_in)
     go_ret
     exact ⟨by rw [← HR.out,HC.out];rfl,HF5.out.trans hf6⟩
   | false=>
     have HC : Hid (faultC s e = 0):=Lib.hid (by rw [HRS.out,if_neg HH6.out];exact if_neg (fun h=>by rw [q7] at h;exact absurd h.2 (by decide)))
     go_wp2_with (first | (go_at_call 104;refine HUS5.out.mono ?_;rintro e2 w6 ⟨rfl,hf6⟩;rw [q7]) | go_in)
     go_ret
     exact ⟨by rw [← HR.out,HC.out];rfl,HF5.out.trans hf6⟩
  have r7 : (e.k == 7) = false:=by simp [h7]
  by_cases h12 : e.k = 12
  ·have r12 : (e.k == 12) = true:=by simp [h12]
   have r17 : (e.k == 17) = false:=by rw [h12];rfl
   have HK:=Lib.hid h12
   clear h12
   have HUS5:=Lib.hid (HUS.out w5 HS5.out)
   cases q7 : usesB s e.k e.id with
   | true=>
     have HC : Hid (faultC s e = 7):=Lib.hid (by rw [HRS.out,if_neg HH6.out];exact if_pos ⟨by have:=HK.out;omega,q7⟩)
     go_wp2_with (first | (go_at_call 104;refine HUS5.out.mono ?_;rintro e2 w6 ⟨rfl,hf6⟩;rw [q7]) | go_in)
     go_ret
     exact ⟨by rw [← HR.out,HC.out];rfl,HF5.out.trans hf6⟩
   | false=>
     have HC : Hid (faultC s e = 0):=Lib.hid (by rw [HRS.out,if_neg HH6.out];exact if_neg (fun h=>by rw [q7] at h;exact absurd h.2 (by decide)))
     go_wp2_with (first | (go_at_call 104;refine HUS5.out.mono ?_;rintro e2 w6 ⟨rfl,hf6⟩;rw [q7]) | go_in)
     go_ret
     exact ⟨by rw [← HR.out,HC.out];rfl,HF5.out.trans hf6⟩
  have r12 : (e.k == 12) = false:=by simp [h12]
  by_cases h17 : e.k = 17
  ·have r17 : (e.k == 17) = true:=by simp [h17]
   have HK:=Lib.hid h17
   clear h17
   have HUS5:=Lib.hid (HUS.out w5 HS5.out)
   cases q7 : usesB s e.k e.id with
   | true=>
     have HC : Hid (faultC s e = 7):=Lib.hid (by rw [HRS.out,if_neg HH6.out];exact if_pos ⟨by have:=HK.out;omega,q7⟩)
     go_wp2_with (first | (go_at_call 104;refine HUS5.out.mono ?_;rintro e2 w6 ⟨rfl,hf6⟩;rw [q7]) | go_in)
     go_ret
     exact ⟨by rw [← HR.out,HC.out];rfl,HF5.out.trans hf6⟩
   | false=>
     have HC : Hid (faultC s e = 0):=Lib.hid (by rw [HRS.out,if_neg HH6.out];exact if_neg (fun h=>by rw [q7] at h;exact absurd h.2 (by decide)))
     go_wp2_with (first | (go_at_call 104;refine HUS5.out.mono ?_;rintro e2 w6 ⟨rfl,hf6⟩;rw [q7]) | go_in)
     go_ret
     exact ⟨by rw [← HR.out,HC.out];rfl,HF5.out.trans hf6⟩
  have r17 : (e.k == 17) = false:=by simp [h17]
  have HC : Hid (faultC s e = 0):=Lib.hid (by rw [HRS.out,if_neg HH6.out];exact if_neg (fun h=>by omega))
  go_wp2
  go_ret
  exact ⟨by rw [← HR.out,HC.out];rfl,HF5.out⟩
end Go.Proofs.YtnkelaohcbdjnaaGreat.Ev
