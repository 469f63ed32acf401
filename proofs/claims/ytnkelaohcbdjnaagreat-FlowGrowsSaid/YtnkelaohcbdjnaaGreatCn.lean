/- What acts' own functions do: activities,timers,children. -/
import Derived.Test.YtnkelaohcbdjnaaGreatCl
import Derived.Deep.QuietTactic
import Derived.BigQuiet
set_option linter.unusedVariables false
set_option linter.unusedSimpArgs false
namespace Go.Proofs.YtnkelaohcbdjnaaGreat
open Go.RowKit Go.Maps
set_option maxRecDepth 100000 in
set_option maxHeartbeats 1000000 in
theorem ends_stale (T : Nat → Prop) (W : World) (xb xm : Nat) (s : FSt) (h : PF T W xb xm s) (hok : OpenOk s) (k ref : Int) (wref : (Lit.int .i64 ref).wf = true) (now : Int) (ao : Option Addr) (dl cp : Nat) (hno : ∀ i w,w ≠ 0 → s.mp ref ≠ some (opv 7 i w)) :
 Calls Tryz.prog 77 #[.pointer (some ⟨xb,0,none⟩),.int .i64 k,.int .i64 ref,.slice ao dl cp,.int .i64 now] W fun e W'=>ClX T W xb xm (s,[],21) e W':=by
 obtain ⟨ao2,cp2,hb⟩:=h.blk
 have x11:=hb.cell 11
 simp only [fcells,lA,lB,lC] at x11
 have hM:=h.fl.m
 have hx : iKE.ok ref:=wref
 have HPF:=Lib.hid h
 cases hmp : s.mp ref with
 | none=>
   have hu : (s.mp ref).getD (.agg #[.int .i64 0,.int .i64 0,.int .i64 0]) = .agg #[.int .i64 0,.int .i64 0,.int .i64 0]:=by rw [hmp];rfl
   have hq : (s.mp ref).isSome = false:=by rw [hmp];rfl
   clear h hok hno hb hmp
   go_enter Tryz.func77,Tryz.ntmps77
   go_wp2_with (at_lookup;refine wpLookOk rfl _ _ rfl Tryz.underlying55 (zero101 _) hM rfl (x:=ref) rfl hx hu hq ?_)
   go_ret2
   exact ⟨_,rfl,Outs.nil _ _,HPF.out.fr0 (Fr.alloc _ _ _),Fr.alloc _ _ _⟩
 | some v=>
   obtain ⟨_,_,q,i,w,rfl⟩:=hok ref v hmp
   have hu : (s.mp ref).getD (.agg #[.int .i64 0,.int .i64 0,.int .i64 0]) = .agg #[.int .i64 q,.int .i64 i,.int .i64 w]:=by rw [hmp];rfl
   have hq : (s.mp ref).isSome = true:=by rw [hmp];rfl
   by_cases hk : q = 7
   ·have hw : w = 0:=Classical.byContradiction fun hw=>hno i w hw (by rw [hmp,hk])
    subst hk hw
    clear h hok hno hb hmp
    go_enter Tryz.func77,Tryz.ntmps77
    go_wp2_with (at_lookup;refine wpLookOk rfl _ _ rfl Tryz.underlying55 (zero101 _) hM rfl (x:=ref) rfl hx hu hq ?_)
    go_ret2
    exact ⟨_,rfl,Outs.nil _ _,HPF.out.fr0 (Fr.alloc _ _ _),Fr.alloc _ _ _⟩
   ·have pk : (q != 7) = true:=by simp [hk]
    clear h hok hno hb hmp hk
    go_enter Tryz.func77,Tryz.ntmps77
    go_wp2_with (at_lookup;refine wpLookOk rfl _ _ rfl Tryz.underlying55 (zero101 _) hM rfl (x:=ref) rfl hx hu hq ?_)
    go_ret2
    exact ⟨_,rfl,Outs.nil _ _,HPF.out.fr0 (Fr.alloc _ _ _),Fr.alloc _ _ _⟩
set_option maxRecDepth 100000 in
set_option maxHeartbeats 1000000 in
theorem ends_ok (T : Nat → Prop) (W : World) (xb xm : Nat) (s : FSt) (h : PF T W xb xm s) (hmc : s.mc ≤ 100000) (hl : s.l.length ≤ 40000) (hok : OpenOk s) (k : Int) (hk : k = 9 ∨ k = 10 ∨ k = 11) (ref i w : Int) (hop : s.mp ref = some (opv 7 i w)) (hw0 : w ≠ 0) (huq : ∀ x j,s.mp x = some (opv 7 j w) → x = ref) (wref : (Lit.int .i64 ref).wf = true) (now : Int) (ao : Option Addr) (dl cp : Nat) (ds : List Value) (hd : RowB T W (.slice ao dl cp) ds) (hdl : ds.length ≤ 100000) (hd1 : ∀ u ∈ ds,u.oneCell' = true) :
 Calls Tryz.prog 77 #[.pointer (some ⟨xb,0,none⟩),.int .i64 k,.int .i64 ref,.slice ao dl cp,.int .i64 now] W fun e W'=>ClX T W xb xm (wakeS (endedS s ref k now w i ds) now,wakeO (endedS s ref k now w i ds) now,0) e W':=by
 obtain ⟨ao2,cp2,hb⟩:=h.blk
 have x11:=hb.cell 11
 simp only [fcells,lA,lB,lC] at x11
 have hM:=h.fl.m
 have hx : iKE.ok ref:=wref
 have hu : (s.mp ref).getD (.agg #[.int .i64 0,.int .i64 0,.int .i64 0]) = .agg #[.int .i64 7,.int .i64 i,.int .i64 w]:=by rw [hop];rfl
 have hq : (s.mp ref).isSome = true:=by rw [hop];rfl
 have pw : (w == 0) = false:=by simp [hw0]
 have hfa : Fr (fun _=>False) W (W.alloc (.cells #[.int .i64 7,.int .i64 i,.int .i64 w] 102)):=Fr.alloc _ _ _
 have HPUT:=Lib.hid (put_any T (W.alloc (.cells #[.int .i64 7,.int .i64 i,.int .i64 w] 102)) xb xm s (h.fr0 hfa) (by omega) (by omega) k now w i 0 0 ao dl cp ds ((hd.to (S':=fun _=>False) fun k _ e=>e.elim).fr hfa) hdl hd1 (endedS s ref k now w i ds) (.inr (.inr (.inr (.inr (.inr (.inr (.inr (.inr (.inr (.inr (.inr (.inr ⟨hk,ref,i,hok,hop,huq,rfl⟩)))))))))))))
 have HFA:=Lib.hid hfa
 have HMC : Hid ((endedS s ref k now w i ds).mc ≤ 1000000):=Lib.hid (by show cdn s.mp ref s.mc ≤ _;unfold cdn;split <;> omega)
 clear h hok hop huq hd hd1 hb hfa hk
 go_enter Tryz.func77,Tryz.ntmps77
 go_upto_region 5 with (first | (at_lookup;refine wpLookOk rfl _ _ rfl Tryz.underlying55 (zero101 _) hM rfl (x:=ref) rfl hx hu hq ?_) | (go_at_call 21;refine HPUT.out.mono ?_;rintro e w2 ⟨rfl,hpf,hf2⟩) | go_in)
 have HPF2:=Lib.hid hpf
 have HF2 : Hid (Fr (fun q=>q = xb ∨ q = xm) W w2):=Lib.hid ((HFA.out.mono fun _ e=>e.elim).trans hf2)
 have HW:=Lib.hid (wake_any T w2 xb xm _ HPF2.out HMC.out (by show (s.l ++ _).length ≤ _;rw [List.length_append];simp only [List.length_cons,List.length_nil];omega) now)
 clear hpf hf2 HPUT x11
 go_wp2_with (first | (go_at_call 61;refine HW.out.mono ?_;rintro e w3 ⟨v,rfl,ho,hpf,hf3⟩) | go_in)
 go_ret2
 exact ⟨v,rfl,ho.weak HF2.out.size,hpf,HF2.out.trans hf3⟩
set_option maxRecDepth 100000 in
set_option maxHeartbeats 2000000 in
theorem lapsed_ok (T : Nat → Prop) (W : World) (xb xm : Nat) (s : FSt) (h : PF T W xb xm s) (hmc : s.mc ≤ 100000) (hl : s.l.length ≤ 40000) (ref now : Int) (bturn bref bnow : Nat) (hturn : Blk W bturn 3 #[.int .i64 0]) (nturn : ¬ T bturn) (href : Blk W bref 3 #[.int .i64 ref]) (nref : ¬ T bref) (hnow : Blk W bnow 3 #[.int .i64 now]) (nnow : ¬ T bnow) (wref : (Lit.int .i64 ref).wf = true) (hok : OpenOk s) (i w : Int) (hop : s.mp ref = some (opv 7 i w)) (hw0 : w ≠ 0) (huq : ∀ x j,s.mp x = some (opv 7 j w) → x = ref) :
 Calls Tryz.prog 99 #[.pointer (some ⟨xb,0,none⟩),.pointer (some ⟨bturn,0,none⟩),.pointer (some ⟨bref,0,none⟩),.pointer (some ⟨bnow,0,none⟩)] W fun e W'=>ClX T W xb xm (wakeS (endedS s ref 11 now w i []) now,wakeO (endedS s ref 11 now w i []) now,0) e W':=by
 have cturn:=hturn.cell 0
 have cref:=href.cell 0
 have cnow:=hnow.cell 0
 simp only [lA,lB] at cturn cref cnow
 have HE:=Lib.hid (ends_ok T W xb xm s h hmc hl hok 11 (by omega) ref i w hop hw0 huq wref now none 0 0 [] (RowB.nil _ _) (by simp) (by simp))
 clear h hok hop huq hturn href hnow nturn nref nnow
 go_enter Tryz.func99,Tryz.ntmps99
 go_wp2_with (first | (go_at_call 77;refine HE.out.mono ?_;rintro e w3 ⟨v,rfl,h1,h2,h3⟩) | go_in)
 go_ret2
 exact ⟨v,rfl,h1,h2,h3⟩
set_option maxRecDepth 100000 in
set_option maxHeartbeats 2000000 in
theorem lapsed_stale (T : Nat → Prop) (W : World) (xb xm : Nat) (s : FSt) (h : PF T W xb xm s) (hmc : s.mc ≤ 100000) (hl : s.l.length ≤ 40000) (ref turn now : Int) (bturn bref bnow : Nat) (hturn : Blk W bturn 3 #[.int .i64 turn]) (nturn : ¬ T bturn) (href : Blk W bref 3 #[.int .i64 ref]) (nref : ¬ T bref) (hnow : Blk W bnow 3 #[.int .i64 now]) (nnow : ¬ T bnow) (wref : (Lit.int .i64 ref).wf = true) (hok : OpenOk s) (hno : turn ≠ 0 ∨ ∀ i w,w ≠ 0 → s.mp ref ≠ some (opv 7 i w)) :
 Calls Tryz.prog 99 #[.pointer (some ⟨xb,0,none⟩),.pointer (some ⟨bturn,0,none⟩),.pointer (some ⟨bref,0,none⟩),.pointer (some ⟨bnow,0,none⟩)] W fun e W'=>ClX T W xb xm (s,[],21) e W':=by
 have cturn:=hturn.cell 0
 have cref:=href.cell 0
 have cnow:=hnow.cell 0
 simp only [lA,lB] at cturn cref cnow
 have HPF:=Lib.hid h
 by_cases hz : turn = 0
 ·subst hz
  have HE:=Lib.hid (ends_stale T W xb xm s h hok 11 ref wref now none 0 0 (hno.resolve_left (fun e=>e rfl)))
  clear h hok hno hturn href hnow nturn nref nnow
  go_enter Tryz.func99,Tryz.ntmps99
  go_wp2_with (first | (go_at_call 77;refine HE.out.mono ?_;rintro e w3 ⟨v,rfl,h1,h2,h3⟩) | go_in)
  go_ret2
  exact ⟨v,rfl,h1,h2,h3⟩
 ·have p0 : (turn != 0) = true:=by simp [hz]
  clear h hok hno hturn href hnow nturn nref nnow hz
  go_enter Tryz.func99,Tryz.ntmps99
  go_wp2
  go_ret2
  exact ⟨_,rfl,Outs.nil _ _,HPF.out,Fr.refl _ _⟩
set_option maxRecDepth 100000 in
set_option maxHeartbeats 2000000 in
theorem worked_ok (T : Nat → Prop) (W : World) (xb xm : Nat) (s : FSt) (h : PF T W xb xm s) (hmc : s.mc ≤ 100000) (hl : s.l.length ≤ 40000) (kd ref now : Int) (hkd : kd = 9 ∨ kd = 10) (ao : Option Addr) (dl cp : Nat) (ds : List Value) (bkind bref bdata bnow : Nat) (hkind : Blk W bkind 3 #[.int .i64 kd]) (nkind : ¬ T bkind) (href : Blk W bref 3 #[.int .i64 ref]) (nref : ¬ T bref) (hdata : Blk W bdata 36 #[.slice ao dl cp]) (ndata : ¬ T bdata) (hnow : Blk W bnow 3 #[.int .i64 now]) (nnow : ¬ T bnow) (wref : (Lit.int .i64 ref).wf = true) (hok : OpenOk s) (i w : Int) (hop : s.mp ref = some (opv 7 i w)) (hw0 : w ≠ 0) (huq : ∀ x j,s.mp x = some (opv 7 j w) → x = ref) (hd : RowB T W (.slice ao dl cp) ds) (hdl : ds.length ≤ 100000) (hd1 : ∀ u ∈ ds,u.oneCell' = true) :
 Calls Tryz.prog 76 #[.pointer (some ⟨xb,0,none⟩),.pointer (some ⟨bkind,0,none⟩),.pointer (some ⟨bref,0,none⟩),.pointer (some ⟨bdata,0,none⟩),.pointer (some ⟨bnow,0,none⟩)] W fun e W'=>ClX T W xb xm (wakeS (endedS s ref kd now w i ds) now,wakeO (endedS s ref kd now w i ds) now,0) e W':=by
 have ckind:=hkind.cell 0
 have cref:=href.cell 0
 have cdata:=hdata.cell 0
 have cnow:=hnow.cell 0
 simp only [lA,lB] at ckind cref cdata cnow
 have HE:=Lib.hid (ends_ok T W xb xm s h hmc hl hok kd (by omega) ref i w hop hw0 huq wref now ao dl cp ds hd hdl hd1)
 clear h hok hop huq hkind href hdata hnow nkind nref ndata nnow hd hd1 hkd
 go_enter Tryz.func76,Tryz.ntmps76
 go_wp2_with (first | (go_at_call 77;refine HE.out.mono ?_;rintro e w3 ⟨v,rfl,h1,h2,h3⟩) | go_in)
 go_ret2
 exact ⟨v,rfl,h1,h2,h3⟩
set_option maxRecDepth 100000 in
set_option maxHeartbeats 2000000 in
theorem worked_stale (T : Nat → Prop) (W : World) (xb xm : Nat) (s : FSt) (h : PF T W xb xm s) (hmc : s.mc ≤ 100000) (hl : s.l.length ≤ 40000) (kd ref now : Int) (ao : Option Addr) (dl cp : Nat) (bkind bref bdata bnow : Nat) (hkind : Blk W bkind 3 #[.int .i64 kd]) (nkind : ¬ T bkind) (href : Blk W bref 3 #[.int .i64 ref]) (nref : ¬ T bref) (hdata : Blk W bdata 36 #[.slice ao dl cp]) (ndata : ¬ T bdata) (hnow : Blk W bnow 3 #[.int .i64 now]) (nnow : ¬ T bnow) (wref : (Lit.int .i64 ref).wf = true) (hok : OpenOk s) (hno : ∀ i w,w ≠ 0 → s.mp ref ≠ some (opv 7 i w)) :
 Calls Tryz.prog 76 #[.pointer (some ⟨xb,0,none⟩),.pointer (some ⟨bkind,0,none⟩),.pointer (some ⟨bref,0,none⟩),.pointer (some ⟨bdata,0,none⟩),.pointer (some ⟨bnow,0,none⟩)] W fun e W'=>ClX T W xb xm (s,[],21) e W':=by
 have ckind:=hkind.cell 0
 have cref:=href.cell 0
 have cdata:=hdata.cell 0
 have cnow:=hnow.cell 0
 simp only [lA,lB] at ckind cref cdata cnow
 have HE:=Lib.hid (ends_stale T W xb xm s h hok kd ref wref now ao dl cp hno)
 clear h hok hno hkind href hdata hnow nkind nref ndata nnow
 go_enter Tryz.func76,Tryz.ntmps76
 go_wp2_with (first | (go_at_call 77;refine HE.out.mono ?_;rintro e w3 ⟨v,rfl,h1,h2,h3⟩) | go_in)
 go_ret2
 exact ⟨v,rfl,h1,h2,h3⟩
set_option maxRecDepth 100000 in
set_option maxHeartbeats 1000000 in
theorem wants_work (T : Nat → Prop) (W : World) (xb xm : Nat) (s : FSt) (h : PF T W xb xm s) (ref i : Int) (wref : (Lit.int .i64 ref).wf = true) (hop : s.mp ref = some (opv 7 i 0)) :
 Calls Tryz.prog 52 #[.pointer (some ⟨xb,0,none⟩),.int .i64 ref,.int .i64 (-1)] W fun e W'=>e = .returned (.bool true) ∧ Fr (fun _=>False) W W':=by
 obtain ⟨ao2,cp2,hb⟩:=h.blk
 have x11:=hb.cell 11
 simp only [fcells,lA,lB,lC] at x11
 have hM:=h.fl.m
 have hx : iKE.ok ref:=wref
 have hu : (s.mp ref).getD (.agg #[.int .i64 0,.int .i64 0,.int .i64 0]) = .agg #[.int .i64 7,.int .i64 i,.int .i64 0]:=by rw [hop];rfl
 have hq : (s.mp ref).isSome = true:=by rw [hop];rfl
 clear h hb hop
 go_enter Tryz.func52,Tryz.ntmps52
 go_wp2_with (at_lookup;refine wpLookOk rfl _ _ rfl Tryz.underlying55 (zero101 _) hM rfl (x:=ref) rfl hx hu hq ?_)
 go_ret
 exact ⟨rfl,Fr.alloc _ _ _⟩
set_option maxRecDepth 100000 in
set_option maxHeartbeats 1000000 in
theorem wants_no (T : Nat → Prop) (W : World) (xb xm : Nat) (s : FSt) (h : PF T W xb xm s) (hok : OpenOk s) (ref : Int) (wref : (Lit.int .i64 ref).wf = true) (hno : ∀ i,s.mp ref ≠ some (opv 7 i 0)) :
 Calls Tryz.prog 52 #[.pointer (some ⟨xb,0,none⟩),.int .i64 ref,.int .i64 (-1)] W fun e W'=>e = .returned (.bool false) ∧ Fr (fun _=>False) W W':=by
 obtain ⟨ao2,cp2,hb⟩:=h.blk
 have x11:=hb.cell 11
 simp only [fcells,lA,lB,lC] at x11
 have hM:=h.fl.m
 have hx : iKE.ok ref:=wref
 cases hmp : s.mp ref with
 | none=>
   have hu : (s.mp ref).getD (.agg #[.int .i64 0,.int .i64 0,.int .i64 0]) = .agg #[.int .i64 0,.int .i64 0,.int .i64 0]:=by rw [hmp];rfl
   have hq : (s.mp ref).isSome = false:=by rw [hmp];rfl
   clear h hok hno hb hmp
   go_enter Tryz.func52,Tryz.ntmps52
   go_wp2_with (at_lookup;refine wpLookOk rfl _ _ rfl Tryz.underlying55 (zero101 _) hM rfl (x:=ref) rfl hx hu hq ?_)
   go_ret
   exact ⟨rfl,Fr.alloc _ _ _⟩
 | some v=>
   obtain ⟨_,_,k,i,w,rfl⟩:=hok ref v hmp
   have hu : (s.mp ref).getD (.agg #[.int .i64 0,.int .i64 0,.int .i64 0]) = .agg #[.int .i64 k,.int .i64 i,.int .i64 w]:=by rw [hmp];rfl
   have hq : (s.mp ref).isSome = true:=by rw [hmp];rfl
   by_cases hk : k = 7
   ·have hw : w ≠ 0:=fun hw=>hno i (by rw [hmp,hk,hw])
    subst hk
    have pw : (w == 0) = false:=by simp [hw]
    clear h hok hno hb hmp hw
    go_enter Tryz.func52,Tryz.ntmps52
    go_wp2_with (at_lookup;refine wpLookOk rfl _ _ rfl Tryz.underlying55 (zero101 _) hM rfl (x:=ref) rfl hx hu hq ?_)
    go_ret
    exact ⟨rfl,Fr.alloc _ _ _⟩
   ·have pk : (k == 7) = false:=by simp [hk]
    clear h hok hno hb hmp hk
    go_enter Tryz.func52,Tryz.ntmps52
    go_wp2_with (at_lookup;refine wpLookOk rfl _ _ rfl Tryz.underlying55 (zero101 _) hM rfl (x:=ref) rfl hx hu hq ?_)
    go_ret
    exact ⟨rfl,Fr.alloc _ _ _⟩
set_option maxRecDepth 100000 in
set_option maxHeartbeats 2000000 in
theorem works_stale (T : Nat → Prop) (W : World) (xb xm : Nat) (s : FSt) (h : PF T W xb xm s) (hmc : s.mc ≤ 100000) (hl : s.l.length ≤ 40000) (ref now : Int) (bref bnow : Nat) (href : Blk W bref 3 #[.int .i64 ref]) (nref : ¬ T bref) (hnow : Blk W bnow 3 #[.int .i64 now]) (nnow : ¬ T bnow) (wref : (Lit.int .i64 ref).wf = true) (hok : OpenOk s) (hno : ∀ i,s.mp ref ≠ some (opv 7 i 0)) :
 Calls Tryz.prog 74 #[.pointer (some ⟨xb,0,none⟩),.pointer (some ⟨bref,0,none⟩),.pointer (some ⟨bnow,0,none⟩)] W fun e W'=>ClX T W xb xm (s,[],21) e W':=by
 have cref:=href.cell 0
 simp only [lA,lB] at cref
 have HPF:=Lib.hid h
 have HE:=Lib.hid (wants_no T W xb xm s h hok ref wref hno)
 clear h href hnow nref nnow hok hno
 go_enter Tryz.func74,Tryz.ntmps74
 go_wp2_with (first | (go_at_call 52;refine HE.out.mono ?_;rintro e w3 ⟨rfl,hf3⟩) | go_in)
 go_ret2
 exact ⟨_,rfl,Outs.nil _ _,HPF.out.fr0 hf3,hf3.mono fun _ e=>e.elim⟩
set_option maxRecDepth 100000 in
set_option maxHeartbeats 2000000 in
theorem works_ok (T : Nat → Prop) (W : World) (xb xm : Nat) (s : FSt) (h : PF T W xb xm s) (hmc : s.mc ≤ 100000) (hl : s.l.length ≤ 40000) (q : Nat) (now : Int) (bref bnow : Nat) (href : Blk W bref 3 #[.int .i64 ((q : Int) + 1)]) (nref : ¬ T bref) (hnow : Blk W bnow 3 #[.int .i64 now]) (nnow : ¬ T bnow) (i0 : Int) (hop : s.mp ((q : Int) + 1) = some (opv 7 i0 0)) (e0 : Rv) (he0 : s.l[q]? = some e0) :
 Calls Tryz.prog 74 #[.pointer (some ⟨xb,0,none⟩),.pointer (some ⟨bref,0,none⟩),.pointer (some ⟨bnow,0,none⟩)] W fun e W'=>ClX T W xb xm (worksS s ((q : Int) + 1) now e0.i,[⟨4,0,(q : Int) + 1,0,wrap64 (now + e0.n),0,0,[]⟩],0) e W':=by
 have HPF:=Lib.hid h
 have hq:=(List.getElem?_eq_some_iff.1 he0).1
 have wref : (Lit.int .i64 ((q : Int) + 1)).wf = true:=WalkArith.wf_i64 ⟨by omega,by omega⟩
 have HE:=Lib.hid (wants_work T W xb xm s h ((q : Int) + 1) i0 wref hop)
 have HNB:=Lib.hid (And.intro href hnow)
 have HNE:=Lib.hid (And.intro nref nnow)
 have HPUT : Hid (∀ w,Fr (fun _=>False) W w → Calls Tryz.prog 21 #[.pointer (some ⟨xb,0,none⟩),.agg #[.int .i64 8,.int .i64 now,.int .i64 ((q : Int) + 1),.int .i64 e0.i,.int .i64 0,.int .i64 0,.slice none 0 0]] w fun e W'=>e = .returned (.int .i64 ((s.l.length : Int) + 1)) ∧ PF T W' xb xm (worksS s ((q : Int) + 1) now e0.i) ∧ Fr (fun q=>q = xb ∨ q = xm) w W'):=Lib.hid (fun w hf=>put_any T w xb xm s (h.fr0 hf) (by omega) (by omega) 8 now ((q : Int) + 1) e0.i 0 0 none 0 0 [] (RowB.nil _ _) (by simp) (by simp) _ (.inr (.inr (.inr (.inr (.inr (.inr (.inl ⟨⟨rfl,by omega,by omega⟩,rfl⟩))))))))
 obtain ⟨ao3,cp3,hb,hcp,hmx,_,hcell⟩:=h.fl.at_
 obtain ⟨g,rfl,hg,hgl,hcell⟩ : ∃ g,ao3 = some ⟨g,0,none⟩ ∧ ¬ T g ∧ g < W.heap.size ∧ ∃ v,RowB T W v e0.d ∧ ∀ (j : Nat) (u : Value),(evv e0 v)[j]? = some u → W.cell? ⟨g,q * 7 + j,none⟩ = some u:=by
  cases ao3 with
  | none=>rename_i h0;have:=(h0 rfl).1;rw [this] at hq;simp at hq
  | some a=>
    obtain ⟨g,e,h1,h2,h3⟩:=hcell a rfl
    exact ⟨g,by rw [e],h1,h2,h3 q e0 he0⟩
 obtain ⟨v,hv,hcell⟩:=hcell
 obtain ⟨va,vc,rfl,_⟩:=hv
 have FX : Hid (∀ w',Fr (fun _=>False) W w' → w'.cell? ⟨bref,0,none⟩ = some (.int .i64 ((q : Int) + 1)) ∧ w'.cell? ⟨xb,4,none⟩ = some (.slice (some ⟨g,0,none⟩) s.l.length cp3) ∧ w'.cell? ⟨g,q * 7,none⟩ = some (.int .i64 e0.k) ∧ w'.cell? ⟨g,q * 7 + 1,none⟩ = some (.int .i64 e0.a) ∧ w'.cell? ⟨g,q * 7 + 2,none⟩ = some (.int .i64 e0.r) ∧ w'.cell? ⟨g,q * 7 + 3,none⟩ = some (.int .i64 e0.i) ∧ w'.cell? ⟨g,q * 7 + 4,none⟩ = some (.int .i64 e0.l) ∧ w'.cell? ⟨g,q * 7 + 5,none⟩ = some (.int .i64 e0.n) ∧ w'.cell? ⟨g,q * 7 + 6,none⟩ = some (.slice va e0.d.length vc)):=Lib.hid (fun w' hf=>⟨(href.fr hf id).cell 0,(hb.fr hf id).cell 4,(World.cell?_of_block (hf.block g hgl id)).trans (hcell 0 _ rfl),(World.cell?_of_block (hf.block g hgl id)).trans (hcell 1 _ rfl),(World.cell?_of_block (hf.block g hgl id)).trans (hcell 2 _ rfl),(World.cell?_of_block (hf.block g hgl id)).trans (hcell 3 _ rfl),(World.cell?_of_block (hf.block g hgl id)).trans (hcell 4 _ rfl),(World.cell?_of_block (hf.block g hgl id)).trans (hcell 5 _ rfl),(World.cell?_of_block (hf.block g hgl id)).trans (hcell 6 _ rfl)⟩)
 obtain ⟨r0,_⟩:=FX.out W (Fr.refl _ _)
 obtain ⟨sl,hsl⟩ : ∃ n,s.l.length = n:=⟨_,rfl⟩
 rw [hsl] at FX hq hcp
 have HSL:=Lib.hid hsl
 have hq0 : (0 : Int) ≤ (q : Int) ∧ (q : Int) < (sl : Int):=by omega
 have hqs : IntKind.i64.wrap (q : Int) = (q : Int):=by rw [wrap_i64,wrap64];omega
 have HQS:=Lib.hid hqs
 have HQ0:=Lib.hid (And.intro hq0 (And.intro hq hcp))
 clear h href hnow nref nnow hb hcell hop he0 hsl hqs hmx
 go_enter Tryz.func74,Tryz.ntmps74
 go_upto_region 3 with (first | (go_at_call 52;refine HE.out.mono ?_;rintro e w1 ⟨rfl,hf1⟩) | go_in)
 have HF1:=Lib.hid hf1
 clear r0 hf1
 refine region_Z (fun w'=>Fr (fun _=>False) W w') 99 (HF1.out.trans (Fr.drewN _ w1 1)) (fun hH=>?_)
 refine takes (b:=?_) [0,1,2,3,4,5,6,7] hH ?_ ?_
 rotate_left
 iterate 8 ((refine Sq.yes (v:=?_) rfl (by rfl) ?_ ?_;rotate_left;· (intro w' hw';obtain ⟨f0,f1,f2,f3,f4,f5,f6,f7,f8⟩:=FX.out w' hw';have hqs:=HQS.out;go_simp;try with_reducible rfl));try simp only [lD,lE,lF,Act.put,lG,lH,lI])
 exact Sq.nil
 refine any_op 8 rfl (fun K hK=>?_)
 go_simp
 refine hK.out _ _ ((HF1.out.trans (Fr.alloc _ _ _)).trans (Fr.drewN _ _ 1)) (fun hH2=>?_)
 clear hK K 
 try simp only [lD,lE,lF,Act.put,lG,lH,lI]
 have hB : Blk (w1.alloc (.cells #[.int .i64 0,.int .i64 0,.int .i64 0,.int .i64 0,.int .i64 0,.int .i64 0,.slice none 0 0] 62)).drew w1.heap.size 62 #[.int .i64 0,.int .i64 0,.int .i64 0,.int .i64 0,.int .i64 0,.int .i64 0,.slice none 0 0]:=Blk.new w1.drew 62 #[.int .i64 0,.int .i64 0,.int .i64 0,.int .i64 0,.int .i64 0,.int .i64 0,.slice none 0 0]
 have hF2 : Fr (fun _=>False) W (w1.alloc (.cells #[.int .i64 0,.int .i64 0,.int .i64 0,.int .i64 0,.int .i64 0,.int .i64 0,.slice none 0 0] 62)).drew:=(HF1.out.trans (Fr.alloc _ _ _)).trans (Fr.drewN _ _ 1)
 generalize (w1.alloc (.cells #[.int .i64 0,.int .i64 0,.int .i64 0,.int .i64 0,.int .i64 0,.int .i64 0,.slice none 0 0] 62)).drew = w2 at hB hF2 hH2 ⊢
 have HNBG : Hid (W.heap.size ≤ w1.heap.size):=Lib.hid HF1.out.size
 obtain ⟨nb,hnb⟩ : ∃ b,w1.heap.size = b:=⟨_,rfl⟩
 rw [hnb] at hB HNBG ⊢
 clear hnb
 have x0:=hB.cell 0
 have z0:=hB.frozen 0
 have x1:=hB.cell 1
 have z1:=hB.frozen 1
 have x2:=hB.cell 2
 have z2:=hB.frozen 2
 have x3:=hB.cell 3
 have z3:=hB.frozen 3
 have x4:=hB.cell 4
 have z4:=hB.frozen 4
 have x5:=hB.cell 5
 have z5:=hB.frozen 5
 have x6:=hB.cell 6
 have z6:=hB.frozen 6
 simp only [lA,lB,lC] at x0 x1 x2 x3 x4 x5 x6
 have hf3:=fset_fr w2 nb 0 [.int .i64 e0.k,.int .i64 e0.a,.int .i64 e0.r,.int .i64 e0.i,.int .i64 e0.l,.int .i64 e0.n,.slice va e0.d.length vc]
 have hb3:=Blk.fset 0 [.int .i64 e0.k,.int .i64 e0.a,.int .i64 e0.r,.int .i64 e0.i,.int .i64 e0.l,.int .i64 e0.n,.slice va e0.d.length vc] hB
 have hF3 : Fr (fun _=>False) W (fset w2 nb 0 [.int .i64 e0.k,.int .i64 e0.a,.int .i64 e0.r,.int .i64 e0.i,.int .i64 e0.l,.int .i64 e0.n,.slice va e0.d.length vc]):=⟨hf3.os.trans hF2.os,hf3.tape.trans hF2.tape,hf3.output.trans hF2.output,Nat.le_trans hF2.size hf3.size,fun k hk _=>(hf3.block k (Nat.lt_of_lt_of_le hk hF2.size) (by have:=HNBG.out;omega)).trans (hF2.block k hk id)⟩
 obtain ⟨w3,hw3⟩ : ∃ w,fset w2 nb 0 [.int .i64 e0.k,.int .i64 e0.a,.int .i64 e0.r,.int .i64 e0.i,.int .i64 e0.l,.int .i64 e0.n,.slice va e0.d.length vc] = w:=⟨_,rfl⟩
 rw [hw3] at hb3 hF3
 simp only [fset,Nat.zero_add,Nat.reduceAdd] at hw3
 simp only [lset,lG,lH,lI,Nat.zero_add,Nat.reduceAdd] at hb3
 refine any_op 9 rfl (fun K hK=>?_)
 go_simp
 try rw [hw3]
 refine hK.out _ _ (hF3) (fun hH3=>?_)
 clear hK K hw3 x0 z0 x1 z1 x2 z2 x3 z3 x4 z4 x5 z5 x6 z6
 try simp only [lD,lE,lF,Act.put,lG,lH,lI]
 refine any_done ?_
 have HB3:=Lib.hid hb3
 have HF3:=Lib.hid hF3
 obtain ⟨r0,_⟩:=FX.out w3 hF3
 have n0:=(HNB.out.2.fr hF3 id).cell 0
 have e3:=HB3.out.cell 3
 simp only [lA,lB,lC] at n0 e3
 clear hH hH2 hH3 hb3 hF3 hB hF2 hf3
 go_upto_region 5 with (first | (go_at_call 21;refine (HPUT.out _ HF3.out).mono ?_;rintro e w4 ⟨rfl,hpf,hf4⟩) | go_in)
 have HPF4:=Lib.hid hpf
 have HT : Hid (∀ k,k = xb ∨ k = xm → T k):=Lib.hid (fun k e=>e.elim (fun e=>e ▸ HPF.out.f) (fun e=>e ▸ HPF.out.m))
 have HF4 : Hid (Fr (fun q=>q = xb ∨ q = xm) W w4):=Lib.hid ((HF3.out.mono fun _ e=>e.elim).trans hf4)
 have HNB2 : Hid (¬ (nb = xb ∨ nb = xm)):=Lib.hid (fun e=>by have:=HPF.out.lt nb (HT.out nb e);have:=HNBG.out;omega)
 have r4:=(HNB.out.1.fr HF4.out (fun e=>HNE.out.1 (HT.out _ e))).cell 0
 have n4:=(HNB.out.2.fr HF4.out (fun e=>HNE.out.2 (HT.out _ e))).cell 0
 have e5:=(HB3.out.fr hf4 HNB2.out).cell 5
 simp only [lA,lB,lC] at r4 n4 e5
 obtain ⟨z,hz⟩ : ∃ z,wrap64 (now + e0.n) = z:=⟨_,rfl⟩
 have HZ:=Lib.hid hz
 clear hpf hf4 r0 n0 e3 FX
 go_wp2
 go_ret2
 rw [HZ.out]
 exact ⟨_,rfl,Outs.one HF4.out.size ⟨4,0,(q : Int) + 1,0,z,0,0,[]⟩ (.slice none 0 0) (RowB.nil _ _) (Blk.new _ _ _),HPF4.out.fr0 (Fr.alloc _ _ _),HF4.out.trans ((Fr.alloc (fun _=>False) _ _).mono fun _ e=>e.elim)⟩
end Go.Proofs.YtnkelaohcbdjnaaGreat
set_option linter.unusedVariables false
set_option linter.unusedSimpArgs false
namespace Go.Proofs.YtnkelaohcbdjnaaGreat
open Go.RowKit Go.Maps
set_option maxRecDepth 100000 in
set_option maxHeartbeats 2000000 in
theorem fired_any (T : Nat → Prop) (W : World) (xb xm : Nat) (s : FSt) (h : PF T W xb xm s) (hmc : s.mc ≤ 100000) (hl : s.l.length ≤ 40000) (ref turn now : Int) (c : FSt × List Ov × Int) (bref bturn bnow : Nat) (href : Blk W bref 3 #[.int .i64 ref]) (nref : ¬ T bref) (hturn : Blk W bturn 3 #[.int .i64 turn]) (nturn : ¬ T bturn) (hnow : Blk W bnow 3 #[.int .i64 now]) (nnow : ¬ T bnow) (wref : (Lit.int .i64 ref).wf = true) (hok : OpenOk s) (hc : (turn = 0 ∧ ∃ i,s.mp ref = some (opv 12 i 0) ∧ c = (wakeS (firedS s ref now i) now,wakeO (firedS s ref now i) now,0)) ∨ ((turn ≠ 0 ∨ ∀ i w,s.mp ref ≠ some (opv 12 i w)) ∧ c = (s,[],21))) :
 Calls Tryz.prog 100 #[.pointer (some ⟨xb,0,none⟩),.pointer (some ⟨bref,0,none⟩),.pointer (some ⟨bturn,0,none⟩),.pointer (some ⟨bnow,0,none⟩)] W fun e W'=>ClX T W xb xm c e W':=by
 have HPF:=Lib.hid h
 have HC:=Lib.hid hc
 have HOK:=Lib.hid hok
 obtain ⟨q,hq⟩ : ∃ q,(s.mp ref).isSome = q:=⟨_,rfl⟩
 obtain ⟨k,i,w,hu⟩ : ∃ k i w : Int,(s.mp ref).getD (.agg #[.int .i64 0,.int .i64 0,.int .i64 0]) = (.agg #[.int .i64 k,.int .i64 i,.int .i64 w]):=by
  cases hmp : s.mp ref with
  | none=>exact ⟨0,0,0,rfl⟩
  | some v=>obtain ⟨_,_,k,i,w,rfl⟩:=hok ref v hmp;exact ⟨k,i,w,rfl⟩
 have HQ:=Lib.hid hq
 have HU:=Lib.hid hu
 obtain ⟨ao2,cp2,hb⟩:=h.blk
 have FX : Hid (∀ w',Fr (fun _=>False) W w' → w'.cell? ⟨bref,0,none⟩ = some (.int .i64 ref) ∧ w'.cell? ⟨xb,11,none⟩ = some (.map (some xm)) ∧ (Instr.lookup 55 (.map (some xm)) (.int .i64 ref) true).run Tryz.prog w' = .ok (.tuple #[(.agg #[.int .i64 k,.int .i64 i,.int .i64 w]),.bool q]) w'):=Lib.hid (fun w' hf=>⟨(href.fr hf id).cell 0,(hb.fr hf id).cell 11,by
  have hM:=(h.fl.m.fr hf id).look_ok Tryz.underlying55 (zero101 _) (x:=ref) wref
  rw [HU.out,HQ.out] at hM
  exact hM⟩)
 have HNB:=Lib.hid (And.intro href (And.intro hturn hnow))
 have HNE:=Lib.hid (And.intro nref (And.intro nturn nnow))
 have HPUT : Hid (∀ w',Fr (fun _=>False) W w' → 1 ≤ ref ∧ ref ≤ s.l.length → Calls Tryz.prog 21 #[.pointer (some ⟨xb,0,none⟩),.agg #[.int .i64 13,.int .i64 now,.int .i64 ref,.int .i64 i,.int .i64 0,.int .i64 0,.slice none 0 0]] w' fun e W'=>e = .returned (.int .i64 ((s.l.length : Int) + 1)) ∧ PF T W' xb xm (firedS s ref now i) ∧ Fr (fun q=>q = xb ∨ q = xm) w' W'):=Lib.hid (fun w' hf hr=>put_any T w' xb xm s (h.fr0 hf) (by omega) (by omega) 13 now ref i 0 0 none 0 0 [] (RowB.nil _ _) (by simp) (by simp) _ (.inr (.inr (.inr (.inr (.inr (.inr (.inr (.inr (.inl ⟨⟨.inl rfl,by omega,by omega⟩,rfl⟩))))))))))
 clear h hb hok hc href hturn hnow nref nturn nnow hq hu
 go_enter Tryz.func100,Tryz.ntmps100
 go_upto_region 1 with (fail)
 refine region_Z (fun w'=>Fr (fun _=>False) W w') 99 (Fr.drewN _ W 1) (fun hH=>?_)
 refine takes (b:=?_) [0,1,2,3,4,5,6,7,8] hH ?_ ?_
 rotate_left
 iterate 9 ((refine Sq.yes (v:=?_) rfl (by rfl) ?_ ?_;rotate_left;· (intro w' hw';obtain ⟨f0,f1,f2⟩:=FX.out w' hw';go_simp;try with_reducible rfl));try simp only [lD,lE,lF,Act.put,lG,lH,lI])
 exact Sq.nil
 refine any_op 9 rfl (fun K hK=>?_)
 go_simp
 refine hK.out _ _ ((Fr.alloc _ _ _).trans (Fr.drewN _ _ 1)) (fun hH2=>?_)
 clear hK K 
 try simp only [lD,lE,lF,Act.put,lG,lH,lI]
 have hB : Blk (W.alloc (.cells #[.int .i64 0,.int .i64 0,.int .i64 0] 102)).drew W.heap.size 102 #[.int .i64 0,.int .i64 0,.int .i64 0]:=Blk.new W.drew 102 #[.int .i64 0,.int .i64 0,.int .i64 0]
 generalize (W.alloc (.cells #[.int .i64 0,.int .i64 0,.int .i64 0] 102)).drew = w2 at hB hH2 ⊢
 obtain ⟨nb,hnb⟩ : ∃ b,W.heap.size = b:=⟨_,rfl⟩
 rw [hnb] at hB ⊢
 have HNBE:=Lib.hid hnb
 have x0:=hB.cell 0
 have z0:=hB.frozen 0
 have x1:=hB.cell 1
 have z1:=hB.frozen 1
 have x2:=hB.cell 2
 have z2:=hB.frozen 2
 simp only [lA,lB,lC] at x0 x1 x2
 have hf3:=fset_fr w2 nb 0 [.int .i64 k,.int .i64 i,.int .i64 w]
 have hb3:=Blk.fset 0 [.int .i64 k,.int .i64 i,.int .i64 w] hB
 have hF3 : Fr (fun _=>False) W (fset w2 nb 0 [.int .i64 k,.int .i64 i,.int .i64 w]):=⟨hf3.os.trans hH2.os,hf3.tape.trans hH2.tape,hf3.output.trans hH2.output,Nat.le_trans hH2.size hf3.size,fun q hq _=>(hf3.block q (Nat.lt_of_lt_of_le hq hH2.size) (by omega)).trans (hH2.block q hq id)⟩
 obtain ⟨w3,hw3⟩ : ∃ wz,fset w2 nb 0 [.int .i64 k,.int .i64 i,.int .i64 w] = wz:=⟨_,rfl⟩
 rw [hw3] at hb3 hF3
 simp only [fset,Nat.zero_add,Nat.reduceAdd] at hw3
 simp only [lset,lG,lH,lI,Nat.zero_add,Nat.reduceAdd] at hb3
 clear hnb
 refine any_op 10 rfl (fun K hK=>?_)
 go_simp
 try rw [hw3]
 refine hK.out _ _ (hF3) (fun hH3=>?_)
 clear hK K hw3 x0 x1 x2 z0 z1 z2
 try simp only [lD,lE,lF,Act.put,lG,lH,lI]
 refine takes (b:=?_) [11] hH3 ?_ ?_
 rotate_left
 (refine Sq.yes (v:=?_) rfl (by rfl) ?_ ?_;rotate_left;· (intro w' hw';go_simp;try with_reducible rfl))
 try simp only [lD,lE,lF,Act.put,lG,lH,lI]
 exact Sq.nil
 refine any_done ?_
 have HB3:=Lib.hid hb3
 have HF3:=Lib.hid hF3
 have e0:=HB3.out.cell 0
 have e1:=HB3.out.cell 1
 have r0:=(HNB.out.1.fr hF3 id).cell 0
 have t0:=(HNB.out.2.1.fr hF3 id).cell 0
 have n0:=(HNB.out.2.2.fr hF3 id).cell 0
 simp only [lA,lB,lC] at e0 e1 r0 t0 n0
 clear hH hH2 hH3 hb3 hF3 hB hf3 FX
 by_cases hgo : turn = 0 ∧ ∃ i,s.mp ref = some (opv 12 i 0)
 ·obtain ⟨ht0,i0,hop⟩:=hgo
  have hc2 : c = (wakeS (firedS s ref now i0) now,wakeO (firedS s ref now i0) now,0):=by
   rcases HC.out with ⟨_,j,hj,e⟩ | ⟨h1,_⟩
   ·have:=hj.symm.trans hop
    unfold opv at this
    cases this
    exact e
   ·rcases h1 with h1 | h1
    ·exact absurd ht0 h1
    ·exact absurd hop (h1 i0 0)
  have hu2:=HU.out
  rw [hop] at hu2
  unfold opv at hu2
  have hu3 : (Value.agg #[.int .i64 12,.int .i64 i0,.int .i64 0]) = .agg #[.int .i64 k,.int .i64 i,.int .i64 w]:=hu2
  simp only [Value.agg.injEq,Array.mk.injEq,List.cons.injEq,Value.int.injEq,true_and,and_true] at hu3
  obtain ⟨hk,hi,hw⟩:=hu3
  have hq2:=HQ.out
  rw [hop] at hq2
  have hin:=HOK.out ref _ hop
  have HCC:=Lib.hid hc2
  have HMC : Hid ((firedS s ref now i).mc ≤ 1000000):=Lib.hid (by show cdn s.mp ref s.mc ≤ _;unfold cdn;split <;> omega)
  have HI:=Lib.hid (And.intro hin.1 hin.2.1)
  have HII:=Lib.hid hi
  subst ht0 hk
  obtain rfl : q = true:=hq2.symm
  clear hc2 hu2 hop hq2 hi hw hin
  go_upto_region 5 with (first | (go_at_call 21;refine (HPUT.out _ HF3.out HI.out).mono ?_;rintro e w4 ⟨rfl,hpf,hf4⟩) | go_in)
  have HPF4:=Lib.hid hpf
  have HF4 : Hid (Fr (fun q=>q = xb ∨ q = xm) W w4):=Lib.hid ((HF3.out.mono fun _ e=>e.elim).trans hf4)
  have n4:=(HNB.out.2.2.fr HF4.out (fun e=>HNE.out.2.2 (e.elim (fun e=>e ▸ HPF.out.f) (fun e=>e ▸ HPF.out.m)))).cell 0
  simp only [lA,lB] at n4
  have HW:=Lib.hid (wake_any T w4 xb xm _ HPF4.out HMC.out (by show (s.l ++ _).length ≤ _;rw [List.length_append];simp only [List.length_cons,List.length_nil];omega) now)
  clear hpf hf4 e0 e1 r0 t0 n0
  go_wp2_with (first | (go_at_call 61;refine HW.out.mono ?_;rintro e w5 ⟨v,rfl,h1,h2,h3⟩) | go_in)
  go_ret2
  rw [HCC.out,HII.out]
  exact ⟨v,rfl,h1.weak HF4.out.size,h2,HF4.out.trans h3⟩
 ·have hc2 : c = (s,[],21):=by
   rcases HC.out with ⟨h1,j,hj,e⟩ | ⟨_,e⟩
   ·exact absurd ⟨h1,j,hj⟩ hgo
   ·exact e
  have HCC:=Lib.hid hc2
  have hno : turn ≠ 0 ∨ ∀ i w,s.mp ref ≠ some (opv 12 i w):=by
   rcases HC.out with ⟨h1,j,hj,e⟩ | ⟨h,_⟩
   ·exact absurd ⟨h1,j,hj⟩ hgo
   ·exact h
  have hstale : q = false ∨ k ≠ 12 ∨ turn ≠ 0:=by
   rcases hno with h | h
   ·exact .inr (.inr h)
   ·cases hmp : s.mp ref with
    | none=>left;rw [← HQ.out,hmp];rfl
    | some v=>
      obtain ⟨_,_,k1,i1,w1,rfl⟩:=HOK.out ref v hmp
      have hu2:=HU.out
      rw [hmp] at hu2
      have hu3 : (Value.agg #[.int .i64 k1,.int .i64 i1,.int .i64 w1]) = .agg #[.int .i64 k,.int .i64 i,.int .i64 w]:=hu2
      simp only [Value.agg.injEq,Array.mk.injEq,List.cons.injEq,Value.int.injEq,true_and,and_true] at hu3
      exact .inr (.inl (fun e=>h i1 w1 (by rw [hmp,hu3.1,e])))
  clear hc2 hno hgo
  cases q with
  | false=>
    clear hstale
    go_wp2
    go_ret2
    rw [HCC.out]
    exact ⟨_,rfl,Outs.nil _ _,HPF.out.fr0 HF3.out,HF3.out.mono fun _ e=>e.elim⟩
  | true=>
    by_cases hk : k = 12
    ·subst hk
     have ht : turn ≠ 0:=by simpa using hstale
     have pt : (turn != 0) = true:=by simp [ht]
     clear hstale ht
     go_wp2
     go_ret2
     rw [HCC.out]
     exact ⟨_,rfl,Outs.nil _ _,HPF.out.fr0 HF3.out,HF3.out.mono fun _ e=>e.elim⟩
    ·have pk : (k != 12) = true:=by simp [hk]
     clear hstale hk
     go_wp2
     go_ret2
     rw [HCC.out]
     exact ⟨_,rfl,Outs.nil _ _,HPF.out.fr0 HF3.out,HF3.out.mono fun _ e=>e.elim⟩
set_option maxRecDepth 100000 in
set_option maxHeartbeats 2000000 in
theorem child_stale (T : Nat → Prop) (W : World) (xb xm : Nat) (s : FSt) (h : PF T W xb xm s) (hmc : s.mc ≤ 100000) (hl : s.l.length ≤ 40000) (idn st now : Int) (ao : Option Addr) (dl cp : Nat) (ds : List Value) (bid bst bnow bdata : Nat) (hid : Blk W bid 3 #[.int .i64 idn]) (nid : ¬ T bid) (hst : Blk W bst 3 #[.int .i64 st]) (nst : ¬ T bst) (hnow : Blk W bnow 3 #[.int .i64 now]) (nnow : ¬ T bnow) (hdata : Blk W bdata 36 #[.slice ao dl cp]) (ndata : ¬ T bdata) (hok : OpenOk s) (hno : ∀ x w,s.mp x ≠ some (opv 17 idn w)) :
 Calls Tryz.prog 82 #[.pointer (some ⟨xb,0,none⟩),.pointer (some ⟨bid,0,none⟩),.pointer (some ⟨bst,0,none⟩),.pointer (some ⟨bnow,0,none⟩),.pointer (some ⟨bdata,0,none⟩)] W fun e W'=>ClX T W xb xm (s,[],21) e W':=by
 have cid:=hid.cell 0
 simp only [lA,lB] at cid
 have HPF:=Lib.hid h
 have HFI:=Lib.hid (find_any T W xb xm s h.fl hok (by omega) 17 idn)
 have HNO:=Lib.hid hno
 clear h hok hno hid hst hnow hdata nid nst nnow ndata
 go_enter Tryz.func82,Tryz.ntmps82
 go_wp2_with (first | (go_at_call 83;refine HFI.out.mono ?_;rintro e w3 ⟨z,rfl,hz,hf3⟩;have hz0 : z = 0:=(by rcases hz with hz | ⟨w,hz⟩;exact hz.1;exact absurd hz (HNO.out z w));subst hz0) | go_in)
 go_ret2
 exact ⟨_,rfl,Outs.nil _ _,HPF.out.fr0 hf3,hf3.mono fun _ e=>e.elim⟩
set_option maxRecDepth 100000 in
set_option maxHeartbeats 2000000 in
theorem child_arg (T : Nat → Prop) (W : World) (xb xm : Nat) (s : FSt) (h : PF T W xb xm s) (hmc : s.mc ≤ 100000) (hl : s.l.length ≤ 40000) (idn st now : Int) (ao : Option Addr) (dl cp : Nat) (ds : List Value) (bid bst bnow bdata : Nat) (hid : Blk W bid 3 #[.int .i64 idn]) (nid : ¬ T bid) (hst : Blk W bst 3 #[.int .i64 st]) (nst : ¬ T bst) (hnow : Blk W bnow 3 #[.int .i64 now]) (nnow : ¬ T bnow) (hdata : Blk W bdata 36 #[.slice ao dl cp]) (ndata : ¬ T bdata) (hok : OpenOk s) (key w0 : Int) (hop : s.mp key = some (opv 17 idn w0)) (huq : ∀ x w,s.mp x = some (opv 17 idn w) → x = key) (hst2 : ¬ (0 ≤ st ∧ st ≤ 6)) :
 Calls Tryz.prog 82 #[.pointer (some ⟨xb,0,none⟩),.pointer (some ⟨bid,0,none⟩),.pointer (some ⟨bst,0,none⟩),.pointer (some ⟨bnow,0,none⟩),.pointer (some ⟨bdata,0,none⟩)] W fun e W'=>ClX T W xb xm (s,[],1) e W':=by
 have cid:=hid.cell 0
 simp only [lA,lB] at cid
 have HPF:=Lib.hid h
 have HFI:=Lib.hid (find_any T W xb xm s h.fl hok (by omega) 17 idn)
 have HNO:=Lib.hid (And.intro huq (fun (h0 : ∀ x k i w,s.mp x = some (opv k i w) → ¬ (k = 17 ∧ i = idn))=>h0 key 17 idn w0 hop))
 have hz1:=(hok key _ hop).1
 have hz2:=(hok key _ hop).2.1
 have pz : (key == 0) = false:=by simp;omega
 have HNB:=Lib.hid (And.intro hid (And.intro hst (And.intro hnow hdata)))
 clear h hok hop huq hid hst hnow hdata nid nst nnow ndata
 go_enter Tryz.func82,Tryz.ntmps82
 go_upto_region 4 with (first | (go_at_call 83;refine HFI.out.mono ?_;rintro e w3 ⟨z,rfl,hz,hf3⟩;have hzk : z = key:=(by rcases hz with ⟨rfl,h0⟩ | ⟨w,hz⟩;exact absurd ⟨rfl,rfl⟩ (HNO.out.2 h0);exact HNO.out.1 z w hz);subst hzk) | go_in)
 have HF3:=Lib.hid hf3
 have s3:=(HNB.out.2.1.fr hf3 id).cell 0
 simp only [lA,lB] at s3
 clear hf3 hz
 by_cases h1 : st < 0
 ·have p1 : decide (st < 0) = true:=decide_eq_true h1
  clear h1 hst2
  go_wp2
  go_ret2
  exact ⟨_,rfl,Outs.nil _ _,HPF.out.fr0 HF3.out,HF3.out.mono fun _ e=>e.elim⟩
 ·have p1 : decide (st < 0) = false:=decide_eq_false h1
  have p2 : decide (6 < st) = true:=decide_eq_true (by omega)
  have p3 : decide (st > 6) = true:=decide_eq_true (by omega)
  clear h1 hst2
  go_wp2
  go_ret2
  exact ⟨_,rfl,Outs.nil _ _,HPF.out.fr0 HF3.out,HF3.out.mono fun _ e=>e.elim⟩
set_option maxRecDepth 100000 in
set_option maxHeartbeats 2000000 in
theorem child_ok (T : Nat → Prop) (W : World) (xb xm : Nat) (s : FSt) (h : PF T W xb xm s) (hmc : s.mc ≤ 100000) (hl : s.l.length ≤ 40000) (idn st now : Int) (ao : Option Addr) (dl cp : Nat) (ds : List Value) (bid bst bnow bdata : Nat) (hid : Blk W bid 3 #[.int .i64 idn]) (nid : ¬ T bid) (hst : Blk W bst 3 #[.int .i64 st]) (nst : ¬ T bst) (hnow : Blk W bnow 3 #[.int .i64 now]) (nnow : ¬ T bnow) (hdata : Blk W bdata 36 #[.slice ao dl cp]) (ndata : ¬ T bdata) (hok : OpenOk s) (key w0 : Int) (hop : s.mp key = some (opv 17 idn w0)) (huq : ∀ x w,s.mp x = some (opv 17 idn w) → x = key) (hst2 : 0 ≤ st ∧ st ≤ 6) (hd : RowB T W (.slice ao dl cp) ds) (hdl : ds.length ≤ 100000) (hd1 : ∀ u ∈ ds,u.oneCell' = true) :
 Calls Tryz.prog 82 #[.pointer (some ⟨xb,0,none⟩),.pointer (some ⟨bid,0,none⟩),.pointer (some ⟨bst,0,none⟩),.pointer (some ⟨bnow,0,none⟩),.pointer (some ⟨bdata,0,none⟩)] W fun e W'=>ClX T W xb xm (wakeS (childS s key now idn st ds) now,wakeO (childS s key now idn st ds) now,0) e W':=by
 have cid:=hid.cell 0
 simp only [lA,lB] at cid
 have HPF:=Lib.hid h
 have HFI:=Lib.hid (find_any T W xb xm s h.fl hok (by omega) 17 idn)
 have HNO:=Lib.hid (And.intro huq (fun (h0 : ∀ x k i w,s.mp x = some (opv k i w) → ¬ (k = 17 ∧ i = idn))=>h0 key 17 idn w0 hop))
 have hz1:=(hok key _ hop).1
 have hz2:=(hok key _ hop).2.1
 have pz : (key == 0) = false:=by simp;omega
 have HNB:=Lib.hid (And.intro hid (And.intro hst (And.intro hnow hdata)))
 have HPUT : Hid (∀ w',Fr (fun _=>False) W w' → Calls Tryz.prog 21 #[.pointer (some ⟨xb,0,none⟩),.agg #[.int .i64 18,.int .i64 now,.int .i64 key,.int .i64 idn,.int .i64 0,.int .i64 st,.slice ao dl cp]] w' fun e W'=>e = .returned (.int .i64 ((s.l.length : Int) + 1)) ∧ PF T W' xb xm (childS s key now idn st ds) ∧ Fr (fun q=>q = xb ∨ q = xm) w' W'):=Lib.hid (fun w' hf=>put_any T w' xb xm s (h.fr0 hf) (by omega) (by omega) 18 now key idn 0 st ao dl cp ds ((hd.to (S':=fun _=>False) fun k _ e=>e.elim).fr hf) hdl hd1 _ (.inr (.inr (.inr (.inr (.inr (.inr (.inr (.inr (.inl ⟨⟨.inr rfl,by omega,by omega⟩,rfl⟩))))))))))
 have HNE:=Lib.hid nnow
 have HMC : Hid ((childS s key now idn st ds).mc ≤ 1000000):=Lib.hid (by show cdn s.mp key s.mc ≤ _;unfold cdn;split <;> omega)
 clear h hok hop huq hid hst hnow hdata nid nst nnow ndata hd hd1 hdl
 go_enter Tryz.func82,Tryz.ntmps82
 go_upto_region 4 with (first | (go_at_call 83;refine HFI.out.mono ?_;rintro e w3 ⟨z,rfl,hz,hf3⟩;have hzk : z = key:=(by rcases hz with ⟨rfl,h0⟩ | ⟨w,hz⟩;exact absurd ⟨rfl,rfl⟩ (HNO.out.2 h0);exact HNO.out.1 z w hz);subst hzk) | go_in)
 have HF3:=Lib.hid hf3
 have i3:=(HNB.out.1.fr hf3 id).cell 0
 have s3:=(HNB.out.2.1.fr hf3 id).cell 0
 have n3:=(HNB.out.2.2.1.fr hf3 id).cell 0
 have d3:=(HNB.out.2.2.2.fr hf3 id).cell 0
 simp only [lA,lB] at i3 s3 n3 d3
 have p1 : decide (st < 0) = false:=decide_eq_false (by omega)
 have p2 : decide (6 < st) = false:=decide_eq_false (by omega)
 have p3 : decide (st > 6) = false:=decide_eq_false (by omega)
 clear hf3 hz cid
 go_upto_region 7 with (first | (go_at_call 21;refine (HPUT.out w3 HF3.out).mono ?_;rintro e w4 ⟨rfl,hpf,hf4⟩) | go_in)
 have HPF4:=Lib.hid hpf
 have HF4 : Hid (Fr (fun q=>q = xb ∨ q = xm) W w4):=Lib.hid ((HF3.out.mono fun _ e=>e.elim).trans hf4)
 have n4:=(HNB.out.2.2.1.fr HF4.out (fun e=>HNE.out (e.elim (fun e=>e ▸ HPF.out.f) (fun e=>e ▸ HPF.out.m)))).cell 0
 simp only [lA,lB] at n4
 have HW:=Lib.hid (wake_any T w4 xb xm _ HPF4.out HMC.out (by show (s.l ++ _).length ≤ _;rw [List.length_append];simp only [List.length_cons,List.length_nil];omega) now)
 clear hpf hf4 i3 s3 n3 d3 HPUT
 go_wp2_with (first | (go_at_call 61;refine HW.out.mono ?_;rintro e w5 ⟨v,rfl,h1,h2,h3⟩) | go_in)
 go_ret2
 exact ⟨v,rfl,h1.weak HF4.out.size,h2,HF4.out.trans h3⟩
end Go.Proofs.YtnkelaohcbdjnaaGreat
