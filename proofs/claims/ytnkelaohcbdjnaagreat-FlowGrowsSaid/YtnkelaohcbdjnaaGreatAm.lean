/- Acts: their boxes,try. -/
import Derived.Test.YtnkelaohcbdjnaaGreatOy
set_option linter.unusedVariables false
set_option linter.unusedSimpArgs false
namespace Go.Proofs.YtnkelaohcbdjnaaGreat
open Go.RowKit Go.Maps
theorem run_enter {P : Program} {f : FuncId} {fn : Func} (hf : P.funcs[f]? = some fn) (hname : (fn.name == "runtime.NumGoroutine") = false) (hb : fn.body.isSome = true) (args : Array Value) (w : World) :
 Sem.run P (callFunc f args) w = .ok (.enter f args) w:=by
 obtain ⟨c,hb⟩:=Option.isSome_iff_exists.1 hb
 have h1 : fn.name ≠ "runtime.NumGoroutine" := by simpa using hname
 simp [callFunc,hf,h1,hb]
set_option maxRecDepth 100000 in
set_option maxHeartbeats 2000000 in
theorem decides_f (S : Nat → Prop) (W : World) (fb mb : Nat) (s : FSt) (h : PF S W fb mb s) (ref turn now : Int) (c : FSt × List Ov × Int) 
 (HC : rightP s.l 0 now → statusK s.l = 1 → c.1.l.length ≤ 4096 ∧ ∀ (T : Nat → Prop) w xb xm bref bturn bnow,PF T w xb xm s → Fr (fun _=>False) W w → (∀ k,k < W.heap.size → T k → S k) → Blk w bref 3 #[.int .i64 ref] → ¬ T bref → Blk w bturn 3 #[.int .i64 turn] → ¬ T bturn → Blk w bnow 3 #[.int .i64 now] → ¬ T bnow → Calls Tryz.prog 51 #[.pointer (some ⟨xb,0,none⟩),.pointer (some ⟨bturn,0,none⟩),.pointer (some ⟨bref,0,none⟩),.pointer (some ⟨bnow,0,none⟩)] w fun e w'=>ClX T w xb xm c e w') :
 Calls Tryz.prog 13 #[.pointer (some ⟨fb,0,none⟩),.int .i64 ref,.int .i64 turn,.int .i64 now] W fun e W'=>ActX S W fb (tryC s 0 now c) e W':=by
 have hB0:=Blk.new W 3 #[.int .i64 ref]
 have hF0 : Fr (fun _=>False) W (W.alloc (.cells #[.int .i64 ref] 3)):=Fr.alloc _ _ _
 have hB1:=Blk.new (W.alloc (.cells #[.int .i64 ref] 3)) 3 #[.int .i64 turn]
 have hF1 : Fr (fun _=>False) (W.alloc (.cells #[.int .i64 ref] 3)) ((W.alloc (.cells #[.int .i64 ref] 3)).alloc (.cells #[.int .i64 turn] 3)):=Fr.alloc _ _ _
 have hB2:=Blk.new ((W.alloc (.cells #[.int .i64 ref] 3)).alloc (.cells #[.int .i64 turn] 3)) 3 #[.int .i64 now]
 have hF2 : Fr (fun _=>False) ((W.alloc (.cells #[.int .i64 ref] 3)).alloc (.cells #[.int .i64 turn] 3)) (((W.alloc (.cells #[.int .i64 ref] 3)).alloc (.cells #[.int .i64 turn] 3)).alloc (.cells #[.int .i64 now] 3)):=Fr.alloc _ _ _
 have hb0:=((hB0.fr hF1 id).fr hF2 id)
 have hb1:=(hB1.fr hF2 id)
 have hb2:=hB2
 have hfr:=((hF0.trans hF1).trans hF2)
 obtain ⟨W3,hW3⟩ : ∃ W3,(((W.alloc (.cells #[.int .i64 ref] 3)).alloc (.cells #[.int .i64 turn] 3)).alloc (.cells #[.int .i64 now] 3)) = W3:=⟨_,rfl⟩
 have hsz : W3.heap.size = W.heap.size + 3:=by rw [← hW3];simp
 simp only [World.size_alloc] at hb1 hb2
 rw [hW3] at hb0 hb1 hb2 hfr
 clear hB0 hF0 hB1 hF1 hB2 hF2
 have hc0:=hb0.cell 0
 have hc1:=hb1.cell 0
 have hc2:=hb2.cell 0
 simp only [lA,lB] at hc0 hc1 hc2
 have HT:=Lib.hid (try_any 51 (run_enter Tryz.func51 (by kernel_rfl) (by kernel_rfl)) #[.pointer (some ⟨W.heap.size + 1,0,none⟩),.pointer (some ⟨W.heap.size,0,none⟩),.pointer (some ⟨W.heap.size + 1 + 1,0,none⟩)] S W3 fb mb s (h.fr0 hfr) none 0 0 now c
  (fun hr hs=>⟨(HC hr hs).1,fun w xb xm hf hxb hxm hx=>(HC hr hs).2 _ w xb xm (W.heap.size) (W.heap.size + 1) (W.heap.size + 1 + 1) hx (hfr.trans hf) (fun k hk e=>by rcases e with e | e | e <;> first | exact e | omega) (hb0.fr hf id) (by intro e;rcases e with e | e | e <;> first | omega | (have:=h.lt _ e;omega)) (hb1.fr hf id) (by intro e;rcases e with e | e | e <;> first | omega | (have:=h.lt _ e;omega)) (hb2.fr hf id) (by intro e;rcases e with e | e | e <;> first | omega | (have:=h.lt _ e;omega))⟩))
 have HFR:=Lib.hid hfr
 have HSZ:=Lib.hid hsz
 clear h HC hfr hsz hb0 hb1 hb2
 go_enter Tryz.func13,Tryz.ntmps13
 go_upto_region 1 with (fail)
 clear hW3
 go_wp2_with (first | (go_at_call 50;refine HT.out.mono ?_;rintro e w5 ⟨ov,S',xm,rfl,ho,hpf,hf5,hss⟩) | go_in)
 go_ret2
 exact ⟨ov,S',xm,rfl,ho.weak (by have:=HSZ.out;omega),hpf,(HFR.out.mono fun _ e=>e.elim).trans hf5,fun k hk=>hss k (by have:=HSZ.out;omega)⟩
set_option maxRecDepth 100000 in
set_option maxHeartbeats 2000000 in
theorem missed_f (S : Nat → Prop) (W : World) (fb mb : Nat) (s : FSt) (h : PF S W fb mb s) (ref turn now : Int) (c : FSt × List Ov × Int) 
 (HC : rightP s.l 0 now → statusK s.l = 1 → c.1.l.length ≤ 4096 ∧ ∀ (T : Nat → Prop) w xb xm bref bturn bnow,PF T w xb xm s → Fr (fun _=>False) W w → (∀ k,k < W.heap.size → T k → S k) → Blk w bref 3 #[.int .i64 ref] → ¬ T bref → Blk w bturn 3 #[.int .i64 turn] → ¬ T bturn → Blk w bnow 3 #[.int .i64 now] → ¬ T bnow → Calls Tryz.prog 98 #[.pointer (some ⟨xb,0,none⟩),.pointer (some ⟨bref,0,none⟩),.pointer (some ⟨bturn,0,none⟩),.pointer (some ⟨bnow,0,none⟩)] w fun e w'=>ClX T w xb xm c e w') :
 Calls Tryz.prog 78 #[.pointer (some ⟨fb,0,none⟩),.int .i64 ref,.int .i64 turn,.int .i64 now] W fun e W'=>ActX S W fb (tryC s 0 now c) e W':=by
 have hB0:=Blk.new W 3 #[.int .i64 ref]
 have hF0 : Fr (fun _=>False) W (W.alloc (.cells #[.int .i64 ref] 3)):=Fr.alloc _ _ _
 have hB1:=Blk.new (W.alloc (.cells #[.int .i64 ref] 3)) 3 #[.int .i64 turn]
 have hF1 : Fr (fun _=>False) (W.alloc (.cells #[.int .i64 ref] 3)) ((W.alloc (.cells #[.int .i64 ref] 3)).alloc (.cells #[.int .i64 turn] 3)):=Fr.alloc _ _ _
 have hB2:=Blk.new ((W.alloc (.cells #[.int .i64 ref] 3)).alloc (.cells #[.int .i64 turn] 3)) 3 #[.int .i64 now]
 have hF2 : Fr (fun _=>False) ((W.alloc (.cells #[.int .i64 ref] 3)).alloc (.cells #[.int .i64 turn] 3)) (((W.alloc (.cells #[.int .i64 ref] 3)).alloc (.cells #[.int .i64 turn] 3)).alloc (.cells #[.int .i64 now] 3)):=Fr.alloc _ _ _
 have hb0:=((hB0.fr hF1 id).fr hF2 id)
 have hb1:=(hB1.fr hF2 id)
 have hb2:=hB2
 have hfr:=((hF0.trans hF1).trans hF2)
 obtain ⟨W3,hW3⟩ : ∃ W3,(((W.alloc (.cells #[.int .i64 ref] 3)).alloc (.cells #[.int .i64 turn] 3)).alloc (.cells #[.int .i64 now] 3)) = W3:=⟨_,rfl⟩
 have hsz : W3.heap.size = W.heap.size + 3:=by rw [← hW3];simp
 simp only [World.size_alloc] at hb1 hb2
 rw [hW3] at hb0 hb1 hb2 hfr
 clear hB0 hF0 hB1 hF1 hB2 hF2
 have hc0:=hb0.cell 0
 have hc1:=hb1.cell 0
 have hc2:=hb2.cell 0
 simp only [lA,lB] at hc0 hc1 hc2
 have HT:=Lib.hid (try_any 98 (run_enter Tryz.func98 (by kernel_rfl) (by kernel_rfl)) #[.pointer (some ⟨W.heap.size,0,none⟩),.pointer (some ⟨W.heap.size + 1,0,none⟩),.pointer (some ⟨W.heap.size + 1 + 1,0,none⟩)] S W3 fb mb s (h.fr0 hfr) none 0 0 now c
  (fun hr hs=>⟨(HC hr hs).1,fun w xb xm hf hxb hxm hx=>(HC hr hs).2 _ w xb xm (W.heap.size) (W.heap.size + 1) (W.heap.size + 1 + 1) hx (hfr.trans hf) (fun k hk e=>by rcases e with e | e | e <;> first | exact e | omega) (hb0.fr hf id) (by intro e;rcases e with e | e | e <;> first | omega | (have:=h.lt _ e;omega)) (hb1.fr hf id) (by intro e;rcases e with e | e | e <;> first | omega | (have:=h.lt _ e;omega)) (hb2.fr hf id) (by intro e;rcases e with e | e | e <;> first | omega | (have:=h.lt _ e;omega))⟩))
 have HFR:=Lib.hid hfr
 have HSZ:=Lib.hid hsz
 clear h HC hfr hsz hb0 hb1 hb2
 go_enter Tryz.func78,Tryz.ntmps78
 go_upto_region 1 with (fail)
 clear hW3
 go_wp2_with (first | (go_at_call 50;refine HT.out.mono ?_;rintro e w5 ⟨ov,S',xm,rfl,ho,hpf,hf5,hss⟩) | go_in)
 go_ret2
 exact ⟨ov,S',xm,rfl,ho.weak (by have:=HSZ.out;omega),hpf,(HFR.out.mono fun _ e=>e.elim).trans hf5,fun k hk=>hss k (by have:=HSZ.out;omega)⟩
set_option maxRecDepth 100000 in
set_option maxHeartbeats 2000000 in
theorem lapsed_f (S : Nat → Prop) (W : World) (fb mb : Nat) (s : FSt) (h : PF S W fb mb s) (ref turn now : Int) (c : FSt × List Ov × Int) 
 (HC : rightP s.l 0 now → statusK s.l = 1 → c.1.l.length ≤ 4096 ∧ ∀ (T : Nat → Prop) w xb xm bref bturn bnow,PF T w xb xm s → Fr (fun _=>False) W w → (∀ k,k < W.heap.size → T k → S k) → Blk w bref 3 #[.int .i64 ref] → ¬ T bref → Blk w bturn 3 #[.int .i64 turn] → ¬ T bturn → Blk w bnow 3 #[.int .i64 now] → ¬ T bnow → Calls Tryz.prog 99 #[.pointer (some ⟨xb,0,none⟩),.pointer (some ⟨bturn,0,none⟩),.pointer (some ⟨bref,0,none⟩),.pointer (some ⟨bnow,0,none⟩)] w fun e w'=>ClX T w xb xm c e w') :
 Calls Tryz.prog 79 #[.pointer (some ⟨fb,0,none⟩),.int .i64 ref,.int .i64 turn,.int .i64 now] W fun e W'=>ActX S W fb (tryC s 0 now c) e W':=by
 have hB0:=Blk.new W 3 #[.int .i64 ref]
 have hF0 : Fr (fun _=>False) W (W.alloc (.cells #[.int .i64 ref] 3)):=Fr.alloc _ _ _
 have hB1:=Blk.new (W.alloc (.cells #[.int .i64 ref] 3)) 3 #[.int .i64 turn]
 have hF1 : Fr (fun _=>False) (W.alloc (.cells #[.int .i64 ref] 3)) ((W.alloc (.cells #[.int .i64 ref] 3)).alloc (.cells #[.int .i64 turn] 3)):=Fr.alloc _ _ _
 have hB2:=Blk.new ((W.alloc (.cells #[.int .i64 ref] 3)).alloc (.cells #[.int .i64 turn] 3)) 3 #[.int .i64 now]
 have hF2 : Fr (fun _=>False) ((W.alloc (.cells #[.int .i64 ref] 3)).alloc (.cells #[.int .i64 turn] 3)) (((W.alloc (.cells #[.int .i64 ref] 3)).alloc (.cells #[.int .i64 turn] 3)).alloc (.cells #[.int .i64 now] 3)):=Fr.alloc _ _ _
 have hb0:=((hB0.fr hF1 id).fr hF2 id)
 have hb1:=(hB1.fr hF2 id)
 have hb2:=hB2
 have hfr:=((hF0.trans hF1).trans hF2)
 obtain ⟨W3,hW3⟩ : ∃ W3,(((W.alloc (.cells #[.int .i64 ref] 3)).alloc (.cells #[.int .i64 turn] 3)).alloc (.cells #[.int .i64 now] 3)) = W3:=⟨_,rfl⟩
 have hsz : W3.heap.size = W.heap.size + 3:=by rw [← hW3];simp
 simp only [World.size_alloc] at hb1 hb2
 rw [hW3] at hb0 hb1 hb2 hfr
 clear hB0 hF0 hB1 hF1 hB2 hF2
 have hc0:=hb0.cell 0
 have hc1:=hb1.cell 0
 have hc2:=hb2.cell 0
 simp only [lA,lB] at hc0 hc1 hc2
 have HT:=Lib.hid (try_any 99 (run_enter Tryz.func99 (by kernel_rfl) (by kernel_rfl)) #[.pointer (some ⟨W.heap.size + 1,0,none⟩),.pointer (some ⟨W.heap.size,0,none⟩),.pointer (some ⟨W.heap.size + 1 + 1,0,none⟩)] S W3 fb mb s (h.fr0 hfr) none 0 0 now c
  (fun hr hs=>⟨(HC hr hs).1,fun w xb xm hf hxb hxm hx=>(HC hr hs).2 _ w xb xm (W.heap.size) (W.heap.size + 1) (W.heap.size + 1 + 1) hx (hfr.trans hf) (fun k hk e=>by rcases e with e | e | e <;> first | exact e | omega) (hb0.fr hf id) (by intro e;rcases e with e | e | e <;> first | omega | (have:=h.lt _ e;omega)) (hb1.fr hf id) (by intro e;rcases e with e | e | e <;> first | omega | (have:=h.lt _ e;omega)) (hb2.fr hf id) (by intro e;rcases e with e | e | e <;> first | omega | (have:=h.lt _ e;omega))⟩))
 have HFR:=Lib.hid hfr
 have HSZ:=Lib.hid hsz
 clear h HC hfr hsz hb0 hb1 hb2
 go_enter Tryz.func79,Tryz.ntmps79
 go_upto_region 1 with (fail)
 clear hW3
 go_wp2_with (first | (go_at_call 50;refine HT.out.mono ?_;rintro e w5 ⟨ov,S',xm,rfl,ho,hpf,hf5,hss⟩) | go_in)
 go_ret2
 exact ⟨ov,S',xm,rfl,ho.weak (by have:=HSZ.out;omega),hpf,(HFR.out.mono fun _ e=>e.elim).trans hf5,fun k hk=>hss k (by have:=HSZ.out;omega)⟩
set_option maxRecDepth 100000 in
set_option maxHeartbeats 2000000 in
theorem fired_f (S : Nat → Prop) (W : World) (fb mb : Nat) (s : FSt) (h : PF S W fb mb s) (ref turn now : Int) (c : FSt × List Ov × Int) 
 (HC : rightP s.l 0 now → statusK s.l = 1 → c.1.l.length ≤ 4096 ∧ ∀ (T : Nat → Prop) w xb xm bref bturn bnow,PF T w xb xm s → Fr (fun _=>False) W w → (∀ k,k < W.heap.size → T k → S k) → Blk w bref 3 #[.int .i64 ref] → ¬ T bref → Blk w bturn 3 #[.int .i64 turn] → ¬ T bturn → Blk w bnow 3 #[.int .i64 now] → ¬ T bnow → Calls Tryz.prog 100 #[.pointer (some ⟨xb,0,none⟩),.pointer (some ⟨bref,0,none⟩),.pointer (some ⟨bturn,0,none⟩),.pointer (some ⟨bnow,0,none⟩)] w fun e w'=>ClX T w xb xm c e w') :
 Calls Tryz.prog 80 #[.pointer (some ⟨fb,0,none⟩),.int .i64 ref,.int .i64 turn,.int .i64 now] W fun e W'=>ActX S W fb (tryC s 0 now c) e W':=by
 have hB0:=Blk.new W 3 #[.int .i64 ref]
 have hF0 : Fr (fun _=>False) W (W.alloc (.cells #[.int .i64 ref] 3)):=Fr.alloc _ _ _
 have hB1:=Blk.new (W.alloc (.cells #[.int .i64 ref] 3)) 3 #[.int .i64 turn]
 have hF1 : Fr (fun _=>False) (W.alloc (.cells #[.int .i64 ref] 3)) ((W.alloc (.cells #[.int .i64 ref] 3)).alloc (.cells #[.int .i64 turn] 3)):=Fr.alloc _ _ _
 have hB2:=Blk.new ((W.alloc (.cells #[.int .i64 ref] 3)).alloc (.cells #[.int .i64 turn] 3)) 3 #[.int .i64 now]
 have hF2 : Fr (fun _=>False) ((W.alloc (.cells #[.int .i64 ref] 3)).alloc (.cells #[.int .i64 turn] 3)) (((W.alloc (.cells #[.int .i64 ref] 3)).alloc (.cells #[.int .i64 turn] 3)).alloc (.cells #[.int .i64 now] 3)):=Fr.alloc _ _ _
 have hb0:=((hB0.fr hF1 id).fr hF2 id)
 have hb1:=(hB1.fr hF2 id)
 have hb2:=hB2
 have hfr:=((hF0.trans hF1).trans hF2)
 obtain ⟨W3,hW3⟩ : ∃ W3,(((W.alloc (.cells #[.int .i64 ref] 3)).alloc (.cells #[.int .i64 turn] 3)).alloc (.cells #[.int .i64 now] 3)) = W3:=⟨_,rfl⟩
 have hsz : W3.heap.size = W.heap.size + 3:=by rw [← hW3];simp
 simp only [World.size_alloc] at hb1 hb2
 rw [hW3] at hb0 hb1 hb2 hfr
 clear hB0 hF0 hB1 hF1 hB2 hF2
 have hc0:=hb0.cell 0
 have hc1:=hb1.cell 0
 have hc2:=hb2.cell 0
 simp only [lA,lB] at hc0 hc1 hc2
 have HT:=Lib.hid (try_any 100 (run_enter Tryz.func100 (by kernel_rfl) (by kernel_rfl)) #[.pointer (some ⟨W.heap.size,0,none⟩),.pointer (some ⟨W.heap.size + 1,0,none⟩),.pointer (some ⟨W.heap.size + 1 + 1,0,none⟩)] S W3 fb mb s (h.fr0 hfr) none 0 0 now c
  (fun hr hs=>⟨(HC hr hs).1,fun w xb xm hf hxb hxm hx=>(HC hr hs).2 _ w xb xm (W.heap.size) (W.heap.size + 1) (W.heap.size + 1 + 1) hx (hfr.trans hf) (fun k hk e=>by rcases e with e | e | e <;> first | exact e | omega) (hb0.fr hf id) (by intro e;rcases e with e | e | e <;> first | omega | (have:=h.lt _ e;omega)) (hb1.fr hf id) (by intro e;rcases e with e | e | e <;> first | omega | (have:=h.lt _ e;omega)) (hb2.fr hf id) (by intro e;rcases e with e | e | e <;> first | omega | (have:=h.lt _ e;omega))⟩))
 have HFR:=Lib.hid hfr
 have HSZ:=Lib.hid hsz
 clear h HC hfr hsz hb0 hb1 hb2
 go_enter Tryz.func80,Tryz.ntmps80
 go_upto_region 1 with (fail)
 clear hW3
 go_wp2_with (first | (go_at_call 50;refine HT.out.mono ?_;rintro e w5 ⟨ov,S',xm,rfl,ho,hpf,hf5,hss⟩) | go_in)
 go_ret2
 exact ⟨ov,S',xm,rfl,ho.weak (by have:=HSZ.out;omega),hpf,(HFR.out.mono fun _ e=>e.elim).trans hf5,fun k hk=>hss k (by have:=HSZ.out;omega)⟩
set_option maxRecDepth 100000 in
set_option maxHeartbeats 2000000 in
theorem signal_f (S : Nat → Prop) (W : World) (fb mb : Nat) (s : FSt) (h : PF S W fb mb s) (ao : Option Addr) (dl cp : Nat) (now : Int) (c : FSt × List Ov × Int) 
 (HC : rightP s.l dl now → statusK s.l = 1 → c.1.l.length ≤ 4096 ∧ ∀ (T : Nat → Prop) w xb xm bdata bnow,PF T w xb xm s → Fr (fun _=>False) W w → (∀ k,k < W.heap.size → T k → S k) → Blk w bdata 36 #[.slice ao dl cp] → ¬ T bdata → Blk w bnow 3 #[.int .i64 now] → ¬ T bnow → Calls Tryz.prog 60 #[.pointer (some ⟨xb,0,none⟩),.pointer (some ⟨bnow,0,none⟩),.pointer (some ⟨bdata,0,none⟩)] w fun e w'=>ClX T w xb xm c e w') :
 Calls Tryz.prog 29 #[.pointer (some ⟨fb,0,none⟩),.slice ao dl cp,.int .i64 now] W fun e W'=>ActX S W fb (tryC s dl now c) e W':=by
 have hB0:=Blk.new W 36 #[.slice ao dl cp]
 have hF0 : Fr (fun _=>False) W (W.alloc (.cells #[.slice ao dl cp] 36)):=Fr.alloc _ _ _
 have hB1:=Blk.new (W.alloc (.cells #[.slice ao dl cp] 36)) 3 #[.int .i64 now]
 have hF1 : Fr (fun _=>False) (W.alloc (.cells #[.slice ao dl cp] 36)) ((W.alloc (.cells #[.slice ao dl cp] 36)).alloc (.cells #[.int .i64 now] 3)):=Fr.alloc _ _ _
 have hb0:=(hB0.fr hF1 id)
 have hb1:=hB1
 have hfr:=(hF0.trans hF1)
 obtain ⟨W3,hW3⟩ : ∃ W3,((W.alloc (.cells #[.slice ao dl cp] 36)).alloc (.cells #[.int .i64 now] 3)) = W3:=⟨_,rfl⟩
 have hsz : W3.heap.size = W.heap.size + 2:=by rw [← hW3];simp
 simp only [World.size_alloc] at hb1
 rw [hW3] at hb0 hb1 hfr
 clear hB0 hF0 hB1 hF1
 have hc0:=hb0.cell 0
 have hc1:=hb1.cell 0
 simp only [lA,lB] at hc0 hc1
 have HT:=Lib.hid (try_any 60 (run_enter Tryz.func60 (by kernel_rfl) (by kernel_rfl)) #[.pointer (some ⟨W.heap.size + 1,0,none⟩),.pointer (some ⟨W.heap.size,0,none⟩)] S W3 fb mb s (h.fr0 hfr) ao dl cp now c
  (fun hr hs=>⟨(HC hr hs).1,fun w xb xm hf hxb hxm hx=>(HC hr hs).2 _ w xb xm (W.heap.size) (W.heap.size + 1) hx (hfr.trans hf) (fun k hk e=>by rcases e with e | e | e <;> first | exact e | omega) (hb0.fr hf id) (by intro e;rcases e with e | e | e <;> first | omega | (have:=h.lt _ e;omega)) (hb1.fr hf id) (by intro e;rcases e with e | e | e <;> first | omega | (have:=h.lt _ e;omega))⟩))
 have HFR:=Lib.hid hfr
 have HSZ:=Lib.hid hsz
 clear h HC hfr hsz hb0 hb1
 go_enter Tryz.func29,Tryz.ntmps29
 go_upto_region 1 with (fail)
 clear hW3
 go_wp2_with (first | (go_at_call 50;refine HT.out.mono ?_;rintro e w5 ⟨ov,S',xm,rfl,ho,hpf,hf5,hss⟩) | go_in)
 go_ret2
 exact ⟨ov,S',xm,rfl,ho.weak (by have:=HSZ.out;omega),hpf,(HFR.out.mono fun _ e=>e.elim).trans hf5,fun k hk=>hss k (by have:=HSZ.out;omega)⟩
set_option maxRecDepth 100000 in
set_option maxHeartbeats 2000000 in
theorem cancel_f (S : Nat → Prop) (W : World) (fb mb : Nat) (s : FSt) (h : PF S W fb mb s) (now : Int) (c : FSt × List Ov × Int) 
 (HC : rightP s.l 0 now → statusK s.l = 1 → c.1.l.length ≤ 4096 ∧ ∀ (T : Nat → Prop) w xb xm bnow,PF T w xb xm s → Fr (fun _=>False) W w → (∀ k,k < W.heap.size → T k → S k) → Blk w bnow 3 #[.int .i64 now] → ¬ T bnow → Calls Tryz.prog 66 #[.pointer (some ⟨xb,0,none⟩),.pointer (some ⟨bnow,0,none⟩)] w fun e w'=>ClX T w xb xm c e w') :
 Calls Tryz.prog 31 #[.pointer (some ⟨fb,0,none⟩),.int .i64 now] W fun e W'=>ActX S W fb (tryC s 0 now c) e W':=by
 have hB0:=Blk.new W 3 #[.int .i64 now]
 have hF0 : Fr (fun _=>False) W (W.alloc (.cells #[.int .i64 now] 3)):=Fr.alloc _ _ _
 have hb0:=hB0
 have hfr:=hF0
 obtain ⟨W3,hW3⟩ : ∃ W3,(W.alloc (.cells #[.int .i64 now] 3)) = W3:=⟨_,rfl⟩
 have hsz : W3.heap.size = W.heap.size + 1:=by rw [← hW3];simp
 rw [hW3] at hb0 hfr
 clear hB0 hF0
 have hc0:=hb0.cell 0
 simp only [lA,lB] at hc0
 have HT:=Lib.hid (try_any 66 (run_enter Tryz.func66 (by kernel_rfl) (by kernel_rfl)) #[.pointer (some ⟨W.heap.size,0,none⟩)] S W3 fb mb s (h.fr0 hfr) none 0 0 now c
  (fun hr hs=>⟨(HC hr hs).1,fun w xb xm hf hxb hxm hx=>(HC hr hs).2 _ w xb xm (W.heap.size) hx (hfr.trans hf) (fun k hk e=>by rcases e with e | e | e <;> first | exact e | omega) (hb0.fr hf id) (by intro e;rcases e with e | e | e <;> first | omega | (have:=h.lt _ e;omega))⟩))
 have HFR:=Lib.hid hfr
 have HSZ:=Lib.hid hsz
 clear h HC hfr hsz hb0
 go_enter Tryz.func31,Tryz.ntmps31
 go_upto_region 1 with (fail)
 clear hW3
 go_wp2_with (first | (go_at_call 50;refine HT.out.mono ?_;rintro e w5 ⟨ov,S',xm,rfl,ho,hpf,hf5,hss⟩) | go_in)
 go_ret2
 exact ⟨ov,S',xm,rfl,ho.weak (by have:=HSZ.out;omega),hpf,(HFR.out.mono fun _ e=>e.elim).trans hf5,fun k hk=>hss k (by have:=HSZ.out;omega)⟩
set_option maxRecDepth 100000 in
set_option maxHeartbeats 2000000 in
theorem terminate_f (S : Nat → Prop) (W : World) (fb mb : Nat) (s : FSt) (h : PF S W fb mb s) (ao : Option Addr) (dl cp : Nat) (now : Int) (c : FSt × List Ov × Int) 
 (HC : rightP s.l dl now → statusK s.l = 1 → c.1.l.length ≤ 4096 ∧ ∀ (T : Nat → Prop) w xb xm bdata bnow,PF T w xb xm s → Fr (fun _=>False) W w → (∀ k,k < W.heap.size → T k → S k) → Blk w bdata 36 #[.slice ao dl cp] → ¬ T bdata → Blk w bnow 3 #[.int .i64 now] → ¬ T bnow → Calls Tryz.prog 67 #[.pointer (some ⟨xb,0,none⟩),.pointer (some ⟨bdata,0,none⟩),.pointer (some ⟨bnow,0,none⟩)] w fun e w'=>ClX T w xb xm c e w') :
 Calls Tryz.prog 33 #[.pointer (some ⟨fb,0,none⟩),.slice ao dl cp,.int .i64 now] W fun e W'=>ActX S W fb (tryC s dl now c) e W':=by
 have hB0:=Blk.new W 36 #[.slice ao dl cp]
 have hF0 : Fr (fun _=>False) W (W.alloc (.cells #[.slice ao dl cp] 36)):=Fr.alloc _ _ _
 have hB1:=Blk.new (W.alloc (.cells #[.slice ao dl cp] 36)) 3 #[.int .i64 now]
 have hF1 : Fr (fun _=>False) (W.alloc (.cells #[.slice ao dl cp] 36)) ((W.alloc (.cells #[.slice ao dl cp] 36)).alloc (.cells #[.int .i64 now] 3)):=Fr.alloc _ _ _
 have hb0:=(hB0.fr hF1 id)
 have hb1:=hB1
 have hfr:=(hF0.trans hF1)
 obtain ⟨W3,hW3⟩ : ∃ W3,((W.alloc (.cells #[.slice ao dl cp] 36)).alloc (.cells #[.int .i64 now] 3)) = W3:=⟨_,rfl⟩
 have hsz : W3.heap.size = W.heap.size + 2:=by rw [← hW3];simp
 simp only [World.size_alloc] at hb1
 rw [hW3] at hb0 hb1 hfr
 clear hB0 hF0 hB1 hF1
 have hc0:=hb0.cell 0
 have hc1:=hb1.cell 0
 simp only [lA,lB] at hc0 hc1
 have HT:=Lib.hid (try_any 67 (run_enter Tryz.func67 (by kernel_rfl) (by kernel_rfl)) #[.pointer (some ⟨W.heap.size,0,none⟩),.pointer (some ⟨W.heap.size + 1,0,none⟩)] S W3 fb mb s (h.fr0 hfr) ao dl cp now c
  (fun hr hs=>⟨(HC hr hs).1,fun w xb xm hf hxb hxm hx=>(HC hr hs).2 _ w xb xm (W.heap.size) (W.heap.size + 1) hx (hfr.trans hf) (fun k hk e=>by rcases e with e | e | e <;> first | exact e | omega) (hb0.fr hf id) (by intro e;rcases e with e | e | e <;> first | omega | (have:=h.lt _ e;omega)) (hb1.fr hf id) (by intro e;rcases e with e | e | e <;> first | omega | (have:=h.lt _ e;omega))⟩))
 have HFR:=Lib.hid hfr
 have HSZ:=Lib.hid hsz
 clear h HC hfr hsz hb0 hb1
 go_enter Tryz.func33,Tryz.ntmps33
 go_upto_region 1 with (fail)
 clear hW3
 go_wp2_with (first | (go_at_call 50;refine HT.out.mono ?_;rintro e w5 ⟨ov,S',xm,rfl,ho,hpf,hf5,hss⟩) | go_in)
 go_ret2
 exact ⟨ov,S',xm,rfl,ho.weak (by have:=HSZ.out;omega),hpf,(HFR.out.mono fun _ e=>e.elim).trans hf5,fun k hk=>hss k (by have:=HSZ.out;omega)⟩
set_option maxRecDepth 100000 in
set_option maxHeartbeats 2000000 in
theorem works_f (S : Nat → Prop) (W : World) (fb mb : Nat) (s : FSt) (h : PF S W fb mb s) (ref now : Int) (c : FSt × List Ov × Int) 
 (HC : rightP s.l 0 now → statusK s.l = 1 → c.1.l.length ≤ 4096 ∧ ∀ (T : Nat → Prop) w xb xm bref bnow,PF T w xb xm s → Fr (fun _=>False) W w → (∀ k,k < W.heap.size → T k → S k) → Blk w bref 3 #[.int .i64 ref] → ¬ T bref → Blk w bnow 3 #[.int .i64 now] → ¬ T bnow → Calls Tryz.prog 74 #[.pointer (some ⟨xb,0,none⟩),.pointer (some ⟨bref,0,none⟩),.pointer (some ⟨bnow,0,none⟩)] w fun e w'=>ClX T w xb xm c e w') :
 Calls Tryz.prog 37 #[.pointer (some ⟨fb,0,none⟩),.int .i64 ref,.int .i64 now] W fun e W'=>ActX S W fb (tryC s 0 now c) e W':=by
 have hB0:=Blk.new W 3 #[.int .i64 ref]
 have hF0 : Fr (fun _=>False) W (W.alloc (.cells #[.int .i64 ref] 3)):=Fr.alloc _ _ _
 have hB1:=Blk.new (W.alloc (.cells #[.int .i64 ref] 3)) 3 #[.int .i64 now]
 have hF1 : Fr (fun _=>False) (W.alloc (.cells #[.int .i64 ref] 3)) ((W.alloc (.cells #[.int .i64 ref] 3)).alloc (.cells #[.int .i64 now] 3)):=Fr.alloc _ _ _
 have hb0:=(hB0.fr hF1 id)
 have hb1:=hB1
 have hfr:=(hF0.trans hF1)
 obtain ⟨W3,hW3⟩ : ∃ W3,((W.alloc (.cells #[.int .i64 ref] 3)).alloc (.cells #[.int .i64 now] 3)) = W3:=⟨_,rfl⟩
 have hsz : W3.heap.size = W.heap.size + 2:=by rw [← hW3];simp
 simp only [World.size_alloc] at hb1
 rw [hW3] at hb0 hb1 hfr
 clear hB0 hF0 hB1 hF1
 have hc0:=hb0.cell 0
 have hc1:=hb1.cell 0
 simp only [lA,lB] at hc0 hc1
 have HT:=Lib.hid (try_any 74 (run_enter Tryz.func74 (by kernel_rfl) (by kernel_rfl)) #[.pointer (some ⟨W.heap.size,0,none⟩),.pointer (some ⟨W.heap.size + 1,0,none⟩)] S W3 fb mb s (h.fr0 hfr) none 0 0 now c
  (fun hr hs=>⟨(HC hr hs).1,fun w xb xm hf hxb hxm hx=>(HC hr hs).2 _ w xb xm (W.heap.size) (W.heap.size + 1) hx (hfr.trans hf) (fun k hk e=>by rcases e with e | e | e <;> first | exact e | omega) (hb0.fr hf id) (by intro e;rcases e with e | e | e <;> first | omega | (have:=h.lt _ e;omega)) (hb1.fr hf id) (by intro e;rcases e with e | e | e <;> first | omega | (have:=h.lt _ e;omega))⟩))
 have HFR:=Lib.hid hfr
 have HSZ:=Lib.hid hsz
 clear h HC hfr hsz hb0 hb1
 go_enter Tryz.func37,Tryz.ntmps37
 go_upto_region 1 with (fail)
 clear hW3
 go_wp2_with (first | (go_at_call 50;refine HT.out.mono ?_;rintro e w5 ⟨ov,S',xm,rfl,ho,hpf,hf5,hss⟩) | go_in)
 go_ret2
 exact ⟨ov,S',xm,rfl,ho.weak (by have:=HSZ.out;omega),hpf,(HFR.out.mono fun _ e=>e.elim).trans hf5,fun k hk=>hss k (by have:=HSZ.out;omega)⟩
set_option maxRecDepth 100000 in
set_option maxHeartbeats 2000000 in
theorem child_f (S : Nat → Prop) (W : World) (fb mb : Nat) (s : FSt) (h : PF S W fb mb s) (idn st : Int) (ao : Option Addr) (dl cp : Nat) (now : Int) (c : FSt × List Ov × Int) (hid : 0 ≤ idn ∧ idn ≤ 1048576)
 (HC : rightP s.l dl now → statusK s.l = 1 → c.1.l.length ≤ 4096 ∧ ∀ (T : Nat → Prop) w xb xm bid bst bdata bnow,PF T w xb xm s → Fr (fun _=>False) W w → (∀ k,k < W.heap.size → T k → S k) → Blk w bid 3 #[.int .i64 idn] → ¬ T bid → Blk w bst 3 #[.int .i64 st] → ¬ T bst → Blk w bdata 36 #[.slice ao dl cp] → ¬ T bdata → Blk w bnow 3 #[.int .i64 now] → ¬ T bnow → Calls Tryz.prog 82 #[.pointer (some ⟨xb,0,none⟩),.pointer (some ⟨bid,0,none⟩),.pointer (some ⟨bst,0,none⟩),.pointer (some ⟨bnow,0,none⟩),.pointer (some ⟨bdata,0,none⟩)] w fun e w'=>ClX T w xb xm c e w') :
 Calls Tryz.prog 43 #[.pointer (some ⟨fb,0,none⟩),.int .i64 idn,.int .i64 st,.slice ao dl cp,.int .i64 now] W fun e W'=>ActX S W fb (tryC s dl now c) e W':=by
 have hB0:=Blk.new W 3 #[.int .i64 idn]
 have hF0 : Fr (fun _=>False) W (W.alloc (.cells #[.int .i64 idn] 3)):=Fr.alloc _ _ _
 have hB1:=Blk.new (W.alloc (.cells #[.int .i64 idn] 3)) 3 #[.int .i64 st]
 have hF1 : Fr (fun _=>False) (W.alloc (.cells #[.int .i64 idn] 3)) ((W.alloc (.cells #[.int .i64 idn] 3)).alloc (.cells #[.int .i64 st] 3)):=Fr.alloc _ _ _
 have hB2:=Blk.new ((W.alloc (.cells #[.int .i64 idn] 3)).alloc (.cells #[.int .i64 st] 3)) 36 #[.slice ao dl cp]
 have hF2 : Fr (fun _=>False) ((W.alloc (.cells #[.int .i64 idn] 3)).alloc (.cells #[.int .i64 st] 3)) (((W.alloc (.cells #[.int .i64 idn] 3)).alloc (.cells #[.int .i64 st] 3)).alloc (.cells #[.slice ao dl cp] 36)):=Fr.alloc _ _ _
 have hB3:=Blk.new (((W.alloc (.cells #[.int .i64 idn] 3)).alloc (.cells #[.int .i64 st] 3)).alloc (.cells #[.slice ao dl cp] 36)) 3 #[.int .i64 now]
 have hF3 : Fr (fun _=>False) (((W.alloc (.cells #[.int .i64 idn] 3)).alloc (.cells #[.int .i64 st] 3)).alloc (.cells #[.slice ao dl cp] 36)) ((((W.alloc (.cells #[.int .i64 idn] 3)).alloc (.cells #[.int .i64 st] 3)).alloc (.cells #[.slice ao dl cp] 36)).alloc (.cells #[.int .i64 now] 3)):=Fr.alloc _ _ _
 have hb0:=(((hB0.fr hF1 id).fr hF2 id).fr hF3 id)
 have hb1:=((hB1.fr hF2 id).fr hF3 id)
 have hb2:=(hB2.fr hF3 id)
 have hb3:=hB3
 have hfr:=(((hF0.trans hF1).trans hF2).trans hF3)
 obtain ⟨W3,hW3⟩ : ∃ W3,((((W.alloc (.cells #[.int .i64 idn] 3)).alloc (.cells #[.int .i64 st] 3)).alloc (.cells #[.slice ao dl cp] 36)).alloc (.cells #[.int .i64 now] 3)) = W3:=⟨_,rfl⟩
 have hsz : W3.heap.size = W.heap.size + 4:=by rw [← hW3];simp
 simp only [World.size_alloc] at hb1 hb2 hb3
 rw [hW3] at hb0 hb1 hb2 hb3 hfr
 clear hB0 hF0 hB1 hF1 hB2 hF2 hB3 hF3
 have hc0:=hb0.cell 0
 have hc1:=hb1.cell 0
 have hc2:=hb2.cell 0
 have hc3:=hb3.cell 0
 simp only [lA,lB] at hc0 hc1 hc2 hc3
 have HT:=Lib.hid (try_any 82 (run_enter Tryz.func82 (by kernel_rfl) (by kernel_rfl)) #[.pointer (some ⟨W.heap.size,0,none⟩),.pointer (some ⟨W.heap.size + 1,0,none⟩),.pointer (some ⟨W.heap.size + 1 + 1 + 1,0,none⟩),.pointer (some ⟨W.heap.size + 1 + 1,0,none⟩)] S W3 fb mb s (h.fr0 hfr) ao dl cp now c
  (fun hr hs=>⟨(HC hr hs).1,fun w xb xm hf hxb hxm hx=>(HC hr hs).2 _ w xb xm (W.heap.size) (W.heap.size + 1) (W.heap.size + 1 + 1) (W.heap.size + 1 + 1 + 1) hx (hfr.trans hf) (fun k hk e=>by rcases e with e | e | e <;> first | exact e | omega) (hb0.fr hf id) (by intro e;rcases e with e | e | e <;> first | omega | (have:=h.lt _ e;omega)) (hb1.fr hf id) (by intro e;rcases e with e | e | e <;> first | omega | (have:=h.lt _ e;omega)) (hb2.fr hf id) (by intro e;rcases e with e | e | e <;> first | omega | (have:=h.lt _ e;omega)) (hb3.fr hf id) (by intro e;rcases e with e | e | e <;> first | omega | (have:=h.lt _ e;omega))⟩))
 have HFR:=Lib.hid hfr
 have HSZ:=Lib.hid hsz
 clear h HC hfr hsz hb0 hb1 hb2 hb3
 have q1 : decide (0 ≤ idn) = true:=decide_eq_true hid.1
 have q2 : decide (idn ≤ 1048576) = true:=decide_eq_true hid.2
 have q3 : decide (idn ≥ 0) = true:=decide_eq_true hid.1
 go_enter Tryz.func43,Tryz.ntmps43
 go_upto_region 1 with (fail)
 clear hW3
 go_wp2_with (first | (go_at_call 50;refine HT.out.mono ?_;rintro e w5 ⟨ov,S',xm,rfl,ho,hpf,hf5,hss⟩) | go_in)
 go_ret2
 exact ⟨ov,S',xm,rfl,ho.weak (by have:=HSZ.out;omega),hpf,(HFR.out.mono fun _ e=>e.elim).trans hf5,fun k hk=>hss k (by have:=HSZ.out;omega)⟩
set_option maxRecDepth 100000 in
set_option maxHeartbeats 2000000 in
theorem decide_f (S : Nat → Prop) (W : World) (fb mb : Nat) (s : FSt) (h : PF S W fb mb s) (ref turn : Int) (ao : Option Addr) (dl cp : Nat) (now : Int) (c : FSt × List Ov × Int) 
 (HC : rightP s.l 0 now → statusK s.l = 1 → c.1.l.length ≤ 4096 ∧ ∀ (T : Nat → Prop) w xb xm bref bturn bl bnow,PF T w xb xm s → Fr (fun _=>False) W w → (∀ k,k < W.heap.size → T k → S k) → Blk w bref 3 #[.int .i64 ref] → ¬ T bref → Blk w bturn 3 #[.int .i64 turn] → ¬ T bturn → Blk w bl 37 #[.slice ao dl cp] → ¬ T bl → Blk w bnow 3 #[.int .i64 now] → ¬ T bnow → Calls Tryz.prog 53 #[.pointer (some ⟨xb,0,none⟩),.pointer (some ⟨bref,0,none⟩),.pointer (some ⟨bturn,0,none⟩),.pointer (some ⟨bl,0,none⟩),.pointer (some ⟨bnow,0,none⟩)] w fun e w'=>ClX T w xb xm c e w') :
 Calls Tryz.prog 14 #[.pointer (some ⟨fb,0,none⟩),.int .i64 ref,.int .i64 turn,.slice ao dl cp,.int .i64 now] W fun e W'=>ActX S W fb (tryC s 0 now c) e W':=by
 have hB0:=Blk.new W 3 #[.int .i64 ref]
 have hF0 : Fr (fun _=>False) W (W.alloc (.cells #[.int .i64 ref] 3)):=Fr.alloc _ _ _
 have hB1:=Blk.new (W.alloc (.cells #[.int .i64 ref] 3)) 3 #[.int .i64 turn]
 have hF1 : Fr (fun _=>False) (W.alloc (.cells #[.int .i64 ref] 3)) ((W.alloc (.cells #[.int .i64 ref] 3)).alloc (.cells #[.int .i64 turn] 3)):=Fr.alloc _ _ _
 have hB2:=Blk.new ((W.alloc (.cells #[.int .i64 ref] 3)).alloc (.cells #[.int .i64 turn] 3)) 37 #[.slice ao dl cp]
 have hF2 : Fr (fun _=>False) ((W.alloc (.cells #[.int .i64 ref] 3)).alloc (.cells #[.int .i64 turn] 3)) (((W.alloc (.cells #[.int .i64 ref] 3)).alloc (.cells #[.int .i64 turn] 3)).alloc (.cells #[.slice ao dl cp] 37)):=Fr.alloc _ _ _
 have hB3:=Blk.new (((W.alloc (.cells #[.int .i64 ref] 3)).alloc (.cells #[.int .i64 turn] 3)).alloc (.cells #[.slice ao dl cp] 37)) 3 #[.int .i64 now]
 have hF3 : Fr (fun _=>False) (((W.alloc (.cells #[.int .i64 ref] 3)).alloc (.cells #[.int .i64 turn] 3)).alloc (.cells #[.slice ao dl cp] 37)) ((((W.alloc (.cells #[.int .i64 ref] 3)).alloc (.cells #[.int .i64 turn] 3)).alloc (.cells #[.slice ao dl cp] 37)).alloc (.cells #[.int .i64 now] 3)):=Fr.alloc _ _ _
 have hb0:=(((hB0.fr hF1 id).fr hF2 id).fr hF3 id)
 have hb1:=((hB1.fr hF2 id).fr hF3 id)
 have hb2:=(hB2.fr hF3 id)
 have hb3:=hB3
 have hfr:=(((hF0.trans hF1).trans hF2).trans hF3)
 obtain ⟨W3,hW3⟩ : ∃ W3,((((W.alloc (.cells #[.int .i64 ref] 3)).alloc (.cells #[.int .i64 turn] 3)).alloc (.cells #[.slice ao dl cp] 37)).alloc (.cells #[.int .i64 now] 3)) = W3:=⟨_,rfl⟩
 have hsz : W3.heap.size = W.heap.size + 4:=by rw [← hW3];simp
 simp only [World.size_alloc] at hb1 hb2 hb3
 rw [hW3] at hb0 hb1 hb2 hb3 hfr
 clear hB0 hF0 hB1 hF1 hB2 hF2 hB3 hF3
 have hc0:=hb0.cell 0
 have hc1:=hb1.cell 0
 have hc2:=hb2.cell 0
 have hc3:=hb3.cell 0
 simp only [lA,lB] at hc0 hc1 hc2 hc3
 have HT:=Lib.hid (try_any 53 (run_enter Tryz.func53 (by kernel_rfl) (by kernel_rfl)) #[.pointer (some ⟨W.heap.size,0,none⟩),.pointer (some ⟨W.heap.size + 1,0,none⟩),.pointer (some ⟨W.heap.size + 1 + 1,0,none⟩),.pointer (some ⟨W.heap.size + 1 + 1 + 1,0,none⟩)] S W3 fb mb s (h.fr0 hfr) none 0 0 now c
  (fun hr hs=>⟨(HC hr hs).1,fun w xb xm hf hxb hxm hx=>(HC hr hs).2 _ w xb xm (W.heap.size) (W.heap.size + 1) (W.heap.size + 1 + 1) (W.heap.size + 1 + 1 + 1) hx (hfr.trans hf) (fun k hk e=>by rcases e with e | e | e <;> first | exact e | omega) (hb0.fr hf id) (by intro e;rcases e with e | e | e <;> first | omega | (have:=h.lt _ e;omega)) (hb1.fr hf id) (by intro e;rcases e with e | e | e <;> first | omega | (have:=h.lt _ e;omega)) (hb2.fr hf id) (by intro e;rcases e with e | e | e <;> first | omega | (have:=h.lt _ e;omega)) (hb3.fr hf id) (by intro e;rcases e with e | e | e <;> first | omega | (have:=h.lt _ e;omega))⟩))
 have HFR:=Lib.hid hfr
 have HSZ:=Lib.hid hsz
 clear h HC hfr hsz hb0 hb1 hb2 hb3
 go_enter Tryz.func14,Tryz.ntmps14
 go_upto_region 1 with (fail)
 clear hW3
 go_wp2_with (first | (go_at_call 50;refine HT.out.mono ?_;rintro e w5 ⟨ov,S',xm,rfl,ho,hpf,hf5,hss⟩) | go_in)
 go_ret2
 exact ⟨ov,S',xm,rfl,ho.weak (by have:=HSZ.out;omega),hpf,(HFR.out.mono fun _ e=>e.elim).trans hf5,fun k hk=>hss k (by have:=HSZ.out;omega)⟩
set_option maxRecDepth 100000 in
set_option maxHeartbeats 2000000 in
theorem worked_f9 (S : Nat → Prop) (W : World) (fb mb : Nat) (s : FSt) (h : PF S W fb mb s) (ref : Int) (ao : Option Addr) (dl cp : Nat) (now : Int) (c : FSt × List Ov × Int) 
 (HC : rightP s.l dl now → statusK s.l = 1 → c.1.l.length ≤ 4096 ∧ ∀ (T : Nat → Prop) w xb xm bref bdata bnow bkind,PF T w xb xm s → Fr (fun _=>False) W w → (∀ k,k < W.heap.size → T k → S k) → Blk w bref 3 #[.int .i64 ref] → ¬ T bref → Blk w bdata 36 #[.slice ao dl cp] → ¬ T bdata → Blk w bnow 3 #[.int .i64 now] → ¬ T bnow → Blk w bkind 3 #[.int .i64 9] → ¬ T bkind → Calls Tryz.prog 76 #[.pointer (some ⟨xb,0,none⟩),.pointer (some ⟨bkind,0,none⟩),.pointer (some ⟨bref,0,none⟩),.pointer (some ⟨bdata,0,none⟩),.pointer (some ⟨bnow,0,none⟩)] w fun e w'=>ClX T w xb xm c e w') :
 Calls Tryz.prog 39 #[.pointer (some ⟨fb,0,none⟩),.int .i64 ref,.slice ao dl cp,.bool true,.int .i64 now] W fun e W'=>ActX S W fb (tryC s dl now c) e W':=by
 have hB0:=Blk.new W 3 #[.int .i64 ref]
 have hF0 : Fr (fun _=>False) W (W.alloc (.cells #[.int .i64 ref] 3)):=Fr.alloc _ _ _
 have hB1:=Blk.new (W.alloc (.cells #[.int .i64 ref] 3)) 36 #[.slice ao dl cp]
 have hF1 : Fr (fun _=>False) (W.alloc (.cells #[.int .i64 ref] 3)) ((W.alloc (.cells #[.int .i64 ref] 3)).alloc (.cells #[.slice ao dl cp] 36)):=Fr.alloc _ _ _
 have hB2:=Blk.new ((W.alloc (.cells #[.int .i64 ref] 3)).alloc (.cells #[.slice ao dl cp] 36)) 3 #[.int .i64 now]
 have hF2 : Fr (fun _=>False) ((W.alloc (.cells #[.int .i64 ref] 3)).alloc (.cells #[.slice ao dl cp] 36)) (((W.alloc (.cells #[.int .i64 ref] 3)).alloc (.cells #[.slice ao dl cp] 36)).alloc (.cells #[.int .i64 now] 3)):=Fr.alloc _ _ _
 have hB3:=Blk.new (((W.alloc (.cells #[.int .i64 ref] 3)).alloc (.cells #[.slice ao dl cp] 36)).alloc (.cells #[.int .i64 now] 3)) 3 #[.int .i64 9]
 have hF3 : Fr (fun _=>False) (((W.alloc (.cells #[.int .i64 ref] 3)).alloc (.cells #[.slice ao dl cp] 36)).alloc (.cells #[.int .i64 now] 3)) ((((W.alloc (.cells #[.int .i64 ref] 3)).alloc (.cells #[.slice ao dl cp] 36)).alloc (.cells #[.int .i64 now] 3)).alloc (.cells #[.int .i64 9] 3)):=Fr.alloc _ _ _
 have hb0:=(((hB0.fr hF1 id).fr hF2 id).fr hF3 id)
 have hb1:=((hB1.fr hF2 id).fr hF3 id)
 have hb2:=(hB2.fr hF3 id)
 have hb3:=hB3
 have hfr:=(((hF0.trans hF1).trans hF2).trans hF3)
 obtain ⟨W3,hW3⟩ : ∃ W3,((((W.alloc (.cells #[.int .i64 ref] 3)).alloc (.cells #[.slice ao dl cp] 36)).alloc (.cells #[.int .i64 now] 3)).alloc (.cells #[.int .i64 9] 3)) = W3:=⟨_,rfl⟩
 have hsz : W3.heap.size = W.heap.size + 4:=by rw [← hW3];simp
 simp only [World.size_alloc] at hb1 hb2 hb3
 rw [hW3] at hb0 hb1 hb2 hb3 hfr
 clear hB0 hF0 hB1 hF1 hB2 hF2 hB3 hF3
 have hc0:=hb0.cell 0
 have hc1:=hb1.cell 0
 have hc2:=hb2.cell 0
 have hc3:=hb3.cell 0
 simp only [lA,lB] at hc0 hc1 hc2 hc3
 have HT:=Lib.hid (try_any 76 (run_enter Tryz.func76 (by kernel_rfl) (by kernel_rfl)) #[.pointer (some ⟨W.heap.size + 1 + 1 + 1,0,none⟩),.pointer (some ⟨W.heap.size,0,none⟩),.pointer (some ⟨W.heap.size + 1,0,none⟩),.pointer (some ⟨W.heap.size + 1 + 1,0,none⟩)] S W3 fb mb s (h.fr0 hfr) ao dl cp now c
  (fun hr hs=>⟨(HC hr hs).1,fun w xb xm hf hxb hxm hx=>(HC hr hs).2 _ w xb xm (W.heap.size) (W.heap.size + 1) (W.heap.size + 1 + 1) (W.heap.size + 1 + 1 + 1) hx (hfr.trans hf) (fun k hk e=>by rcases e with e | e | e <;> first | exact e | omega) (hb0.fr hf id) (by intro e;rcases e with e | e | e <;> first | omega | (have:=h.lt _ e;omega)) (hb1.fr hf id) (by intro e;rcases e with e | e | e <;> first | omega | (have:=h.lt _ e;omega)) (hb2.fr hf id) (by intro e;rcases e with e | e | e <;> first | omega | (have:=h.lt _ e;omega)) (hb3.fr hf id) (by intro e;rcases e with e | e | e <;> first | omega | (have:=h.lt _ e;omega))⟩))
 have HFR:=Lib.hid hfr
 have HSZ:=Lib.hid hsz
 clear h HC hfr hsz hb0 hb1 hb2 hb3
 go_enter Tryz.func39,Tryz.ntmps39
 go_upto_region 4 with (fail)
 clear hW3
 go_wp2_with (first | (go_at_call 50;refine HT.out.mono ?_;rintro e w5 ⟨ov,S',xm,rfl,ho,hpf,hf5,hss⟩) | go_in)
 go_ret2
 exact ⟨ov,S',xm,rfl,ho.weak (by have:=HSZ.out;omega),hpf,(HFR.out.mono fun _ e=>e.elim).trans hf5,fun k hk=>hss k (by have:=HSZ.out;omega)⟩
set_option maxRecDepth 100000 in
set_option maxHeartbeats 2000000 in
theorem worked_f10 (S : Nat → Prop) (W : World) (fb mb : Nat) (s : FSt) (h : PF S W fb mb s) (ref : Int) (ao : Option Addr) (dl cp : Nat) (now : Int) (c : FSt × List Ov × Int) 
 (HC : rightP s.l dl now → statusK s.l = 1 → c.1.l.length ≤ 4096 ∧ ∀ (T : Nat → Prop) w xb xm bref bdata bnow bkind,PF T w xb xm s → Fr (fun _=>False) W w → (∀ k,k < W.heap.size → T k → S k) → Blk w bref 3 #[.int .i64 ref] → ¬ T bref → Blk w bdata 36 #[.slice ao dl cp] → ¬ T bdata → Blk w bnow 3 #[.int .i64 now] → ¬ T bnow → Blk w bkind 3 #[.int .i64 10] → ¬ T bkind → Calls Tryz.prog 76 #[.pointer (some ⟨xb,0,none⟩),.pointer (some ⟨bkind,0,none⟩),.pointer (some ⟨bref,0,none⟩),.pointer (some ⟨bdata,0,none⟩),.pointer (some ⟨bnow,0,none⟩)] w fun e w'=>ClX T w xb xm c e w') :
 Calls Tryz.prog 39 #[.pointer (some ⟨fb,0,none⟩),.int .i64 ref,.slice ao dl cp,.bool false,.int .i64 now] W fun e W'=>ActX S W fb (tryC s dl now c) e W':=by
 have hB0:=Blk.new W 3 #[.int .i64 ref]
 have hF0 : Fr (fun _=>False) W (W.alloc (.cells #[.int .i64 ref] 3)):=Fr.alloc _ _ _
 have hB1:=Blk.new (W.alloc (.cells #[.int .i64 ref] 3)) 36 #[.slice ao dl cp]
 have hF1 : Fr (fun _=>False) (W.alloc (.cells #[.int .i64 ref] 3)) ((W.alloc (.cells #[.int .i64 ref] 3)).alloc (.cells #[.slice ao dl cp] 36)):=Fr.alloc _ _ _
 have hB2:=Blk.new ((W.alloc (.cells #[.int .i64 ref] 3)).alloc (.cells #[.slice ao dl cp] 36)) 3 #[.int .i64 now]
 have hF2 : Fr (fun _=>False) ((W.alloc (.cells #[.int .i64 ref] 3)).alloc (.cells #[.slice ao dl cp] 36)) (((W.alloc (.cells #[.int .i64 ref] 3)).alloc (.cells #[.slice ao dl cp] 36)).alloc (.cells #[.int .i64 now] 3)):=Fr.alloc _ _ _
 have hB3:=Blk.new (((W.alloc (.cells #[.int .i64 ref] 3)).alloc (.cells #[.slice ao dl cp] 36)).alloc (.cells #[.int .i64 now] 3)) 3 #[.int .i64 10]
 have hF3 : Fr (fun _=>False) (((W.alloc (.cells #[.int .i64 ref] 3)).alloc (.cells #[.slice ao dl cp] 36)).alloc (.cells #[.int .i64 now] 3)) ((((W.alloc (.cells #[.int .i64 ref] 3)).alloc (.cells #[.slice ao dl cp] 36)).alloc (.cells #[.int .i64 now] 3)).alloc (.cells #[.int .i64 10] 3)):=Fr.alloc _ _ _
 have hb0:=(((hB0.fr hF1 id).fr hF2 id).fr hF3 id)
 have hb1:=((hB1.fr hF2 id).fr hF3 id)
 have hb2:=(hB2.fr hF3 id)
 have hb3:=hB3
 have hfr:=(((hF0.trans hF1).trans hF2).trans hF3)
 obtain ⟨W3,hW3⟩ : ∃ W3,((((W.alloc (.cells #[.int .i64 ref] 3)).alloc (.cells #[.slice ao dl cp] 36)).alloc (.cells #[.int .i64 now] 3)).alloc (.cells #[.int .i64 10] 3)) = W3:=⟨_,rfl⟩
 have hsz : W3.heap.size = W.heap.size + 4:=by rw [← hW3];simp
 simp only [World.size_alloc] at hb1 hb2 hb3
 rw [hW3] at hb0 hb1 hb2 hb3 hfr
 clear hB0 hF0 hB1 hF1 hB2 hF2 hB3 hF3
 have hc0:=hb0.cell 0
 have hc1:=hb1.cell 0
 have hc2:=hb2.cell 0
 have hc3:=hb3.cell 0
 simp only [lA,lB] at hc0 hc1 hc2 hc3
 have HT:=Lib.hid (try_any 76 (run_enter Tryz.func76 (by kernel_rfl) (by kernel_rfl)) #[.pointer (some ⟨W.heap.size + 1 + 1 + 1,0,none⟩),.pointer (some ⟨W.heap.size,0,none⟩),.pointer (some ⟨W.heap.size + 1,0,none⟩),.pointer (some ⟨W.heap.size + 1 + 1,0,none⟩)] S W3 fb mb s (h.fr0 hfr) ao dl cp now c
  (fun hr hs=>⟨(HC hr hs).1,fun w xb xm hf hxb hxm hx=>(HC hr hs).2 _ w xb xm (W.heap.size) (W.heap.size + 1) (W.heap.size + 1 + 1) (W.heap.size + 1 + 1 + 1) hx (hfr.trans hf) (fun k hk e=>by rcases e with e | e | e <;> first | exact e | omega) (hb0.fr hf id) (by intro e;rcases e with e | e | e <;> first | omega | (have:=h.lt _ e;omega)) (hb1.fr hf id) (by intro e;rcases e with e | e | e <;> first | omega | (have:=h.lt _ e;omega)) (hb2.fr hf id) (by intro e;rcases e with e | e | e <;> first | omega | (have:=h.lt _ e;omega)) (hb3.fr hf id) (by intro e;rcases e with e | e | e <;> first | omega | (have:=h.lt _ e;omega))⟩))
 have HFR:=Lib.hid hfr
 have HSZ:=Lib.hid hsz
 clear h HC hfr hsz hb0 hb1 hb2 hb3
 go_enter Tryz.func39,Tryz.ntmps39
 go_upto_region 4 with (fail)
 clear hW3
 go_wp2_with (first | (go_at_call 50;refine HT.out.mono ?_;rintro e w5 ⟨ov,S',xm,rfl,ho,hpf,hf5,hss⟩) | go_in)
 go_ret2
 exact ⟨ov,S',xm,rfl,ho.weak (by have:=HSZ.out;omega),hpf,(HFR.out.mono fun _ e=>e.elim).trans hf5,fun k hk=>hss k (by have:=HSZ.out;omega)⟩
set_option maxRecDepth 100000 in
theorem child_none (S : Nat → Prop) (W : World) (fb mb : Nat) (s : FSt) (h : PF S W fb mb s) (idn st : Int) (ao : Option Addr) (dl cp : Nat) (now : Int) (hid : ¬ (0 ≤ idn ∧ idn ≤ 1048576)) :
 Calls Tryz.prog 43 #[.pointer (some ⟨fb,0,none⟩),.int .i64 idn,.int .i64 st,.slice ao dl cp,.int .i64 now] W fun e W'=>ActX S W fb (s,[],1) e W':=by
 have HPF:=Lib.hid h
 clear h
 by_cases h1 : 0 ≤ idn
 ·have q1 : decide (0 ≤ idn) = true:=decide_eq_true h1
  have q3 : decide (idn ≥ 0) = true:=decide_eq_true h1
  have q2 : decide (idn ≤ 1048576) = false:=decide_eq_false (fun e=>hid ⟨h1,e⟩)
  clear h1 hid
  go_enter Tryz.func43,Tryz.ntmps43
  go_wp2
  go_ret2
  exact ActX.same HPF.out ((((Fr.alloc _ _ _).trans (Fr.alloc _ _ _)).trans (Fr.alloc _ _ _)).trans (Fr.alloc _ _ _))
 ·have q1 : decide (0 ≤ idn) = false:=decide_eq_false h1
  have q3 : decide (idn ≥ 0) = false:=decide_eq_false h1
  clear h1 hid
  go_enter Tryz.func43,Tryz.ntmps43
  go_wp2
  go_ret2
  exact ActX.same HPF.out ((((Fr.alloc _ _ _).trans (Fr.alloc _ _ _)).trans (Fr.alloc _ _ _)).trans (Fr.alloc _ _ _))
theorem fire_3 (S : Nat → Prop) (W : World) (fb : Nat) (ref turn now : Int) (c : FSt × List Ov × Int) (h : Calls Tryz.prog 78 #[.pointer (some ⟨fb,0,none⟩),.int .i64 ref,.int .i64 turn,.int .i64 now] W fun e W'=>ActX S W fb c e W') :
 Calls Tryz.prog 41 #[.pointer (some ⟨fb,0,none⟩),.int .i64 3,.int .i64 ref,.int .i64 turn,.int .i64 now] W fun e W'=>ActX S W fb c e W':=by
 have HH:=Lib.hid h
 clear h
 go_enter Tryz.func41,Tryz.ntmps41
 go_wp2_with (first | (go_at_call 78;refine HH.out.mono ?_;rintro e w1 ⟨v,S',xm,rfl,h1,h2,h3,h4⟩) | go_in)
 go_ret2
 exact ⟨v,S',xm,rfl,h1,h2,h3,h4⟩
theorem fire_4 (S : Nat → Prop) (W : World) (fb : Nat) (ref turn now : Int) (c : FSt × List Ov × Int) (h : Calls Tryz.prog 79 #[.pointer (some ⟨fb,0,none⟩),.int .i64 ref,.int .i64 turn,.int .i64 now] W fun e W'=>ActX S W fb c e W') :
 Calls Tryz.prog 41 #[.pointer (some ⟨fb,0,none⟩),.int .i64 4,.int .i64 ref,.int .i64 turn,.int .i64 now] W fun e W'=>ActX S W fb c e W':=by
 have HH:=Lib.hid h
 clear h
 go_enter Tryz.func41,Tryz.ntmps41
 go_wp2_with (first | (go_at_call 79;refine HH.out.mono ?_;rintro e w1 ⟨v,S',xm,rfl,h1,h2,h3,h4⟩) | go_in)
 go_ret2
 exact ⟨v,S',xm,rfl,h1,h2,h3,h4⟩
theorem fire_5 (S : Nat → Prop) (W : World) (fb : Nat) (ref turn now : Int) (c : FSt × List Ov × Int) (h : Calls Tryz.prog 80 #[.pointer (some ⟨fb,0,none⟩),.int .i64 ref,.int .i64 turn,.int .i64 now] W fun e W'=>ActX S W fb c e W') :
 Calls Tryz.prog 41 #[.pointer (some ⟨fb,0,none⟩),.int .i64 5,.int .i64 ref,.int .i64 turn,.int .i64 now] W fun e W'=>ActX S W fb c e W':=by
 have HH:=Lib.hid h
 clear h
 go_enter Tryz.func41,Tryz.ntmps41
 go_wp2_with (first | (go_at_call 80;refine HH.out.mono ?_;rintro e w1 ⟨v,S',xm,rfl,h1,h2,h3,h4⟩) | go_in)
 go_ret2
 exact ⟨v,S',xm,rfl,h1,h2,h3,h4⟩
theorem fire_no (S : Nat → Prop) (W : World) (fb mb : Nat) (s : FSt) (h : PF S W fb mb s) (k ref turn now : Int) (h3 : k ≠ 3) (h4 : k ≠ 4) (h5 : k ≠ 5) :
 Calls Tryz.prog 41 #[.pointer (some ⟨fb,0,none⟩),.int .i64 k,.int .i64 ref,.int .i64 turn,.int .i64 now] W fun e W'=>ActX S W fb (s,[],1) e W':=by
 have HPF:=Lib.hid h
 have p3 : (k == 3) = false:=by simp [h3]
 have p4 : (k == 4) = false:=by simp [h4]
 have p5 : (k == 5) = false:=by simp [h5]
 clear h h3 h4 h5
 go_enter Tryz.func41,Tryz.ntmps41
 go_wp2
 go_ret2
 exact ActX.same HPF.out (Fr.refl _ _)
end Go.Proofs.YtnkelaohcbdjnaaGreat
