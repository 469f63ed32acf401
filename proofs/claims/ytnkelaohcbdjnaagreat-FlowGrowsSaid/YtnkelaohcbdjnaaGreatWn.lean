/- own: what an act means. -/
import Derived.Test.YtnkelaohcbdjnaaGreatNw
import Derived.Deep.QuietTactic
import Derived.BigQuiet
import Derived.Laws.Rows
set_option linter.unusedVariables false
set_option linter.unusedSimpArgs false
namespace Go.Proofs.YtnkelaohcbdjnaaGreat
open Go.RowKit Go.Maps Ev
/-- an act -/
structure ActV where
 op : Int
 own : Bool
 ref : Int
 turn : Int
 d : List Value
 l : List Dv
 good : Bool
 kind : Int
 id : Int
 wait : Int
/-- an act's cells -/
def AC (op : Int) (own : Bool) (ref turn : Int) (vd vl : Value) (good : Bool) (kind id wait : Int) : Array Value:=#[.int .i64 op,.bool own,.int .i64 ref,.int .i64 turn,vd,vl,.bool good,.int .i64 kind,.int .i64 id,.int .i64 wait]
def wfI (x : Int) : Prop:=(Lit.int .i64 x).wf = true
theorem wfI.of {x : Int} (h : -9223372036854775808 ≤ x ∧ x ≤ 9223372036854775807) : wfI x:=WalkArith.wf_i64 h
theorem store10 {w : World} {b : Nat} {t : TypeId} {s0 s1 s2 s3 s4 s5 s6 s7 s8 s9 v0 v1 v2 v3 v4 v5 v6 v7 v8 v9 : Value} (h : Blk w b t #[s0,s1,s2,s3,s4,s5,s6,s7,s8,s9]) :
 Blk (((((((((((w).setCell ⟨b,0,none⟩ (v0)).setCell ⟨b,1,none⟩ (v1)).setCell ⟨b,2,none⟩ (v2)).setCell ⟨b,3,none⟩ (v3)).setCell ⟨b,4,none⟩ (v4)).setCell ⟨b,5,none⟩ (v5)).setCell ⟨b,6,none⟩ (v6)).setCell ⟨b,7,none⟩ (v7)).setCell ⟨b,8,none⟩ (v8)).setCell ⟨b,9,none⟩ (v9)) b t #[v0,v1,v2,v3,v4,v5,v6,v7,v8,v9]:=by
 have:=(((((((((h.set 0 v0).set 1 v1).set 2 v2).set 3 v3).set 4 v4).set 5 v5).set 6 v6).set 7 v7).set 8 v8).set 9 v9
 simpa only [lG,lH,lI] using this
theorem store10_fr (w : World) (b : Nat) (v0 v1 v2 v3 v4 v5 v6 v7 v8 v9 : Value) : Fr (fun k=>k = b) w (((((((((((w).setCell ⟨b,0,none⟩ (v0)).setCell ⟨b,1,none⟩ (v1)).setCell ⟨b,2,none⟩ (v2)).setCell ⟨b,3,none⟩ (v3)).setCell ⟨b,4,none⟩ (v4)).setCell ⟨b,5,none⟩ (v5)).setCell ⟨b,6,none⟩ (v6)).setCell ⟨b,7,none⟩ (v7)).setCell ⟨b,8,none⟩ (v8)).setCell ⟨b,9,none⟩ (v9)):=by
 have f : ∀ (w : World) (o : Nat) (v : Value),Fr (fun k=>k = b) w (w.setCell ⟨b,o,none⟩ v):=fun w o v=>Fr.setCell (S:=fun k=>k = b) w ⟨b,o,none⟩ v rfl
 exact (((((((((f w 0 v0).trans (f _ 1 v1)).trans (f _ 2 v2)).trans (f _ 3 v3)).trans (f _ 4 v4)).trans (f _ 5 v5)).trans (f _ 6 v6)).trans (f _ 7 v7)).trans (f _ 8 v8)).trans (f _ 9 v9)
set_option maxRecDepth 100000 in
set_option maxHeartbeats 8000000 in
theorem own_any (S R : Nat → Prop) (W : World) (rb : Nat) (s : FSt) (h : RF S R W rb s) (hl : s.l.length ≤ 5000) (op : Int) (own : Bool) (ref turn : Int) (ao : Option Addr) (dl cp : Nat) (ao2 : Option Addr) (dn cp2 : Nat) (good : Bool) (kind id wait : Int) (hw : wfI ref) (hat : wfI s.at_) :
 Calls Tryz.prog 9 #[.pointer (some ⟨rb,0,none⟩),.agg #[.int .i64 op,.bool own,.int .i64 ref,.int .i64 turn,.slice ao dl cp,.slice ao2 dn cp2,.bool good,.int .i64 kind,.int .i64 id,.int .i64 wait]] W fun e W'=>∃ ref' turn',wfI ref' ∧ e = .returned (.agg #[.int .i64 op,.bool own,.int .i64 ref',.int .i64 turn',.slice ao dl cp,.slice ao2 dn cp2,.bool good,.int .i64 kind,.int .i64 id,.int .i64 wait]) ∧ Fr (fun _=>False) W W':=by
 have HRF:=Lib.hid h
 have HL:=Lib.hid hl
 have HW:=Lib.hid (And.intro hw hat)
 obtain ⟨ao3,cp3,hb3,hcp3,hlook⟩:=h.look
 obtain ⟨n,hn⟩ : ∃ n,s.l.length = n:=⟨_,rfl⟩
 rw [hn] at hb3 hcp3
 have HN:=Lib.hid hn
 have HCP:=Lib.hid hcp3
 have HLOOK:=Lib.hid hlook
 obtain ⟨aa,haa⟩ : ∃ x,s.at_ = x:=⟨_,rfl⟩
 obtain ⟨tu,htu⟩ : ∃ x,s.turn = x:=⟨_,rfl⟩
 have HAA:=Lib.hid haa
 have FX : Hid (∀ w',Fr (fun _=>False) W w' → w'.cell? ⟨rb,4,none⟩ = some (.slice ao3 n cp3) ∧ w'.cell? ⟨rb,6,none⟩ = some (.int .i64 aa) ∧ w'.cell? ⟨rb,8,none⟩ = some (.int .i64 tu)):=Lib.hid (fun w' hf=>by
  have h:=hb3.fr hf _root_.id
  have h4:=h.cell 4
  have h6:=h.cell 6
  have h8:=h.cell 8
  simp only [rcells,lA,lB,lC] at h4 h6 h8
  rw [haa] at h6
  rw [htu] at h8
  exact ⟨h4,h6,h8⟩)
 have hP0:=(Blk.new W 39 #[.int .i64 op,.bool own,.int .i64 ref,.int .i64 turn,.slice ao dl cp,.slice ao2 dn cp2,.bool good,.int .i64 kind,.int .i64 id,.int .i64 wait]).alloc (.cells #[.int .i64 0,.bool false,.int .i64 0,.int .i64 0,.slice none 0 0,.slice none 0 0,.bool false,.int .i64 0,.int .i64 0,.int .i64 0] 39)
 have hQ0:=Blk.new (W.alloc (.cells #[.int .i64 op,.bool own,.int .i64 ref,.int .i64 turn,.slice ao dl cp,.slice ao2 dn cp2,.bool good,.int .i64 kind,.int .i64 id,.int .i64 wait] 39)) 39 #[.int .i64 0,.bool false,.int .i64 0,.int .i64 0,.slice none 0 0,.slice none 0 0,.bool false,.int .i64 0,.int .i64 0,.int .i64 0]
 rw [World.size_alloc] at hQ0
 have hf1 : Fr (fun _=>False) W ((W.alloc (.cells #[.int .i64 op,.bool own,.int .i64 ref,.int .i64 turn,.slice ao dl cp,.slice ao2 dn cp2,.bool good,.int .i64 kind,.int .i64 id,.int .i64 wait] 39)).alloc (.cells #[.int .i64 0,.bool false,.int .i64 0,.int .i64 0,.slice none 0 0,.slice none 0 0,.bool false,.int .i64 0,.int .i64 0,.int .i64 0] 39)):=(Fr.alloc _ _ _).trans (Fr.alloc _ _ _)
 have hsz : ((W.alloc (.cells #[.int .i64 op,.bool own,.int .i64 ref,.int .i64 turn,.slice ao dl cp,.slice ao2 dn cp2,.bool good,.int .i64 kind,.int .i64 id,.int .i64 wait] 39)).alloc (.cells #[.int .i64 0,.bool false,.int .i64 0,.int .i64 0,.slice none 0 0,.slice none 0 0,.bool false,.int .i64 0,.int .i64 0,.int .i64 0] 39)).heap.size = W.heap.size + 2:=by simp
 clear h hl hw hat hb3 hcp3 hlook hn haa htu
 go_enter Tryz.func9,Tryz.ntmps9
 go_upto_region 1 with (fail)
 obtain ⟨w1,hw1⟩ : ∃ w,(W.alloc (.cells #[.int .i64 op,.bool own,.int .i64 ref,.int .i64 turn,.slice ao dl cp,.slice ao2 dn cp2,.bool good,.int .i64 kind,.int .i64 id,.int .i64 wait] 39)).alloc (.cells #[.int .i64 0,.bool false,.int .i64 0,.int .i64 0,.slice none 0 0,.slice none 0 0,.bool false,.int .i64 0,.int .i64 0,.int .i64 0] 39) = w:=⟨_,rfl⟩
 rw [hw1] at hP0 hQ0 hf1 hsz ⊢
 obtain ⟨qb,hqb⟩ : ∃ b,W.heap.size + 1 = b:=⟨_,rfl⟩
 obtain ⟨pb,hpb⟩ : ∃ b,W.heap.size = b:=⟨_,rfl⟩
 rw [hqb] at hQ0 ⊢
 rw [hpb] at hP0 ⊢
 have HP0:=Lib.hid hP0
 have HQ0:=Lib.hid hQ0
 have HF1:=Lib.hid hf1
 have HPQ : Hid (pb = W.heap.size ∧ qb = W.heap.size + 1 ∧ qb < w1.heap.size):=Lib.hid (by omega)
 clear hw1 hqb hpb hP0 hQ0 hf1 hsz
 have d0:=HP0.out.cell 0
 have d1:=HP0.out.cell 1
 have d2:=HP0.out.cell 2
 have d3:=HP0.out.cell 3
 have d4:=HP0.out.cell 4
 have d5:=HP0.out.cell 5
 have d6:=HP0.out.cell 6
 have d7:=HP0.out.cell 7
 have d8:=HP0.out.cell 8
 have d9:=HP0.out.cell 9
 simp only [lA,lB,lC] at d0 d1 d2 d3 d4 d5 d6 d7 d8 d9
 cases own with
 | false=>
   have q0:=HQ0.out.cell 0
   have qz0:=HQ0.out.frozen 0
   have q1:=HQ0.out.cell 1
   have qz1:=HQ0.out.frozen 1
   have q2:=HQ0.out.cell 2
   have qz2:=HQ0.out.frozen 2
   have q3:=HQ0.out.cell 3
   have qz3:=HQ0.out.frozen 3
   have q4:=HQ0.out.cell 4
   have qz4:=HQ0.out.frozen 4
   have q5:=HQ0.out.cell 5
   have qz5:=HQ0.out.frozen 5
   have q6:=HQ0.out.cell 6
   have qz6:=HQ0.out.frozen 6
   have q7:=HQ0.out.cell 7
   have qz7:=HQ0.out.frozen 7
   have q8:=HQ0.out.cell 8
   have qz8:=HQ0.out.frozen 8
   have q9:=HQ0.out.cell 9
   have qz9:=HQ0.out.frozen 9
   simp only [lA,lB,lC] at q0 q1 q2 q3 q4 q5 q6 q7 q8 q9
   go_wp2
   have hQF:=store10 (v0:=.int .i64 op) (v1:=.bool false) (v2:=.int .i64 ref) (v3:=.int .i64 turn) (v4:=.slice ao dl cp) (v5:=.slice ao2 dn cp2) (v6:=.bool good) (v7:=.int .i64 kind) (v8:=.int .i64 id) (v9:=.int .i64 wait) HQ0.out
   have hfF:=store10_fr w1 qb (.int .i64 op) (.bool false) (.int .i64 ref) (.int .i64 turn) (.slice ao dl cp) (.slice ao2 dn cp2) (.bool good) (.int .i64 kind) (.int .i64 id) (.int .i64 wait)
   obtain ⟨wF,hwF⟩ : ∃ x,((((((((((w1).setCell ⟨qb,0,none⟩ (.int .i64 op)).setCell ⟨qb,1,none⟩ (.bool false)).setCell ⟨qb,2,none⟩ (.int .i64 ref)).setCell ⟨qb,3,none⟩ (.int .i64 turn)).setCell ⟨qb,4,none⟩ (.slice ao dl cp)).setCell ⟨qb,5,none⟩ (.slice ao2 dn cp2)).setCell ⟨qb,6,none⟩ (.bool good)).setCell ⟨qb,7,none⟩ (.int .i64 kind)).setCell ⟨qb,8,none⟩ (.int .i64 id)).setCell ⟨qb,9,none⟩ (.int .i64 wait) = x:=⟨_,rfl⟩
   rw [hwF] at hQF hfF ⊢
   clear hwF
   refine bodyPost_ret (results_cell_row rfl _ _ qb 39 #[.int .i64 op,.bool false,.int .i64 ref,.int .i64 turn,.slice ao dl cp,.slice ao2 dn cp2,.bool good,.int .i64 kind,.int .i64 id,.int .i64 wait] (0,0) _ rfl hQF Tryz.underlying39 rfl (by kernel_rfl)) rfl ?_
   exact ⟨ref,turn,HW.out.1,rfl,Fr.step HF1.out hfF (fun k hk e=>by have:=HPQ.out;omega)⟩
 | true=>
   by_cases h4 : op = 4
   ·subst h4
    obtain ⟨_,x6,x8⟩:=FX.out _ HF1.out
    have dz2:=HP0.out.frozen 2
    have dz3:=HP0.out.frozen 3
    go_upto_region 7 with (fail)
    have hP2:=(HP0.out.set 2 (.int .i64 aa)).set 3 (.int .i64 tu)
    simp only [lG,lH,lI] at hP2
    have hf2 : Fr (fun k=>k = pb) w1 ((w1.setCell ⟨pb,2,none⟩ (.int .i64 aa)).setCell ⟨pb,3,none⟩ (.int .i64 tu)):=(Fr.setCell (S:=fun k=>k = pb) w1 ⟨pb,2,none⟩ _ rfl).trans (Fr.setCell (S:=fun k=>k = pb) _ ⟨pb,3,none⟩ _ rfl)
    obtain ⟨w2,hw2⟩ : ∃ w,(w1.setCell ⟨pb,2,none⟩ (.int .i64 aa)).setCell ⟨pb,3,none⟩ (.int .i64 tu) = w:=⟨_,rfl⟩
    rw [hw2] at hP2 hf2 ⊢
    have HP2:=Lib.hid hP2
    have HQ2:=Lib.hid (HQ0.out.fr hf2 (by have:=HPQ.out;omega))
    have HF2 : Hid (Fr (fun _=>False) W w2):=Lib.hid (Fr.step HF1.out hf2 (fun k hk e=>by have:=HPQ.out;omega))
    clear hw2 hP2 hf2 x6 x8 dz2 dz3 d0 d1 d2 d3 d4 d5 d6 d7 d8 d9
    have d0:=HP2.out.cell 0
    have d1:=HP2.out.cell 1
    have d2:=HP2.out.cell 2
    have d3:=HP2.out.cell 3
    have d4:=HP2.out.cell 4
    have d5:=HP2.out.cell 5
    have d6:=HP2.out.cell 6
    have d7:=HP2.out.cell 7
    have d8:=HP2.out.cell 8
    have d9:=HP2.out.cell 9
    simp only [lA,lB,lC] at d0 d1 d2 d3 d4 d5 d6 d7 d8 d9
    have q0:=HQ2.out.cell 0
    have qz0:=HQ2.out.frozen 0
    have q1:=HQ2.out.cell 1
    have qz1:=HQ2.out.frozen 1
    have q2:=HQ2.out.cell 2
    have qz2:=HQ2.out.frozen 2
    have q3:=HQ2.out.cell 3
    have qz3:=HQ2.out.frozen 3
    have q4:=HQ2.out.cell 4
    have qz4:=HQ2.out.frozen 4
    have q5:=HQ2.out.cell 5
    have qz5:=HQ2.out.frozen 5
    have q6:=HQ2.out.cell 6
    have qz6:=HQ2.out.frozen 6
    have q7:=HQ2.out.cell 7
    have qz7:=HQ2.out.frozen 7
    have q8:=HQ2.out.cell 8
    have qz8:=HQ2.out.frozen 8
    have q9:=HQ2.out.cell 9
    have qz9:=HQ2.out.frozen 9
    simp only [lA,lB,lC] at q0 q1 q2 q3 q4 q5 q6 q7 q8 q9
    go_wp2
    have hQF:=store10 (v0:=.int .i64 4) (v1:=.bool true) (v2:=.int .i64 aa) (v3:=.int .i64 tu) (v4:=.slice ao dl cp) (v5:=.slice ao2 dn cp2) (v6:=.bool good) (v7:=.int .i64 kind) (v8:=.int .i64 id) (v9:=.int .i64 wait) HQ2.out
    have hfF:=store10_fr w2 qb (.int .i64 4) (.bool true) (.int .i64 aa) (.int .i64 tu) (.slice ao dl cp) (.slice ao2 dn cp2) (.bool good) (.int .i64 kind) (.int .i64 id) (.int .i64 wait)
    obtain ⟨wF,hwF⟩ : ∃ x,((((((((((w2).setCell ⟨qb,0,none⟩ (.int .i64 4)).setCell ⟨qb,1,none⟩ (.bool true)).setCell ⟨qb,2,none⟩ (.int .i64 aa)).setCell ⟨qb,3,none⟩ (.int .i64 tu)).setCell ⟨qb,4,none⟩ (.slice ao dl cp)).setCell ⟨qb,5,none⟩ (.slice ao2 dn cp2)).setCell ⟨qb,6,none⟩ (.bool good)).setCell ⟨qb,7,none⟩ (.int .i64 kind)).setCell ⟨qb,8,none⟩ (.int .i64 id)).setCell ⟨qb,9,none⟩ (.int .i64 wait) = x:=⟨_,rfl⟩
    rw [hwF] at hQF hfF ⊢
    clear hwF
    refine bodyPost_ret (results_cell_row rfl _ _ qb 39 #[.int .i64 4,.bool true,.int .i64 aa,.int .i64 tu,.slice ao dl cp,.slice ao2 dn cp2,.bool good,.int .i64 kind,.int .i64 id,.int .i64 wait] (0,0) _ rfl hQF Tryz.underlying39 rfl (by kernel_rfl)) rfl ?_
    exact ⟨aa,tu,(HAA.out ▸ HW.out.2),rfl,Fr.step HF2.out hfF (fun k hk e=>by have:=HPQ.out;omega)⟩
   have p4 : (op == 4) = false:=by simp [h4]
   by_cases h5 : op = 5
   ·subst h5
    obtain ⟨_,x6,x8⟩:=FX.out _ HF1.out
    have dz2:=HP0.out.frozen 2
    have dz3:=HP0.out.frozen 3
    clear h4
    go_upto_region 7 with (fail)
    have hP2:=(HP0.out.set 2 (.int .i64 aa)).set 3 (.int .i64 tu)
    simp only [lG,lH,lI] at hP2
    have hf2 : Fr (fun k=>k = pb) w1 ((w1.setCell ⟨pb,2,none⟩ (.int .i64 aa)).setCell ⟨pb,3,none⟩ (.int .i64 tu)):=(Fr.setCell (S:=fun k=>k = pb) w1 ⟨pb,2,none⟩ _ rfl).trans (Fr.setCell (S:=fun k=>k = pb) _ ⟨pb,3,none⟩ _ rfl)
    obtain ⟨w2,hw2⟩ : ∃ w,(w1.setCell ⟨pb,2,none⟩ (.int .i64 aa)).setCell ⟨pb,3,none⟩ (.int .i64 tu) = w:=⟨_,rfl⟩
    rw [hw2] at hP2 hf2 ⊢
    have HP2:=Lib.hid hP2
    have HQ2:=Lib.hid (HQ0.out.fr hf2 (by have:=HPQ.out;omega))
    have HF2 : Hid (Fr (fun _=>False) W w2):=Lib.hid (Fr.step HF1.out hf2 (fun k hk e=>by have:=HPQ.out;omega))
    clear hw2 hP2 hf2 x6 x8 dz2 dz3 d0 d1 d2 d3 d4 d5 d6 d7 d8 d9
    have d0:=HP2.out.cell 0
    have d1:=HP2.out.cell 1
    have d2:=HP2.out.cell 2
    have d3:=HP2.out.cell 3
    have d4:=HP2.out.cell 4
    have d5:=HP2.out.cell 5
    have d6:=HP2.out.cell 6
    have d7:=HP2.out.cell 7
    have d8:=HP2.out.cell 8
    have d9:=HP2.out.cell 9
    simp only [lA,lB,lC] at d0 d1 d2 d3 d4 d5 d6 d7 d8 d9
    have q0:=HQ2.out.cell 0
    have qz0:=HQ2.out.frozen 0
    have q1:=HQ2.out.cell 1
    have qz1:=HQ2.out.frozen 1
    have q2:=HQ2.out.cell 2
    have qz2:=HQ2.out.frozen 2
    have q3:=HQ2.out.cell 3
    have qz3:=HQ2.out.frozen 3
    have q4:=HQ2.out.cell 4
    have qz4:=HQ2.out.frozen 4
    have q5:=HQ2.out.cell 5
    have qz5:=HQ2.out.frozen 5
    have q6:=HQ2.out.cell 6
    have qz6:=HQ2.out.frozen 6
    have q7:=HQ2.out.cell 7
    have qz7:=HQ2.out.frozen 7
    have q8:=HQ2.out.cell 8
    have qz8:=HQ2.out.frozen 8
    have q9:=HQ2.out.cell 9
    have qz9:=HQ2.out.frozen 9
    simp only [lA,lB,lC] at q0 q1 q2 q3 q4 q5 q6 q7 q8 q9
    go_wp2
    have hQF:=store10 (v0:=.int .i64 5) (v1:=.bool true) (v2:=.int .i64 aa) (v3:=.int .i64 tu) (v4:=.slice ao dl cp) (v5:=.slice ao2 dn cp2) (v6:=.bool good) (v7:=.int .i64 kind) (v8:=.int .i64 id) (v9:=.int .i64 wait) HQ2.out
    have hfF:=store10_fr w2 qb (.int .i64 5) (.bool true) (.int .i64 aa) (.int .i64 tu) (.slice ao dl cp) (.slice ao2 dn cp2) (.bool good) (.int .i64 kind) (.int .i64 id) (.int .i64 wait)
    obtain ⟨wF,hwF⟩ : ∃ x,((((((((((w2).setCell ⟨qb,0,none⟩ (.int .i64 5)).setCell ⟨qb,1,none⟩ (.bool true)).setCell ⟨qb,2,none⟩ (.int .i64 aa)).setCell ⟨qb,3,none⟩ (.int .i64 tu)).setCell ⟨qb,4,none⟩ (.slice ao dl cp)).setCell ⟨qb,5,none⟩ (.slice ao2 dn cp2)).setCell ⟨qb,6,none⟩ (.bool good)).setCell ⟨qb,7,none⟩ (.int .i64 kind)).setCell ⟨qb,8,none⟩ (.int .i64 id)).setCell ⟨qb,9,none⟩ (.int .i64 wait) = x:=⟨_,rfl⟩
    rw [hwF] at hQF hfF ⊢
    clear hwF
    refine bodyPost_ret (results_cell_row rfl _ _ qb 39 #[.int .i64 5,.bool true,.int .i64 aa,.int .i64 tu,.slice ao dl cp,.slice ao2 dn cp2,.bool good,.int .i64 kind,.int .i64 id,.int .i64 wait] (0,0) _ rfl hQF Tryz.underlying39 rfl (by kernel_rfl)) rfl ?_
    exact ⟨aa,tu,(HAA.out ▸ HW.out.2),rfl,Fr.step HF2.out hfF (fun k hk e=>by have:=HPQ.out;omega)⟩
   have p5 : (op == 5) = false:=by simp [h5]
   by_cases h83 : op = 8 ∧ kind = 3
   ·obtain ⟨rfl,rfl⟩:=h83
    obtain ⟨_,x6,x8⟩:=FX.out _ HF1.out
    have dz2:=HP0.out.frozen 2
    have dz3:=HP0.out.frozen 3
    clear h4 h5
    go_upto_region 7 with (fail)
    have hP2:=(HP0.out.set 2 (.int .i64 aa)).set 3 (.int .i64 tu)
    simp only [lG,lH,lI] at hP2
    have hf2 : Fr (fun k=>k = pb) w1 ((w1.setCell ⟨pb,2,none⟩ (.int .i64 aa)).setCell ⟨pb,3,none⟩ (.int .i64 tu)):=(Fr.setCell (S:=fun k=>k = pb) w1 ⟨pb,2,none⟩ _ rfl).trans (Fr.setCell (S:=fun k=>k = pb) _ ⟨pb,3,none⟩ _ rfl)
    obtain ⟨w2,hw2⟩ : ∃ w,(w1.setCell ⟨pb,2,none⟩ (.int .i64 aa)).setCell ⟨pb,3,none⟩ (.int .i64 tu) = w:=⟨_,rfl⟩
    rw [hw2] at hP2 hf2 ⊢
    have HP2:=Lib.hid hP2
    have HQ2:=Lib.hid (HQ0.out.fr hf2 (by have:=HPQ.out;omega))
    have HF2 : Hid (Fr (fun _=>False) W w2):=Lib.hid (Fr.step HF1.out hf2 (fun k hk e=>by have:=HPQ.out;omega))
    clear hw2 hP2 hf2 x6 x8 dz2 dz3 d0 d1 d2 d3 d4 d5 d6 d7 d8 d9
    have d0:=HP2.out.cell 0
    have d1:=HP2.out.cell 1
    have d2:=HP2.out.cell 2
    have d3:=HP2.out.cell 3
    have d4:=HP2.out.cell 4
    have d5:=HP2.out.cell 5
    have d6:=HP2.out.cell 6
    have d7:=HP2.out.cell 7
    have d8:=HP2.out.cell 8
    have d9:=HP2.out.cell 9
    simp only [lA,lB,lC] at d0 d1 d2 d3 d4 d5 d6 d7 d8 d9
    have q0:=HQ2.out.cell 0
    have qz0:=HQ2.out.frozen 0
    have q1:=HQ2.out.cell 1
    have qz1:=HQ2.out.frozen 1
    have q2:=HQ2.out.cell 2
    have qz2:=HQ2.out.frozen 2
    have q3:=HQ2.out.cell 3
    have qz3:=HQ2.out.frozen 3
    have q4:=HQ2.out.cell 4
    have qz4:=HQ2.out.frozen 4
    have q5:=HQ2.out.cell 5
    have qz5:=HQ2.out.frozen 5
    have q6:=HQ2.out.cell 6
    have qz6:=HQ2.out.frozen 6
    have q7:=HQ2.out.cell 7
    have qz7:=HQ2.out.frozen 7
    have q8:=HQ2.out.cell 8
    have qz8:=HQ2.out.frozen 8
    have q9:=HQ2.out.cell 9
    have qz9:=HQ2.out.frozen 9
    simp only [lA,lB,lC] at q0 q1 q2 q3 q4 q5 q6 q7 q8 q9
    go_wp2
    have hQF:=store10 (v0:=.int .i64 8) (v1:=.bool true) (v2:=.int .i64 aa) (v3:=.int .i64 tu) (v4:=.slice ao dl cp) (v5:=.slice ao2 dn cp2) (v6:=.bool good) (v7:=.int .i64 3) (v8:=.int .i64 id) (v9:=.int .i64 wait) HQ2.out
    have hfF:=store10_fr w2 qb (.int .i64 8) (.bool true) (.int .i64 aa) (.int .i64 tu) (.slice ao dl cp) (.slice ao2 dn cp2) (.bool good) (.int .i64 3) (.int .i64 id) (.int .i64 wait)
    obtain ⟨wF,hwF⟩ : ∃ x,((((((((((w2).setCell ⟨qb,0,none⟩ (.int .i64 8)).setCell ⟨qb,1,none⟩ (.bool true)).setCell ⟨qb,2,none⟩ (.int .i64 aa)).setCell ⟨qb,3,none⟩ (.int .i64 tu)).setCell ⟨qb,4,none⟩ (.slice ao dl cp)).setCell ⟨qb,5,none⟩ (.slice ao2 dn cp2)).setCell ⟨qb,6,none⟩ (.bool good)).setCell ⟨qb,7,none⟩ (.int .i64 3)).setCell ⟨qb,8,none⟩ (.int .i64 id)).setCell ⟨qb,9,none⟩ (.int .i64 wait) = x:=⟨_,rfl⟩
    rw [hwF] at hQF hfF ⊢
    clear hwF
    refine bodyPost_ret (results_cell_row rfl _ _ qb 39 #[.int .i64 8,.bool true,.int .i64 aa,.int .i64 tu,.slice ao dl cp,.slice ao2 dn cp2,.bool good,.int .i64 3,.int .i64 id,.int .i64 wait] (0,0) _ rfl hQF Tryz.underlying39 rfl (by kernel_rfl)) rfl ?_
    exact ⟨aa,tu,(HAA.out ▸ HW.out.2),rfl,Fr.step HF2.out hfF (fun k hk e=>by have:=HPQ.out;omega)⟩
   have dz3:=HP0.out.frozen 3
   by_cases h8 : op = 8
   rotate_left
   ·have p8 : (op == 8) = false:=by simp [h8]
    clear h4 h5 h83 h8
    go_upto_region 10 with (fail)
    go_upto_region 11 with (fail)
    have hP2:=HP0.out.set 3 (.int .i64 0)
    simp only [lG,lH,lI] at hP2
    have hf2 : Fr (fun k=>k = pb) w1 (w1.setCell ⟨pb,3,none⟩ (.int .i64 0)):=Fr.setCell (S:=fun k=>k = pb) w1 ⟨pb,3,none⟩ _ rfl
    obtain ⟨w2,hw2⟩ : ∃ w,w1.setCell ⟨pb,3,none⟩ (.int .i64 0) = w:=⟨_,rfl⟩
    rw [hw2] at hP2 hf2 ⊢
    have HP2:=Lib.hid hP2
    have HQ2:=Lib.hid (HQ0.out.fr hf2 (by have:=HPQ.out;omega))
    have HF2 : Hid (Fr (fun _=>False) W w2):=Lib.hid (Fr.step HF1.out hf2 (fun k hk e=>by have:=HPQ.out;omega))
    clear hw2 hP2 hf2 dz3 d0 d1 d2 d3 d4 d5 d6 d7 d8 d9
    have d2:=HP2.out.cell 2
    simp only [lA,lB,lC] at d2
    obtain ⟨x4,_,_⟩:=FX.out _ HF2.out
    go_upto_region 13 with (fail)
    go_wp2_with fail
    go_loopw [6,7] (fun kv iv wz=>∃ (q : Nat) (k ref' : Int),kv = .int .i64 k ∧ iv = .int .i64 q ∧ q ≤ n ∧ wfI ref' ∧ Blk wz pb 39 #[.int .i64 op,.bool true,.int .i64 ref',.int .i64 0,.slice ao dl cp,.slice ao2 dn cp2,.bool good,.int .i64 kind,.int .i64 id,.int .i64 wait] ∧ Blk wz qb 39 #[.int .i64 0,.bool false,.int .i64 0,.int .i64 0,.slice none 0 0,.slice none 0 0,.bool false,.int .i64 0,.int .i64 0,.int .i64 0] ∧ Fr (fun _=>False) W wz) (fun _ iv _=>(intOf iv).toNat)
    case atStart=>exact ⟨n,ref,ref,rfl,rfl,Nat.le_refl _,HW.out.1,HP2.out,HQ2.out,HF2.out⟩
    case round=>
     obtain ⟨q,k,ref',rfl,rfl,hq,hwf,hP,hQ,hfz⟩:=hrel
     have HP:=Lib.hid hP
     have HQ:=Lib.hid hQ
     have HFZ:=Lib.hid hfz
     have HWF:=Lib.hid hwf
     have HQN:=Lib.hid hq
     clear hP hQ hfz hwf hq d2 x4
     by_cases hq0 : q = 0
     ·subst hq0
      have p1 : decide (((0 : Nat) : Int) > 0) = false:=by simp
      have p1' : decide ((0 : Int) > 0) = false:=by simp
      have d0:=HP.out.cell 0
      have d1:=HP.out.cell 1
      have d2:=HP.out.cell 2
      have d3:=HP.out.cell 3
      have d4:=HP.out.cell 4
      have d5:=HP.out.cell 5
      have d6:=HP.out.cell 6
      have d7:=HP.out.cell 7
      have d8:=HP.out.cell 8
      have d9:=HP.out.cell 9
      simp only [lA,lB,lC] at d0 d1 d2 d3 d4 d5 d6 d7 d8 d9
      have q0:=HQ.out.cell 0
      have qz0:=HQ.out.frozen 0
      have q1:=HQ.out.cell 1
      have qz1:=HQ.out.frozen 1
      have q2:=HQ.out.cell 2
      have qz2:=HQ.out.frozen 2
      have q3:=HQ.out.cell 3
      have qz3:=HQ.out.frozen 3
      have q4:=HQ.out.cell 4
      have qz4:=HQ.out.frozen 4
      have q5:=HQ.out.cell 5
      have qz5:=HQ.out.frozen 5
      have q6:=HQ.out.cell 6
      have qz6:=HQ.out.frozen 6
      have q7:=HQ.out.cell 7
      have qz7:=HQ.out.frozen 7
      have q8:=HQ.out.cell 8
      have qz8:=HQ.out.frozen 8
      have q9:=HQ.out.cell 9
      have qz9:=HQ.out.frozen 9
      simp only [lA,lB,lC] at q0 q1 q2 q3 q4 q5 q6 q7 q8 q9
      go_wp2
      have hQF:=store10 (v0:=.int .i64 op) (v1:=.bool true) (v2:=.int .i64 ref') (v3:=.int .i64 0) (v4:=.slice ao dl cp) (v5:=.slice ao2 dn cp2) (v6:=.bool good) (v7:=.int .i64 kind) (v8:=.int .i64 id) (v9:=.int .i64 wait) HQ.out
      have hfF:=store10_fr wr qb (.int .i64 op) (.bool true) (.int .i64 ref') (.int .i64 0) (.slice ao dl cp) (.slice ao2 dn cp2) (.bool good) (.int .i64 kind) (.int .i64 id) (.int .i64 wait)
      obtain ⟨wF,hwF⟩ : ∃ x,((((((((((wr).setCell ⟨qb,0,none⟩ (.int .i64 op)).setCell ⟨qb,1,none⟩ (.bool true)).setCell ⟨qb,2,none⟩ (.int .i64 ref')).setCell ⟨qb,3,none⟩ (.int .i64 0)).setCell ⟨qb,4,none⟩ (.slice ao dl cp)).setCell ⟨qb,5,none⟩ (.slice ao2 dn cp2)).setCell ⟨qb,6,none⟩ (.bool good)).setCell ⟨qb,7,none⟩ (.int .i64 kind)).setCell ⟨qb,8,none⟩ (.int .i64 id)).setCell ⟨qb,9,none⟩ (.int .i64 wait) = x:=⟨_,rfl⟩
      rw [hwF] at hQF hfF ⊢
      clear hwF
      refine bodyPost_ret (results_cell_row rfl _ _ qb 39 #[.int .i64 op,.bool true,.int .i64 ref',.int .i64 0,.slice ao dl cp,.slice ao2 dn cp2,.bool good,.int .i64 kind,.int .i64 id,.int .i64 wait] (0,0) _ rfl hQF Tryz.underlying39 rfl (by kernel_rfl)) rfl ?_
      exact ⟨ref',0,HWF.out,rfl,Fr.step HFZ.out hfF (fun k hk e=>by have:=HPQ.out;omega)⟩
     have p1 : decide ((q : Int) > 0) = true:=decide_eq_true (by omega)
     have p1' : decide (0 < (q : Int)) = true:=decide_eq_true (by omega)
     have p1'' : decide (0 < q) = true:=decide_eq_true (by omega)
     obtain ⟨e0,he0⟩ : ∃ e,s.l[q - 1]? = some e:=⟨_,List.getElem?_eq_getElem (by have:=HN.out;have:=HQN.out;omega)⟩
     obtain ⟨g,x,hao,hc⟩:=HLOOK.out (q - 1) e0 he0
     subst hao
     obtain ⟨x4,_,_⟩:=FX.out _ HFZ.out
     have c0 : wr.cell? ⟨g,(q - 1) * 7,none⟩ = some (.int .i64 e0.k):=hc wr HFZ.out 0 _ rfl
     obtain ⟨m,hm⟩ : ∃ m,q - 1 = m:=⟨_,rfl⟩
     obtain ⟨ek,hek⟩ : ∃ x,e0.k = x:=⟨_,rfl⟩
     rw [hm,hek] at c0
     have hwm : wrap64 ((q : Int) - 1) = (m : Int):=by have:=HL.out;have:=HN.out;have:=HQN.out;rw [wrap64];omega
     have HWM:=Lib.hid hwm
     have hm0 : (0 : Int) ≤ (m : Int) ∧ (m : Int) < (n : Int):=by have:=HQN.out;omega
     have HMQ : Hid (q = m + 1):=Lib.hid (by omega)
     clear he0 hc hm hek hq0
     by_cases hkk : ek = 7
     rotate_left
     ·have p2 : (ek == 7) = false:=by simp [hkk]
      clear hkk
      go_wp2_with fail
      go_roundw
      case rel=>exact ⟨m,k,ref',rfl,congrArg (Value.int .i64) HWM.out,by have:=HMQ.out;have:=HQN.out;omega,HWF.out,HP.out,HQ.out,HFZ.out⟩
      case measure=>rw [HWM.out];simp only [intOf];have:=HMQ.out;omega
     have p2 : (ek == 7) = true:=by simp [hkk]
     have dz2:=HP.out.frozen 2
     have d2:=HP.out.cell 2
     simp only [lA,lB,lC] at d2
     clear hkk
     go_upto_region 17 with (fail)
     have hP3:=HP.out.set 2 (.int .i64 (q : Int))
     simp only [lG,lH,lI] at hP3
     have hf3 : Fr (fun k=>k = pb) wr (wr.setCell ⟨pb,2,none⟩ (.int .i64 (q : Int))):=Fr.setCell (S:=fun k=>k = pb) wr ⟨pb,2,none⟩ _ rfl
     obtain ⟨w3,hw3⟩ : ∃ w,wr.setCell ⟨pb,2,none⟩ (.int .i64 (q : Int)) = w:=⟨_,rfl⟩
     rw [hw3] at hP3 hf3 ⊢
     have HP3:=Lib.hid hP3
     have HQ3:=Lib.hid (HQ.out.fr hf3 (by have:=HPQ.out;omega))
     have HF3 : Hid (Fr (fun _=>False) W w3):=Lib.hid (Fr.step HFZ.out hf3 (fun k hk e=>by have:=HPQ.out;omega))
     have HWQ : Hid (wfI (q : Int)):=Lib.hid (wfI.of (by have:=HL.out;have:=HN.out;have:=HQN.out;omega))
     clear hw3 hP3 hf3 dz2 d2 c0 x4
     by_cases hk0 : k = 0
     ·subst hk0
      have d0:=HP3.out.cell 0
      have d1:=HP3.out.cell 1
      have d2:=HP3.out.cell 2
      have d3:=HP3.out.cell 3
      have d4:=HP3.out.cell 4
      have d5:=HP3.out.cell 5
      have d6:=HP3.out.cell 6
      have d7:=HP3.out.cell 7
      have d8:=HP3.out.cell 8
      have d9:=HP3.out.cell 9
      simp only [lA,lB,lC] at d0 d1 d2 d3 d4 d5 d6 d7 d8 d9
      have q0:=HQ3.out.cell 0
      have qz0:=HQ3.out.frozen 0
      have q1:=HQ3.out.cell 1
      have qz1:=HQ3.out.frozen 1
      have q2:=HQ3.out.cell 2
      have qz2:=HQ3.out.frozen 2
      have q3:=HQ3.out.cell 3
      have qz3:=HQ3.out.frozen 3
      have q4:=HQ3.out.cell 4
      have qz4:=HQ3.out.frozen 4
      have q5:=HQ3.out.cell 5
      have qz5:=HQ3.out.frozen 5
      have q6:=HQ3.out.cell 6
      have qz6:=HQ3.out.frozen 6
      have q7:=HQ3.out.cell 7
      have qz7:=HQ3.out.frozen 7
      have q8:=HQ3.out.cell 8
      have qz8:=HQ3.out.frozen 8
      have q9:=HQ3.out.cell 9
      have qz9:=HQ3.out.frozen 9
      simp only [lA,lB,lC] at q0 q1 q2 q3 q4 q5 q6 q7 q8 q9
      go_wp2
      have hQF:=store10 (v0:=.int .i64 op) (v1:=.bool true) (v2:=.int .i64 (q : Int)) (v3:=.int .i64 0) (v4:=.slice ao dl cp) (v5:=.slice ao2 dn cp2) (v6:=.bool good) (v7:=.int .i64 kind) (v8:=.int .i64 id) (v9:=.int .i64 wait) HQ3.out
      have hfF:=store10_fr w3 qb (.int .i64 op) (.bool true) (.int .i64 (q : Int)) (.int .i64 0) (.slice ao dl cp) (.slice ao2 dn cp2) (.bool good) (.int .i64 kind) (.int .i64 id) (.int .i64 wait)
      obtain ⟨wF,hwF⟩ : ∃ x,((((((((((w3).setCell ⟨qb,0,none⟩ (.int .i64 op)).setCell ⟨qb,1,none⟩ (.bool true)).setCell ⟨qb,2,none⟩ (.int .i64 (q : Int))).setCell ⟨qb,3,none⟩ (.int .i64 0)).setCell ⟨qb,4,none⟩ (.slice ao dl cp)).setCell ⟨qb,5,none⟩ (.slice ao2 dn cp2)).setCell ⟨qb,6,none⟩ (.bool good)).setCell ⟨qb,7,none⟩ (.int .i64 kind)).setCell ⟨qb,8,none⟩ (.int .i64 id)).setCell ⟨qb,9,none⟩ (.int .i64 wait) = x:=⟨_,rfl⟩
      rw [hwF] at hQF hfF ⊢
      clear hwF
      refine bodyPost_ret (results_cell_row rfl _ _ qb 39 #[.int .i64 op,.bool true,.int .i64 (q : Int),.int .i64 0,.slice ao dl cp,.slice ao2 dn cp2,.bool good,.int .i64 kind,.int .i64 id,.int .i64 wait] (0,0) _ rfl hQF Tryz.underlying39 rfl (by kernel_rfl)) rfl ?_
      exact ⟨(q : Int),0,HWQ.out,rfl,Fr.step HF3.out hfF (fun k hk e=>by have:=HPQ.out;omega)⟩
     have p3 : (k == 0) = false:=by simp [hk0]
     clear hk0
     go_wp2_with fail
     go_roundw
     case rel=>exact ⟨m,_,(q : Int),rfl,congrArg (Value.int .i64) HWM.out,by have:=HMQ.out;have:=HQN.out;omega,HWQ.out,HP3.out,HQ3.out,HF3.out⟩
     case measure=>rw [HWM.out];simp only [intOf];have:=HMQ.out;omega
   subst h8
   have h3 : kind ≠ 3:=fun e=>h83 ⟨rfl,e⟩
   have p3 : (kind == 3) = false:=by simp [h3]
   by_cases h5k : kind = 5
   ·subst h5k
    clear h4 h5 h83 h3
    go_upto_region 10 with (fail)
    go_upto_region 11 with (fail)
    have hP2:=HP0.out.set 3 (.int .i64 0)
    simp only [lG,lH,lI] at hP2
    have hf2 : Fr (fun k=>k = pb) w1 (w1.setCell ⟨pb,3,none⟩ (.int .i64 0)):=Fr.setCell (S:=fun k=>k = pb) w1 ⟨pb,3,none⟩ _ rfl
    obtain ⟨w2,hw2⟩ : ∃ w,w1.setCell ⟨pb,3,none⟩ (.int .i64 0) = w:=⟨_,rfl⟩
    rw [hw2] at hP2 hf2 ⊢
    have HP2:=Lib.hid hP2
    have HQ2:=Lib.hid (HQ0.out.fr hf2 (by have:=HPQ.out;omega))
    have HF2 : Hid (Fr (fun _=>False) W w2):=Lib.hid (Fr.step HF1.out hf2 (fun k hk e=>by have:=HPQ.out;omega))
    clear hw2 hP2 hf2 dz3 d0 d1 d2 d3 d4 d5 d6 d7 d8 d9
    have d2:=HP2.out.cell 2
    simp only [lA,lB,lC] at d2
    obtain ⟨x4,_,_⟩:=FX.out _ HF2.out
    go_upto_region 13 with (fail)
    go_wp2_with fail
    go_loopw [6,7] (fun kv iv wz=>∃ (q : Nat) (k ref' : Int),kv = .int .i64 k ∧ iv = .int .i64 q ∧ q ≤ n ∧ wfI ref' ∧ Blk wz pb 39 #[.int .i64 8,.bool true,.int .i64 ref',.int .i64 0,.slice ao dl cp,.slice ao2 dn cp2,.bool good,.int .i64 5,.int .i64 id,.int .i64 wait] ∧ Blk wz qb 39 #[.int .i64 0,.bool false,.int .i64 0,.int .i64 0,.slice none 0 0,.slice none 0 0,.bool false,.int .i64 0,.int .i64 0,.int .i64 0] ∧ Fr (fun _=>False) W wz) (fun _ iv _=>(intOf iv).toNat)
    case atStart=>exact ⟨n,ref,ref,rfl,rfl,Nat.le_refl _,HW.out.1,HP2.out,HQ2.out,HF2.out⟩
    case round=>
     obtain ⟨q,k,ref',rfl,rfl,hq,hwf,hP,hQ,hfz⟩:=hrel
     have HP:=Lib.hid hP
     have HQ:=Lib.hid hQ
     have HFZ:=Lib.hid hfz
     have HWF:=Lib.hid hwf
     have HQN:=Lib.hid hq
     clear hP hQ hfz hwf hq d2 x4
     by_cases hq0 : q = 0
     ·subst hq0
      have p1 : decide (((0 : Nat) : Int) > 0) = false:=by simp
      have p1' : decide ((0 : Int) > 0) = false:=by simp
      have d0:=HP.out.cell 0
      have d1:=HP.out.cell 1
      have d2:=HP.out.cell 2
      have d3:=HP.out.cell 3
      have d4:=HP.out.cell 4
      have d5:=HP.out.cell 5
      have d6:=HP.out.cell 6
      have d7:=HP.out.cell 7
      have d8:=HP.out.cell 8
      have d9:=HP.out.cell 9
      simp only [lA,lB,lC] at d0 d1 d2 d3 d4 d5 d6 d7 d8 d9
      have q0:=HQ.out.cell 0
      have qz0:=HQ.out.frozen 0
      have q1:=HQ.out.cell 1
      have qz1:=HQ.out.frozen 1
      have q2:=HQ.out.cell 2
      have qz2:=HQ.out.frozen 2
      have q3:=HQ.out.cell 3
      have qz3:=HQ.out.frozen 3
      have q4:=HQ.out.cell 4
      have qz4:=HQ.out.frozen 4
      have q5:=HQ.out.cell 5
      have qz5:=HQ.out.frozen 5
      have q6:=HQ.out.cell 6
      have qz6:=HQ.out.frozen 6
      have q7:=HQ.out.cell 7
      have qz7:=HQ.out.frozen 7
      have q8:=HQ.out.cell 8
      have qz8:=HQ.out.frozen 8
      have q9:=HQ.out.cell 9
      have qz9:=HQ.out.frozen 9
      simp only [lA,lB,lC] at q0 q1 q2 q3 q4 q5 q6 q7 q8 q9
      go_wp2
      have hQF:=store10 (v0:=.int .i64 8) (v1:=.bool true) (v2:=.int .i64 ref') (v3:=.int .i64 0) (v4:=.slice ao dl cp) (v5:=.slice ao2 dn cp2) (v6:=.bool good) (v7:=.int .i64 5) (v8:=.int .i64 id) (v9:=.int .i64 wait) HQ.out
      have hfF:=store10_fr wr qb (.int .i64 8) (.bool true) (.int .i64 ref') (.int .i64 0) (.slice ao dl cp) (.slice ao2 dn cp2) (.bool good) (.int .i64 5) (.int .i64 id) (.int .i64 wait)
      obtain ⟨wF,hwF⟩ : ∃ x,((((((((((wr).setCell ⟨qb,0,none⟩ (.int .i64 8)).setCell ⟨qb,1,none⟩ (.bool true)).setCell ⟨qb,2,none⟩ (.int .i64 ref')).setCell ⟨qb,3,none⟩ (.int .i64 0)).setCell ⟨qb,4,none⟩ (.slice ao dl cp)).setCell ⟨qb,5,none⟩ (.slice ao2 dn cp2)).setCell ⟨qb,6,none⟩ (.bool good)).setCell ⟨qb,7,none⟩ (.int .i64 5)).setCell ⟨qb,8,none⟩ (.int .i64 id)).setCell ⟨qb,9,none⟩ (.int .i64 wait) = x:=⟨_,rfl⟩
      rw [hwF] at hQF hfF ⊢
      clear hwF
      refine bodyPost_ret (results_cell_row rfl _ _ qb 39 #[.int .i64 8,.bool true,.int .i64 ref',.int .i64 0,.slice ao dl cp,.slice ao2 dn cp2,.bool good,.int .i64 5,.int .i64 id,.int .i64 wait] (0,0) _ rfl hQF Tryz.underlying39 rfl (by kernel_rfl)) rfl ?_
      exact ⟨ref',0,HWF.out,rfl,Fr.step HFZ.out hfF (fun k hk e=>by have:=HPQ.out;omega)⟩
     have p1 : decide ((q : Int) > 0) = true:=decide_eq_true (by omega)
     have p1' : decide (0 < (q : Int)) = true:=decide_eq_true (by omega)
     have p1'' : decide (0 < q) = true:=decide_eq_true (by omega)
     obtain ⟨e0,he0⟩ : ∃ e,s.l[q - 1]? = some e:=⟨_,List.getElem?_eq_getElem (by have:=HN.out;have:=HQN.out;omega)⟩
     obtain ⟨g,x,hao,hc⟩:=HLOOK.out (q - 1) e0 he0
     subst hao
     obtain ⟨x4,_,_⟩:=FX.out _ HFZ.out
     have c0 : wr.cell? ⟨g,(q - 1) * 7,none⟩ = some (.int .i64 e0.k):=hc wr HFZ.out 0 _ rfl
     obtain ⟨m,hm⟩ : ∃ m,q - 1 = m:=⟨_,rfl⟩
     obtain ⟨ek,hek⟩ : ∃ x,e0.k = x:=⟨_,rfl⟩
     rw [hm,hek] at c0
     have hwm : wrap64 ((q : Int) - 1) = (m : Int):=by have:=HL.out;have:=HN.out;have:=HQN.out;rw [wrap64];omega
     have HWM:=Lib.hid hwm
     have hm0 : (0 : Int) ≤ (m : Int) ∧ (m : Int) < (n : Int):=by have:=HQN.out;omega
     have HMQ : Hid (q = m + 1):=Lib.hid (by omega)
     clear he0 hc hm hek hq0
     by_cases hkk : ek = 12
     rotate_left
     ·have p2 : (ek == 12) = false:=by simp [hkk]
      clear hkk
      go_wp2_with fail
      go_roundw
      case rel=>exact ⟨m,k,ref',rfl,congrArg (Value.int .i64) HWM.out,by have:=HMQ.out;have:=HQN.out;omega,HWF.out,HP.out,HQ.out,HFZ.out⟩
      case measure=>rw [HWM.out];simp only [intOf];have:=HMQ.out;omega
     have p2 : (ek == 12) = true:=by simp [hkk]
     have dz2:=HP.out.frozen 2
     have d2:=HP.out.cell 2
     simp only [lA,lB,lC] at d2
     clear hkk
     go_upto_region 17 with (fail)
     have hP3:=HP.out.set 2 (.int .i64 (q : Int))
     simp only [lG,lH,lI] at hP3
     have hf3 : Fr (fun k=>k = pb) wr (wr.setCell ⟨pb,2,none⟩ (.int .i64 (q : Int))):=Fr.setCell (S:=fun k=>k = pb) wr ⟨pb,2,none⟩ _ rfl
     obtain ⟨w3,hw3⟩ : ∃ w,wr.setCell ⟨pb,2,none⟩ (.int .i64 (q : Int)) = w:=⟨_,rfl⟩
     rw [hw3] at hP3 hf3 ⊢
     have HP3:=Lib.hid hP3
     have HQ3:=Lib.hid (HQ.out.fr hf3 (by have:=HPQ.out;omega))
     have HF3 : Hid (Fr (fun _=>False) W w3):=Lib.hid (Fr.step HFZ.out hf3 (fun k hk e=>by have:=HPQ.out;omega))
     have HWQ : Hid (wfI (q : Int)):=Lib.hid (wfI.of (by have:=HL.out;have:=HN.out;have:=HQN.out;omega))
     clear hw3 hP3 hf3 dz2 d2 c0 x4
     by_cases hk0 : k = 0
     ·subst hk0
      have d0:=HP3.out.cell 0
      have d1:=HP3.out.cell 1
      have d2:=HP3.out.cell 2
      have d3:=HP3.out.cell 3
      have d4:=HP3.out.cell 4
      have d5:=HP3.out.cell 5
      have d6:=HP3.out.cell 6
      have d7:=HP3.out.cell 7
      have d8:=HP3.out.cell 8
      have d9:=HP3.out.cell 9
      simp only [lA,lB,lC] at d0 d1 d2 d3 d4 d5 d6 d7 d8 d9
      have q0:=HQ3.out.cell 0
      have qz0:=HQ3.out.frozen 0
      have q1:=HQ3.out.cell 1
      have qz1:=HQ3.out.frozen 1
      have q2:=HQ3.out.cell 2
      have qz2:=HQ3.out.frozen 2
      have q3:=HQ3.out.cell 3
      have qz3:=HQ3.out.frozen 3
      have q4:=HQ3.out.cell 4
      have qz4:=HQ3.out.frozen 4
      have q5:=HQ3.out.cell 5
      have qz5:=HQ3.out.frozen 5
      have q6:=HQ3.out.cell 6
      have qz6:=HQ3.out.frozen 6
      have q7:=HQ3.out.cell 7
      have qz7:=HQ3.out.frozen 7
      have q8:=HQ3.out.cell 8
      have qz8:=HQ3.out.frozen 8
      have q9:=HQ3.out.cell 9
      have qz9:=HQ3.out.frozen 9
      simp only [lA,lB,lC] at q0 q1 q2 q3 q4 q5 q6 q7 q8 q9
      go_wp2
      have hQF:=store10 (v0:=.int .i64 8) (v1:=.bool true) (v2:=.int .i64 (q : Int)) (v3:=.int .i64 0) (v4:=.slice ao dl cp) (v5:=.slice ao2 dn cp2) (v6:=.bool good) (v7:=.int .i64 5) (v8:=.int .i64 id) (v9:=.int .i64 wait) HQ3.out
      have hfF:=store10_fr w3 qb (.int .i64 8) (.bool true) (.int .i64 (q : Int)) (.int .i64 0) (.slice ao dl cp) (.slice ao2 dn cp2) (.bool good) (.int .i64 5) (.int .i64 id) (.int .i64 wait)
      obtain ⟨wF,hwF⟩ : ∃ x,((((((((((w3).setCell ⟨qb,0,none⟩ (.int .i64 8)).setCell ⟨qb,1,none⟩ (.bool true)).setCell ⟨qb,2,none⟩ (.int .i64 (q : Int))).setCell ⟨qb,3,none⟩ (.int .i64 0)).setCell ⟨qb,4,none⟩ (.slice ao dl cp)).setCell ⟨qb,5,none⟩ (.slice ao2 dn cp2)).setCell ⟨qb,6,none⟩ (.bool good)).setCell ⟨qb,7,none⟩ (.int .i64 5)).setCell ⟨qb,8,none⟩ (.int .i64 id)).setCell ⟨qb,9,none⟩ (.int .i64 wait) = x:=⟨_,rfl⟩
      rw [hwF] at hQF hfF ⊢
      clear hwF
      refine bodyPost_ret (results_cell_row rfl _ _ qb 39 #[.int .i64 8,.bool true,.int .i64 (q : Int),.int .i64 0,.slice ao dl cp,.slice ao2 dn cp2,.bool good,.int .i64 5,.int .i64 id,.int .i64 wait] (0,0) _ rfl hQF Tryz.underlying39 rfl (by kernel_rfl)) rfl ?_
      exact ⟨(q : Int),0,HWQ.out,rfl,Fr.step HF3.out hfF (fun k hk e=>by have:=HPQ.out;omega)⟩
     have p3 : (k == 0) = false:=by simp [hk0]
     clear hk0
     go_wp2_with fail
     go_roundw
     case rel=>exact ⟨m,_,(q : Int),rfl,congrArg (Value.int .i64) HWM.out,by have:=HMQ.out;have:=HQN.out;omega,HWQ.out,HP3.out,HQ3.out,HF3.out⟩
     case measure=>rw [HWM.out];simp only [intOf];have:=HMQ.out;omega
   have p5k : (kind == 5) = false:=by simp [h5k]
   clear h4 h5 h83 h3 h5k
   go_upto_region 10 with (fail)
   go_upto_region 11 with (fail)
   have hP2:=HP0.out.set 3 (.int .i64 0)
   simp only [lG,lH,lI] at hP2
   have hf2 : Fr (fun k=>k = pb) w1 (w1.setCell ⟨pb,3,none⟩ (.int .i64 0)):=Fr.setCell (S:=fun k=>k = pb) w1 ⟨pb,3,none⟩ _ rfl
   obtain ⟨w2,hw2⟩ : ∃ w,w1.setCell ⟨pb,3,none⟩ (.int .i64 0) = w:=⟨_,rfl⟩
   rw [hw2] at hP2 hf2 ⊢
   have HP2:=Lib.hid hP2
   have HQ2:=Lib.hid (HQ0.out.fr hf2 (by have:=HPQ.out;omega))
   have HF2 : Hid (Fr (fun _=>False) W w2):=Lib.hid (Fr.step HF1.out hf2 (fun k hk e=>by have:=HPQ.out;omega))
   clear hw2 hP2 hf2 dz3 d0 d1 d2 d3 d4 d5 d6 d7 d8 d9
   have d2:=HP2.out.cell 2
   simp only [lA,lB,lC] at d2
   obtain ⟨x4,_,_⟩:=FX.out _ HF2.out
   go_upto_region 13 with (fail)
   go_wp2_with fail
   go_loopw [6,7] (fun kv iv wz=>∃ (q : Nat) (k ref' : Int),kv = .int .i64 k ∧ iv = .int .i64 q ∧ q ≤ n ∧ wfI ref' ∧ Blk wz pb 39 #[.int .i64 8,.bool true,.int .i64 ref',.int .i64 0,.slice ao dl cp,.slice ao2 dn cp2,.bool good,.int .i64 kind,.int .i64 id,.int .i64 wait] ∧ Blk wz qb 39 #[.int .i64 0,.bool false,.int .i64 0,.int .i64 0,.slice none 0 0,.slice none 0 0,.bool false,.int .i64 0,.int .i64 0,.int .i64 0] ∧ Fr (fun _=>False) W wz) (fun _ iv _=>(intOf iv).toNat)
   case atStart=>exact ⟨n,ref,ref,rfl,rfl,Nat.le_refl _,HW.out.1,HP2.out,HQ2.out,HF2.out⟩
   case round=>
    obtain ⟨q,k,ref',rfl,rfl,hq,hwf,hP,hQ,hfz⟩:=hrel
    have HP:=Lib.hid hP
    have HQ:=Lib.hid hQ
    have HFZ:=Lib.hid hfz
    have HWF:=Lib.hid hwf
    have HQN:=Lib.hid hq
    clear hP hQ hfz hwf hq d2 x4
    by_cases hq0 : q = 0
    ·subst hq0
     have p1 : decide (((0 : Nat) : Int) > 0) = false:=by simp
     have p1' : decide ((0 : Int) > 0) = false:=by simp
     have d0:=HP.out.cell 0
     have d1:=HP.out.cell 1
     have d2:=HP.out.cell 2
     have d3:=HP.out.cell 3
     have d4:=HP.out.cell 4
     have d5:=HP.out.cell 5
     have d6:=HP.out.cell 6
     have d7:=HP.out.cell 7
     have d8:=HP.out.cell 8
     have d9:=HP.out.cell 9
     simp only [lA,lB,lC] at d0 d1 d2 d3 d4 d5 d6 d7 d8 d9
     have q0:=HQ.out.cell 0
     have qz0:=HQ.out.frozen 0
     have q1:=HQ.out.cell 1
     have qz1:=HQ.out.frozen 1
     have q2:=HQ.out.cell 2
     have qz2:=HQ.out.frozen 2
     have q3:=HQ.out.cell 3
     have qz3:=HQ.out.frozen 3
     have q4:=HQ.out.cell 4
     have qz4:=HQ.out.frozen 4
     have q5:=HQ.out.cell 5
     have qz5:=HQ.out.frozen 5
     have q6:=HQ.out.cell 6
     have qz6:=HQ.out.frozen 6
     have q7:=HQ.out.cell 7
     have qz7:=HQ.out.frozen 7
     have q8:=HQ.out.cell 8
     have qz8:=HQ.out.frozen 8
     have q9:=HQ.out.cell 9
     have qz9:=HQ.out.frozen 9
     simp only [lA,lB,lC] at q0 q1 q2 q3 q4 q5 q6 q7 q8 q9
     go_wp2
     have hQF:=store10 (v0:=.int .i64 8) (v1:=.bool true) (v2:=.int .i64 ref') (v3:=.int .i64 0) (v4:=.slice ao dl cp) (v5:=.slice ao2 dn cp2) (v6:=.bool good) (v7:=.int .i64 kind) (v8:=.int .i64 id) (v9:=.int .i64 wait) HQ.out
     have hfF:=store10_fr wr qb (.int .i64 8) (.bool true) (.int .i64 ref') (.int .i64 0) (.slice ao dl cp) (.slice ao2 dn cp2) (.bool good) (.int .i64 kind) (.int .i64 id) (.int .i64 wait)
     obtain ⟨wF,hwF⟩ : ∃ x,((((((((((wr).setCell ⟨qb,0,none⟩ (.int .i64 8)).setCell ⟨qb,1,none⟩ (.bool true)).setCell ⟨qb,2,none⟩ (.int .i64 ref')).setCell ⟨qb,3,none⟩ (.int .i64 0)).setCell ⟨qb,4,none⟩ (.slice ao dl cp)).setCell ⟨qb,5,none⟩ (.slice ao2 dn cp2)).setCell ⟨qb,6,none⟩ (.bool good)).setCell ⟨qb,7,none⟩ (.int .i64 kind)).setCell ⟨qb,8,none⟩ (.int .i64 id)).setCell ⟨qb,9,none⟩ (.int .i64 wait) = x:=⟨_,rfl⟩
     rw [hwF] at hQF hfF ⊢
     clear hwF
     refine bodyPost_ret (results_cell_row rfl _ _ qb 39 #[.int .i64 8,.bool true,.int .i64 ref',.int .i64 0,.slice ao dl cp,.slice ao2 dn cp2,.bool good,.int .i64 kind,.int .i64 id,.int .i64 wait] (0,0) _ rfl hQF Tryz.underlying39 rfl (by kernel_rfl)) rfl ?_
     exact ⟨ref',0,HWF.out,rfl,Fr.step HFZ.out hfF (fun k hk e=>by have:=HPQ.out;omega)⟩
    have p1 : decide ((q : Int) > 0) = true:=decide_eq_true (by omega)
    have p1' : decide (0 < (q : Int)) = true:=decide_eq_true (by omega)
    have p1'' : decide (0 < q) = true:=decide_eq_true (by omega)
    obtain ⟨e0,he0⟩ : ∃ e,s.l[q - 1]? = some e:=⟨_,List.getElem?_eq_getElem (by have:=HN.out;have:=HQN.out;omega)⟩
    obtain ⟨g,x,hao,hc⟩:=HLOOK.out (q - 1) e0 he0
    subst hao
    obtain ⟨x4,_,_⟩:=FX.out _ HFZ.out
    have c0 : wr.cell? ⟨g,(q - 1) * 7,none⟩ = some (.int .i64 e0.k):=hc wr HFZ.out 0 _ rfl
    obtain ⟨m,hm⟩ : ∃ m,q - 1 = m:=⟨_,rfl⟩
    obtain ⟨ek,hek⟩ : ∃ x,e0.k = x:=⟨_,rfl⟩
    rw [hm,hek] at c0
    have hwm : wrap64 ((q : Int) - 1) = (m : Int):=by have:=HL.out;have:=HN.out;have:=HQN.out;rw [wrap64];omega
    have HWM:=Lib.hid hwm
    have hm0 : (0 : Int) ≤ (m : Int) ∧ (m : Int) < (n : Int):=by have:=HQN.out;omega
    have HMQ : Hid (q = m + 1):=Lib.hid (by omega)
    clear he0 hc hm hek hq0
    by_cases hkk : ek = 7
    rotate_left
    ·have p2 : (ek == 7) = false:=by simp [hkk]
     clear hkk
     go_wp2_with fail
     go_roundw
     case rel=>exact ⟨m,k,ref',rfl,congrArg (Value.int .i64) HWM.out,by have:=HMQ.out;have:=HQN.out;omega,HWF.out,HP.out,HQ.out,HFZ.out⟩
     case measure=>rw [HWM.out];simp only [intOf];have:=HMQ.out;omega
    have p2 : (ek == 7) = true:=by simp [hkk]
    have dz2:=HP.out.frozen 2
    have d2:=HP.out.cell 2
    simp only [lA,lB,lC] at d2
    clear hkk
    go_upto_region 17 with (fail)
    have hP3:=HP.out.set 2 (.int .i64 (q : Int))
    simp only [lG,lH,lI] at hP3
    have hf3 : Fr (fun k=>k = pb) wr (wr.setCell ⟨pb,2,none⟩ (.int .i64 (q : Int))):=Fr.setCell (S:=fun k=>k = pb) wr ⟨pb,2,none⟩ _ rfl
    obtain ⟨w3,hw3⟩ : ∃ w,wr.setCell ⟨pb,2,none⟩ (.int .i64 (q : Int)) = w:=⟨_,rfl⟩
    rw [hw3] at hP3 hf3 ⊢
    have HP3:=Lib.hid hP3
    have HQ3:=Lib.hid (HQ.out.fr hf3 (by have:=HPQ.out;omega))
    have HF3 : Hid (Fr (fun _=>False) W w3):=Lib.hid (Fr.step HFZ.out hf3 (fun k hk e=>by have:=HPQ.out;omega))
    have HWQ : Hid (wfI (q : Int)):=Lib.hid (wfI.of (by have:=HL.out;have:=HN.out;have:=HQN.out;omega))
    clear hw3 hP3 hf3 dz2 d2 c0 x4
    by_cases hk0 : k = 0
    ·subst hk0
     have d0:=HP3.out.cell 0
     have d1:=HP3.out.cell 1
     have d2:=HP3.out.cell 2
     have d3:=HP3.out.cell 3
     have d4:=HP3.out.cell 4
     have d5:=HP3.out.cell 5
     have d6:=HP3.out.cell 6
     have d7:=HP3.out.cell 7
     have d8:=HP3.out.cell 8
     have d9:=HP3.out.cell 9
     simp only [lA,lB,lC] at d0 d1 d2 d3 d4 d5 d6 d7 d8 d9
     have q0:=HQ3.out.cell 0
     have qz0:=HQ3.out.frozen 0
     have q1:=HQ3.out.cell 1
     have qz1:=HQ3.out.frozen 1
     have q2:=HQ3.out.cell 2
     have qz2:=HQ3.out.frozen 2
     have q3:=HQ3.out.cell 3
     have qz3:=HQ3.out.frozen 3
     have q4:=HQ3.out.cell 4
     have qz4:=HQ3.out.frozen 4
     have q5:=HQ3.out.cell 5
     have qz5:=HQ3.out.frozen 5
     have q6:=HQ3.out.cell 6
     have qz6:=HQ3.out.frozen 6
     have q7:=HQ3.out.cell 7
     have qz7:=HQ3.out.frozen 7
     have q8:=HQ3.out.cell 8
     have qz8:=HQ3.out.frozen 8
     have q9:=HQ3.out.cell 9
     have qz9:=HQ3.out.frozen 9
     simp only [lA,lB,lC] at q0 q1 q2 q3 q4 q5 q6 q7 q8 q9
     go_wp2
     have hQF:=store10 (v0:=.int .i64 8) (v1:=.bool true) (v2:=.int .i64 (q : Int)) (v3:=.int .i64 0) (v4:=.slice ao dl cp) (v5:=.slice ao2 dn cp2) (v6:=.bool good) (v7:=.int .i64 kind) (v8:=.int .i64 id) (v9:=.int .i64 wait) HQ3.out
     have hfF:=store10_fr w3 qb (.int .i64 8) (.bool true) (.int .i64 (q : Int)) (.int .i64 0) (.slice ao dl cp) (.slice ao2 dn cp2) (.bool good) (.int .i64 kind) (.int .i64 id) (.int .i64 wait)
     obtain ⟨wF,hwF⟩ : ∃ x,((((((((((w3).setCell ⟨qb,0,none⟩ (.int .i64 8)).setCell ⟨qb,1,none⟩ (.bool true)).setCell ⟨qb,2,none⟩ (.int .i64 (q : Int))).setCell ⟨qb,3,none⟩ (.int .i64 0)).setCell ⟨qb,4,none⟩ (.slice ao dl cp)).setCell ⟨qb,5,none⟩ (.slice ao2 dn cp2)).setCell ⟨qb,6,none⟩ (.bool good)).setCell ⟨qb,7,none⟩ (.int .i64 kind)).setCell ⟨qb,8,none⟩ (.int .i64 id)).setCell ⟨qb,9,none⟩ (.int .i64 wait) = x:=⟨_,rfl⟩
     rw [hwF] at hQF hfF ⊢
     clear hwF
     refine bodyPost_ret (results_cell_row rfl _ _ qb 39 #[.int .i64 8,.bool true,.int .i64 (q : Int),.int .i64 0,.slice ao dl cp,.slice ao2 dn cp2,.bool good,.int .i64 kind,.int .i64 id,.int .i64 wait] (0,0) _ rfl hQF Tryz.underlying39 rfl (by kernel_rfl)) rfl ?_
     exact ⟨(q : Int),0,HWQ.out,rfl,Fr.step HF3.out hfF (fun k hk e=>by have:=HPQ.out;omega)⟩
    have p3 : (k == 0) = false:=by simp [hk0]
    clear hk0
    go_wp2_with fail
    go_roundw
    case rel=>exact ⟨m,_,(q : Int),rfl,congrArg (Value.int .i64) HWM.out,by have:=HMQ.out;have:=HQN.out;omega,HWQ.out,HP3.out,HQ3.out,HF3.out⟩
    case measure=>rw [HWM.out];simp only [intOf];have:=HMQ.out;omega
end Go.Proofs.YtnkelaohcbdjnaaGreat
