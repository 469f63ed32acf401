/- May. -/
import Derived.Test.YtnkelaohcbdjnaaGreatK
import Derived.Deep.QuietTactic
import Derived.BigQuiet
import Derived.Deep.Cut
import Derived.Deep.DeepCutAuto
set_option linter.unusedVariables false
set_option linter.unusedSimpArgs false
namespace Go.Proofs.YtnkelaohcbdjnaaGreat
open Go.RowKit Go.Maps
def fnum (v : Int) : Bool:=decide (0 ≤ v) && decide (v ≤ 1048576)
def tick (v : Int) : Bool:=decide (1 ≤ v) && decide (v ≤ 1048576)
theorem fnum_any (v : Int) (W : World) : Calls Tryz.prog 18 #[.int .i64 v] W fun e W'=>e = .returned (.bool (fnum v)) ∧ W = W':=by
 unfold fnum
 by_cases h1 : 0 ≤ v <;> by_cases h2 : v ≤ 1048576 <;> simp only [h1,h2,decide_true,decide_false,Bool.and_true,Bool.and_false] <;> (go_enter Tryz.func18,Tryz.ntmps18;go_wp2;go_ret;exact ⟨rfl,rfl⟩)
theorem tick_any (v : Int) (W : World) : Calls Tryz.prog 19 #[.int .i64 v] W fun e W'=>e = .returned (.bool (tick v)) ∧ W = W':=by
 unfold tick
 by_cases h1 : 1 ≤ v <;> by_cases h2 : v ≤ 1048576 <;> simp only [h1,h2,decide_true,decide_false,Bool.and_true,Bool.and_false] <;> (go_enter Tryz.func19,Tryz.ntmps19;go_wp2;go_ret;exact ⟨rfl,rfl⟩)
theorem rfnum_any (v : Int) (W : World) : Calls Tryz.prog 23 #[.int .i64 v] W fun e W'=>e = .returned (.bool (fnum v)) ∧ W = W':=by
 unfold fnum
 by_cases h1 : 0 ≤ v <;> by_cases h2 : v ≤ 1048576 <;> simp only [h1,h2,decide_true,decide_false,Bool.and_true,Bool.and_false] <;> (go_enter Tryz.func23,Tryz.ntmps23;go_wp2;go_ret;exact ⟨rfl,rfl⟩)
theorem rtick_any (v : Int) (W : World) : Calls Tryz.prog 24 #[.int .i64 v] W fun e W'=>e = .returned (.bool (tick v)) ∧ W = W':=by
 unfold tick
 by_cases h1 : 1 ≤ v <;> by_cases h2 : v ≤ 1048576 <;> simp only [h1,h2,decide_true,decide_false,Bool.and_true,Bool.and_false] <;> (go_enter Tryz.func24,Tryz.ntmps24;go_wp2;go_ret;exact ⟨rfl,rfl⟩)
theorem has1 (W : World) : Calls Tryz.prog 106 #[.int .i64 1] W fun e W'=>e = .returned (.agg #[.bool true,.bool true,.bool true,.bool true]) ∧ Fr (fun _=>False) W W':=by
 go_enter Tryz.func106,Tryz.ntmps106
 go_wp2
 refine bodyPost_ret (results_cell_row rfl _ _ W.heap.size 137 #[.bool true,.bool true,.bool true,.bool true] (0,0) _ rfl (World.alloc_heap_new W _) Tryz.underlying137 rfl (by kernel_rfl)) rfl ?_
 exact ⟨rfl,Fr.alloc _ _ _⟩
theorem has2 (W : World) : Calls Tryz.prog 106 #[.int .i64 2] W fun e W'=>e = .returned (.agg #[.bool true,.bool false,.bool true,.bool false]) ∧ Fr (fun _=>False) W W':=by
 go_enter Tryz.func106,Tryz.ntmps106
 go_wp2
 refine bodyPost_ret (results_cell_row rfl _ _ W.heap.size 137 #[.bool true,.bool false,.bool true,.bool false] (0,0) _ rfl (World.alloc_heap_new W _) Tryz.underlying137 rfl (by kernel_rfl)) rfl ?_
 exact ⟨rfl,Fr.alloc _ _ _⟩
theorem has3 (W : World) : Calls Tryz.prog 106 #[.int .i64 3] W fun e W'=>e = .returned (.agg #[.bool true,.bool false,.bool false,.bool false]) ∧ Fr (fun _=>False) W W':=by
 go_enter Tryz.func106,Tryz.ntmps106
 go_wp2
 refine bodyPost_ret (results_cell_row rfl _ _ W.heap.size 137 #[.bool true,.bool false,.bool false,.bool false] (0,0) _ rfl (World.alloc_heap_new W _) Tryz.underlying137 rfl (by kernel_rfl)) rfl ?_
 exact ⟨rfl,Fr.alloc _ _ _⟩
theorem has4 (W : World) : Calls Tryz.prog 106 #[.int .i64 4] W fun e W'=>e = .returned (.agg #[.bool true,.bool true,.bool true,.bool true]) ∧ Fr (fun _=>False) W W':=by
 go_enter Tryz.func106,Tryz.ntmps106
 go_wp2
 refine bodyPost_ret (results_cell_row rfl _ _ W.heap.size 137 #[.bool true,.bool true,.bool true,.bool true] (0,0) _ rfl (World.alloc_heap_new W _) Tryz.underlying137 rfl (by kernel_rfl)) rfl ?_
 exact ⟨rfl,Fr.alloc _ _ _⟩
theorem has5 (W : World) : Calls Tryz.prog 106 #[.int .i64 5] W fun e W'=>e = .returned (.agg #[.bool false,.bool false,.bool false,.bool true]) ∧ Fr (fun _=>False) W W':=by
 go_enter Tryz.func106,Tryz.ntmps106
 go_wp2
 refine bodyPost_ret (results_cell_row rfl _ _ W.heap.size 137 #[.bool false,.bool false,.bool false,.bool true] (0,0) _ rfl (World.alloc_heap_new W _) Tryz.underlying137 rfl (by kernel_rfl)) rfl ?_
 exact ⟨rfl,Fr.alloc _ _ _⟩
theorem has6 (W : World) : Calls Tryz.prog 106 #[.int .i64 6] W fun e W'=>e = .returned (.agg #[.bool false,.bool false,.bool false,.bool true]) ∧ Fr (fun _=>False) W W':=by
 go_enter Tryz.func106,Tryz.ntmps106
 go_wp2
 refine bodyPost_ret (results_cell_row rfl _ _ W.heap.size 137 #[.bool false,.bool false,.bool false,.bool true] (0,0) _ rfl (World.alloc_heap_new W _) Tryz.underlying137 rfl (by kernel_rfl)) rfl ?_
 exact ⟨rfl,Fr.alloc _ _ _⟩
theorem has8 (W : World) : Calls Tryz.prog 106 #[.int .i64 8] W fun e W'=>e = .returned (.agg #[.bool false,.bool false,.bool false,.bool true]) ∧ Fr (fun _=>False) W W':=by
 go_enter Tryz.func106,Tryz.ntmps106
 go_wp2
 refine bodyPost_ret (results_cell_row rfl _ _ W.heap.size 137 #[.bool false,.bool false,.bool false,.bool true] (0,0) _ rfl (World.alloc_heap_new W _) Tryz.underlying137 rfl (by kernel_rfl)) rfl ?_
 exact ⟨rfl,Fr.alloc _ _ _⟩
theorem hasx (k : Int) (p1 : (k == 1) = false) (p2 : (k == 2) = false) (p3 : (k == 3) = false) (p4 : (k == 4) = false) (p5 : (k == 5) = false) (p6 : (k == 6) = false) (p8 : (k == 8) = false) (W : World) : Calls Tryz.prog 106 #[.int .i64 k] W fun e W'=>e = .returned (.agg #[.bool false,.bool false,.bool false,.bool false]) ∧ Fr (fun _=>False) W W':=by
 go_enter Tryz.func106,Tryz.ntmps106
 go_wp2
 refine bodyPost_ret (results_cell_row rfl _ _ W.heap.size 137 #[.bool false,.bool false,.bool false,.bool false] (0,0) _ rfl (World.alloc_heap_new W _) Tryz.underlying137 rfl (by kernel_rfl)) rfl ?_
 exact ⟨rfl,Fr.alloc _ _ _⟩
/-- whether a decision may be -/
def mayF (hi hl hn hd : Bool) (i l n : Int) (dl : Nat) : Bool:=
 if (!hi && i != 0) || (!hl && l != 0) || (!hn && n != 0) || (!hd && dl != 0) then false else fnum i && (fnum l && ((!hn || tick n) && decide (dl ≤ 4096)))
def mayB (k i l n : Int) (dl : Nat) : Bool:=
 if k = 1 then mayF true true true true i l n dl else
 if k = 2 then mayF true false true false i l n dl else
 if k = 3 then mayF true false false false i l n dl else
 if k = 4 then mayF true true true true i l n dl else
 if k = 5 then mayF false false false true i l n dl else
 if k = 6 then mayF false false false true i l n dl else
 if k = 8 then mayF false false false true i l n dl else
 if k = 7 then mayF false false false false i l n dl else
 false
set_option maxRecDepth 100000 in
set_option maxHeartbeats 4000000 in
theorem may9_1 (i l n : Int) (ao : Option Addr) (dl cp : Nat) (W : World) : Calls Tryz.prog 92 #[.agg #[.int .i64 1,.int .i64 i,.int .i64 l,.int .i64 n,.slice ao dl cp]] W fun e W'=>e = .returned (.bool (mayF true true true true i l n dl)) ∧ Fr (fun _=>False) W W':=by
 go_enter Tryz.func92,Tryz.ntmps92
 go_upto_region 2 with (first | (go_at_call 106;refine (has1 _).mono ?_;rintro e w2 ⟨rfl,hf2⟩) | go_in)
 have hB:=(Blk.new W 52 #[.int .i64 1,.int .i64 i,.int .i64 l,.int .i64 n,.slice ao dl cp]).fr hf2 id |>.alloc (.cells #[.bool true,.bool true,.bool true,.bool true] 137)
 have hH:=Blk.new w2 137 #[.bool true,.bool true,.bool true,.bool true]
 have hF : Fr (fun _=>False) W (w2.alloc (.cells #[.bool true,.bool true,.bool true,.bool true] 137)):=((Fr.alloc _ W _).trans hf2).trans (Fr.alloc _ _ _)
 obtain ⟨w3,hw3⟩ : ∃ w3,w2.alloc (.cells #[.bool true,.bool true,.bool true,.bool true] 137) = w3:=⟨_,rfl⟩
 rw [hw3] at hB hH hF ⊢
 obtain ⟨g,hg⟩ : ∃ g,w2.heap.size = g:=⟨_,rfl⟩
 rw [hg] at hH ⊢
 have g0:=hH.cell 0
 have g1:=hH.cell 1
 have g2:=hH.cell 2
 have g3:=hH.cell 3
 obtain ⟨b,hb⟩ : ∃ b,W.heap.size = b:=⟨_,rfl⟩
 rw [hb] at hB ⊢
 have c0:=hB.cell 0
 have c1:=hB.cell 1
 have c2:=hB.cell 2
 have c3:=hB.cell 3
 have c4:=hB.cell 4
 simp only [lA,lB,lC] at c0 c1 c2 c3 c4 g0 g1 g2 g3
 have HF:=Lib.hid hF
 clear hB hF hw3 hb hH hf2 hg
 by_cases hfi : fnum i = true
 ·
   by_cases hfl : fnum l = true
   ·
     by_cases htn : tick n = true
     ·
       by_cases am : dl ≤ 4096
       ·have qm : decide ((dl : Int) ≤ 4096) = true:=decide_eq_true (by omega)
        have rm : decide (dl ≤ 4096) = true:=decide_eq_true am
        have HM : Hid (mayF true true true true i l n dl = true):=Lib.hid (by simp [mayF,hfi,hfl,htn,rm])
        go_wp2_with (first | (go_at_call 18;refine (fnum_any _ _).mono ?_;rintro e w4 ⟨rfl,rfl⟩) | (go_at_call 19;refine (tick_any _ _).mono ?_;rintro e w4 ⟨rfl,rfl⟩) | go_in)
        go_ret
        exact ⟨by rw [HM.out];rfl,HF.out⟩
       ·have qm : decide ((dl : Int) ≤ 4096) = false:=decide_eq_false (by omega)
        have rm : decide (dl ≤ 4096) = false:=decide_eq_false am
        have HM : Hid (mayF true true true true i l n dl = false):=Lib.hid (by simp [mayF,hfi,hfl,htn,rm])
        go_wp2_with (first | (go_at_call 18;refine (fnum_any _ _).mono ?_;rintro e w4 ⟨rfl,rfl⟩) | (go_at_call 19;refine (tick_any _ _).mono ?_;rintro e w4 ⟨rfl,rfl⟩) | go_in)
        go_ret
        exact ⟨by rw [HM.out];rfl,HF.out⟩
     ·have htn : tick n = false:=by simpa using htn
      have HM : Hid (mayF true true true true i l n dl = false):=Lib.hid (by simp [mayF,hfi,hfl,htn])
      go_wp2_with (first | (go_at_call 18;refine (fnum_any _ _).mono ?_;rintro e w4 ⟨rfl,rfl⟩) | (go_at_call 19;refine (tick_any _ _).mono ?_;rintro e w4 ⟨rfl,rfl⟩) | go_in)
      go_ret
      exact ⟨by rw [HM.out];rfl,HF.out⟩
   ·have hfl : fnum l = false:=by simpa using hfl
    have HM : Hid (mayF true true true true i l n dl = false):=Lib.hid (by simp [mayF,hfi,hfl])
    go_wp2_with (first | (go_at_call 18;refine (fnum_any _ _).mono ?_;rintro e w4 ⟨rfl,rfl⟩) | (go_at_call 19;refine (tick_any _ _).mono ?_;rintro e w4 ⟨rfl,rfl⟩) | go_in)
    go_ret
    exact ⟨by rw [HM.out];rfl,HF.out⟩
 ·have hfi : fnum i = false:=by simpa using hfi
  have HM : Hid (mayF true true true true i l n dl = false):=Lib.hid (by simp [mayF,hfi])
  go_wp2_with (first | (go_at_call 18;refine (fnum_any _ _).mono ?_;rintro e w4 ⟨rfl,rfl⟩) | (go_at_call 19;refine (tick_any _ _).mono ?_;rintro e w4 ⟨rfl,rfl⟩) | go_in)
  go_ret
  exact ⟨by rw [HM.out];rfl,HF.out⟩
set_option maxRecDepth 100000 in
set_option maxHeartbeats 4000000 in
theorem may9_2 (i l n : Int) (ao : Option Addr) (dl cp : Nat) (W : World) : Calls Tryz.prog 92 #[.agg #[.int .i64 2,.int .i64 i,.int .i64 l,.int .i64 n,.slice ao dl cp]] W fun e W'=>e = .returned (.bool (mayF true false true false i l n dl)) ∧ Fr (fun _=>False) W W':=by
 go_enter Tryz.func92,Tryz.ntmps92
 go_upto_region 2 with (first | (go_at_call 106;refine (has2 _).mono ?_;rintro e w2 ⟨rfl,hf2⟩) | go_in)
 have hB:=(Blk.new W 52 #[.int .i64 2,.int .i64 i,.int .i64 l,.int .i64 n,.slice ao dl cp]).fr hf2 id |>.alloc (.cells #[.bool true,.bool false,.bool true,.bool false] 137)
 have hH:=Blk.new w2 137 #[.bool true,.bool false,.bool true,.bool false]
 have hF : Fr (fun _=>False) W (w2.alloc (.cells #[.bool true,.bool false,.bool true,.bool false] 137)):=((Fr.alloc _ W _).trans hf2).trans (Fr.alloc _ _ _)
 obtain ⟨w3,hw3⟩ : ∃ w3,w2.alloc (.cells #[.bool true,.bool false,.bool true,.bool false] 137) = w3:=⟨_,rfl⟩
 rw [hw3] at hB hH hF ⊢
 obtain ⟨g,hg⟩ : ∃ g,w2.heap.size = g:=⟨_,rfl⟩
 rw [hg] at hH ⊢
 have g0:=hH.cell 0
 have g1:=hH.cell 1
 have g2:=hH.cell 2
 have g3:=hH.cell 3
 obtain ⟨b,hb⟩ : ∃ b,W.heap.size = b:=⟨_,rfl⟩
 rw [hb] at hB ⊢
 have c0:=hB.cell 0
 have c1:=hB.cell 1
 have c2:=hB.cell 2
 have c3:=hB.cell 3
 have c4:=hB.cell 4
 simp only [lA,lB,lC] at c0 c1 c2 c3 c4 g0 g1 g2 g3
 have HF:=Lib.hid hF
 clear hB hF hw3 hb hH hf2 hg
 by_cases al : l = 0
 ·subst al
  have ql : ((0 : Int) != 0) = false:=rfl
  have rl : ((0 : Int) == 0) = true:=rfl
  have hfl : fnum 0 = true:=rfl
  by_cases ad : dl = 0
  ·subst ad
   by_cases hfi : fnum i = true
   ·
     by_cases htn : tick n = true
     ·
       have HM : Hid (mayF true false true false i 0 n 0 = true):=Lib.hid (by simp [mayF,hfl,hfi,htn])
       go_wp2_with (first | (go_at_call 18;refine (fnum_any _ _).mono ?_;rintro e w4 ⟨rfl,rfl⟩) | (go_at_call 19;refine (tick_any _ _).mono ?_;rintro e w4 ⟨rfl,rfl⟩) | go_in)
       go_ret
       exact ⟨by rw [HM.out];rfl,HF.out⟩
     ·have htn : tick n = false:=by simpa using htn
      have HM : Hid (mayF true false true false i 0 n 0 = false):=Lib.hid (by simp [mayF,hfl,hfi,htn])
      go_wp2_with (first | (go_at_call 18;refine (fnum_any _ _).mono ?_;rintro e w4 ⟨rfl,rfl⟩) | (go_at_call 19;refine (tick_any _ _).mono ?_;rintro e w4 ⟨rfl,rfl⟩) | go_in)
      go_ret
      exact ⟨by rw [HM.out];rfl,HF.out⟩
   ·have hfi : fnum i = false:=by simpa using hfi
    have HM : Hid (mayF true false true false i 0 n 0 = false):=Lib.hid (by simp [mayF,hfl,hfi])
    go_wp2_with (first | (go_at_call 18;refine (fnum_any _ _).mono ?_;rintro e w4 ⟨rfl,rfl⟩) | (go_at_call 19;refine (tick_any _ _).mono ?_;rintro e w4 ⟨rfl,rfl⟩) | go_in)
    go_ret
    exact ⟨by rw [HM.out];rfl,HF.out⟩
  ·have qd : (dl != 0) = true:=by simp [ad]
   have rd : decide ((0 : Int) < (dl : Int)) = true:=decide_eq_true (by omega)
   have sd : decide ((dl : Int) > 0) = true:=decide_eq_true (by omega)
   have HM : Hid (mayF true false true false i 0 n dl = false):=Lib.hid (by simp [mayF,hfl,qd])
   go_wp2_with (first | (go_at_call 18;refine (fnum_any _ _).mono ?_;rintro e w4 ⟨rfl,rfl⟩) | (go_at_call 19;refine (tick_any _ _).mono ?_;rintro e w4 ⟨rfl,rfl⟩) | go_in)
   go_ret
   exact ⟨by rw [HM.out];rfl,HF.out⟩
 ·have ql : (l != 0) = true:=by simp [al]
  have rl : (l == 0) = false:=by simp [al]
  have HM : Hid (mayF true false true false i l n dl = false):=Lib.hid (by simp [mayF,ql])
  go_wp2_with (first | (go_at_call 18;refine (fnum_any _ _).mono ?_;rintro e w4 ⟨rfl,rfl⟩) | (go_at_call 19;refine (tick_any _ _).mono ?_;rintro e w4 ⟨rfl,rfl⟩) | go_in)
  go_ret
  exact ⟨by rw [HM.out];rfl,HF.out⟩
set_option maxRecDepth 100000 in
set_option maxHeartbeats 4000000 in
theorem may9_3 (i l n : Int) (ao : Option Addr) (dl cp : Nat) (W : World) : Calls Tryz.prog 92 #[.agg #[.int .i64 3,.int .i64 i,.int .i64 l,.int .i64 n,.slice ao dl cp]] W fun e W'=>e = .returned (.bool (mayF true false false false i l n dl)) ∧ Fr (fun _=>False) W W':=by
 go_enter Tryz.func92,Tryz.ntmps92
 go_upto_region 2 with (first | (go_at_call 106;refine (has3 _).mono ?_;rintro e w2 ⟨rfl,hf2⟩) | go_in)
 have hB:=(Blk.new W 52 #[.int .i64 3,.int .i64 i,.int .i64 l,.int .i64 n,.slice ao dl cp]).fr hf2 id |>.alloc (.cells #[.bool true,.bool false,.bool false,.bool false] 137)
 have hH:=Blk.new w2 137 #[.bool true,.bool false,.bool false,.bool false]
 have hF : Fr (fun _=>False) W (w2.alloc (.cells #[.bool true,.bool false,.bool false,.bool false] 137)):=((Fr.alloc _ W _).trans hf2).trans (Fr.alloc _ _ _)
 obtain ⟨w3,hw3⟩ : ∃ w3,w2.alloc (.cells #[.bool true,.bool false,.bool false,.bool false] 137) = w3:=⟨_,rfl⟩
 rw [hw3] at hB hH hF ⊢
 obtain ⟨g,hg⟩ : ∃ g,w2.heap.size = g:=⟨_,rfl⟩
 rw [hg] at hH ⊢
 have g0:=hH.cell 0
 have g1:=hH.cell 1
 have g2:=hH.cell 2
 have g3:=hH.cell 3
 obtain ⟨b,hb⟩ : ∃ b,W.heap.size = b:=⟨_,rfl⟩
 rw [hb] at hB ⊢
 have c0:=hB.cell 0
 have c1:=hB.cell 1
 have c2:=hB.cell 2
 have c3:=hB.cell 3
 have c4:=hB.cell 4
 simp only [lA,lB,lC] at c0 c1 c2 c3 c4 g0 g1 g2 g3
 have HF:=Lib.hid hF
 clear hB hF hw3 hb hH hf2 hg
 by_cases al : l = 0
 ·subst al
  have ql : ((0 : Int) != 0) = false:=rfl
  have rl : ((0 : Int) == 0) = true:=rfl
  have hfl : fnum 0 = true:=rfl
  by_cases an : n = 0
  ·subst an
   have qn : ((0 : Int) != 0) = false:=rfl
   have rn : ((0 : Int) == 0) = true:=rfl
   have hfn : fnum 0 = true:=rfl
   by_cases ad : dl = 0
   ·subst ad
    by_cases hfi : fnum i = true
    ·
      have HM : Hid (mayF true false false false i 0 0 0 = true):=Lib.hid (by simp [mayF,hfl,hfn,hfi])
      go_wp2_with (first | (go_at_call 18;refine (fnum_any _ _).mono ?_;rintro e w4 ⟨rfl,rfl⟩) | (go_at_call 19;refine (tick_any _ _).mono ?_;rintro e w4 ⟨rfl,rfl⟩) | go_in)
      go_ret
      exact ⟨by rw [HM.out];rfl,HF.out⟩
    ·have hfi : fnum i = false:=by simpa using hfi
     have HM : Hid (mayF true false false false i 0 0 0 = false):=Lib.hid (by simp [mayF,hfl,hfn,hfi])
     go_wp2_with (first | (go_at_call 18;refine (fnum_any _ _).mono ?_;rintro e w4 ⟨rfl,rfl⟩) | (go_at_call 19;refine (tick_any _ _).mono ?_;rintro e w4 ⟨rfl,rfl⟩) | go_in)
     go_ret
     exact ⟨by rw [HM.out];rfl,HF.out⟩
   ·have qd : (dl != 0) = true:=by simp [ad]
    have rd : decide ((0 : Int) < (dl : Int)) = true:=decide_eq_true (by omega)
    have sd : decide ((dl : Int) > 0) = true:=decide_eq_true (by omega)
    have HM : Hid (mayF true false false false i 0 0 dl = false):=Lib.hid (by simp [mayF,hfl,hfn,qd])
    go_wp2_with (first | (go_at_call 18;refine (fnum_any _ _).mono ?_;rintro e w4 ⟨rfl,rfl⟩) | (go_at_call 19;refine (tick_any _ _).mono ?_;rintro e w4 ⟨rfl,rfl⟩) | go_in)
    go_ret
    exact ⟨by rw [HM.out];rfl,HF.out⟩
  ·have qn : (n != 0) = true:=by simp [an]
   have rn : (n == 0) = false:=by simp [an]
   have HM : Hid (mayF true false false false i 0 n dl = false):=Lib.hid (by simp [mayF,hfl,qn])
   go_wp2_with (first | (go_at_call 18;refine (fnum_any _ _).mono ?_;rintro e w4 ⟨rfl,rfl⟩) | (go_at_call 19;refine (tick_any _ _).mono ?_;rintro e w4 ⟨rfl,rfl⟩) | go_in)
   go_ret
   exact ⟨by rw [HM.out];rfl,HF.out⟩
 ·have ql : (l != 0) = true:=by simp [al]
  have rl : (l == 0) = false:=by simp [al]
  have HM : Hid (mayF true false false false i l n dl = false):=Lib.hid (by simp [mayF,ql])
  go_wp2_with (first | (go_at_call 18;refine (fnum_any _ _).mono ?_;rintro e w4 ⟨rfl,rfl⟩) | (go_at_call 19;refine (tick_any _ _).mono ?_;rintro e w4 ⟨rfl,rfl⟩) | go_in)
  go_ret
  exact ⟨by rw [HM.out];rfl,HF.out⟩
set_option maxRecDepth 100000 in
set_option maxHeartbeats 4000000 in
theorem may9_4 (i l n : Int) (ao : Option Addr) (dl cp : Nat) (W : World) : Calls Tryz.prog 92 #[.agg #[.int .i64 4,.int .i64 i,.int .i64 l,.int .i64 n,.slice ao dl cp]] W fun e W'=>e = .returned (.bool (mayF true true true true i l n dl)) ∧ Fr (fun _=>False) W W':=by
 go_enter Tryz.func92,Tryz.ntmps92
 go_upto_region 2 with (first | (go_at_call 106;refine (has4 _).mono ?_;rintro e w2 ⟨rfl,hf2⟩) | go_in)
 have hB:=(Blk.new W 52 #[.int .i64 4,.int .i64 i,.int .i64 l,.int .i64 n,.slice ao dl cp]).fr hf2 id |>.alloc (.cells #[.bool true,.bool true,.bool true,.bool true] 137)
 have hH:=Blk.new w2 137 #[.bool true,.bool true,.bool true,.bool true]
 have hF : Fr (fun _=>False) W (w2.alloc (.cells #[.bool true,.bool true,.bool true,.bool true] 137)):=((Fr.alloc _ W _).trans hf2).trans (Fr.alloc _ _ _)
 obtain ⟨w3,hw3⟩ : ∃ w3,w2.alloc (.cells #[.bool true,.bool true,.bool true,.bool true] 137) = w3:=⟨_,rfl⟩
 rw [hw3] at hB hH hF ⊢
 obtain ⟨g,hg⟩ : ∃ g,w2.heap.size = g:=⟨_,rfl⟩
 rw [hg] at hH ⊢
 have g0:=hH.cell 0
 have g1:=hH.cell 1
 have g2:=hH.cell 2
 have g3:=hH.cell 3
 obtain ⟨b,hb⟩ : ∃ b,W.heap.size = b:=⟨_,rfl⟩
 rw [hb] at hB ⊢
 have c0:=hB.cell 0
 have c1:=hB.cell 1
 have c2:=hB.cell 2
 have c3:=hB.cell 3
 have c4:=hB.cell 4
 simp only [lA,lB,lC] at c0 c1 c2 c3 c4 g0 g1 g2 g3
 have HF:=Lib.hid hF
 clear hB hF hw3 hb hH hf2 hg
 by_cases hfi : fnum i = true
 ·
   by_cases hfl : fnum l = true
   ·
     by_cases htn : tick n = true
     ·
       by_cases am : dl ≤ 4096
       ·have qm : decide ((dl : Int) ≤ 4096) = true:=decide_eq_true (by omega)
        have rm : decide (dl ≤ 4096) = true:=decide_eq_true am
        have HM : Hid (mayF true true true true i l n dl = true):=Lib.hid (by simp [mayF,hfi,hfl,htn,rm])
        go_wp2_with (first | (go_at_call 18;refine (fnum_any _ _).mono ?_;rintro e w4 ⟨rfl,rfl⟩) | (go_at_call 19;refine (tick_any _ _).mono ?_;rintro e w4 ⟨rfl,rfl⟩) | go_in)
        go_ret
        exact ⟨by rw [HM.out];rfl,HF.out⟩
       ·have qm : decide ((dl : Int) ≤ 4096) = false:=decide_eq_false (by omega)
        have rm : decide (dl ≤ 4096) = false:=decide_eq_false am
        have HM : Hid (mayF true true true true i l n dl = false):=Lib.hid (by simp [mayF,hfi,hfl,htn,rm])
        go_wp2_with (first | (go_at_call 18;refine (fnum_any _ _).mono ?_;rintro e w4 ⟨rfl,rfl⟩) | (go_at_call 19;refine (tick_any _ _).mono ?_;rintro e w4 ⟨rfl,rfl⟩) | go_in)
        go_ret
        exact ⟨by rw [HM.out];rfl,HF.out⟩
     ·have htn : tick n = false:=by simpa using htn
      have HM : Hid (mayF true true true true i l n dl = false):=Lib.hid (by simp [mayF,hfi,hfl,htn])
      go_wp2_with (first | (go_at_call 18;refine (fnum_any _ _).mono ?_;rintro e w4 ⟨rfl,rfl⟩) | (go_at_call 19;refine (tick_any _ _).mono ?_;rintro e w4 ⟨rfl,rfl⟩) | go_in)
      go_ret
      exact ⟨by rw [HM.out];rfl,HF.out⟩
   ·have hfl : fnum l = false:=by simpa using hfl
    have HM : Hid (mayF true true true true i l n dl = false):=Lib.hid (by simp [mayF,hfi,hfl])
    go_wp2_with (first | (go_at_call 18;refine (fnum_any _ _).mono ?_;rintro e w4 ⟨rfl,rfl⟩) | (go_at_call 19;refine (tick_any _ _).mono ?_;rintro e w4 ⟨rfl,rfl⟩) | go_in)
    go_ret
    exact ⟨by rw [HM.out];rfl,HF.out⟩
 ·have hfi : fnum i = false:=by simpa using hfi
  have HM : Hid (mayF true true true true i l n dl = false):=Lib.hid (by simp [mayF,hfi])
  go_wp2_with (first | (go_at_call 18;refine (fnum_any _ _).mono ?_;rintro e w4 ⟨rfl,rfl⟩) | (go_at_call 19;refine (tick_any _ _).mono ?_;rintro e w4 ⟨rfl,rfl⟩) | go_in)
  go_ret
  exact ⟨by rw [HM.out];rfl,HF.out⟩
set_option maxRecDepth 100000 in
set_option maxHeartbeats 4000000 in
theorem may9_5 (i l n : Int) (ao : Option Addr) (dl cp : Nat) (W : World) : Calls Tryz.prog 92 #[.agg #[.int .i64 5,.int .i64 i,.int .i64 l,.int .i64 n,.slice ao dl cp]] W fun e W'=>e = .returned (.bool (mayF false false false true i l n dl)) ∧ Fr (fun _=>False) W W':=by
 go_enter Tryz.func92,Tryz.ntmps92
 go_upto_region 2 with (first | (go_at_call 106;refine (has5 _).mono ?_;rintro e w2 ⟨rfl,hf2⟩) | go_in)
 have hB:=(Blk.new W 52 #[.int .i64 5,.int .i64 i,.int .i64 l,.int .i64 n,.slice ao dl cp]).fr hf2 id |>.alloc (.cells #[.bool false,.bool false,.bool false,.bool true] 137)
 have hH:=Blk.new w2 137 #[.bool false,.bool false,.bool false,.bool true]
 have hF : Fr (fun _=>False) W (w2.alloc (.cells #[.bool false,.bool false,.bool false,.bool true] 137)):=((Fr.alloc _ W _).trans hf2).trans (Fr.alloc _ _ _)
 obtain ⟨w3,hw3⟩ : ∃ w3,w2.alloc (.cells #[.bool false,.bool false,.bool false,.bool true] 137) = w3:=⟨_,rfl⟩
 rw [hw3] at hB hH hF ⊢
 obtain ⟨g,hg⟩ : ∃ g,w2.heap.size = g:=⟨_,rfl⟩
 rw [hg] at hH ⊢
 have g0:=hH.cell 0
 have g1:=hH.cell 1
 have g2:=hH.cell 2
 have g3:=hH.cell 3
 obtain ⟨b,hb⟩ : ∃ b,W.heap.size = b:=⟨_,rfl⟩
 rw [hb] at hB ⊢
 have c0:=hB.cell 0
 have c1:=hB.cell 1
 have c2:=hB.cell 2
 have c3:=hB.cell 3
 have c4:=hB.cell 4
 simp only [lA,lB,lC] at c0 c1 c2 c3 c4 g0 g1 g2 g3
 have HF:=Lib.hid hF
 clear hB hF hw3 hb hH hf2 hg
 by_cases ai : i = 0
 ·subst ai
  have qi : ((0 : Int) != 0) = false:=rfl
  have ri : ((0 : Int) == 0) = true:=rfl
  have hfi : fnum 0 = true:=rfl
  by_cases al : l = 0
  ·subst al
   have ql : ((0 : Int) != 0) = false:=rfl
   have rl : ((0 : Int) == 0) = true:=rfl
   have hfl : fnum 0 = true:=rfl
   by_cases an : n = 0
   ·subst an
    have qn : ((0 : Int) != 0) = false:=rfl
    have rn : ((0 : Int) == 0) = true:=rfl
    have hfn : fnum 0 = true:=rfl
    by_cases am : dl ≤ 4096
    ·have qm : decide ((dl : Int) ≤ 4096) = true:=decide_eq_true (by omega)
     have rm : decide (dl ≤ 4096) = true:=decide_eq_true am
     have HM : Hid (mayF false false false true 0 0 0 dl = true):=Lib.hid (by simp [mayF,hfi,hfl,hfn,rm])
     go_wp2_with (first | (go_at_call 18;refine (fnum_any _ _).mono ?_;rintro e w4 ⟨rfl,rfl⟩) | (go_at_call 19;refine (tick_any _ _).mono ?_;rintro e w4 ⟨rfl,rfl⟩) | go_in)
     go_ret
     exact ⟨by rw [HM.out];rfl,HF.out⟩
    ·have qm : decide ((dl : Int) ≤ 4096) = false:=decide_eq_false (by omega)
     have rm : decide (dl ≤ 4096) = false:=decide_eq_false am
     have HM : Hid (mayF false false false true 0 0 0 dl = false):=Lib.hid (by simp [mayF,hfi,hfl,hfn,rm])
     go_wp2_with (first | (go_at_call 18;refine (fnum_any _ _).mono ?_;rintro e w4 ⟨rfl,rfl⟩) | (go_at_call 19;refine (tick_any _ _).mono ?_;rintro e w4 ⟨rfl,rfl⟩) | go_in)
     go_ret
     exact ⟨by rw [HM.out];rfl,HF.out⟩
   ·have qn : (n != 0) = true:=by simp [an]
    have rn : (n == 0) = false:=by simp [an]
    have HM : Hid (mayF false false false true 0 0 n dl = false):=Lib.hid (by simp [mayF,hfi,hfl,qn])
    go_wp2_with (first | (go_at_call 18;refine (fnum_any _ _).mono ?_;rintro e w4 ⟨rfl,rfl⟩) | (go_at_call 19;refine (tick_any _ _).mono ?_;rintro e w4 ⟨rfl,rfl⟩) | go_in)
    go_ret
    exact ⟨by rw [HM.out];rfl,HF.out⟩
  ·have ql : (l != 0) = true:=by simp [al]
   have rl : (l == 0) = false:=by simp [al]
   have HM : Hid (mayF false false false true 0 l n dl = false):=Lib.hid (by simp [mayF,hfi,ql])
   go_wp2_with (first | (go_at_call 18;refine (fnum_any _ _).mono ?_;rintro e w4 ⟨rfl,rfl⟩) | (go_at_call 19;refine (tick_any _ _).mono ?_;rintro e w4 ⟨rfl,rfl⟩) | go_in)
   go_ret
   exact ⟨by rw [HM.out];rfl,HF.out⟩
 ·have qi : (i != 0) = true:=by simp [ai]
  have ri : (i == 0) = false:=by simp [ai]
  have HM : Hid (mayF false false false true i l n dl = false):=Lib.hid (by simp [mayF,qi])
  go_wp2_with (first | (go_at_call 18;refine (fnum_any _ _).mono ?_;rintro e w4 ⟨rfl,rfl⟩) | (go_at_call 19;refine (tick_any _ _).mono ?_;rintro e w4 ⟨rfl,rfl⟩) | go_in)
  go_ret
  exact ⟨by rw [HM.out];rfl,HF.out⟩
set_option maxRecDepth 100000 in
set_option maxHeartbeats 4000000 in
theorem may9_6 (i l n : Int) (ao : Option Addr) (dl cp : Nat) (W : World) : Calls Tryz.prog 92 #[.agg #[.int .i64 6,.int .i64 i,.int .i64 l,.int .i64 n,.slice ao dl cp]] W fun e W'=>e = .returned (.bool (mayF false false false true i l n dl)) ∧ Fr (fun _=>False) W W':=by
 go_enter Tryz.func92,Tryz.ntmps92
 go_upto_region 2 with (first | (go_at_call 106;refine (has6 _).mono ?_;rintro e w2 ⟨rfl,hf2⟩) | go_in)
 have hB:=(Blk.new W 52 #[.int .i64 6,.int .i64 i,.int .i64 l,.int .i64 n,.slice ao dl cp]).fr hf2 id |>.alloc (.cells #[.bool false,.bool false,.bool false,.bool true] 137)
 have hH:=Blk.new w2 137 #[.bool false,.bool false,.bool false,.bool true]
 have hF : Fr (fun _=>False) W (w2.alloc (.cells #[.bool false,.bool false,.bool false,.bool true] 137)):=((Fr.alloc _ W _).trans hf2).trans (Fr.alloc _ _ _)
 obtain ⟨w3,hw3⟩ : ∃ w3,w2.alloc (.cells #[.bool false,.bool false,.bool false,.bool true] 137) = w3:=⟨_,rfl⟩
 rw [hw3] at hB hH hF ⊢
 obtain ⟨g,hg⟩ : ∃ g,w2.heap.size = g:=⟨_,rfl⟩
 rw [hg] at hH ⊢
 have g0:=hH.cell 0
 have g1:=hH.cell 1
 have g2:=hH.cell 2
 have g3:=hH.cell 3
 obtain ⟨b,hb⟩ : ∃ b,W.heap.size = b:=⟨_,rfl⟩
 rw [hb] at hB ⊢
 have c0:=hB.cell 0
 have c1:=hB.cell 1
 have c2:=hB.cell 2
 have c3:=hB.cell 3
 have c4:=hB.cell 4
 simp only [lA,lB,lC] at c0 c1 c2 c3 c4 g0 g1 g2 g3
 have HF:=Lib.hid hF
 clear hB hF hw3 hb hH hf2 hg
 by_cases ai : i = 0
 ·subst ai
  have qi : ((0 : Int) != 0) = false:=rfl
  have ri : ((0 : Int) == 0) = true:=rfl
  have hfi : fnum 0 = true:=rfl
  by_cases al : l = 0
  ·subst al
   have ql : ((0 : Int) != 0) = false:=rfl
   have rl : ((0 : Int) == 0) = true:=rfl
   have hfl : fnum 0 = true:=rfl
   by_cases an : n = 0
   ·subst an
    have qn : ((0 : Int) != 0) = false:=rfl
    have rn : ((0 : Int) == 0) = true:=rfl
    have hfn : fnum 0 = true:=rfl
    by_cases am : dl ≤ 4096
    ·have qm : decide ((dl : Int) ≤ 4096) = true:=decide_eq_true (by omega)
     have rm : decide (dl ≤ 4096) = true:=decide_eq_true am
     have HM : Hid (mayF false false false true 0 0 0 dl = true):=Lib.hid (by simp [mayF,hfi,hfl,hfn,rm])
     go_wp2_with (first | (go_at_call 18;refine (fnum_any _ _).mono ?_;rintro e w4 ⟨rfl,rfl⟩) | (go_at_call 19;refine (tick_any _ _).mono ?_;rintro e w4 ⟨rfl,rfl⟩) | go_in)
     go_ret
     exact ⟨by rw [HM.out];rfl,HF.out⟩
    ·have qm : decide ((dl : Int) ≤ 4096) = false:=decide_eq_false (by omega)
     have rm : decide (dl ≤ 4096) = false:=decide_eq_false am
     have HM : Hid (mayF false false false true 0 0 0 dl = false):=Lib.hid (by simp [mayF,hfi,hfl,hfn,rm])
     go_wp2_with (first | (go_at_call 18;refine (fnum_any _ _).mono ?_;rintro e w4 ⟨rfl,rfl⟩) | (go_at_call 19;refine (tick_any _ _).mono ?_;rintro e w4 ⟨rfl,rfl⟩) | go_in)
     go_ret
     exact ⟨by rw [HM.out];rfl,HF.out⟩
   ·have qn : (n != 0) = true:=by simp [an]
    have rn : (n == 0) = false:=by simp [an]
    have HM : Hid (mayF false false false true 0 0 n dl = false):=Lib.hid (by simp [mayF,hfi,hfl,qn])
    go_wp2_with (first | (go_at_call 18;refine (fnum_any _ _).mono ?_;rintro e w4 ⟨rfl,rfl⟩) | (go_at_call 19;refine (tick_any _ _).mono ?_;rintro e w4 ⟨rfl,rfl⟩) | go_in)
    go_ret
    exact ⟨by rw [HM.out];rfl,HF.out⟩
  ·have ql : (l != 0) = true:=by simp [al]
   have rl : (l == 0) = false:=by simp [al]
   have HM : Hid (mayF false false false true 0 l n dl = false):=Lib.hid (by simp [mayF,hfi,ql])
   go_wp2_with (first | (go_at_call 18;refine (fnum_any _ _).mono ?_;rintro e w4 ⟨rfl,rfl⟩) | (go_at_call 19;refine (tick_any _ _).mono ?_;rintro e w4 ⟨rfl,rfl⟩) | go_in)
   go_ret
   exact ⟨by rw [HM.out];rfl,HF.out⟩
 ·have qi : (i != 0) = true:=by simp [ai]
  have ri : (i == 0) = false:=by simp [ai]
  have HM : Hid (mayF false false false true i l n dl = false):=Lib.hid (by simp [mayF,qi])
  go_wp2_with (first | (go_at_call 18;refine (fnum_any _ _).mono ?_;rintro e w4 ⟨rfl,rfl⟩) | (go_at_call 19;refine (tick_any _ _).mono ?_;rintro e w4 ⟨rfl,rfl⟩) | go_in)
  go_ret
  exact ⟨by rw [HM.out];rfl,HF.out⟩
set_option maxRecDepth 100000 in
set_option maxHeartbeats 4000000 in
theorem may9_7 (i l n : Int) (ao : Option Addr) (dl cp : Nat) (W : World) : Calls Tryz.prog 92 #[.agg #[.int .i64 7,.int .i64 i,.int .i64 l,.int .i64 n,.slice ao dl cp]] W fun e W'=>e = .returned (.bool (mayF false false false false i l n dl)) ∧ Fr (fun _=>False) W W':=by
 go_enter Tryz.func92,Tryz.ntmps92
 go_upto_region 2 with (first | (go_at_call 106;refine (hasx 7 rfl rfl rfl rfl rfl rfl rfl _).mono ?_;rintro e w2 ⟨rfl,hf2⟩) | go_in)
 have hB:=(Blk.new W 52 #[.int .i64 7,.int .i64 i,.int .i64 l,.int .i64 n,.slice ao dl cp]).fr hf2 id |>.alloc (.cells #[.bool false,.bool false,.bool false,.bool false] 137)
 have hH:=Blk.new w2 137 #[.bool false,.bool false,.bool false,.bool false]
 have hF : Fr (fun _=>False) W (w2.alloc (.cells #[.bool false,.bool false,.bool false,.bool false] 137)):=((Fr.alloc _ W _).trans hf2).trans (Fr.alloc _ _ _)
 obtain ⟨w3,hw3⟩ : ∃ w3,w2.alloc (.cells #[.bool false,.bool false,.bool false,.bool false] 137) = w3:=⟨_,rfl⟩
 rw [hw3] at hB hH hF ⊢
 obtain ⟨g,hg⟩ : ∃ g,w2.heap.size = g:=⟨_,rfl⟩
 rw [hg] at hH ⊢
 have g0:=hH.cell 0
 have g1:=hH.cell 1
 have g2:=hH.cell 2
 have g3:=hH.cell 3
 obtain ⟨b,hb⟩ : ∃ b,W.heap.size = b:=⟨_,rfl⟩
 rw [hb] at hB ⊢
 have c0:=hB.cell 0
 have c1:=hB.cell 1
 have c2:=hB.cell 2
 have c3:=hB.cell 3
 have c4:=hB.cell 4
 simp only [lA,lB,lC] at c0 c1 c2 c3 c4 g0 g1 g2 g3
 have HF:=Lib.hid hF
 clear hB hF hw3 hb hH hf2 hg
 by_cases ai : i = 0
 ·subst ai
  have qi : ((0 : Int) != 0) = false:=rfl
  have ri : ((0 : Int) == 0) = true:=rfl
  have hfi : fnum 0 = true:=rfl
  by_cases al : l = 0
  ·subst al
   have ql : ((0 : Int) != 0) = false:=rfl
   have rl : ((0 : Int) == 0) = true:=rfl
   have hfl : fnum 0 = true:=rfl
   by_cases an : n = 0
   ·subst an
    have qn : ((0 : Int) != 0) = false:=rfl
    have rn : ((0 : Int) == 0) = true:=rfl
    have hfn : fnum 0 = true:=rfl
    by_cases ad : dl = 0
    ·subst ad
     have HM : Hid (mayF false false false false 0 0 0 0 = true):=Lib.hid (by simp [mayF,hfi,hfl,hfn])
     go_wp2_with (first | (go_at_call 18;refine (fnum_any _ _).mono ?_;rintro e w4 ⟨rfl,rfl⟩) | (go_at_call 19;refine (tick_any _ _).mono ?_;rintro e w4 ⟨rfl,rfl⟩) | go_in)
     go_ret
     exact ⟨by rw [HM.out];rfl,HF.out⟩
    ·have qd : (dl != 0) = true:=by simp [ad]
     have rd : decide ((0 : Int) < (dl : Int)) = true:=decide_eq_true (by omega)
     have sd : decide ((dl : Int) > 0) = true:=decide_eq_true (by omega)
     have HM : Hid (mayF false false false false 0 0 0 dl = false):=Lib.hid (by simp [mayF,hfi,hfl,hfn,qd])
     go_wp2_with (first | (go_at_call 18;refine (fnum_any _ _).mono ?_;rintro e w4 ⟨rfl,rfl⟩) | (go_at_call 19;refine (tick_any _ _).mono ?_;rintro e w4 ⟨rfl,rfl⟩) | go_in)
     go_ret
     exact ⟨by rw [HM.out];rfl,HF.out⟩
   ·have qn : (n != 0) = true:=by simp [an]
    have rn : (n == 0) = false:=by simp [an]
    have HM : Hid (mayF false false false false 0 0 n dl = false):=Lib.hid (by simp [mayF,hfi,hfl,qn])
    go_wp2_with (first | (go_at_call 18;refine (fnum_any _ _).mono ?_;rintro e w4 ⟨rfl,rfl⟩) | (go_at_call 19;refine (tick_any _ _).mono ?_;rintro e w4 ⟨rfl,rfl⟩) | go_in)
    go_ret
    exact ⟨by rw [HM.out];rfl,HF.out⟩
  ·have ql : (l != 0) = true:=by simp [al]
   have rl : (l == 0) = false:=by simp [al]
   have HM : Hid (mayF false false false false 0 l n dl = false):=Lib.hid (by simp [mayF,hfi,ql])
   go_wp2_with (first | (go_at_call 18;refine (fnum_any _ _).mono ?_;rintro e w4 ⟨rfl,rfl⟩) | (go_at_call 19;refine (tick_any _ _).mono ?_;rintro e w4 ⟨rfl,rfl⟩) | go_in)
   go_ret
   exact ⟨by rw [HM.out];rfl,HF.out⟩
 ·have qi : (i != 0) = true:=by simp [ai]
  have ri : (i == 0) = false:=by simp [ai]
  have HM : Hid (mayF false false false false i l n dl = false):=Lib.hid (by simp [mayF,qi])
  go_wp2_with (first | (go_at_call 18;refine (fnum_any _ _).mono ?_;rintro e w4 ⟨rfl,rfl⟩) | (go_at_call 19;refine (tick_any _ _).mono ?_;rintro e w4 ⟨rfl,rfl⟩) | go_in)
  go_ret
  exact ⟨by rw [HM.out];rfl,HF.out⟩
set_option maxRecDepth 100000 in
set_option maxHeartbeats 4000000 in
theorem may9_8 (i l n : Int) (ao : Option Addr) (dl cp : Nat) (W : World) : Calls Tryz.prog 92 #[.agg #[.int .i64 8,.int .i64 i,.int .i64 l,.int .i64 n,.slice ao dl cp]] W fun e W'=>e = .returned (.bool (mayF false false false true i l n dl)) ∧ Fr (fun _=>False) W W':=by
 go_enter Tryz.func92,Tryz.ntmps92
 go_upto_region 2 with (first | (go_at_call 106;refine (has8 _).mono ?_;rintro e w2 ⟨rfl,hf2⟩) | go_in)
 have hB:=(Blk.new W 52 #[.int .i64 8,.int .i64 i,.int .i64 l,.int .i64 n,.slice ao dl cp]).fr hf2 id |>.alloc (.cells #[.bool false,.bool false,.bool false,.bool true] 137)
 have hH:=Blk.new w2 137 #[.bool false,.bool false,.bool false,.bool true]
 have hF : Fr (fun _=>False) W (w2.alloc (.cells #[.bool false,.bool false,.bool false,.bool true] 137)):=((Fr.alloc _ W _).trans hf2).trans (Fr.alloc _ _ _)
 obtain ⟨w3,hw3⟩ : ∃ w3,w2.alloc (.cells #[.bool false,.bool false,.bool false,.bool true] 137) = w3:=⟨_,rfl⟩
 rw [hw3] at hB hH hF ⊢
 obtain ⟨g,hg⟩ : ∃ g,w2.heap.size = g:=⟨_,rfl⟩
 rw [hg] at hH ⊢
 have g0:=hH.cell 0
 have g1:=hH.cell 1
 have g2:=hH.cell 2
 have g3:=hH.cell 3
 obtain ⟨b,hb⟩ : ∃ b,W.heap.size = b:=⟨_,rfl⟩
 rw [hb] at hB ⊢
 have c0:=hB.cell 0
 have c1:=hB.cell 1
 have c2:=hB.cell 2
 have c3:=hB.cell 3
 have c4:=hB.cell 4
 simp only [lA,lB,lC] at c0 c1 c2 c3 c4 g0 g1 g2 g3
 have HF:=Lib.hid hF
 clear hB hF hw3 hb hH hf2 hg
 by_cases ai : i = 0
 ·subst ai
  have qi : ((0 : Int) != 0) = false:=rfl
  have ri : ((0 : Int) == 0) = true:=rfl
  have hfi : fnum 0 = true:=rfl
  by_cases al : l = 0
  ·subst al
   have ql : ((0 : Int) != 0) = false:=rfl
   have rl : ((0 : Int) == 0) = true:=rfl
   have hfl : fnum 0 = true:=rfl
   by_cases an : n = 0
   ·subst an
    have qn : ((0 : Int) != 0) = false:=rfl
    have rn : ((0 : Int) == 0) = true:=rfl
    have hfn : fnum 0 = true:=rfl
    by_cases am : dl ≤ 4096
    ·have qm : decide ((dl : Int) ≤ 4096) = true:=decide_eq_true (by omega)
     have rm : decide (dl ≤ 4096) = true:=decide_eq_true am
     have HM : Hid (mayF false false false true 0 0 0 dl = true):=Lib.hid (by simp [mayF,hfi,hfl,hfn,rm])
     go_wp2_with (first | (go_at_call 18;refine (fnum_any _ _).mono ?_;rintro e w4 ⟨rfl,rfl⟩) | (go_at_call 19;refine (tick_any _ _).mono ?_;rintro e w4 ⟨rfl,rfl⟩) | go_in)
     go_ret
     exact ⟨by rw [HM.out];rfl,HF.out⟩
    ·have qm : decide ((dl : Int) ≤ 4096) = false:=decide_eq_false (by omega)
     have rm : decide (dl ≤ 4096) = false:=decide_eq_false am
     have HM : Hid (mayF false false false true 0 0 0 dl = false):=Lib.hid (by simp [mayF,hfi,hfl,hfn,rm])
     go_wp2_with (first | (go_at_call 18;refine (fnum_any _ _).mono ?_;rintro e w4 ⟨rfl,rfl⟩) | (go_at_call 19;refine (tick_any _ _).mono ?_;rintro e w4 ⟨rfl,rfl⟩) | go_in)
     go_ret
     exact ⟨by rw [HM.out];rfl,HF.out⟩
   ·have qn : (n != 0) = true:=by simp [an]
    have rn : (n == 0) = false:=by simp [an]
    have HM : Hid (mayF false false false true 0 0 n dl = false):=Lib.hid (by simp [mayF,hfi,hfl,qn])
    go_wp2_with (first | (go_at_call 18;refine (fnum_any _ _).mono ?_;rintro e w4 ⟨rfl,rfl⟩) | (go_at_call 19;refine (tick_any _ _).mono ?_;rintro e w4 ⟨rfl,rfl⟩) | go_in)
    go_ret
    exact ⟨by rw [HM.out];rfl,HF.out⟩
  ·have ql : (l != 0) = true:=by simp [al]
   have rl : (l == 0) = false:=by simp [al]
   have HM : Hid (mayF false false false true 0 l n dl = false):=Lib.hid (by simp [mayF,hfi,ql])
   go_wp2_with (first | (go_at_call 18;refine (fnum_any _ _).mono ?_;rintro e w4 ⟨rfl,rfl⟩) | (go_at_call 19;refine (tick_any _ _).mono ?_;rintro e w4 ⟨rfl,rfl⟩) | go_in)
   go_ret
   exact ⟨by rw [HM.out];rfl,HF.out⟩
 ·have qi : (i != 0) = true:=by simp [ai]
  have ri : (i == 0) = false:=by simp [ai]
  have HM : Hid (mayF false false false true i l n dl = false):=Lib.hid (by simp [mayF,qi])
  go_wp2_with (first | (go_at_call 18;refine (fnum_any _ _).mono ?_;rintro e w4 ⟨rfl,rfl⟩) | (go_at_call 19;refine (tick_any _ _).mono ?_;rintro e w4 ⟨rfl,rfl⟩) | go_in)
  go_ret
  exact ⟨by rw [HM.out];rfl,HF.out⟩
set_option maxRecDepth 100000 in
set_option maxHeartbeats 4000000 in
theorem may9_else (k i l n : Int) (hk : k < 1 ∨ 8 < k) (ao : Option Addr) (dl cp : Nat) (W : World) : Calls Tryz.prog 92 #[.agg #[.int .i64 k,.int .i64 i,.int .i64 l,.int .i64 n,.slice ao dl cp]] W fun e W'=>e = .returned (.bool false) ∧ Fr (fun _=>False) W W':=by
 have p1 : (k == 1) = false:=by simp;omega
 have p2 : (k == 2) = false:=by simp;omega
 have p3 : (k == 3) = false:=by simp;omega
 have p4 : (k == 4) = false:=by simp;omega
 have p5 : (k == 5) = false:=by simp;omega
 have p6 : (k == 6) = false:=by simp;omega
 have p8 : (k == 8) = false:=by simp;omega
 go_enter Tryz.func92,Tryz.ntmps92
 go_upto_region 2 with (first | (go_at_call 106;refine (hasx k p1 p2 p3 p4 p5 p6 p8 _).mono ?_;rintro e w2 ⟨rfl,hf2⟩) | go_in)
 have hB:=(Blk.new W 52 #[.int .i64 k,.int .i64 i,.int .i64 l,.int .i64 n,.slice ao dl cp]).fr hf2 id |>.alloc (.cells #[.bool false,.bool false,.bool false,.bool false] 137)
 have hF : Fr (fun _=>False) W (w2.alloc (.cells #[.bool false,.bool false,.bool false,.bool false] 137)):=((Fr.alloc _ W _).trans hf2).trans (Fr.alloc _ _ _)
 obtain ⟨w3,hw3⟩ : ∃ w3,w2.alloc (.cells #[.bool false,.bool false,.bool false,.bool false] 137) = w3:=⟨_,rfl⟩
 rw [hw3] at hB hF ⊢
 obtain ⟨g,hg⟩ : ∃ g,w2.heap.size = g:=⟨_,rfl⟩
 rw [hg]
 clear hg hf2
 obtain ⟨b,hb⟩ : ∃ b,W.heap.size = b:=⟨_,rfl⟩
 rw [hb] at hB ⊢
 have c0:=hB.cell 0
 have c1:=hB.cell 1
 have c2:=hB.cell 2
 have c3:=hB.cell 3
 have c4:=hB.cell 4
 simp only [lA,lB,lC] at c0 c1 c2 c3 c4
 have HF:=Lib.hid hF
 clear hB hF hw3 hb
 rcases hk with h | h
 ·have q1 : decide (k < 1) = true:=decide_eq_true (by omega)
  have q2 : decide (8 < k) = false:=decide_eq_false (by omega)
  have q5 : decide (k > 8) = false:=decide_eq_false (by omega)
  have q3 : decide (1 ≤ k) = false:=decide_eq_false (by omega)
  have q6 : decide (k ≥ 1) = false:=decide_eq_false (by omega)
  have q4 : decide (k ≤ 4) = true:=decide_eq_true (by omega)
  go_wp2
  go_ret
  exact ⟨rfl,HF.out⟩
 ·have q1 : decide (k < 1) = false:=decide_eq_false (by omega)
  have q2 : decide (8 < k) = true:=decide_eq_true (by omega)
  have q5 : decide (k > 8) = true:=decide_eq_true (by omega)
  have q3 : decide (1 ≤ k) = true:=decide_eq_true (by omega)
  have q6 : decide (k ≥ 1) = true:=decide_eq_true (by omega)
  have q4 : decide (k ≤ 4) = false:=decide_eq_false (by omega)
  go_wp2
  go_ret
  exact ⟨rfl,HF.out⟩
theorem may9_any (k i l n : Int) (ao : Option Addr) (dl cp : Nat) (W : World) : Calls Tryz.prog 92 #[.agg #[.int .i64 k,.int .i64 i,.int .i64 l,.int .i64 n,.slice ao dl cp]] W fun e W'=>e = .returned (.bool (mayB k i l n dl)) ∧ Fr (fun _=>False) W W':=by
 by_cases h1 : k = 1
 ·subst h1;exact may9_1 i l n ao dl cp W
 by_cases h2 : k = 2
 ·subst h2;exact may9_2 i l n ao dl cp W
 by_cases h3 : k = 3
 ·subst h3;exact may9_3 i l n ao dl cp W
 by_cases h4 : k = 4
 ·subst h4;exact may9_4 i l n ao dl cp W
 by_cases h5 : k = 5
 ·subst h5;exact may9_5 i l n ao dl cp W
 by_cases h6 : k = 6
 ·subst h6;exact may9_6 i l n ao dl cp W
 by_cases h7 : k = 7
 ·subst h7;exact may9_7 i l n ao dl cp W
 by_cases h8 : k = 8
 ·subst h8;exact may9_8 i l n ao dl cp W
 have hm : mayB k i l n dl = false:=by simp [mayB,h1,h2,h3,h4,h5,h6,h7,h8]
 rw [hm]
 exact may9_else k i l n (by omega) ao dl cp W
end Go.Proofs.YtnkelaohcbdjnaaGreat
