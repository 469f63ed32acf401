/- The document's May. -/
import Derived.Test.YtnkelaohcbdjnaaGreatQx
set_option linter.unusedVariables false
set_option linter.unusedSimpArgs false
namespace Go.Proofs.YtnkelaohcbdjnaaGreat
open Go.RowKit Go.Maps
set_option maxRecDepth 100000 in
set_option maxHeartbeats 4000000 in
theorem may10_1 (i l n : Int) (ao : Option Addr) (dl cp : Nat) (W : World) : Calls Tryz.prog 94 #[.agg #[.int .i64 1,.int .i64 i,.int .i64 l,.int .i64 n,.slice ao dl cp]] W fun e W'=>e = .returned (.bool (mayF true true true true i l n dl)) ∧ Fr (fun _=>False) W W':=by
 have hB:=Blk.new W 52 #[.int .i64 1,.int .i64 i,.int .i64 l,.int .i64 n,.slice ao dl cp]
 have hF : Fr (fun _=>False) W (W.alloc (.cells #[.int .i64 1,.int .i64 i,.int .i64 l,.int .i64 n,.slice ao dl cp] 52)):=Fr.alloc _ _ _
 obtain ⟨w3,hw3⟩ : ∃ w3,W.alloc (.cells #[.int .i64 1,.int .i64 i,.int .i64 l,.int .i64 n,.slice ao dl cp] 52) = w3:=⟨_,rfl⟩
 rw [hw3] at hB hF
 go_enter Tryz.func94,Tryz.ntmps94
 go_upto_region 1 with (fail)
 try rw [hw3]
 obtain ⟨b,hb⟩ : ∃ b,W.heap.size = b:=⟨_,rfl⟩
 rw [hb] at hB ⊢
 have c0:=hB.cell 0
 have c1:=hB.cell 1
 have c2:=hB.cell 2
 have c3:=hB.cell 3
 have c4:=hB.cell 4
 simp only [lA,lB,lC] at c0 c1 c2 c3 c4
 have HF:=Lib.hid hF
 clear hB hF hw3 hb
 by_cases hfi : fnum i = true
 ·
   by_cases hfl : fnum l = true
   ·
     by_cases htn : tick n = true
     ·
       by_cases am : dl ≤ 4096
       ·have qm : decide ((dl : Int) ≤ 4096) = true:=decide_eq_true (by omega)
        have rm : decide (dl ≤ 4096) = true:=decide_eq_true am
        have HM : Hid (mayF true true true true i l n dl = true):=Lib.hid (by simp [mayF,hfi,hfl,htn,rm])
        go_wp2_with (first | (go_at_call 23;refine (rfnum_any _ _).mono ?_;rintro e w4 ⟨rfl,rfl⟩) | (go_at_call 24;refine (rtick_any _ _).mono ?_;rintro e w4 ⟨rfl,rfl⟩) | go_in)
        go_ret
        exact ⟨by rw [HM.out];rfl,HF.out⟩
       ·have qm : decide ((dl : Int) ≤ 4096) = false:=decide_eq_false (by omega)
        have rm : decide (dl ≤ 4096) = false:=decide_eq_false am
        have HM : Hid (mayF true true true true i l n dl = false):=Lib.hid (by simp [mayF,hfi,hfl,htn,rm])
        go_wp2_with (first | (go_at_call 23;refine (rfnum_any _ _).mono ?_;rintro e w4 ⟨rfl,rfl⟩) | (go_at_call 24;refine (rtick_any _ _).mono ?_;rintro e w4 ⟨rfl,rfl⟩) | go_in)
        go_ret
        exact ⟨by rw [HM.out];rfl,HF.out⟩
     ·have htn : tick n = false:=by simpa using htn
      have HM : Hid (mayF true true true true i l n dl = false):=Lib.hid (by simp [mayF,hfi,hfl,htn])
      go_wp2_with (first | (go_at_call 23;refine (rfnum_any _ _).mono ?_;rintro e w4 ⟨rfl,rfl⟩) | (go_at_call 24;refine (rtick_any _ _).mono ?_;rintro e w4 ⟨rfl,rfl⟩) | go_in)
      go_ret
      exact ⟨by rw [HM.out];rfl,HF.out⟩
   ·have hfl : fnum l = false:=by simpa using hfl
    have HM : Hid (mayF true true true true i l n dl = false):=Lib.hid (by simp [mayF,hfi,hfl])
    go_wp2_with (first | (go_at_call 23;refine (rfnum_any _ _).mono ?_;rintro e w4 ⟨rfl,rfl⟩) | (go_at_call 24;refine (rtick_any _ _).mono ?_;rintro e w4 ⟨rfl,rfl⟩) | go_in)
    go_ret
    exact ⟨by rw [HM.out];rfl,HF.out⟩
 ·have hfi : fnum i = false:=by simpa using hfi
  have HM : Hid (mayF true true true true i l n dl = false):=Lib.hid (by simp [mayF,hfi])
  go_wp2_with (first | (go_at_call 23;refine (rfnum_any _ _).mono ?_;rintro e w4 ⟨rfl,rfl⟩) | (go_at_call 24;refine (rtick_any _ _).mono ?_;rintro e w4 ⟨rfl,rfl⟩) | go_in)
  go_ret
  exact ⟨by rw [HM.out];rfl,HF.out⟩
set_option maxRecDepth 100000 in
set_option maxHeartbeats 4000000 in
theorem may10_2 (i l n : Int) (ao : Option Addr) (dl cp : Nat) (W : World) : Calls Tryz.prog 94 #[.agg #[.int .i64 2,.int .i64 i,.int .i64 l,.int .i64 n,.slice ao dl cp]] W fun e W'=>e = .returned (.bool (mayF true false true false i l n dl)) ∧ Fr (fun _=>False) W W':=by
 have hB:=Blk.new W 52 #[.int .i64 2,.int .i64 i,.int .i64 l,.int .i64 n,.slice ao dl cp]
 have hF : Fr (fun _=>False) W (W.alloc (.cells #[.int .i64 2,.int .i64 i,.int .i64 l,.int .i64 n,.slice ao dl cp] 52)):=Fr.alloc _ _ _
 obtain ⟨w3,hw3⟩ : ∃ w3,W.alloc (.cells #[.int .i64 2,.int .i64 i,.int .i64 l,.int .i64 n,.slice ao dl cp] 52) = w3:=⟨_,rfl⟩
 rw [hw3] at hB hF
 go_enter Tryz.func94,Tryz.ntmps94
 go_upto_region 1 with (fail)
 try rw [hw3]
 obtain ⟨b,hb⟩ : ∃ b,W.heap.size = b:=⟨_,rfl⟩
 rw [hb] at hB ⊢
 have c0:=hB.cell 0
 have c1:=hB.cell 1
 have c2:=hB.cell 2
 have c3:=hB.cell 3
 have c4:=hB.cell 4
 simp only [lA,lB,lC] at c0 c1 c2 c3 c4
 have HF:=Lib.hid hF
 clear hB hF hw3 hb
 by_cases al : l = 0
 ·subst al
  have ql : ((0 : Int) != 0) = false:=rfl
  have rl : ((0 : Int) == 0) = true:=rfl
  have hfl : fnum 0 = true:=rfl
  by_cases ad : dl = 0
  ·subst ad
   by_cases hfi : fnum i = true
   ·
     by_cases htn : tick n = true
     ·
       have HM : Hid (mayF true false true false i 0 n 0 = true):=Lib.hid (by simp [mayF,hfl,hfi,htn])
       go_wp2_with (first | (go_at_call 23;refine (rfnum_any _ _).mono ?_;rintro e w4 ⟨rfl,rfl⟩) | (go_at_call 24;refine (rtick_any _ _).mono ?_;rintro e w4 ⟨rfl,rfl⟩) | go_in)
       go_ret
       exact ⟨by rw [HM.out];rfl,HF.out⟩
     ·have htn : tick n = false:=by simpa using htn
      have HM : Hid (mayF true false true false i 0 n 0 = false):=Lib.hid (by simp [mayF,hfl,hfi,htn])
      go_wp2_with (first | (go_at_call 23;refine (rfnum_any _ _).mono ?_;rintro e w4 ⟨rfl,rfl⟩) | (go_at_call 24;refine (rtick_any _ _).mono ?_;rintro e w4 ⟨rfl,rfl⟩) | go_in)
      go_ret
      exact ⟨by rw [HM.out];rfl,HF.out⟩
   ·have hfi : fnum i = false:=by simpa using hfi
    have HM : Hid (mayF true false true false i 0 n 0 = false):=Lib.hid (by simp [mayF,hfl,hfi])
    go_wp2_with (first | (go_at_call 23;refine (rfnum_any _ _).mono ?_;rintro e w4 ⟨rfl,rfl⟩) | (go_at_call 24;refine (rtick_any _ _).mono ?_;rintro e w4 ⟨rfl,rfl⟩) | go_in)
    go_ret
    exact ⟨by rw [HM.out];rfl,HF.out⟩
  ·have qd : (dl != 0) = true:=by simp [ad]
   have rd : decide ((0 : Int) < (dl : Int)) = true:=decide_eq_true (by omega)
   have sd : decide ((dl : Int) > 0) = true:=decide_eq_true (by omega)
   have HM : Hid (mayF true false true false i 0 n dl = false):=Lib.hid (by simp [mayF,hfl,qd])
   go_wp2_with (first | (go_at_call 23;refine (rfnum_any _ _).mono ?_;rintro e w4 ⟨rfl,rfl⟩) | (go_at_call 24;refine (rtick_any _ _).mono ?_;rintro e w4 ⟨rfl,rfl⟩) | go_in)
   go_ret
   exact ⟨by rw [HM.out];rfl,HF.out⟩
 ·have ql : (l != 0) = true:=by simp [al]
  have rl : (l == 0) = false:=by simp [al]
  have HM : Hid (mayF true false true false i l n dl = false):=Lib.hid (by simp [mayF,ql])
  go_wp2_with (first | (go_at_call 23;refine (rfnum_any _ _).mono ?_;rintro e w4 ⟨rfl,rfl⟩) | (go_at_call 24;refine (rtick_any _ _).mono ?_;rintro e w4 ⟨rfl,rfl⟩) | go_in)
  go_ret
  exact ⟨by rw [HM.out];rfl,HF.out⟩
set_option maxRecDepth 100000 in
set_option maxHeartbeats 4000000 in
theorem may10_3 (i l n : Int) (ao : Option Addr) (dl cp : Nat) (W : World) : Calls Tryz.prog 94 #[.agg #[.int .i64 3,.int .i64 i,.int .i64 l,.int .i64 n,.slice ao dl cp]] W fun e W'=>e = .returned (.bool (mayF true false false false i l n dl)) ∧ Fr (fun _=>False) W W':=by
 have hB:=Blk.new W 52 #[.int .i64 3,.int .i64 i,.int .i64 l,.int .i64 n,.slice ao dl cp]
 have hF : Fr (fun _=>False) W (W.alloc (.cells #[.int .i64 3,.int .i64 i,.int .i64 l,.int .i64 n,.slice ao dl cp] 52)):=Fr.alloc _ _ _
 obtain ⟨w3,hw3⟩ : ∃ w3,W.alloc (.cells #[.int .i64 3,.int .i64 i,.int .i64 l,.int .i64 n,.slice ao dl cp] 52) = w3:=⟨_,rfl⟩
 rw [hw3] at hB hF
 go_enter Tryz.func94,Tryz.ntmps94
 go_upto_region 1 with (fail)
 try rw [hw3]
 obtain ⟨b,hb⟩ : ∃ b,W.heap.size = b:=⟨_,rfl⟩
 rw [hb] at hB ⊢
 have c0:=hB.cell 0
 have c1:=hB.cell 1
 have c2:=hB.cell 2
 have c3:=hB.cell 3
 have c4:=hB.cell 4
 simp only [lA,lB,lC] at c0 c1 c2 c3 c4
 have HF:=Lib.hid hF
 clear hB hF hw3 hb
 by_cases al : l = 0
 ·subst al
  have ql : ((0 : Int) != 0) = false:=rfl
  have rl : ((0 : Int) == 0) = true:=rfl
  have hfl : fnum 0 = true:=rfl
  by_cases an : n = 0
  ·subst an
   have qn : ((0 : Int) != 0) = false:=rfl
   have rn : ((0 : Int) == 0) = true:=rfl
   have hfn : fnum 0 = true:=rfl
   by_cases ad : dl = 0
   ·subst ad
    by_cases hfi : fnum i = true
    ·
      have HM : Hid (mayF true false false false i 0 0 0 = true):=Lib.hid (by simp [mayF,hfl,hfn,hfi])
      go_wp2_with (first | (go_at_call 23;refine (rfnum_any _ _).mono ?_;rintro e w4 ⟨rfl,rfl⟩) | (go_at_call 24;refine (rtick_any _ _).mono ?_;rintro e w4 ⟨rfl,rfl⟩) | go_in)
      go_ret
      exact ⟨by rw [HM.out];rfl,HF.out⟩
    ·have hfi : fnum i = false:=by simpa using hfi
     have HM : Hid (mayF true false false false i 0 0 0 = false):=Lib.hid (by simp [mayF,hfl,hfn,hfi])
     go_wp2_with (first | (go_at_call 23;refine (rfnum_any _ _).mono ?_;rintro e w4 ⟨rfl,rfl⟩) | (go_at_call 24;refine (rtick_any _ _).mono ?_;rintro e w4 ⟨rfl,rfl⟩) | go_in)
     go_ret
     exact ⟨by rw [HM.out];rfl,HF.out⟩
   ·have qd : (dl != 0) = true:=by simp [ad]
    have rd : decide ((0 : Int) < (dl : Int)) = true:=decide_eq_true (by omega)
    have sd : decide ((dl : Int) > 0) = true:=decide_eq_true (by omega)
    have HM : Hid (mayF true false false false i 0 0 dl = false):=Lib.hid (by simp [mayF,hfl,hfn,qd])
    go_wp2_with (first | (go_at_call 23;refine (rfnum_any _ _).mono ?_;rintro e w4 ⟨rfl,rfl⟩) | (go_at_call 24;refine (rtick_any _ _).mono ?_;rintro e w4 ⟨rfl,rfl⟩) | go_in)
    go_ret
    exact ⟨by rw [HM.out];rfl,HF.out⟩
  ·have qn : (n != 0) = true:=by simp [an]
   have rn : (n == 0) = false:=by simp [an]
   have HM : Hid (mayF true false false false i 0 n dl = false):=Lib.hid (by simp [mayF,hfl,qn])
   go_wp2_with (first | (go_at_call 23;refine (rfnum_any _ _).mono ?_;rintro e w4 ⟨rfl,rfl⟩) | (go_at_call 24;refine (rtick_any _ _).mono ?_;rintro e w4 ⟨rfl,rfl⟩) | go_in)
   go_ret
   exact ⟨by rw [HM.out];rfl,HF.out⟩
 ·have ql : (l != 0) = true:=by simp [al]
  have rl : (l == 0) = false:=by simp [al]
  have HM : Hid (mayF true false false false i l n dl = false):=Lib.hid (by simp [mayF,ql])
  go_wp2_with (first | (go_at_call 23;refine (rfnum_any _ _).mono ?_;rintro e w4 ⟨rfl,rfl⟩) | (go_at_call 24;refine (rtick_any _ _).mono ?_;rintro e w4 ⟨rfl,rfl⟩) | go_in)
  go_ret
  exact ⟨by rw [HM.out];rfl,HF.out⟩
set_option maxRecDepth 100000 in
set_option maxHeartbeats 4000000 in
theorem may10_4 (i l n : Int) (ao : Option Addr) (dl cp : Nat) (W : World) : Calls Tryz.prog 94 #[.agg #[.int .i64 4,.int .i64 i,.int .i64 l,.int .i64 n,.slice ao dl cp]] W fun e W'=>e = .returned (.bool (mayF true true true true i l n dl)) ∧ Fr (fun _=>False) W W':=by
 have hB:=Blk.new W 52 #[.int .i64 4,.int .i64 i,.int .i64 l,.int .i64 n,.slice ao dl cp]
 have hF : Fr (fun _=>False) W (W.alloc (.cells #[.int .i64 4,.int .i64 i,.int .i64 l,.int .i64 n,.slice ao dl cp] 52)):=Fr.alloc _ _ _
 obtain ⟨w3,hw3⟩ : ∃ w3,W.alloc (.cells #[.int .i64 4,.int .i64 i,.int .i64 l,.int .i64 n,.slice ao dl cp] 52) = w3:=⟨_,rfl⟩
 rw [hw3] at hB hF
 go_enter Tryz.func94,Tryz.ntmps94
 go_upto_region 1 with (fail)
 try rw [hw3]
 obtain ⟨b,hb⟩ : ∃ b,W.heap.size = b:=⟨_,rfl⟩
 rw [hb] at hB ⊢
 have c0:=hB.cell 0
 have c1:=hB.cell 1
 have c2:=hB.cell 2
 have c3:=hB.cell 3
 have c4:=hB.cell 4
 simp only [lA,lB,lC] at c0 c1 c2 c3 c4
 have HF:=Lib.hid hF
 clear hB hF hw3 hb
 by_cases hfi : fnum i = true
 ·
   by_cases hfl : fnum l = true
   ·
     by_cases htn : tick n = true
     ·
       by_cases am : dl ≤ 4096
       ·have qm : decide ((dl : Int) ≤ 4096) = true:=decide_eq_true (by omega)
        have rm : decide (dl ≤ 4096) = true:=decide_eq_true am
        have HM : Hid (mayF true true true true i l n dl = true):=Lib.hid (by simp [mayF,hfi,hfl,htn,rm])
        go_wp2_with (first | (go_at_call 23;refine (rfnum_any _ _).mono ?_;rintro e w4 ⟨rfl,rfl⟩) | (go_at_call 24;refine (rtick_any _ _).mono ?_;rintro e w4 ⟨rfl,rfl⟩) | go_in)
        go_ret
        exact ⟨by rw [HM.out];rfl,HF.out⟩
       ·have qm : decide ((dl : Int) ≤ 4096) = false:=decide_eq_false (by omega)
        have rm : decide (dl ≤ 4096) = false:=decide_eq_false am
        have HM : Hid (mayF true true true true i l n dl = false):=Lib.hid (by simp [mayF,hfi,hfl,htn,rm])
        go_wp2_with (first | (go_at_call 23;refine (rfnum_any _ _).mono ?_;rintro e w4 ⟨rfl,rfl⟩) | (go_at_call 24;refine (rtick_any _ _).mono ?_;rintro e w4 ⟨rfl,rfl⟩) | go_in)
        go_ret
        exact ⟨by rw [HM.out];rfl,HF.out⟩
     ·have htn : tick n = false:=by simpa using htn
      have HM : Hid (mayF true true true true i l n dl = false):=Lib.hid (by simp [mayF,hfi,hfl,htn])
      go_wp2_with (first | (go_at_call 23;refine (rfnum_any _ _).mono ?_;rintro e w4 ⟨rfl,rfl⟩) | (go_at_call 24;refine (rtick_any _ _).mono ?_;rintro e w4 ⟨rfl,rfl⟩) | go_in)
      go_ret
      exact ⟨by rw [HM.out];rfl,HF.out⟩
   ·have hfl : fnum l = false:=by simpa using hfl
    have HM : Hid (mayF true true true true i l n dl = false):=Lib.hid (by simp [mayF,hfi,hfl])
    go_wp2_with (first | (go_at_call 23;refine (rfnum_any _ _).mono ?_;rintro e w4 ⟨rfl,rfl⟩) | (go_at_call 24;refine (rtick_any _ _).mono ?_;rintro e w4 ⟨rfl,rfl⟩) | go_in)
    go_ret
    exact ⟨by rw [HM.out];rfl,HF.out⟩
 ·have hfi : fnum i = false:=by simpa using hfi
  have HM : Hid (mayF true true true true i l n dl = false):=Lib.hid (by simp [mayF,hfi])
  go_wp2_with (first | (go_at_call 23;refine (rfnum_any _ _).mono ?_;rintro e w4 ⟨rfl,rfl⟩) | (go_at_call 24;refine (rtick_any _ _).mono ?_;rintro e w4 ⟨rfl,rfl⟩) | go_in)
  go_ret
  exact ⟨by rw [HM.out];rfl,HF.out⟩
set_option maxRecDepth 100000 in
set_option maxHeartbeats 4000000 in
theorem may10_5 (i l n : Int) (ao : Option Addr) (dl cp : Nat) (W : World) : Calls Tryz.prog 94 #[.agg #[.int .i64 5,.int .i64 i,.int .i64 l,.int .i64 n,.slice ao dl cp]] W fun e W'=>e = .returned (.bool (mayF false false false true i l n dl)) ∧ Fr (fun _=>False) W W':=by
 have hB:=Blk.new W 52 #[.int .i64 5,.int .i64 i,.int .i64 l,.int .i64 n,.slice ao dl cp]
 have hF : Fr (fun _=>False) W (W.alloc (.cells #[.int .i64 5,.int .i64 i,.int .i64 l,.int .i64 n,.slice ao dl cp] 52)):=Fr.alloc _ _ _
 obtain ⟨w3,hw3⟩ : ∃ w3,W.alloc (.cells #[.int .i64 5,.int .i64 i,.int .i64 l,.int .i64 n,.slice ao dl cp] 52) = w3:=⟨_,rfl⟩
 rw [hw3] at hB hF
 go_enter Tryz.func94,Tryz.ntmps94
 go_upto_region 1 with (fail)
 try rw [hw3]
 obtain ⟨b,hb⟩ : ∃ b,W.heap.size = b:=⟨_,rfl⟩
 rw [hb] at hB ⊢
 have c0:=hB.cell 0
 have c1:=hB.cell 1
 have c2:=hB.cell 2
 have c3:=hB.cell 3
 have c4:=hB.cell 4
 simp only [lA,lB,lC] at c0 c1 c2 c3 c4
 have HF:=Lib.hid hF
 clear hB hF hw3 hb
 by_cases ai : i = 0
 ·subst ai
  have qi : ((0 : Int) != 0) = false:=rfl
  have ri : ((0 : Int) == 0) = true:=rfl
  have hfi : fnum 0 = true:=rfl
  by_cases al : l = 0
  ·subst al
   have ql : ((0 : Int) != 0) = false:=rfl
   have rl : ((0 : Int) == 0) = true:=rfl
   have hfl : fnum 0 = true:=rfl
   by_cases an : n = 0
   ·subst an
    have qn : ((0 : Int) != 0) = false:=rfl
    have rn : ((0 : Int) == 0) = true:=rfl
    have hfn : fnum 0 = true:=rfl
    by_cases am : dl ≤ 4096
    ·have qm : decide ((dl : Int) ≤ 4096) = true:=decide_eq_true (by omega)
     have rm : decide (dl ≤ 4096) = true:=decide_eq_true am
     have HM : Hid (mayF false false false true 0 0 0 dl = true):=Lib.hid (by simp [mayF,hfi,hfl,hfn,rm])
     go_wp2_with (first | (go_at_call 23;refine (rfnum_any _ _).mono ?_;rintro e w4 ⟨rfl,rfl⟩) | (go_at_call 24;refine (rtick_any _ _).mono ?_;rintro e w4 ⟨rfl,rfl⟩) | go_in)
     go_ret
     exact ⟨by rw [HM.out];rfl,HF.out⟩
    ·have qm : decide ((dl : Int) ≤ 4096) = false:=decide_eq_false (by omega)
     have rm : decide (dl ≤ 4096) = false:=decide_eq_false am
     have HM : Hid (mayF false false false true 0 0 0 dl = false):=Lib.hid (by simp [mayF,hfi,hfl,hfn,rm])
     go_wp2_with (first | (go_at_call 23;refine (rfnum_any _ _).mono ?_;rintro e w4 ⟨rfl,rfl⟩) | (go_at_call 24;refine (rtick_any _ _).mono ?_;rintro e w4 ⟨rfl,rfl⟩) | go_in)
     go_ret
     exact ⟨by rw [HM.out];rfl,HF.out⟩
   ·have qn : (n != 0) = true:=by simp [an]
    have rn : (n == 0) = false:=by simp [an]
    have HM : Hid (mayF false false false true 0 0 n dl = false):=Lib.hid (by simp [mayF,hfi,hfl,qn])
    go_wp2_with (first | (go_at_call 23;refine (rfnum_any _ _).mono ?_;rintro e w4 ⟨rfl,rfl⟩) | (go_at_call 24;refine (rtick_any _ _).mono ?_;rintro e w4 ⟨rfl,rfl⟩) | go_in)
    go_ret
    exact ⟨by rw [HM.out];rfl,HF.out⟩
  ·have ql : (l != 0) = true:=by simp [al]
   have rl : (l == 0) = false:=by simp [al]
   have HM : Hid (mayF false false false true 0 l n dl = false):=Lib.hid (by simp [mayF,hfi,ql])
   go_wp2_with (first | (go_at_call 23;refine (rfnum_any _ _).mono ?_;rintro e w4 ⟨rfl,rfl⟩) | (go_at_call 24;refine (rtick_any _ _).mono ?_;rintro e w4 ⟨rfl,rfl⟩) | go_in)
   go_ret
   exact ⟨by rw [HM.out];rfl,HF.out⟩
 ·have qi : (i != 0) = true:=by simp [ai]
  have ri : (i == 0) = false:=by simp [ai]
  have HM : Hid (mayF false false false true i l n dl = false):=Lib.hid (by simp [mayF,qi])
  go_wp2_with (first | (go_at_call 23;refine (rfnum_any _ _).mono ?_;rintro e w4 ⟨rfl,rfl⟩) | (go_at_call 24;refine (rtick_any _ _).mono ?_;rintro e w4 ⟨rfl,rfl⟩) | go_in)
  go_ret
  exact ⟨by rw [HM.out];rfl,HF.out⟩
set_option maxRecDepth 100000 in
set_option maxHeartbeats 4000000 in
theorem may10_6 (i l n : Int) (ao : Option Addr) (dl cp : Nat) (W : World) : Calls Tryz.prog 94 #[.agg #[.int .i64 6,.int .i64 i,.int .i64 l,.int .i64 n,.slice ao dl cp]] W fun e W'=>e = .returned (.bool (mayF false false false true i l n dl)) ∧ Fr (fun _=>False) W W':=by
 have hB:=Blk.new W 52 #[.int .i64 6,.int .i64 i,.int .i64 l,.int .i64 n,.slice ao dl cp]
 have hF : Fr (fun _=>False) W (W.alloc (.cells #[.int .i64 6,.int .i64 i,.int .i64 l,.int .i64 n,.slice ao dl cp] 52)):=Fr.alloc _ _ _
 obtain ⟨w3,hw3⟩ : ∃ w3,W.alloc (.cells #[.int .i64 6,.int .i64 i,.int .i64 l,.int .i64 n,.slice ao dl cp] 52) = w3:=⟨_,rfl⟩
 rw [hw3] at hB hF
 go_enter Tryz.func94,Tryz.ntmps94
 go_upto_region 1 with (fail)
 try rw [hw3]
 obtain ⟨b,hb⟩ : ∃ b,W.heap.size = b:=⟨_,rfl⟩
 rw [hb] at hB ⊢
 have c0:=hB.cell 0
 have c1:=hB.cell 1
 have c2:=hB.cell 2
 have c3:=hB.cell 3
 have c4:=hB.cell 4
 simp only [lA,lB,lC] at c0 c1 c2 c3 c4
 have HF:=Lib.hid hF
 clear hB hF hw3 hb
 by_cases ai : i = 0
 ·subst ai
  have qi : ((0 : Int) != 0) = false:=rfl
  have ri : ((0 : Int) == 0) = true:=rfl
  have hfi : fnum 0 = true:=rfl
  by_cases al : l = 0
  ·subst al
   have ql : ((0 : Int) != 0) = false:=rfl
   have rl : ((0 : Int) == 0) = true:=rfl
   have hfl : fnum 0 = true:=rfl
   by_cases an : n = 0
   ·subst an
    have qn : ((0 : Int) != 0) = false:=rfl
    have rn : ((0 : Int) == 0) = true:=rfl
    have hfn : fnum 0 = true:=rfl
    by_cases am : dl ≤ 4096
    ·have qm : decide ((dl : Int) ≤ 4096) = true:=decide_eq_true (by omega)
     have rm : decide (dl ≤ 4096) = true:=decide_eq_true am
     have HM : Hid (mayF false false false true 0 0 0 dl = true):=Lib.hid (by simp [mayF,hfi,hfl,hfn,rm])
     go_wp2_with (first | (go_at_call 23;refine (rfnum_any _ _).mono ?_;rintro e w4 ⟨rfl,rfl⟩) | (go_at_call 24;refine (rtick_any _ _).mono ?_;rintro e w4 ⟨rfl,rfl⟩) | go_in)
     go_ret
     exact ⟨by rw [HM.out];rfl,HF.out⟩
    ·have qm : decide ((dl : Int) ≤ 4096) = false:=decide_eq_false (by omega)
     have rm : decide (dl ≤ 4096) = false:=decide_eq_false am
     have HM : Hid (mayF false false false true 0 0 0 dl = false):=Lib.hid (by simp [mayF,hfi,hfl,hfn,rm])
     go_wp2_with (first | (go_at_call 23;refine (rfnum_any _ _).mono ?_;rintro e w4 ⟨rfl,rfl⟩) | (go_at_call 24;refine (rtick_any _ _).mono ?_;rintro e w4 ⟨rfl,rfl⟩) | go_in)
     go_ret
     exact ⟨by rw [HM.out];rfl,HF.out⟩
   ·have qn : (n != 0) = true:=by simp [an]
    have rn : (n == 0) = false:=by simp [an]
    have HM : Hid (mayF false false false true 0 0 n dl = false):=Lib.hid (by simp [mayF,hfi,hfl,qn])
    go_wp2_with (first | (go_at_call 23;refine (rfnum_any _ _).mono ?_;rintro e w4 ⟨rfl,rfl⟩) | (go_at_call 24;refine (rtick_any _ _).mono ?_;rintro e w4 ⟨rfl,rfl⟩) | go_in)
    go_ret
    exact ⟨by rw [HM.out];rfl,HF.out⟩
  ·have ql : (l != 0) = true:=by simp [al]
   have rl : (l == 0) = false:=by simp [al]
   have HM : Hid (mayF false false false true 0 l n dl = false):=Lib.hid (by simp [mayF,hfi,ql])
   go_wp2_with (first | (go_at_call 23;refine (rfnum_any _ _).mono ?_;rintro e w4 ⟨rfl,rfl⟩) | (go_at_call 24;refine (rtick_any _ _).mono ?_;rintro e w4 ⟨rfl,rfl⟩) | go_in)
   go_ret
   exact ⟨by rw [HM.out];rfl,HF.out⟩
 ·have qi : (i != 0) = true:=by simp [ai]
  have ri : (i == 0) = false:=by simp [ai]
  have HM : Hid (mayF false false false true i l n dl = false):=Lib.hid (by simp [mayF,qi])
  go_wp2_with (first | (go_at_call 23;refine (rfnum_any _ _).mono ?_;rintro e w4 ⟨rfl,rfl⟩) | (go_at_call 24;refine (rtick_any _ _).mono ?_;rintro e w4 ⟨rfl,rfl⟩) | go_in)
  go_ret
  exact ⟨by rw [HM.out];rfl,HF.out⟩
set_option maxRecDepth 100000 in
set_option maxHeartbeats 4000000 in
theorem may10_7 (i l n : Int) (ao : Option Addr) (dl cp : Nat) (W : World) : Calls Tryz.prog 94 #[.agg #[.int .i64 7,.int .i64 i,.int .i64 l,.int .i64 n,.slice ao dl cp]] W fun e W'=>e = .returned (.bool (mayF false false false false i l n dl)) ∧ Fr (fun _=>False) W W':=by
 have hB:=Blk.new W 52 #[.int .i64 7,.int .i64 i,.int .i64 l,.int .i64 n,.slice ao dl cp]
 have hF : Fr (fun _=>False) W (W.alloc (.cells #[.int .i64 7,.int .i64 i,.int .i64 l,.int .i64 n,.slice ao dl cp] 52)):=Fr.alloc _ _ _
 obtain ⟨w3,hw3⟩ : ∃ w3,W.alloc (.cells #[.int .i64 7,.int .i64 i,.int .i64 l,.int .i64 n,.slice ao dl cp] 52) = w3:=⟨_,rfl⟩
 rw [hw3] at hB hF
 go_enter Tryz.func94,Tryz.ntmps94
 go_upto_region 1 with (fail)
 try rw [hw3]
 obtain ⟨b,hb⟩ : ∃ b,W.heap.size = b:=⟨_,rfl⟩
 rw [hb] at hB ⊢
 have c0:=hB.cell 0
 have c1:=hB.cell 1
 have c2:=hB.cell 2
 have c3:=hB.cell 3
 have c4:=hB.cell 4
 simp only [lA,lB,lC] at c0 c1 c2 c3 c4
 have HF:=Lib.hid hF
 clear hB hF hw3 hb
 by_cases ai : i = 0
 ·subst ai
  have qi : ((0 : Int) != 0) = false:=rfl
  have ri : ((0 : Int) == 0) = true:=rfl
  have hfi : fnum 0 = true:=rfl
  by_cases al : l = 0
  ·subst al
   have ql : ((0 : Int) != 0) = false:=rfl
   have rl : ((0 : Int) == 0) = true:=rfl
   have hfl : fnum 0 = true:=rfl
   by_cases an : n = 0
   ·subst an
    have qn : ((0 : Int) != 0) = false:=rfl
    have rn : ((0 : Int) == 0) = true:=rfl
    have hfn : fnum 0 = true:=rfl
    by_cases ad : dl = 0
    ·subst ad
     have HM : Hid (mayF false false false false 0 0 0 0 = true):=Lib.hid (by simp [mayF,hfi,hfl,hfn])
     go_wp2_with (first | (go_at_call 23;refine (rfnum_any _ _).mono ?_;rintro e w4 ⟨rfl,rfl⟩) | (go_at_call 24;refine (rtick_any _ _).mono ?_;rintro e w4 ⟨rfl,rfl⟩) | go_in)
     go_ret
     exact ⟨by rw [HM.out];rfl,HF.out⟩
    ·have qd : (dl != 0) = true:=by simp [ad]
     have rd : decide ((0 : Int) < (dl : Int)) = true:=decide_eq_true (by omega)
     have sd : decide ((dl : Int) > 0) = true:=decide_eq_true (by omega)
     have HM : Hid (mayF false false false false 0 0 0 dl = false):=Lib.hid (by simp [mayF,hfi,hfl,hfn,qd])
     go_wp2_with (first | (go_at_call 23;refine (rfnum_any _ _).mono ?_;rintro e w4 ⟨rfl,rfl⟩) | (go_at_call 24;refine (rtick_any _ _).mono ?_;rintro e w4 ⟨rfl,rfl⟩) | go_in)
     go_ret
     exact ⟨by rw [HM.out];rfl,HF.out⟩
   ·have qn : (n != 0) = true:=by simp [an]
    have rn : (n == 0) = false:=by simp [an]
    have HM : Hid (mayF false false false false 0 0 n dl = false):=Lib.hid (by simp [mayF,hfi,hfl,qn])
    go_wp2_with (first | (go_at_call 23;refine (rfnum_any _ _).mono ?_;rintro e w4 ⟨rfl,rfl⟩) | (go_at_call 24;refine (rtick_any _ _).mono ?_;rintro e w4 ⟨rfl,rfl⟩) | go_in)
    go_ret
    exact ⟨by rw [HM.out];rfl,HF.out⟩
  ·have ql : (l != 0) = true:=by simp [al]
   have rl : (l == 0) = false:=by simp [al]
   have HM : Hid (mayF false false false false 0 l n dl = false):=Lib.hid (by simp [mayF,hfi,ql])
   go_wp2_with (first | (go_at_call 23;refine (rfnum_any _ _).mono ?_;rintro e w4 ⟨rfl,rfl⟩) | (go_at_call 24;refine (rtick_any _ _).mono ?_;rintro e w4 ⟨rfl,rfl⟩) | go_in)
   go_ret
   exact ⟨by rw [HM.out];rfl,HF.out⟩
 ·have qi : (i != 0) = true:=by simp [ai]
  have ri : (i == 0) = false:=by simp [ai]
  have HM : Hid (mayF false false false false i l n dl = false):=Lib.hid (by simp [mayF,qi])
  go_wp2_with (first | (go_at_call 23;refine (rfnum_any _ _).mono ?_;rintro e w4 ⟨rfl,rfl⟩) | (go_at_call 24;refine (rtick_any _ _).mono ?_;rintro e w4 ⟨rfl,rfl⟩) | go_in)
  go_ret
  exact ⟨by rw [HM.out];rfl,HF.out⟩
set_option maxRecDepth 100000 in
set_option maxHeartbeats 4000000 in
theorem may10_8 (i l n : Int) (ao : Option Addr) (dl cp : Nat) (W : World) : Calls Tryz.prog 94 #[.agg #[.int .i64 8,.int .i64 i,.int .i64 l,.int .i64 n,.slice ao dl cp]] W fun e W'=>e = .returned (.bool (mayF false false false true i l n dl)) ∧ Fr (fun _=>False) W W':=by
 have hB:=Blk.new W 52 #[.int .i64 8,.int .i64 i,.int .i64 l,.int .i64 n,.slice ao dl cp]
 have hF : Fr (fun _=>False) W (W.alloc (.cells #[.int .i64 8,.int .i64 i,.int .i64 l,.int .i64 n,.slice ao dl cp] 52)):=Fr.alloc _ _ _
 obtain ⟨w3,hw3⟩ : ∃ w3,W.alloc (.cells #[.int .i64 8,.int .i64 i,.int .i64 l,.int .i64 n,.slice ao dl cp] 52) = w3:=⟨_,rfl⟩
 rw [hw3] at hB hF
 go_enter Tryz.func94,Tryz.ntmps94
 go_upto_region 1 with (fail)
 try rw [hw3]
 obtain ⟨b,hb⟩ : ∃ b,W.heap.size = b:=⟨_,rfl⟩
 rw [hb] at hB ⊢
 have c0:=hB.cell 0
 have c1:=hB.cell 1
 have c2:=hB.cell 2
 have c3:=hB.cell 3
 have c4:=hB.cell 4
 simp only [lA,lB,lC] at c0 c1 c2 c3 c4
 have HF:=Lib.hid hF
 clear hB hF hw3 hb
 by_cases ai : i = 0
 ·subst ai
  have qi : ((0 : Int) != 0) = false:=rfl
  have ri : ((0 : Int) == 0) = true:=rfl
  have hfi : fnum 0 = true:=rfl
  by_cases al : l = 0
  ·subst al
   have ql : ((0 : Int) != 0) = false:=rfl
   have rl : ((0 : Int) == 0) = true:=rfl
   have hfl : fnum 0 = true:=rfl
   by_cases an : n = 0
   ·subst an
    have qn : ((0 : Int) != 0) = false:=rfl
    have rn : ((0 : Int) == 0) = true:=rfl
    have hfn : fnum 0 = true:=rfl
    by_cases am : dl ≤ 4096
    ·have qm : decide ((dl : Int) ≤ 4096) = true:=decide_eq_true (by omega)
     have rm : decide (dl ≤ 4096) = true:=decide_eq_true am
     have HM : Hid (mayF false false false true 0 0 0 dl = true):=Lib.hid (by simp [mayF,hfi,hfl,hfn,rm])
     go_wp2_with (first | (go_at_call 23;refine (rfnum_any _ _).mono ?_;rintro e w4 ⟨rfl,rfl⟩) | (go_at_call 24;refine (rtick_any _ _).mono ?_;rintro e w4 ⟨rfl,rfl⟩) | go_in)
     go_ret
     exact ⟨by rw [HM.out];rfl,HF.out⟩
    ·have qm : decide ((dl : Int) ≤ 4096) = false:=decide_eq_false (by omega)
     have rm : decide (dl ≤ 4096) = false:=decide_eq_false am
     have HM : Hid (mayF false false false true 0 0 0 dl = false):=Lib.hid (by simp [mayF,hfi,hfl,hfn,rm])
     go_wp2_with (first | (go_at_call 23;refine (rfnum_any _ _).mono ?_;rintro e w4 ⟨rfl,rfl⟩) | (go_at_call 24;refine (rtick_any _ _).mono ?_;rintro e w4 ⟨rfl,rfl⟩) | go_in)
     go_ret
     exact ⟨by rw [HM.out];rfl,HF.out⟩
   ·have qn : (n != 0) = true:=by simp [an]
    have rn : (n == 0) = false:=by simp [an]
    have HM : Hid (mayF false false false true 0 0 n dl = false):=Lib.hid (by simp [mayF,hfi,hfl,qn])
    go_wp2_with (first | (go_at_call 23;refine (rfnum_any _ _).mono ?_;rintro e w4 ⟨rfl,rfl⟩) | (go_at_call 24;refine (rtick_any _ _).mono ?_;rintro e w4 ⟨rfl,rfl⟩) | go_in)
    go_ret
    exact ⟨by rw [HM.out];rfl,HF.out⟩
  ·have ql : (l != 0) = true:=by simp [al]
   have rl : (l == 0) = false:=by simp [al]
   have HM : Hid (mayF false false false true 0 l n dl = false):=Lib.hid (by simp [mayF,hfi,ql])
   go_wp2_with (first | (go_at_call 23;refine (rfnum_any _ _).mono ?_;rintro e w4 ⟨rfl,rfl⟩) | (go_at_call 24;refine (rtick_any _ _).mono ?_;rintro e w4 ⟨rfl,rfl⟩) | go_in)
   go_ret
   exact ⟨by rw [HM.out];rfl,HF.out⟩
 ·have qi : (i != 0) = true:=by simp [ai]
  have ri : (i == 0) = false:=by simp [ai]
  have HM : Hid (mayF false false false true i l n dl = false):=Lib.hid (by simp [mayF,qi])
  go_wp2_with (first | (go_at_call 23;refine (rfnum_any _ _).mono ?_;rintro e w4 ⟨rfl,rfl⟩) | (go_at_call 24;refine (rtick_any _ _).mono ?_;rintro e w4 ⟨rfl,rfl⟩) | go_in)
  go_ret
  exact ⟨by rw [HM.out];rfl,HF.out⟩
set_option maxRecDepth 100000 in
set_option maxHeartbeats 4000000 in
theorem may10_else (k i l n : Int) (hk : k < 1 ∨ 8 < k) (ao : Option Addr) (dl cp : Nat) (W : World) : Calls Tryz.prog 94 #[.agg #[.int .i64 k,.int .i64 i,.int .i64 l,.int .i64 n,.slice ao dl cp]] W fun e W'=>e = .returned (.bool false) ∧ Fr (fun _=>False) W W':=by
 have p1 : (k == 1) = false:=by simp;omega
 have p2 : (k == 2) = false:=by simp;omega
 have p3 : (k == 3) = false:=by simp;omega
 have p4 : (k == 4) = false:=by simp;omega
 have p5 : (k == 5) = false:=by simp;omega
 have p6 : (k == 6) = false:=by simp;omega
 have p8 : (k == 8) = false:=by simp;omega
 have hB:=Blk.new W 52 #[.int .i64 k,.int .i64 i,.int .i64 l,.int .i64 n,.slice ao dl cp]
 have hF : Fr (fun _=>False) W (W.alloc (.cells #[.int .i64 k,.int .i64 i,.int .i64 l,.int .i64 n,.slice ao dl cp] 52)):=Fr.alloc _ _ _
 obtain ⟨w3,hw3⟩ : ∃ w3,W.alloc (.cells #[.int .i64 k,.int .i64 i,.int .i64 l,.int .i64 n,.slice ao dl cp] 52) = w3:=⟨_,rfl⟩
 rw [hw3] at hB hF
 go_enter Tryz.func94,Tryz.ntmps94
 go_upto_region 1 with (fail)
 try rw [hw3]
 obtain ⟨b,hb⟩ : ∃ b,W.heap.size = b:=⟨_,rfl⟩
 rw [hb] at hB ⊢
 have c0:=hB.cell 0
 have c1:=hB.cell 1
 have c2:=hB.cell 2
 have c3:=hB.cell 3
 have c4:=hB.cell 4
 simp only [lA,lB,lC] at c0 c1 c2 c3 c4
 have HF:=Lib.hid hF
 clear hB hF hw3 hb
 rcases hk with h | h
 ·have q1 : decide (k < 1) = true:=decide_eq_true (by omega)
  have q2 : decide (8 < k) = false:=decide_eq_false (by omega)
  have q5 : decide (k > 8) = false:=decide_eq_false (by omega)
  have q3 : decide (1 ≤ k) = false:=decide_eq_false (by omega)
  have q6 : decide (k ≥ 1) = false:=decide_eq_false (by omega)
  have q4 : decide (k ≤ 4) = true:=decide_eq_true (by omega)
  go_wp2
  go_ret
  exact ⟨rfl,HF.out⟩
 ·have q1 : decide (k < 1) = false:=decide_eq_false (by omega)
  have q2 : decide (8 < k) = true:=decide_eq_true (by omega)
  have q5 : decide (k > 8) = true:=decide_eq_true (by omega)
  have q3 : decide (1 ≤ k) = true:=decide_eq_true (by omega)
  have q6 : decide (k ≥ 1) = true:=decide_eq_true (by omega)
  have q4 : decide (k ≤ 4) = false:=decide_eq_false (by omega)
  go_wp2
  go_ret
  exact ⟨rfl,HF.out⟩
theorem may10_any (k i l n : Int) (ao : Option Addr) (dl cp : Nat) (W : World) : Calls Tryz.prog 94 #[.agg #[.int .i64 k,.int .i64 i,.int .i64 l,.int .i64 n,.slice ao dl cp]] W fun e W'=>e = .returned (.bool (mayB k i l n dl)) ∧ Fr (fun _=>False) W W':=by
 by_cases h1 : k = 1
 ·subst h1;exact may10_1 i l n ao dl cp W
 by_cases h2 : k = 2
 ·subst h2;exact may10_2 i l n ao dl cp W
 by_cases h3 : k = 3
 ·subst h3;exact may10_3 i l n ao dl cp W
 by_cases h4 : k = 4
 ·subst h4;exact may10_4 i l n ao dl cp W
 by_cases h5 : k = 5
 ·subst h5;exact may10_5 i l n ao dl cp W
 by_cases h6 : k = 6
 ·subst h6;exact may10_6 i l n ao dl cp W
 by_cases h7 : k = 7
 ·subst h7;exact may10_7 i l n ao dl cp W
 by_cases h8 : k = 8
 ·subst h8;exact may10_8 i l n ao dl cp W
 have hm : mayB k i l n dl = false:=by simp [mayB,h1,h2,h3,h4,h5,h6,h7,h8]
 rw [hm]
 exact may10_else k i l n (by omega) ao dl cp W
end Go.Proofs.YtnkelaohcbdjnaaGreat
