/- Check: a history,event for event -/
import Derived.Test.YtnkelaohcbdjnaaGreatGb
set_option linter.unusedVariables false
set_option linter.unusedSimpArgs false
namespace Go.Proofs.YtnkelaohcbdjnaaGreat.Ev
open Go.RowKit Go.Maps
theorem RowV.frW {S : Nat → Prop} {W W1 W2 : World} {ao : Option Addr} {l : List Ev} (h : RowV W ao l) (hf : Fr S W W2) (hS : ∀ k,S k → W.heap.size ≤ k) : RowV W2 ao l:=h.fr hf hS
theorem feed_take (s : Hi) (l : List Ev) (i : Nat) (e : Ev) (h : l[i]? = some e) : feed s (l.take (i + 1)) = addO (feed s (l.take i)) e:=by
 rw [← feed_snoc]
 congr 1
 obtain ⟨hi,he⟩:=List.getElem?_eq_some_iff.1 h
 rw [← he]
 exact (List.take_append_getElem hi).symm
/-- what Check tells -/
def Checked (W : World) (l : List Ev) (r : Ending) (W' : World) : Prop:=
 Fr (fun _=>False) W W' ∧ ((r = .returned .nilIface ∧ Good l l.length) ∨
  ∃ (i : Nat) (e : Ev) (b : Nat),l[i]? = some e ∧ Good l i ∧ faultC (feed hi0 (l.take i)) e ≠ 0 ∧ r = .returned (.iface 90 (.pointer (some ⟨b,0,none⟩))) ∧ W.heap.size ≤ b ∧ Blk W' b 92 #[.int .i64 ((i : Int) + 1),whyV (faultC (feed hi0 (l.take i)) e),.iface 27 (.int .i64 8)])
theorem feed_n_le : ∀ (l : List Ev) (s : Hi),(feed s l).n ≤ s.n + l.length
 | [],s=>Nat.le_refl _
 | e :: l,s=>by
   have h1:=feed_n_le l (addO s e)
   have h2 : (addO s e).n ≤ s.n + 1:=by
    unfold addO
    split
    ·unfold addH closes turned step1
     repeat' split
     all_goals simp [dropped]
    ·omega
   show (feed (addO s e) l).n ≤ _
   rw [List.length_cons]
   omega
theorem wrap_succ (i : Nat) (h : i ≤ 1000000) : wrap64 ((i : Int) + 1) = ((i + 1 : Nat) : Int):=by rw [wrap64];omega
theorem wrap_succ' (i : Nat) (h : i ≤ 1000000) : wrap64 ((i : Int) + 1) = (i : Int) + 1:=by rw [wrap64];omega
set_option maxRecDepth 100000 in
set_option maxHeartbeats 4000000 in
theorem check_any (W : World) (ao : Option Addr) (cp : Nat) (l : List Ev) (hl : RowV W ao l) (hn : l.length ≤ 100000) : Calls Tryz.prog 12 #[.slice ao l.length cp] W fun r W'=>Checked W l r W':=by
 obtain ⟨n,hnl⟩ : ∃ n,l.length = n:=⟨_,rfl⟩
 rw [hnl] at hn ⊢
 have HNL:=Lib.hid hnl
 have HN:=Lib.hid hn
 have HROW:=Lib.hid hl
 clear hnl hn hl
 go_enter Tryz.func12,Tryz.ntmps12
 go_upto_region 2 with (first | (go_at_call 48;refine (begin_any _).mono ?_;rintro r w1 ⟨hb,kb,ib,ob,fb,rfl,h1,h2,h3,h4,h5,hs,hf1⟩) | go_in)
 have HLE:=Lib.hid (And.intro h1 (And.intro h2 (And.intro h3 (And.intro h4 h5))))
 have HS1:=Lib.hid hs
 have HF1:=Lib.hid hf1
 clear h1 h2 h3 h4 h5 hs hf1
 go_wp2_with fail
 go_loopw [11] (fun iv wr=>∃ i : Nat,i ≤ n ∧ iv = .int .i64 i ∧ HS wr hb kb ib ob fb (feed hi0 (l.take i)) ∧ Good l i ∧ Fr (fun _=>False) W wr) (fun iv _=>n - (intOf iv).toNat)
 case atStart=>exact ⟨0,by omega,rfl,HS1.out,fun j e hj=>by omega,HF1.out⟩
 case round=>
  obtain ⟨i,hi,rfl,hs,hg,hf⟩:=hrel
  have HS:=Lib.hid hs
  have HG:=Lib.hid hg
  have HF:=Lib.hid hf
  clear HS1 HF1 hs hg hf
  by_cases hlt : i < n
  ·have p0 : decide ((i : Int) < n) = true:=decide_eq_true (by omega)
   obtain ⟨e,he⟩ : ∃ e,l[i]? = some e:=⟨_,List.getElem?_eq_getElem (by rw [HNL.out];exact hlt)⟩
   have HE:=Lib.hid he
   have hrow:=HROW.out
   rcases hrow with hrow | ⟨b,o,rfl,hbl,hcc⟩
   ·rw [hrow] at he;simp at he
   have hcell : ∀ j v,(evc e)[j]? = some v → wr.cell? ⟨b,o + i * 7 + j,none⟩ = some v:=fun j v hj=>(World.cell?_of_block (HF.out.block b hbl id)).trans (hcc i e he j v hj)
   have c0:=hcell 0 (.int .i64 e.k) rfl
   have c1:=hcell 1 (.int .i64 e.at_) rfl
   have c2:=hcell 2 (.int .i64 e.ref) rfl
   have c3:=hcell 3 (.int .i64 e.id) rfl
   have c4:=hcell 4 (.int .i64 e.list) rfl
   have c5:=hcell 5 (.int .i64 e.n) rfl
   have c6:=hcell 6 (.slice e.ao e.dl e.cp) rfl
   rw [Nat.add_zero] at c0
   clear hcell hcc he
   go_upto_region 5 with (fail)
   have hfa : Fr (fun _=>False) wr (wr.alloc (.cells (evc e) 62)):=Fr.alloc _ _ _
   obtain ⟨s,hs⟩ : ∃ s,feed hi0 (l.take i) = s:=⟨_,rfl⟩
   have hsn : s.n ≤ i:=by
    have:=feed_n_le (l.take i) hi0
    rw [hs,List.length_take] at this
    simp [hi0] at this
    omega
   have HSA:=HS.out.fr0 hfa
   rw [hs] at HSA
   have HADD:=Lib.hid (add_any (wr.alloc (.cells (evc e) 62)) hb kb ib ob fb s HSA (by have:=HN.out;omega) e)
   simp only [evc] at HADD
   have HFA : Hid (Fr (fun _=>False) W (wr.alloc (.cells (evc e) 62))):=Lib.hid (HF.out.trans hfa)
   simp only [evc] at HFA
   have HSS:=Lib.hid hs
   have HI:=Lib.hid (And.intro hi hlt)
   clear HSA hfa hsn hs
   obtain ⟨c,hc⟩ : ∃ c,faultC s e = c:=⟨_,rfl⟩
   have HC:=Lib.hid hc
   rw [hc] at HADD
   clear hc c0 c1 c2 c3 c4 c5 c6
   by_cases hc0 : c = 0
   ·subst hc0
    have e0 : ((0 : Nat) == 0) = true:=rfl
    rw [e0] at HADD
    go_upto_region 6 with (first | (go_at_call 49;refine HADD.out.mono ?_;rintro r2 w6 ⟨rfl,hs6,hf6⟩) | go_in)
    have HS6:=Lib.hid hs6
    have HF6 : Hid (Fr (fun _=>False) W w6):=Lib.hid (Fr.above HFA.out hf6 (fun k hk=>by obtain ⟨h1,h2,h3,h4,h5⟩:=HLE.out;rcases hk with rfl | rfl | rfl | rfl | rfl <;> assumption))
    clear hs6 hf6 HADD HFA e0 hbl hlt hi
    have HWS:=Lib.hid (wrap_succ i (by have:=HI.out;have:=HN.out;omega))
    go_wp2
    go_roundw
    case rel=>
     have hi:=HI.out
     refine ⟨i + 1,by omega,by rw [HWS.out],?_,fun j e' hj he'=>?_,HF6.out⟩
     ·rw [feed_take hi0 l i e HE.out,HSS.out];exact HS6.out
     ·by_cases ej : j = i
      ·subst ej
       rw [HE.out] at he'
       cases he'
       rw [HSS.out];exact HC.out
      ·exact HG.out j e' (by omega) he'
    case measure=>rw [HWS.out];clear HWS;have:=HI.out;simp [intOf];omega
   ·have e0 : (c == 0) = false:=by simp [hc0]
    obtain ⟨z,hz,_⟩:=why_cases c (by rw [← HC.out];exact fault_le s e)
    have HZ:=Lib.hid hz
    rw [e0,hz] at HADD
    clear hz
    go_upto_region 6 with (first | (go_at_call 49;refine HADD.out.mono ?_;rintro r2 w6 ⟨rfl,hs6,hf6⟩) | go_in)
    have HF6 : Hid (Fr (fun _=>False) W w6):=Lib.hid (Fr.above HFA.out hf6 (fun k hk=>by obtain ⟨h1,h2,h3,h4,h5⟩:=HLE.out;rcases hk with rfl | rfl | rfl | rfl | rfl <;> assumption))
    have HC0:=Lib.hid hc0
    clear hs6 hf6 HADD HFA e0 hbl hlt hi hc0
    have HWS:=Lib.hid (wrap_succ' i (by have:=HI.out;have:=HN.out;omega))
    go_upto_region 7 with (fail)
    go_wp2
    go_ret
    rw [HWS.out]
    have hb:=Blk.new w6 92 #[.int .i64 ((i : Int) + 1),.string z,.iface 27 (.int .i64 8)]
    refine ⟨HF6.out.trans (Fr.alloc _ _ _),.inr ⟨i,e,w6.heap.size,HE.out,HG.out,?_,rfl,HF6.out.size,?_⟩⟩
    ·rw [HSS.out,HC.out];exact HC0.out
    ·rw [HSS.out,HC.out,HZ.out];exact hb
  ·obtain rfl : i = n:=by omega
   have p0 : decide ((i : Int) < i) = false:=decide_eq_false (by omega)
   go_wp2
   go_ret
   exact ⟨HF.out,.inl ⟨rfl,by rw [HNL.out];exact HG.out⟩⟩
end Go.Proofs.YtnkelaohcbdjnaaGreat.Ev
