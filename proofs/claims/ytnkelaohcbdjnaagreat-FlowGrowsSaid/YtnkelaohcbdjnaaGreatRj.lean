/- The document's bad. -/
import Derived.Test.YtnkelaohcbdjnaaGreatRi
import Derived.Deep.QuietTactic
import Derived.BigQuiet
set_option linter.unusedVariables false
set_option linter.unusedSimpArgs false
namespace Go.Proofs.YtnkelaohcbdjnaaGreat
open Go.RowKit Go.Maps Ev
theorem OwnI.low {W : World} {B B' : Nat} {v : Value} {xs : List Int} (h : OwnI W B v xs) (hb : B' ≤ B) : OwnI W B' v xs:=by
 obtain ⟨h1,h2 | ⟨g,cap,cur,a,b,c⟩⟩:=h
 ·exact ⟨h1,.inl h2⟩
 ·exact ⟨h1,.inr ⟨g,cap,cur,a,Nat.le_trans hb b,c⟩⟩
def Dis (v w : Value) : Prop:=∀ k,v.ownBlock = some k → w.ownBlock ≠ some k
theorem Dis.symm {v w : Value} (h : Dis v w) : Dis w v:=fun k e e'=>h k e' e
theorem Dis.new {W : World} {B : Nat} {v v' w : Value} {xs : List Int} (h : Dis v w) (hw : OwnI W B w xs) (hv : v'.ownBlock = v.ownBlock ∨ v'.ownBlock = some W.heap.size) : Dis v' w:=fun k e e'=>by
 rcases hv with hv | hv
 ·exact h k (hv ▸ e) e'
 ·rw [hv] at e
  have:=(hw.ob e').2.1
  have:=Option.some.inj e
  omega
theorem Dis.high {W W' : World} {B : Nat} {v w : Value} {xs ys : List Int} (hv : OwnI W B v xs) (hw : OwnI W' W.heap.size w ys) : Dis v w:=fun k e e'=>by
 have:=(hv.ob e).2.1
 have:=(hw.ob e').1
 omega
/-- the rows of what is open,as the set tells them -/
structure Rows (M : Int × Int → Bool) (A T K : List Int) : Prop where
 a : ∀ i,M (7,i) = hasB A i
 t : ∀ i,M (12,i) = hasB T i
 k : ∀ i,M (17,i) = hasB K i
theorem Rows.putA {M : Int × Int → Bool} {A T K : List Int} (h : Rows M A T K) (i : Int) : Rows (sput M (7,i) true) (A ++ [i]) T K:=by
 refine ⟨fun j=>?_,fun j=>?_,fun j=>?_⟩
 ·rw [hasB_snoc,← h.a];unfold sput
  by_cases e : j = i
  ·subst e;simp
  ·simp [e,Ne.symm e]
 ·rw [← h.t];unfold sput;simp
 ·rw [← h.k];unfold sput;simp
theorem Rows.putT {M : Int × Int → Bool} {A T K : List Int} (h : Rows M A T K) (i : Int) : Rows (sput M (12,i) true) A (T ++ [i]) K:=by
 refine ⟨fun j=>?_,fun j=>?_,fun j=>?_⟩
 ·rw [← h.a];unfold sput;simp
 ·rw [hasB_snoc,← h.t];unfold sput
  by_cases e : j = i
  ·subst e;simp
  ·simp [e,Ne.symm e]
 ·rw [← h.k];unfold sput;simp
theorem Rows.putK {M : Int × Int → Bool} {A T K : List Int} (h : Rows M A T K) (i : Int) : Rows (sput M (17,i) true) A T (K ++ [i]):=by
 refine ⟨fun j=>?_,fun j=>?_,fun j=>?_⟩
 ·rw [← h.a];unfold sput;simp
 ·rw [← h.t];unfold sput;simp
 ·rw [hasB_snoc,← h.k];unfold sput
  by_cases e : j = i
  ·subst e;simp
  ·simp [e,Ne.symm e]
theorem Rows.dropT {M : Int × Int → Bool} {A T K : List Int} (h : Rows M A T K) (i : Int) : Rows (sput M (12,i) false) A (withoutL T i) K:=by
 refine ⟨fun j=>?_,fun j=>?_,fun j=>?_⟩
 ·rw [← h.a];unfold sput;simp
 ·rw [hasB_without,← h.t];unfold sput
  by_cases e : j = i
  ·subst e;simp
  ·simp [e,Ne.symm e]
 ·rw [← h.k];unfold sput;simp
theorem fr_own {W w W' : World} {B : Nat} {v : Value} {xs : List Int} (h1 : Fr (fun _=>False) W w) (ho : OwnI w B v xs) (hB : W.heap.size = B) (h2 : Fr (fun k=>v.ownBlock = some k) w W') : Fr (fun _=>False) W W':=
 ⟨h2.os.trans h1.os,h2.tape.trans h1.tape,h2.output.trans h1.output,Nat.le_trans h1.size h2.size,fun k hk _=>(h2.block k (Nat.lt_of_lt_of_le hk h1.size) (fun e=>by have:=(ho.ob e).1;omega)).trans (h1.block k hk id)⟩
/-- one more number behind a row -/
theorem app_one (w : World) (B : Nat) (v : Value) (xs : List Int) (x : Int) (hB : B ≤ w.heap.size) (ho : OwnI w B v xs) (hn : xs.length ≤ 50000) : ∃ (v' : Value) (W' : World),(Builtin.append_ #[116,116] 116 #[v,.slice (some ⟨w.heap.size,0,none⟩) 1 1]).run Tryz.prog (w.alloc (.cells #[.int .i64 x] 3)) = .ok v' W' ∧ OwnI W' B v' (xs ++ [x]) ∧ Fr (fun k=>v.ownBlock = some k) w W' ∧ (v'.ownBlock = v.ownBlock ∨ ∃ k,v'.ownBlock = some k ∧ w.heap.size ≤ k):=by
 have hf : Fr (fun _=>False) w (w.alloc (.cells #[.int .i64 x] 3)):=Fr.alloc _ _ _
 obtain ⟨v',W',h1,h2,h3,h4⟩:=app_i (w.alloc (.cells #[.int .i64 x] 3)) B v xs [x] 116 (by simp;omega) (ho.fr hf (fun _ _ e=>e)) (some ⟨w.heap.size,0,none⟩) 1 1 (.inr ⟨_,0,rfl,by simp,fun i z hz=>by
  cases i with
  | zero=>cases hz;exact (Blk.new w 3 #[.int .i64 x]).cell 0
  | succ i=>simp at hz⟩) rfl (by omega)
 refine ⟨v',W',h1,h2,(hf.mono fun _ e=>e.elim).trans h3,?_⟩
 rcases h4 with h4 | h4
 ·exact .inl h4
 ·exact .inr ⟨_,h4,by simp⟩
theorem Dis.new2 {w : World} {B : Nat} {v v' u : Value} {xs : List Int} (h : Dis v u) (hu : OwnI w B u xs) (hv : v'.ownBlock = v.ownBlock ∨ ∃ k,v'.ownBlock = some k ∧ w.heap.size ≤ k) : Dis v' u:=fun k e e'=>by
 rcases hv with hv | ⟨g,hv,hg⟩
 ·exact h k (hv ▸ e) e'
 ·rw [hv] at e
  have:=(hu.ob e').2.1
  have:=Option.some.inj e
  omega
theorem without_len (xs : List Int) (v : Int) : (withoutL xs v).length ≤ xs.length:=List.length_filter_le _ _
set_option maxRecDepth 100000 in
set_option maxHeartbeats 60000000 in
theorem rbad_any (S R : Nat → Prop) (W : World) (rb : Nat) (s : FSt) (h : RF S R W rb s) (hl : s.l.length ≤ 5000) (ao : Option Addr) (cp : Nat) (l : List Dv) (hrow : RowD S W ao l) (hcp : l.length ≤ cp) :
 Calls Tryz.prog 70 #[.pointer (some ⟨rb,0,none⟩),.slice ao l.length cp] W fun e W'=>e = .returned (.bool (rbadS s l)) ∧ Fr (fun _=>False) W W':=by
 obtain ⟨n,hn⟩ : ∃ n,l.length = n:=⟨_,rfl⟩
 rw [hn] at hcp ⊢
 have HN:=Lib.hid hn
 by_cases h32 : 32 < n
 ·have HB : Hid (rbadS s l = true):=Lib.hid (by unfold rbadS;rw [hn];simp [h32])
  have p1 : decide ((n : Int) > 32) = true:=decide_eq_true (by omega)
  have p2 : decide (32 < (n : Int)) = true:=decide_eq_true (by omega)
  have p3 : decide (32 < n) = true:=decide_eq_true h32
  clear h hrow hn h32 hl hcp
  go_enter Tryz.func70,Tryz.ntmps70
  go_wp2
  go_ret
  exact ⟨by rw [HB.out];rfl,Fr.refl _ _⟩
 have HBS : Hid (rbadS s l = badL s.id s.asked (openR s.l) l):=Lib.hid (by unfold rbadS;rw [hn];simp [h32])
 have p1 : decide ((n : Int) > 32) = false:=decide_eq_false (by omega)
 have p2 : decide (32 < (n : Int)) = false:=decide_eq_false (by omega)
 have p3 : decide (32 < n) = false:=decide_eq_false h32
 have H32 : Hid (n ≤ 32):=Lib.hid (by omega)
 obtain ⟨ao2,cp2,L,hb,hL,ht,hrv,hcp2,_⟩:=h.rows
 obtain ⟨n2,hn2⟩ : ∃ n,s.l.length = n:=⟨_,rfl⟩
 rw [hn2] at hb hL hl hcp2
 obtain ⟨sid,hsid⟩ : ∃ x,s.id = x:=⟨_,rfl⟩
 obtain ⟨sas,hsas⟩ : ∃ x,s.asked = x:=⟨_,rfl⟩
 rw [hsid,hsas] at HBS
 have hg : Gs s.l = L.map strip:=tells_gs ht (by omega)
 have HOP : Hid (∀ w,Fr (fun _=>False) W w → ∀ k,Calls Tryz.prog 85 #[.slice ao2 n2 cp2,.int .i64 k] w fun r W'=>∃ v xs,r = .returned v ∧ OwnI W' w.heap.size v xs ∧ (∀ i,openR s.l (k,i) = hasB xs i) ∧ xs.length ≤ 5000 ∧ Fr (fun _=>False) w W'):=Lib.hid (fun w hf k=>by
  refine (ropenk_any w ao2 cp2 n2 L (hrv.fr hf (fun _ e=>e.elim)) hL hcp2 (by omega) k).mono ?_
  rintro r W' ⟨v,xs,rfl,h1,_,h3,h4⟩
  refine ⟨v,xs,rfl,h1,fun i=>?_,?_,h4⟩
  ·show hasB (rIds (Gs s.l) k s.l.length) i = _
   rw [hg,rIds_strip,hn2]
   exact (hasB_perm h3 i).symm
  ·rw [h3.length_eq]
   unfold rIds
   rw [List.length_map]
   exact Nat.le_trans (List.length_filter_le _ _) (by rw [List.length_range];omega))
 have FX : Hid (∀ w',Fr (fun _=>False) W w' → w'.cell? ⟨rb,0,none⟩ = some (.int .i64 sid) ∧ w'.cell? ⟨rb,4,none⟩ = some (.slice ao2 n2 cp2) ∧ w'.cell? ⟨rb,10,none⟩ = some (.bool sas)):=Lib.hid (fun w' hf=>by
  have h:=hb.fr hf id
  have h0:=h.cell 0
  have h4:=h.cell 4
  have h10:=h.cell 10
  simp only [rcells,lA,lB,lC] at h0 h4 h10
  rw [hsid] at h0
  rw [hsas] at h10
  exact ⟨h0,h4,h10⟩)
 have HROW : Hid (RowD (fun _=>False) W ao l):=Lib.hid (hrow.to (fun _ _ e=>e.elim))
 clear h hrow hb hL ht hrv hcp2 hn hn2 hsid hsas hg hl h32
 go_enter Tryz.func70,Tryz.ntmps70
 go_upto_region 3 with (fail)
 obtain ⟨_,x4,_⟩:=FX.out W (Fr.refl _ _)
 go_upto_region 4 with (first | (go_at_call 85;refine (HOP.out _ (Fr.refl _ _) 7).mono ?_;rintro e w1 ⟨vA,A,rfl,hA,hmA,hlA,hf1⟩) | go_in)
 have HA1:=Lib.hid hA
 have HMA:=Lib.hid (And.intro hmA hlA)
 have HF1:=Lib.hid hf1
 clear x4 hA hmA hlA hf1 p1 p2 p3
 obtain ⟨_,x4,_⟩:=FX.out w1 HF1.out
 go_upto_region 5 with (first | (go_at_call 85;refine (HOP.out _ HF1.out 12).mono ?_;rintro e w2 ⟨vT,Tm,rfl,hA,hmA,hlA,hf2⟩) | go_in)
 have HT2:=Lib.hid hA
 have HMT:=Lib.hid (And.intro hmA hlA)
 have HF12:=Lib.hid hf2
 have HF2:=Lib.hid (HF1.out.trans hf2)
 clear x4 hA hmA hlA hf2
 obtain ⟨_,x4,_⟩:=FX.out w2 HF2.out
 go_upto_region 6 with (first | (go_at_call 85;refine (HOP.out _ HF2.out 17).mono ?_;rintro e w3 ⟨vK,Kd,rfl,hA,hmA,hlA,hf3⟩) | go_in)
 have HK3:=Lib.hid hA
 have HMK:=Lib.hid (And.intro hmA hlA)
 have HF23:=Lib.hid hf3
 have HF3:=Lib.hid (HF2.out.trans hf3)
 clear x4 hA hmA hlA hf3 HOP
 obtain ⟨B,hB⟩ : ∃ B,W.heap.size = B:=⟨_,rfl⟩
 have HB:=Lib.hid hB
 have HST : Hid (OwnI w3 B vA A ∧ OwnI w3 B vT Tm ∧ OwnI w3 B vK Kd ∧ Dis vA vT ∧ Dis vA vK ∧ Dis vT vK):=Lib.hid (by
  subst hB
  have a1:=HA1.out.fr HF12.out (fun _ _ e=>e)
  have t2:=HT2.out
  exact ⟨a1.fr HF23.out (fun _ _ e=>e),OwnI.low (t2.fr HF23.out (fun _ _ e=>e)) HF1.out.size,OwnI.low HK3.out HF2.out.size,Dis.high HA1.out HT2.out,Dis.high a1 HK3.out,Dis.high t2 HK3.out⟩)
 clear hB HA1 HT2 HK3 HF12 HF23 HF1 HF2
 go_wp2_with fail
 go_loopw [5,6,7,8] (fun va vt vk ki wz=>∃ (q : Nat) (M : Int × Int → Bool) (A Tm Kd : List Int),ki = .int .i64 q ∧ q ≤ n ∧ (OwnI wz B va A ∧ OwnI wz B vt Tm ∧ OwnI wz B vk Kd ∧ Dis va vt ∧ Dis va vk ∧ Dis vt vk) ∧ (A.length ≤ 5000 + q ∧ Tm.length ≤ 5000 + q ∧ Kd.length ≤ 5000 + q) ∧ Rows M A Tm Kd ∧ badL sid sas M (l.drop q) = badL sid sas (openR s.l) l ∧ Fr (fun _=>False) W wz) (fun _ _ _ ki _=>n - (intOf ki).toNat)
 case atStart=>exact ⟨0,openR s.l,A,Tm,Kd,rfl,Nat.zero_le _,HST.out,⟨HMA.out.2,HMT.out.2,HMK.out.2⟩,⟨HMA.out.1,HMT.out.1,HMK.out.1⟩,rfl,HF3.out⟩
 case round=>
  obtain ⟨q,M,A,Tm,Kd,rfl,hq,hst,hlen,hrows,hbl,hfz⟩:=hrel
  have HQ:=Lib.hid hq
  have HST:=Lib.hid hst
  have HLEN:=Lib.hid hlen
  have HROWS:=Lib.hid hrows
  have HBL:=Lib.hid hbl
  have HFZ:=Lib.hid hfz
  clear hq hst hlen hrows hbl hfz
  by_cases hlt : q < n
  rotate_left
  ·have hqn : q = n:=by have:=HQ.out;omega
   have p2 : decide ((q : Int) < (n : Int)) = false:=decide_eq_false (by omega)
   have p2' : decide (q < n) = false:=decide_eq_false (by omega)
   have hR : Hid (rbadS s l = false):=Lib.hid (by rw [HBS.out,← HBL.out,List.drop_eq_nil_of_le (by rw [HN.out];omega)];rfl)
   clear hlt
   go_wp2
   go_ret
   exact ⟨by rw [hR.out];rfl,HFZ.out⟩
  obtain ⟨d,hd⟩ : ∃ d,l[q]? = some d:=⟨_,List.getElem?_eq_getElem (by rw [HN.out];exact hlt)⟩
  obtain ⟨b,of,va,vc,hao,hdr,hcell⟩:=HROW.out.at_ hd
  have HDROP : Hid (badL sid sas M (l.drop q) = (wrongD sid sas M d (decide (q + 1 < n)) || badL sid sas (takeM M d.k d.i).1 (l.drop (q + 1)))):=Lib.hid (by
   have e1 : l.drop q = d :: l.drop (q + 1):=by
    rw [List.drop_eq_getElem_cons (by rw [HN.out];exact hlt)]
    have:=(List.getElem?_eq_some_iff.1 hd).2
    rw [this]
   rw [e1]
   show (wrongD sid sas M d (!(l.drop (q + 1)).isEmpty) || _) = _
   congr 2
   by_cases h : q + 1 < n
   ·rw [decide_eq_true h]
    have : (l.drop (q + 1)).length ≠ 0:=by rw [List.length_drop,HN.out];omega
    cases hx : l.drop (q + 1) with
    | nil=>rw [hx] at this;exact absurd rfl this
    | cons a r=>rfl
   ·rw [decide_eq_false h,List.drop_eq_nil_of_le (by rw [HN.out];omega)];rfl)
  obtain ⟨⟨kk,ii,ll,nn,dd⟩,hde⟩ : ∃ d',d = d':=⟨d,rfl⟩
  subst hde
  obtain ⟨dl,hdl⟩ : ∃ m,dd.length = m:=⟨_,rfl⟩
  dsimp only at hdr hcell HDROP
  rw [hdl] at hcell
  have HMAY : Hid (∀ w',Calls Tryz.prog 94 #[.agg #[.int .i64 kk,.int .i64 ii,.int .i64 ll,.int .i64 nn,.slice va dl vc]] w' fun e W'=>e = .returned (.bool (mayB kk ii ll nn dl)) ∧ Fr (fun _=>False) w' W'):=Lib.hid (fun w'=>may10_any kk ii ll nn va dl vc w')
  have HMD : Hid (mayD ⟨kk,ii,ll,nn,dd⟩ = mayB kk ii ll nn dl):=Lib.hid (by show mayB kk ii ll nn dd.length = _;rw [hdl])
  have c0 : wr.cell? ⟨b,of + q * 5,none⟩ = some (.int .i64 kk):=hcell wr HFZ.out 0 _ rfl
  have c1 : wr.cell? ⟨b,of + q * 5 + 1,none⟩ = some (.int .i64 ii):=hcell wr HFZ.out 1 _ rfl
  have c2 : wr.cell? ⟨b,of + q * 5 + 2,none⟩ = some (.int .i64 ll):=hcell wr HFZ.out 2 _ rfl
  have c3 : wr.cell? ⟨b,of + q * 5 + 3,none⟩ = some (.int .i64 nn):=hcell wr HFZ.out 3 _ rfl
  have c4 : wr.cell? ⟨b,of + q * 5 + 4,none⟩ = some (.slice va dl vc):=hcell wr HFZ.out 4 _ rfl
  have p0 : decide ((q : Int) < (n : Int)) = true:=decide_eq_true (by omega)
  have p0' : decide (q < n) = true:=decide_eq_true hlt
  have hq0 : (0 : Int) ≤ (q : Int) ∧ (q : Int) < (n : Int):=by omega
  have HLT:=Lib.hid hlt
  subst hao
  clear hcell hdr hd hdl hlt
  go_upto_region 10 with (fail)
  have hDB:=Blk.new wr 52 #[.int .i64 kk,.int .i64 ii,.int .i64 ll,.int .i64 nn,.slice va dl vc]
  have hf5 : Fr (fun _=>False) wr (wr.alloc (.cells #[.int .i64 kk,.int .i64 ii,.int .i64 ll,.int .i64 nn,.slice va dl vc] 52)):=Fr.alloc _ _ _
  obtain ⟨w5,hw5⟩ : ∃ w5,wr.alloc (.cells #[.int .i64 kk,.int .i64 ii,.int .i64 ll,.int .i64 nn,.slice va dl vc] 52) = w5:=⟨_,rfl⟩
  rw [hw5] at hDB hf5 ⊢
  obtain ⟨db,hdb⟩ : ∃ b,wr.heap.size = b:=⟨_,rfl⟩
  rw [hdb] at hDB ⊢
  have HF5:=Lib.hid (HFZ.out.trans hf5)
  have HF15:=Lib.hid hf5
  have FD : Hid (∀ w',Fr (fun _=>False) w5 w' → w'.cell? ⟨db,0,none⟩ = some (.int .i64 kk) ∧ w'.cell? ⟨db,1,none⟩ = some (.int .i64 ii) ∧ w'.cell? ⟨db,2,none⟩ = some (.int .i64 ll) ∧ w'.cell? ⟨db,3,none⟩ = some (.int .i64 nn) ∧ w'.cell? ⟨db,4,none⟩ = some (.slice va dl vc)):=Lib.hid (fun w' hf=>by
   have h2:=hDB.fr hf id
   exact ⟨h2.cell 0,h2.cell 1,h2.cell 2,h2.cell 3,h2.cell 4⟩)
  have hwq : wrap64 ((n : Int) - 1) = (n : Int) - 1:=by have:=H32.out;rw [wrap64];omega
  have hwz : wrap64 ((q : Int) + 1) = ((q + 1 : Nat) : Int):=by have:=H32.out;rw [wrap64];omega
  have HWQ:=Lib.hid (And.intro hwq hwz)
  have HKI : mayB kk ii ll nn dl = true → 1 ≤ kk ∧ kk ≤ 8:=fun e=>mayD_k (x:=⟨kk,ii,ll,nn,dd⟩) (HMD.out.trans e)
  have HKI:=Lib.hid HKI
  obtain ⟨aA,cA,hvA,hA1,_,hrA,_⟩:=HST.out.1.row
  obtain ⟨aT,cT,hvT,hT1,_,hrT,_⟩:=HST.out.2.1.row
  obtain ⟨aK,cK,hvK,hK1,_,hrK,_⟩:=HST.out.2.2.1.row
  obtain ⟨la,hla⟩ : ∃ n,A.length = n:=⟨_,rfl⟩
  obtain ⟨lt,hlt⟩ : ∃ n,Tm.length = n:=⟨_,rfl⟩
  obtain ⟨lk,hlk⟩ : ∃ n,Kd.length = n:=⟨_,rfl⟩
  rw [hla] at hvA hA1
  rw [hlt] at hvT hT1
  rw [hlk] at hvK hK1
  subst hvA hvT hvK
  have HLL:=Lib.hid (And.intro hla (And.intro hlt hlk))
  have HCC:=Lib.hid (And.intro hA1 (And.intro hT1 hK1))
  have HRA : Hid (∀ w v,Fr (fun _=>False) wr w → Calls Tryz.prog 84 #[.slice aA la cA,.int .i64 v] w fun e W'=>e = .returned (.bool (hasB A v)) ∧ w = W'):=Lib.hid (fun w v hf=>by
   exact has_any w aA cA la A (hrA.fr hf (fun _ _ e=>e)) hla (by have:=HLEN.out;have:=H32.out;have:=HLT.out;omega) hA1 v)
  have HRT : Hid (∀ w v,Fr (fun _=>False) wr w → Calls Tryz.prog 84 #[.slice aT lt cT,.int .i64 v] w fun e W'=>e = .returned (.bool (hasB Tm v)) ∧ w = W'):=Lib.hid (fun w v hf=>by
   exact has_any w aT cT lt Tm (hrT.fr hf (fun _ _ e=>e)) hlt (by have:=HLEN.out;have:=H32.out;have:=HLT.out;omega) hT1 v)
  have HRK : Hid (∀ w v,Fr (fun _=>False) wr w → Calls Tryz.prog 84 #[.slice aK lk cK,.int .i64 v] w fun e W'=>e = .returned (.bool (hasB Kd v)) ∧ w = W'):=Lib.hid (fun w v hf=>by
   exact has_any w aK cK lk Kd (hrK.fr hf (fun _ _ e=>e)) hlk (by have:=HLEN.out;have:=H32.out;have:=HLT.out;omega) hK1 v)
  have HRWO : Hid (∀ w v,Fr (fun _=>False) wr w → Calls Tryz.prog 95 #[.slice aT lt cT,.int .i64 v] w fun e W'=>∃ u,e = .returned u ∧ OwnI W' w.heap.size u (withoutL Tm v) ∧ Fr (fun _=>False) w W'):=Lib.hid (fun w v hf=>by
   exact without_any w aT cT lt Tm (hrT.fr hf (fun _ _ e=>e)) hlt (by have:=HLEN.out;have:=H32.out;have:=HLT.out;omega) hT1 v)
  clear hla hlt hlk hA1 hT1 hK1 hrA hrT hrK
  obtain ⟨d0,d1,d2,d3,d4⟩:=FD.out w5 (Fr.refl _ _)
  clear c0 c1 c2 c3 c4 hw5 hdb hDB hf5 p0 p0' hwz
  by_cases hk1 : kk = 1
  ·skip
   subst hk1
   have hr : M (7,ii) = hasB A ii:=HROWS.out.a ii
   cases hm : mayB 1 ii ll nn dl with
   | false=>
     have HBAD : Hid (rbadS s l = true):=Lib.hid (by rw [HBS.out,← HBL.out,HDROP.out];unfold wrongD;rw [HMD.out];simp [hm])
     rw [hm] at HMAY
     clear hm hr
     go_wp2_with (first | (go_at_call 94;refine (HMAY.out _).mono ?_;rintro e w6 ⟨rfl,hf6⟩;have HF6:=Lib.hid (HF5.out.trans hf6);have HF16:=Lib.hid (HF15.out.trans hf6);have HF56:=Lib.hid hf6;obtain ⟨v',W',hrun,hown',hfa,hob⟩:=app_one w6 B (.slice aA la cA) A ii (by rw [← HB.out];exact HF6.out.size) (HST.out.1.fr HF16.out (fun _ _ e=>e)) (by have:=HLEN.out;have:=H32.out;have:=HLT.out;omega);have HOWN':=Lib.hid hown';have HFA : Hid (Fr (fun _=>False) W W'):=Lib.hid (fr_own HF6.out (HST.out.1.fr HF16.out (fun _ _ e=>e)) HB.out hfa);have HFO:=Lib.hid hfa;have HOB:=Lib.hid hob;clear hown' hfa hob;obtain ⟨e0,e1,e2,e3,e4⟩:=FD.out _ hf6;obtain ⟨y0,_,y10⟩:=FX.out _ (HF5.out.trans hf6);clear hf6 d0 d1 d2 d3 d4) | (at_builtin;refine wpList_appRunV rfl _ _ _ rfl _ _ _ rfl rfl hrun ?_) | go_in)
     go_ret
     exact ⟨by rw [HBAD.out];rfl,HFA.out⟩
   | true=>
     have hkl : ¬ ((5 : Int) ≤ 1):=by omega
     rw [hm] at HMAY
     cases hh : hasB A ii with
     | true=>
       have HBAD : Hid (rbadS s l = true):=Lib.hid (by rw [HBS.out,← HBL.out,HDROP.out];unfold wrongD;rw [HMD.out];simp [hm,takeM,hr,hh])
       clear hm hr hkl
       go_wp2_with (first | (go_at_call 94;refine (HMAY.out _).mono ?_;rintro e w6 ⟨rfl,hf6⟩;have HF6:=Lib.hid (HF5.out.trans hf6);have HF16:=Lib.hid (HF15.out.trans hf6);have HF56:=Lib.hid hf6;obtain ⟨v',W',hrun,hown',hfa,hob⟩:=app_one w6 B (.slice aA la cA) A ii (by rw [← HB.out];exact HF6.out.size) (HST.out.1.fr HF16.out (fun _ _ e=>e)) (by have:=HLEN.out;have:=H32.out;have:=HLT.out;omega);have HOWN':=Lib.hid hown';have HFA : Hid (Fr (fun _=>False) W W'):=Lib.hid (fr_own HF6.out (HST.out.1.fr HF16.out (fun _ _ e=>e)) HB.out hfa);have HFO:=Lib.hid hfa;have HOB:=Lib.hid hob;clear hown' hfa hob;obtain ⟨e0,e1,e2,e3,e4⟩:=FD.out _ hf6;obtain ⟨y0,_,y10⟩:=FX.out _ (HF5.out.trans hf6);clear hf6 d0 d1 d2 d3 d4) | (go_at_call 84;refine (HRA.out w6 ii HF16.out).mono ?_;rintro e w7 ⟨rfl,rfl⟩) | (at_builtin;refine wpList_appRunV rfl _ _ _ rfl _ _ _ rfl rfl hrun ?_) | go_in)
       go_ret
       exact ⟨by rw [HBAD.out];rfl,HFA.out⟩
     | false=>
       have HWR : Hid (wrongD sid sas M ⟨1,ii,ll,nn,dd⟩ (decide (q + 1 < n)) = false):=Lib.hid (by unfold wrongD;rw [HMD.out];simp [hm,takeM,hr,hh])
       clear hm hr hkl
       go_wp2_with (first | (go_at_call 94;refine (HMAY.out _).mono ?_;rintro e w6 ⟨rfl,hf6⟩;have HF6:=Lib.hid (HF5.out.trans hf6);have HF16:=Lib.hid (HF15.out.trans hf6);have HF56:=Lib.hid hf6;obtain ⟨v',W',hrun,hown',hfa,hob⟩:=app_one w6 B (.slice aA la cA) A ii (by rw [← HB.out];exact HF6.out.size) (HST.out.1.fr HF16.out (fun _ _ e=>e)) (by have:=HLEN.out;have:=H32.out;have:=HLT.out;omega);have HOWN':=Lib.hid hown';have HFA : Hid (Fr (fun _=>False) W W'):=Lib.hid (fr_own HF6.out (HST.out.1.fr HF16.out (fun _ _ e=>e)) HB.out hfa);have HFO:=Lib.hid hfa;have HOB:=Lib.hid hob;clear hown' hfa hob;obtain ⟨e0,e1,e2,e3,e4⟩:=FD.out _ hf6;obtain ⟨y0,_,y10⟩:=FX.out _ (HF5.out.trans hf6);clear hf6 d0 d1 d2 d3 d4) | (go_at_call 84;refine (HRA.out w6 ii HF16.out).mono ?_;rintro e w7 ⟨rfl,rfl⟩) | (at_builtin;refine wpList_appRunV rfl _ _ _ rfl _ _ _ rfl rfl hrun ?_) | go_in)
       go_roundw
       case rel=>exact ⟨q + 1,sput M (7,ii) true,A ++ [ii],Tm,Kd,congrArg (Value.int .i64) HWQ.out.2,HLT.out,⟨HOWN'.out,((HST.out.2.1.fr HF16.out (fun _ _ e=>e)).fr HFO.out (fun k e e'=>HST.out.2.2.2.1 k e' e)),((HST.out.2.2.1.fr HF16.out (fun _ _ e=>e)).fr HFO.out (fun k e e'=>HST.out.2.2.2.2.1 k e' e)),Dis.new2 HST.out.2.2.2.1 (HST.out.2.1.fr HF16.out (fun _ _ e=>e)) HOB.out,Dis.new2 HST.out.2.2.2.2.1 (HST.out.2.2.1.fr HF16.out (fun _ _ e=>e)) HOB.out,HST.out.2.2.2.2.2⟩,(by have:=HLEN.out;have:=HLL.out;simp only [List.length_append,List.length_cons,List.length_nil];omega),HROWS.out.putA ii,(by rw [← HBL.out,HDROP.out,HWR.out];simp only [Bool.false_or];rw [show (takeM M 1 ii).1 = sput M (7,ii) true from by simp [takeM]]),HFA.out⟩
       case measure=>rw [HWQ.out.2];simp only [intOf];have:=HLT.out;omega
  by_cases hk2 : kk = 2
  ·skip
   subst hk2
   have hr : M (12,ii) = hasB Tm ii:=HROWS.out.t ii
   cases hm : mayB 2 ii ll nn dl with
   | false=>
     have HBAD : Hid (rbadS s l = true):=Lib.hid (by rw [HBS.out,← HBL.out,HDROP.out];unfold wrongD;rw [HMD.out];simp [hm])
     rw [hm] at HMAY
     clear hm hr
     go_wp2_with (first | (go_at_call 94;refine (HMAY.out _).mono ?_;rintro e w6 ⟨rfl,hf6⟩;have HF6:=Lib.hid (HF5.out.trans hf6);have HF16:=Lib.hid (HF15.out.trans hf6);have HF56:=Lib.hid hf6;obtain ⟨v',W',hrun,hown',hfa,hob⟩:=app_one w6 B (.slice aT lt cT) Tm ii (by rw [← HB.out];exact HF6.out.size) (HST.out.2.1.fr HF16.out (fun _ _ e=>e)) (by have:=HLEN.out;have:=H32.out;have:=HLT.out;omega);have HOWN':=Lib.hid hown';have HFA : Hid (Fr (fun _=>False) W W'):=Lib.hid (fr_own HF6.out (HST.out.2.1.fr HF16.out (fun _ _ e=>e)) HB.out hfa);have HFO:=Lib.hid hfa;have HOB:=Lib.hid hob;clear hown' hfa hob;obtain ⟨e0,e1,e2,e3,e4⟩:=FD.out _ hf6;obtain ⟨y0,_,y10⟩:=FX.out _ (HF5.out.trans hf6);clear hf6 d0 d1 d2 d3 d4) | (at_builtin;refine wpList_appRunV rfl _ _ _ rfl _ _ _ rfl rfl hrun ?_) | go_in)
     go_ret
     exact ⟨by rw [HBAD.out];rfl,HFA.out⟩
   | true=>
     have hkl : ¬ ((5 : Int) ≤ 2):=by omega
     rw [hm] at HMAY
     cases hh : hasB Tm ii with
     | true=>
       have HBAD : Hid (rbadS s l = true):=Lib.hid (by rw [HBS.out,← HBL.out,HDROP.out];unfold wrongD;rw [HMD.out];simp [hm,takeM,hr,hh])
       clear hm hr hkl
       go_wp2_with (first | (go_at_call 94;refine (HMAY.out _).mono ?_;rintro e w6 ⟨rfl,hf6⟩;have HF6:=Lib.hid (HF5.out.trans hf6);have HF16:=Lib.hid (HF15.out.trans hf6);have HF56:=Lib.hid hf6;obtain ⟨v',W',hrun,hown',hfa,hob⟩:=app_one w6 B (.slice aT lt cT) Tm ii (by rw [← HB.out];exact HF6.out.size) (HST.out.2.1.fr HF16.out (fun _ _ e=>e)) (by have:=HLEN.out;have:=H32.out;have:=HLT.out;omega);have HOWN':=Lib.hid hown';have HFA : Hid (Fr (fun _=>False) W W'):=Lib.hid (fr_own HF6.out (HST.out.2.1.fr HF16.out (fun _ _ e=>e)) HB.out hfa);have HFO:=Lib.hid hfa;have HOB:=Lib.hid hob;clear hown' hfa hob;obtain ⟨e0,e1,e2,e3,e4⟩:=FD.out _ hf6;obtain ⟨y0,_,y10⟩:=FX.out _ (HF5.out.trans hf6);clear hf6 d0 d1 d2 d3 d4) | (go_at_call 84;refine (HRT.out w6 ii HF16.out).mono ?_;rintro e w7 ⟨rfl,rfl⟩) | (at_builtin;refine wpList_appRunV rfl _ _ _ rfl _ _ _ rfl rfl hrun ?_) | go_in)
       go_ret
       exact ⟨by rw [HBAD.out];rfl,HFA.out⟩
     | false=>
       have HWR : Hid (wrongD sid sas M ⟨2,ii,ll,nn,dd⟩ (decide (q + 1 < n)) = false):=Lib.hid (by unfold wrongD;rw [HMD.out];simp [hm,takeM,hr,hh])
       clear hm hr hkl
       go_wp2_with (first | (go_at_call 94;refine (HMAY.out _).mono ?_;rintro e w6 ⟨rfl,hf6⟩;have HF6:=Lib.hid (HF5.out.trans hf6);have HF16:=Lib.hid (HF15.out.trans hf6);have HF56:=Lib.hid hf6;obtain ⟨v',W',hrun,hown',hfa,hob⟩:=app_one w6 B (.slice aT lt cT) Tm ii (by rw [← HB.out];exact HF6.out.size) (HST.out.2.1.fr HF16.out (fun _ _ e=>e)) (by have:=HLEN.out;have:=H32.out;have:=HLT.out;omega);have HOWN':=Lib.hid hown';have HFA : Hid (Fr (fun _=>False) W W'):=Lib.hid (fr_own HF6.out (HST.out.2.1.fr HF16.out (fun _ _ e=>e)) HB.out hfa);have HFO:=Lib.hid hfa;have HOB:=Lib.hid hob;clear hown' hfa hob;obtain ⟨e0,e1,e2,e3,e4⟩:=FD.out _ hf6;obtain ⟨y0,_,y10⟩:=FX.out _ (HF5.out.trans hf6);clear hf6 d0 d1 d2 d3 d4) | (go_at_call 84;refine (HRT.out w6 ii HF16.out).mono ?_;rintro e w7 ⟨rfl,rfl⟩) | (at_builtin;refine wpList_appRunV rfl _ _ _ rfl _ _ _ rfl rfl hrun ?_) | go_in)
       go_roundw
       case rel=>exact ⟨q + 1,sput M (12,ii) true,A,Tm ++ [ii],Kd,congrArg (Value.int .i64) HWQ.out.2,HLT.out,⟨((HST.out.1.fr HF16.out (fun _ _ e=>e)).fr HFO.out (fun k e e'=>(Dis.symm HST.out.2.2.2.1) k e' e)),HOWN'.out,((HST.out.2.2.1.fr HF16.out (fun _ _ e=>e)).fr HFO.out (fun k e e'=>HST.out.2.2.2.2.2 k e' e)),Dis.symm (Dis.new2 (Dis.symm HST.out.2.2.2.1) (HST.out.1.fr HF16.out (fun _ _ e=>e)) HOB.out),HST.out.2.2.2.2.1,Dis.new2 HST.out.2.2.2.2.2 (HST.out.2.2.1.fr HF16.out (fun _ _ e=>e)) HOB.out⟩,(by have:=HLEN.out;have:=HLL.out;simp only [List.length_append,List.length_cons,List.length_nil];omega),HROWS.out.putT ii,(by rw [← HBL.out,HDROP.out,HWR.out];simp only [Bool.false_or];rw [show (takeM M 2 ii).1 = sput M (12,ii) true from by simp [takeM]]),HFA.out⟩
       case measure=>rw [HWQ.out.2];simp only [intOf];have:=HLT.out;omega
  by_cases hk3 : kk = 3
  ·skip
   subst hk3
   have hr : M (12,ii) = hasB Tm ii:=HROWS.out.t ii
   cases hm : mayB 3 ii ll nn dl with
   | false=>
     have HBAD : Hid (rbadS s l = true):=Lib.hid (by rw [HBS.out,← HBL.out,HDROP.out];unfold wrongD;rw [HMD.out];simp [hm])
     rw [hm] at HMAY
     clear hm hr
     go_wp2_with (first | (go_at_call 94;refine (HMAY.out _).mono ?_;rintro e w6 ⟨rfl,hf6⟩;have HF6:=Lib.hid (HF5.out.trans hf6);have HF16:=Lib.hid (HF15.out.trans hf6);have HF56:=Lib.hid hf6;obtain ⟨e0,e1,e2,e3,e4⟩:=FD.out _ hf6;obtain ⟨y0,_,y10⟩:=FX.out _ (HF5.out.trans hf6);clear hf6 d0 d1 d2 d3 d4) | (go_at_call 95;refine (HRWO.out w6 ii HF16.out).mono ?_;rintro e w8 ⟨u,rfl,hu,hf8⟩;have HU:=Lib.hid hu;have HFW:=Lib.hid (HF6.out.trans hf8);have HF68:=Lib.hid hf8;clear hu hf8) | go_in)
     go_ret
     exact ⟨by rw [HBAD.out];rfl,HFW.out⟩
   | true=>
     have hkl : ¬ ((5 : Int) ≤ 3):=by omega
     rw [hm] at HMAY
     cases hh : hasB Tm ii with
     | false=>
       have HBAD : Hid (rbadS s l = true):=Lib.hid (by rw [HBS.out,← HBL.out,HDROP.out];unfold wrongD;rw [HMD.out];simp [hm,takeM,hr,hh])
       clear hm hr hkl
       go_wp2_with (first | (go_at_call 94;refine (HMAY.out _).mono ?_;rintro e w6 ⟨rfl,hf6⟩;have HF6:=Lib.hid (HF5.out.trans hf6);have HF16:=Lib.hid (HF15.out.trans hf6);have HF56:=Lib.hid hf6;obtain ⟨e0,e1,e2,e3,e4⟩:=FD.out _ hf6;obtain ⟨y0,_,y10⟩:=FX.out _ (HF5.out.trans hf6);clear hf6 d0 d1 d2 d3 d4) | (go_at_call 84;refine (HRT.out w6 ii HF16.out).mono ?_;rintro e w7 ⟨rfl,rfl⟩) | (go_at_call 95;refine (HRWO.out w6 ii HF16.out).mono ?_;rintro e w8 ⟨u,rfl,hu,hf8⟩;have HU:=Lib.hid hu;have HFW:=Lib.hid (HF6.out.trans hf8);have HF68:=Lib.hid hf8;clear hu hf8) | go_in)
       go_ret
       exact ⟨by rw [HBAD.out];rfl,HFW.out⟩
     | true=>
       have HWR : Hid (wrongD sid sas M ⟨3,ii,ll,nn,dd⟩ (decide (q + 1 < n)) = false):=Lib.hid (by unfold wrongD;rw [HMD.out];simp [hm,takeM,hr,hh])
       clear hm hr hkl
       go_wp2_with (first | (go_at_call 94;refine (HMAY.out _).mono ?_;rintro e w6 ⟨rfl,hf6⟩;have HF6:=Lib.hid (HF5.out.trans hf6);have HF16:=Lib.hid (HF15.out.trans hf6);have HF56:=Lib.hid hf6;obtain ⟨e0,e1,e2,e3,e4⟩:=FD.out _ hf6;obtain ⟨y0,_,y10⟩:=FX.out _ (HF5.out.trans hf6);clear hf6 d0 d1 d2 d3 d4) | (go_at_call 84;refine (HRT.out w6 ii HF16.out).mono ?_;rintro e w7 ⟨rfl,rfl⟩) | (go_at_call 95;refine (HRWO.out w6 ii HF16.out).mono ?_;rintro e w8 ⟨u,rfl,hu,hf8⟩;have HU:=Lib.hid hu;have HFW:=Lib.hid (HF6.out.trans hf8);have HF68:=Lib.hid hf8;clear hu hf8) | go_in)
       go_roundw
       case rel=>exact ⟨q + 1,sput M (12,ii) false,A,withoutL Tm ii,Kd,congrArg (Value.int .i64) HWQ.out.2,HLT.out,⟨(HST.out.1.fr HF16.out (fun _ _ e=>e)).fr HF68.out (fun _ _ e=>e),OwnI.low HU.out (by rw [← HB.out];exact HF6.out.size),(HST.out.2.2.1.fr HF16.out (fun _ _ e=>e)).fr HF68.out (fun _ _ e=>e),Dis.high (HST.out.1.fr HF16.out (fun _ _ e=>e)) HU.out,HST.out.2.2.2.2.1,Dis.symm (Dis.high (HST.out.2.2.1.fr HF16.out (fun _ _ e=>e)) HU.out)⟩,(by have:=HLEN.out;have:=without_len Tm ii;omega),HROWS.out.dropT ii,(by rw [← HBL.out,HDROP.out,HWR.out];simp only [Bool.false_or];rw [show (takeM M 3 ii).1 = sput M (12,ii) false from by simp [takeM]]),HFW.out⟩
       case measure=>rw [HWQ.out.2];simp only [intOf];have:=HLT.out;omega
  by_cases hk4 : kk = 4
  ·skip
   subst hk4
   have hr : M (17,ii) = hasB Kd ii:=HROWS.out.k ii
   cases hm : mayB 4 ii ll nn dl with
   | false=>
     have HBAD : Hid (rbadS s l = true):=Lib.hid (by rw [HBS.out,← HBL.out,HDROP.out];unfold wrongD;rw [HMD.out];simp [hm])
     rw [hm] at HMAY
     clear hm hr
     go_upto_region 22 with (first | (go_at_call 94;refine (HMAY.out _).mono ?_;rintro e w6 ⟨rfl,hf6⟩;have HF6:=Lib.hid (HF5.out.trans hf6);have HF16:=Lib.hid (HF15.out.trans hf6);have HF56:=Lib.hid hf6;obtain ⟨e0,e1,e2,e3,e4⟩:=FD.out _ hf6;obtain ⟨y0,_,y10⟩:=FX.out _ (HF5.out.trans hf6);clear hf6 d0 d1 d2 d3 d4) | go_in)
     clear e0 e1 e2 e3 e4 y0 y10
     refine region_Z (fun w'=>Fr (fun _=>False) w6 w') 99 (Fr.drewN _ w6 1) (fun hH=>?_)
     refine takes (b:=?_) [0,1,2,3,4,5,6,7,8,9,10,11,12,13,14,15,16] hH ?_ ?_
     rotate_left
     iterate 2 ((refine Sq.yes (v:=?_) rfl (by rfl) ?_ ?_;rotate_left;· (intro w' hw';obtain ⟨e0,e1,e2,e3,e4⟩:=FD.out w' (HF56.out.trans hw');obtain ⟨y0,_,y10⟩:=FX.out w' (HF6.out.trans hw');go_simp;try with_reducible rfl));try simp only [lD,lE,lF,Act.put,lG,lH,lI])
     iterate 4 (refine Sq.no rfl (by rfl) ?_;try simp only [lD,lE,lF,Act.put,lG,lH,lI])
     iterate 2 ((refine Sq.yes (v:=?_) rfl (by rfl) ?_ ?_;rotate_left;· (intro w' hw';obtain ⟨e0,e1,e2,e3,e4⟩:=FD.out w' (HF56.out.trans hw');obtain ⟨y0,_,y10⟩:=FX.out w' (HF6.out.trans hw');go_simp;try with_reducible rfl));try simp only [lD,lE,lF,Act.put,lG,lH,lI])
     iterate 7 (refine Sq.no rfl (by rfl) ?_;try simp only [lD,lE,lF,Act.put,lG,lH,lI])
     iterate 2 ((refine Sq.yes (v:=?_) rfl (by rfl) ?_ ?_;rotate_left;· (intro w' hw';obtain ⟨e0,e1,e2,e3,e4⟩:=FD.out w' (HF56.out.trans hw');obtain ⟨y0,_,y10⟩:=FX.out w' (HF6.out.trans hw');go_simp;try with_reducible rfl));try simp only [lD,lE,lF,Act.put,lG,lH,lI])
     exact Sq.nil
     refine any_done ?_
     have HF7 : Hid (Fr (fun _=>False) W w6.drew):=Lib.hid (HF6.out.trans (Fr.drewN _ w6 1))
     have HF17 : Hid (Fr (fun _=>False) wr w6.drew):=Lib.hid (HF16.out.trans (Fr.drewN _ w6 1))
     have HF57 : Hid (Fr (fun _=>False) w5 w6.drew):=Lib.hid (HF56.out.trans (Fr.drewN _ w6 1))
     generalize w6.drew = w7 at HF7 HF17 HF57 ⊢
     obtain ⟨v',W',hrun,hown',hfa,hob⟩:=app_one w7 B (.slice aK lk cK) Kd ii (by rw [← HB.out];exact HF7.out.size) (HST.out.2.2.1.fr HF17.out (fun _ _ e=>e)) (by have:=HLEN.out;have:=H32.out;have:=HLT.out;omega)
     have HOWN':=Lib.hid hown'
     have HFA : Hid (Fr (fun _=>False) W W'):=Lib.hid (fr_own HF7.out (HST.out.2.2.1.fr HF17.out (fun _ _ e=>e)) HB.out hfa)
     have HFO:=Lib.hid hfa
     have HOB:=Lib.hid hob
     obtain ⟨e0,e1,e2,e3,e4⟩:=FD.out _ HF57.out
     clear hown' hfa hob hH
     go_wp2_with (first | (at_builtin;refine wpList_appRunV rfl _ _ _ rfl _ _ _ rfl rfl hrun ?_) | go_in)
     go_ret
     exact ⟨by rw [HBAD.out];rfl,HFA.out⟩
   | true=>
     rw [hm] at HMAY
     cases hh : hasB Kd ii with
     | true=>
       have HBAD : Hid (rbadS s l = true):=Lib.hid (by rw [HBS.out,← HBL.out,HDROP.out];unfold wrongD;rw [HMD.out];simp [hm,takeM,hr,hh])
       clear hm hr
       go_upto_region 22 with (first | (go_at_call 94;refine (HMAY.out _).mono ?_;rintro e w6 ⟨rfl,hf6⟩;have HF6:=Lib.hid (HF5.out.trans hf6);have HF16:=Lib.hid (HF15.out.trans hf6);have HF56:=Lib.hid hf6;obtain ⟨e0,e1,e2,e3,e4⟩:=FD.out _ hf6;obtain ⟨y0,_,y10⟩:=FX.out _ (HF5.out.trans hf6);clear hf6 d0 d1 d2 d3 d4) | go_in)
       clear e0 e1 e2 e3 e4 y0 y10
       refine region_Z (fun w'=>Fr (fun _=>False) w6 w') 99 (Fr.drewN _ w6 1) (fun hH=>?_)
       refine takes (b:=?_) [0,1,2,3,4] hH ?_ ?_
       rotate_left
       iterate 5 ((refine Sq.yes (v:=?_) rfl (by rfl) ?_ ?_;rotate_left;· (intro w' hw';obtain ⟨e0,e1,e2,e3,e4⟩:=FD.out w' (HF56.out.trans hw');obtain ⟨y0,_,y10⟩:=FX.out w' (HF6.out.trans hw');go_simp;try with_reducible rfl));try simp only [lD,lE,lF,Act.put,lG,lH,lI])
       exact Sq.nil
       refine any_op 5 rfl (fun K hK=>?_)
       go_simp
       refine (HRK.out _ ii (HF16.out.trans (Fr.drewN _ w6 1))).mono ?_
       rintro e w7 ⟨rfl,rfl⟩
       refine hK.out _ _ (Fr.drewN _ w6 1) (fun hH2=>?_)
       clear hK K
       try simp only [lD,lE,lF,Act.put,lG,lH,lI]
       refine takes (b:=?_) [6,7,8,9,10,11,12,13,14,15,16] hH2 ?_ ?_
       rotate_left
       iterate 2 ((refine Sq.yes (v:=?_) rfl (by rfl) ?_ ?_;rotate_left;· (intro w' hw';obtain ⟨e0,e1,e2,e3,e4⟩:=FD.out w' (HF56.out.trans hw');obtain ⟨y0,_,y10⟩:=FX.out w' (HF6.out.trans hw');go_simp;try with_reducible rfl));try simp only [lD,lE,lF,Act.put,lG,lH,lI])
       iterate 7 (refine Sq.no rfl (by rfl) ?_;try simp only [lD,lE,lF,Act.put,lG,lH,lI])
       iterate 2 ((refine Sq.yes (v:=?_) rfl (by rfl) ?_ ?_;rotate_left;· (intro w' hw';obtain ⟨e0,e1,e2,e3,e4⟩:=FD.out w' (HF56.out.trans hw');obtain ⟨y0,_,y10⟩:=FX.out w' (HF6.out.trans hw');go_simp;try with_reducible rfl));try simp only [lD,lE,lF,Act.put,lG,lH,lI])
       exact Sq.nil
       refine any_done ?_
       have HF7 : Hid (Fr (fun _=>False) W (w6.drewN 1)):=Lib.hid (HF6.out.trans (Fr.drewN _ w6 1))
       have HF17 : Hid (Fr (fun _=>False) wr (w6.drewN 1)):=Lib.hid (HF16.out.trans (Fr.drewN _ w6 1))
       have HF57 : Hid (Fr (fun _=>False) w5 (w6.drewN 1)):=Lib.hid (HF56.out.trans (Fr.drewN _ w6 1))
       generalize (w6.drewN 1) = w7 at HF7 HF17 HF57 ⊢
       obtain ⟨v',W',hrun,hown',hfa,hob⟩:=app_one w7 B (.slice aK lk cK) Kd ii (by rw [← HB.out];exact HF7.out.size) (HST.out.2.2.1.fr HF17.out (fun _ _ e=>e)) (by have:=HLEN.out;have:=H32.out;have:=HLT.out;omega)
       have HOWN':=Lib.hid hown'
       have HFA : Hid (Fr (fun _=>False) W W'):=Lib.hid (fr_own HF7.out (HST.out.2.2.1.fr HF17.out (fun _ _ e=>e)) HB.out hfa)
       have HFO:=Lib.hid hfa
       have HOB:=Lib.hid hob
       obtain ⟨e0,e1,e2,e3,e4⟩:=FD.out _ HF57.out
       clear hown' hfa hob hH
       go_wp2_with (first | (at_builtin;refine wpList_appRunV rfl _ _ _ rfl _ _ _ rfl rfl hrun ?_) | go_in)
       go_ret
       exact ⟨by rw [HBAD.out];rfl,HFA.out⟩
     | false=>
       by_cases hii : ii = sid
       ·have pi : (ii == sid) = true:=by simp [hii]
        have HBAD : Hid (rbadS s l = true):=Lib.hid (by rw [HBS.out,← HBL.out,HDROP.out];unfold wrongD;rw [HMD.out];simp [pi])
        clear hm hr hii
        go_upto_region 22 with (first | (go_at_call 94;refine (HMAY.out _).mono ?_;rintro e w6 ⟨rfl,hf6⟩;have HF6:=Lib.hid (HF5.out.trans hf6);have HF16:=Lib.hid (HF15.out.trans hf6);have HF56:=Lib.hid hf6;obtain ⟨e0,e1,e2,e3,e4⟩:=FD.out _ hf6;obtain ⟨y0,_,y10⟩:=FX.out _ (HF5.out.trans hf6);clear hf6 d0 d1 d2 d3 d4) | go_in)
        clear e0 e1 e2 e3 e4 y0 y10
        refine region_Z (fun w'=>Fr (fun _=>False) w6 w') 99 (Fr.drewN _ w6 1) (fun hH=>?_)
        refine takes (b:=?_) [0,1,2,3,4] hH ?_ ?_
        rotate_left
        iterate 5 ((refine Sq.yes (v:=?_) rfl (by rfl) ?_ ?_;rotate_left;· (intro w' hw';obtain ⟨e0,e1,e2,e3,e4⟩:=FD.out w' (HF56.out.trans hw');obtain ⟨y0,_,y10⟩:=FX.out w' (HF6.out.trans hw');go_simp;try with_reducible rfl));try simp only [lD,lE,lF,Act.put,lG,lH,lI])
        exact Sq.nil
        refine any_op 5 rfl (fun K hK=>?_)
        go_simp
        refine (HRK.out _ ii (HF16.out.trans (Fr.drewN _ w6 1))).mono ?_
        rintro e w7 ⟨rfl,rfl⟩
        refine hK.out _ _ (Fr.drewN _ w6 1) (fun hH2=>?_)
        clear hK K
        try simp only [lD,lE,lF,Act.put,lG,lH,lI]
        refine takes (b:=?_) [6,7,8,9,10,11,12,13,14,15,16] hH2 ?_ ?_
        rotate_left
        iterate 11 ((refine Sq.yes (v:=?_) rfl (by rfl) ?_ ?_;rotate_left;· (intro w' hw';obtain ⟨e0,e1,e2,e3,e4⟩:=FD.out w' (HF56.out.trans hw');obtain ⟨y0,_,y10⟩:=FX.out w' (HF6.out.trans hw');go_simp;try with_reducible rfl));try simp only [lD,lE,lF,Act.put,lG,lH,lI])
        exact Sq.nil
        refine any_done ?_
        have HF7 : Hid (Fr (fun _=>False) W (w6.drewN 1)):=Lib.hid (HF6.out.trans (Fr.drewN _ w6 1))
        have HF17 : Hid (Fr (fun _=>False) wr (w6.drewN 1)):=Lib.hid (HF16.out.trans (Fr.drewN _ w6 1))
        have HF57 : Hid (Fr (fun _=>False) w5 (w6.drewN 1)):=Lib.hid (HF56.out.trans (Fr.drewN _ w6 1))
        generalize (w6.drewN 1) = w7 at HF7 HF17 HF57 ⊢
        obtain ⟨v',W',hrun,hown',hfa,hob⟩:=app_one w7 B (.slice aK lk cK) Kd ii (by rw [← HB.out];exact HF7.out.size) (HST.out.2.2.1.fr HF17.out (fun _ _ e=>e)) (by have:=HLEN.out;have:=H32.out;have:=HLT.out;omega)
        have HOWN':=Lib.hid hown'
        have HFA : Hid (Fr (fun _=>False) W W'):=Lib.hid (fr_own HF7.out (HST.out.2.2.1.fr HF17.out (fun _ _ e=>e)) HB.out hfa)
        have HFO:=Lib.hid hfa
        have HOB:=Lib.hid hob
        obtain ⟨e0,e1,e2,e3,e4⟩:=FD.out _ HF57.out
        clear hown' hfa hob hH
        go_wp2_with (first | (at_builtin;refine wpList_appRunV rfl _ _ _ rfl _ _ _ rfl rfl hrun ?_) | go_in)
        go_ret
        exact ⟨by rw [HBAD.out];rfl,HFA.out⟩
       have pi : (ii == sid) = false:=by simp [hii]
       have HWR : Hid (wrongD sid sas M ⟨4,ii,ll,nn,dd⟩ (decide (q + 1 < n)) = false):=Lib.hid (by unfold wrongD;rw [HMD.out];simp [hm,takeM,hr,hh,pi])
       clear hm hr hii
       go_upto_region 22 with (first | (go_at_call 94;refine (HMAY.out _).mono ?_;rintro e w6 ⟨rfl,hf6⟩;have HF6:=Lib.hid (HF5.out.trans hf6);have HF16:=Lib.hid (HF15.out.trans hf6);have HF56:=Lib.hid hf6;obtain ⟨e0,e1,e2,e3,e4⟩:=FD.out _ hf6;obtain ⟨y0,_,y10⟩:=FX.out _ (HF5.out.trans hf6);clear hf6 d0 d1 d2 d3 d4) | go_in)
       clear e0 e1 e2 e3 e4 y0 y10
       refine region_Z (fun w'=>Fr (fun _=>False) w6 w') 99 (Fr.drewN _ w6 1) (fun hH=>?_)
       refine takes (b:=?_) [0,1,2,3,4] hH ?_ ?_
       rotate_left
       iterate 5 ((refine Sq.yes (v:=?_) rfl (by rfl) ?_ ?_;rotate_left;· (intro w' hw';obtain ⟨e0,e1,e2,e3,e4⟩:=FD.out w' (HF56.out.trans hw');obtain ⟨y0,_,y10⟩:=FX.out w' (HF6.out.trans hw');go_simp;try with_reducible rfl));try simp only [lD,lE,lF,Act.put,lG,lH,lI])
       exact Sq.nil
       refine any_op 5 rfl (fun K hK=>?_)
       go_simp
       refine (HRK.out _ ii (HF16.out.trans (Fr.drewN _ w6 1))).mono ?_
       rintro e w7 ⟨rfl,rfl⟩
       refine hK.out _ _ (Fr.drewN _ w6 1) (fun hH2=>?_)
       clear hK K
       try simp only [lD,lE,lF,Act.put,lG,lH,lI]
       refine takes (b:=?_) [6,7,8,9,10,11,12,13,14,15,16] hH2 ?_ ?_
       rotate_left
       iterate 11 ((refine Sq.yes (v:=?_) rfl (by rfl) ?_ ?_;rotate_left;· (intro w' hw';obtain ⟨e0,e1,e2,e3,e4⟩:=FD.out w' (HF56.out.trans hw');obtain ⟨y0,_,y10⟩:=FX.out w' (HF6.out.trans hw');go_simp;try with_reducible rfl));try simp only [lD,lE,lF,Act.put,lG,lH,lI])
       exact Sq.nil
       refine any_done ?_
       have HF7 : Hid (Fr (fun _=>False) W (w6.drewN 1)):=Lib.hid (HF6.out.trans (Fr.drewN _ w6 1))
       have HF17 : Hid (Fr (fun _=>False) wr (w6.drewN 1)):=Lib.hid (HF16.out.trans (Fr.drewN _ w6 1))
       have HF57 : Hid (Fr (fun _=>False) w5 (w6.drewN 1)):=Lib.hid (HF56.out.trans (Fr.drewN _ w6 1))
       generalize (w6.drewN 1) = w7 at HF7 HF17 HF57 ⊢
       obtain ⟨v',W',hrun,hown',hfa,hob⟩:=app_one w7 B (.slice aK lk cK) Kd ii (by rw [← HB.out];exact HF7.out.size) (HST.out.2.2.1.fr HF17.out (fun _ _ e=>e)) (by have:=HLEN.out;have:=H32.out;have:=HLT.out;omega)
       have HOWN':=Lib.hid hown'
       have HFA : Hid (Fr (fun _=>False) W W'):=Lib.hid (fr_own HF7.out (HST.out.2.2.1.fr HF17.out (fun _ _ e=>e)) HB.out hfa)
       have HFO:=Lib.hid hfa
       have HOB:=Lib.hid hob
       obtain ⟨e0,e1,e2,e3,e4⟩:=FD.out _ HF57.out
       clear hown' hfa hob hH
       go_wp2_with (first | (at_builtin;refine wpList_appRunV rfl _ _ _ rfl _ _ _ rfl rfl hrun ?_) | go_in)
       go_roundw
       case rel=>exact ⟨q + 1,sput M (17,ii) true,A,Tm,Kd ++ [ii],congrArg (Value.int .i64) HWQ.out.2,HLT.out,⟨((HST.out.1.fr HF17.out (fun _ _ e=>e)).fr HFO.out (fun k e e'=>(Dis.symm HST.out.2.2.2.2.1) k e' e)),((HST.out.2.1.fr HF17.out (fun _ _ e=>e)).fr HFO.out (fun k e e'=>(Dis.symm HST.out.2.2.2.2.2) k e' e)),HOWN'.out,HST.out.2.2.2.1,Dis.symm (Dis.new2 (Dis.symm HST.out.2.2.2.2.1) (HST.out.1.fr HF17.out (fun _ _ e=>e)) HOB.out),Dis.symm (Dis.new2 (Dis.symm HST.out.2.2.2.2.2) (HST.out.2.1.fr HF17.out (fun _ _ e=>e)) HOB.out)⟩,(by have:=HLEN.out;have:=HLL.out;simp only [List.length_append,List.length_cons,List.length_nil];omega),HROWS.out.putK ii,(by rw [← HBL.out,HDROP.out,HWR.out];simp only [Bool.false_or];rw [show (takeM M 4 ii).1 = sput M (17,ii) true from by simp [takeM]]),HFA.out⟩
       case measure=>rw [HWQ.out.2];simp only [intOf];have:=HLT.out;omega
  by_cases hk7 : kk = 7
  ·skip
   subst hk7
   cases hm : mayB 7 ii ll nn dl with
   | false=>
     have HBAD : Hid (rbadS s l = true):=Lib.hid (by rw [HBS.out,← HBL.out,HDROP.out];unfold wrongD;rw [HMD.out];simp [hm])
     rw [hm] at HMAY
     clear hm
     go_wp2_with (first | (go_at_call 94;refine (HMAY.out _).mono ?_;rintro e w6 ⟨rfl,hf6⟩;have HF6:=Lib.hid (HF5.out.trans hf6);have HF16:=Lib.hid (HF15.out.trans hf6);have HF56:=Lib.hid hf6;obtain ⟨e0,e1,e2,e3,e4⟩:=FD.out _ hf6;obtain ⟨y0,_,y10⟩:=FX.out _ (HF5.out.trans hf6);clear hf6 d0 d1 d2 d3 d4) | go_in)
     go_ret
     exact ⟨by rw [HBAD.out];rfl,HF6.out⟩
   | true=>
     rw [hm] at HMAY
     have hlt0:=HLT.out
     by_cases hq1 : q + 1 < n
     ·skip
      have HBAD : Hid (rbadS s l = true):=Lib.hid (by rw [HBS.out,← HBL.out,HDROP.out];unfold wrongD;rw [HMD.out];simp [hq1])
      have p6 : ((q : Int) != (n : Int) - 1) = true:=by simp;omega
      clear hm hq1 hlt0
      go_wp2_with (first | (go_at_call 94;refine (HMAY.out _).mono ?_;rintro e w6 ⟨rfl,hf6⟩;have HF6:=Lib.hid (HF5.out.trans hf6);have HF16:=Lib.hid (HF15.out.trans hf6);have HF56:=Lib.hid hf6;obtain ⟨e0,e1,e2,e3,e4⟩:=FD.out _ hf6;obtain ⟨y0,_,y10⟩:=FX.out _ (HF5.out.trans hf6);clear hf6 d0 d1 d2 d3 d4) | go_in)
      go_ret
      exact ⟨by rw [HBAD.out];rfl,HF6.out⟩
     have p6 : ((q : Int) != (n : Int) - 1) = false:=by simp;omega
     have hq2 : decide (q + 1 < n) = false:=decide_eq_false hq1
     have HTK : Hid (takeM M 7 ii = (M,true)):=Lib.hid (by unfold takeM;rw [if_neg (by omega),if_neg (by omega),if_neg (by omega),if_neg (by omega)])
     have pt : (takeM M 7 ii).2 = true:=by rw [HTK.out]
     cases ha : sas with
     | false=>
       rw [ha] at FX
       have HBAD : Hid (rbadS s l = true):=Lib.hid (by rw [HBS.out,← HBL.out,HDROP.out];unfold wrongD;rw [HMD.out];simp [ha])
       clear hm hq1 hlt0 ha pt hq2
       go_wp2_with (first | (go_at_call 94;refine (HMAY.out _).mono ?_;rintro e w6 ⟨rfl,hf6⟩;have HF6:=Lib.hid (HF5.out.trans hf6);have HF16:=Lib.hid (HF15.out.trans hf6);have HF56:=Lib.hid hf6;obtain ⟨e0,e1,e2,e3,e4⟩:=FD.out _ hf6;obtain ⟨y0,_,y10⟩:=FX.out _ (HF5.out.trans hf6);clear hf6 d0 d1 d2 d3 d4) | go_in)
       go_ret
       exact ⟨by rw [HBAD.out];rfl,HF6.out⟩
     | true=>
       rw [ha] at FX
       have HWR : Hid (wrongD sid sas M ⟨7,ii,ll,nn,dd⟩ (decide (q + 1 < n)) = false):=Lib.hid (by unfold wrongD;rw [HMD.out];simp [hm,ha,pt,hq1])
       clear hm hq1 hlt0 ha pt hq2
       go_wp2_with (first | (go_at_call 94;refine (HMAY.out _).mono ?_;rintro e w6 ⟨rfl,hf6⟩;have HF6:=Lib.hid (HF5.out.trans hf6);have HF16:=Lib.hid (HF15.out.trans hf6);have HF56:=Lib.hid hf6;obtain ⟨e0,e1,e2,e3,e4⟩:=FD.out _ hf6;obtain ⟨y0,_,y10⟩:=FX.out _ (HF5.out.trans hf6);clear hf6 d0 d1 d2 d3 d4) | go_in)
       go_roundw
       case rel=>exact ⟨q + 1,M,A,Tm,Kd,congrArg (Value.int .i64) HWQ.out.2,HLT.out,⟨(HST.out.1.fr HF16.out (fun _ _ e=>e)),(HST.out.2.1.fr HF16.out (fun _ _ e=>e)),(HST.out.2.2.1.fr HF16.out (fun _ _ e=>e)),HST.out.2.2.2.1,HST.out.2.2.2.2.1,HST.out.2.2.2.2.2⟩,(by have:=HLEN.out;omega),HROWS.out,(by rw [← HBL.out,HDROP.out,HWR.out];simp only [Bool.false_or];rw [show (takeM M 7 ii).1 = M from by rw [HTK.out]]),HF6.out⟩
       case measure=>rw [HWQ.out.2];simp only [intOf];have:=HLT.out;omega
  have k1 : (kk == 1) = false:=by simp [hk1]
  have k2 : (kk == 2) = false:=by simp [hk2]
  have k3 : (kk == 3) = false:=by simp [hk3]
  have k4 : (kk == 4) = false:=by simp [hk4]
  have k7 : (kk == 7) = false:=by simp [hk7]
  cases hm : mayB kk ii ll nn dl with
  | false=>
    have HBAD : Hid (rbadS s l = true):=Lib.hid (by rw [HBS.out,← HBL.out,HDROP.out];unfold wrongD;rw [HMD.out];simp [hm])
    rw [hm] at HMAY
    clear hm hk1 hk2 hk3 hk4 hk7
    go_wp2_with (first | (go_at_call 94;refine (HMAY.out _).mono ?_;rintro e w6 ⟨rfl,hf6⟩;have HF6:=Lib.hid (HF5.out.trans hf6);have HF16:=Lib.hid (HF15.out.trans hf6);have HF56:=Lib.hid hf6;obtain ⟨e0,e1,e2,e3,e4⟩:=FD.out _ hf6;obtain ⟨y0,_,y10⟩:=FX.out _ (HF5.out.trans hf6);clear hf6 d0 d1 d2 d3 d4) | go_in)
    go_ret
    exact ⟨by rw [HBAD.out];rfl,HF6.out⟩
  | true=>
    rw [hm] at HMAY
    have hlt0:=HLT.out
    have hk5 : 5 ≤ kk:=by have:=HKI.out hm;omega
    have p5 : decide (kk ≥ 5) = true:=decide_eq_true hk5
    have p5' : decide (5 ≤ kk) = true:=decide_eq_true hk5
    by_cases hq1 : q + 1 < n
    ·skip
     have HBAD : Hid (rbadS s l = true):=Lib.hid (by rw [HBS.out,← HBL.out,HDROP.out];unfold wrongD;rw [HMD.out];simp [hk5,hq1])
     have p6 : ((q : Int) != (n : Int) - 1) = true:=by simp;omega
     clear hm hq1 hlt0 hk5 hk1 hk2 hk3 hk4 hk7
     go_wp2_with (first | (go_at_call 94;refine (HMAY.out _).mono ?_;rintro e w6 ⟨rfl,hf6⟩;have HF6:=Lib.hid (HF5.out.trans hf6);have HF16:=Lib.hid (HF15.out.trans hf6);have HF56:=Lib.hid hf6;obtain ⟨e0,e1,e2,e3,e4⟩:=FD.out _ hf6;obtain ⟨y0,_,y10⟩:=FX.out _ (HF5.out.trans hf6);clear hf6 d0 d1 d2 d3 d4) | go_in)
     go_ret
     exact ⟨by rw [HBAD.out];rfl,HF6.out⟩
    have p6 : ((q : Int) != (n : Int) - 1) = false:=by simp;omega
    have hq2 : decide (q + 1 < n) = false:=decide_eq_false hq1
    have HTK : Hid (takeM M kk ii = (M,true)):=Lib.hid (by unfold takeM;rw [if_neg (by omega),if_neg (by omega),if_neg (by omega),if_neg (by omega)])
    have pt : (takeM M kk ii).2 = true:=by rw [HTK.out]
    have HWR : Hid (wrongD sid sas M ⟨kk,ii,ll,nn,dd⟩ (decide (q + 1 < n)) = false):=Lib.hid (by unfold wrongD;rw [HMD.out];simp [hm,k4,k7,pt,hq1])
    clear hm hq1 hlt0 hk5 hk1 hk2 hk3 hk4 hk7 pt hq2
    go_wp2_with (first | (go_at_call 94;refine (HMAY.out _).mono ?_;rintro e w6 ⟨rfl,hf6⟩;have HF6:=Lib.hid (HF5.out.trans hf6);have HF16:=Lib.hid (HF15.out.trans hf6);have HF56:=Lib.hid hf6;obtain ⟨e0,e1,e2,e3,e4⟩:=FD.out _ hf6;obtain ⟨y0,_,y10⟩:=FX.out _ (HF5.out.trans hf6);clear hf6 d0 d1 d2 d3 d4) | go_in)
    go_roundw
    case rel=>exact ⟨q + 1,M,A,Tm,Kd,congrArg (Value.int .i64) HWQ.out.2,HLT.out,⟨(HST.out.1.fr HF16.out (fun _ _ e=>e)),(HST.out.2.1.fr HF16.out (fun _ _ e=>e)),(HST.out.2.2.1.fr HF16.out (fun _ _ e=>e)),HST.out.2.2.2.1,HST.out.2.2.2.2.1,HST.out.2.2.2.2.2⟩,(by have:=HLEN.out;omega),HROWS.out,(by rw [← HBL.out,HDROP.out,HWR.out];simp only [Bool.false_or];rw [show (takeM M kk ii).1 = M from by rw [HTK.out]]),HF6.out⟩
    case measure=>rw [HWQ.out.2];simp only [intOf];have:=HLT.out;omega
end Go.Proofs.YtnkelaohcbdjnaaGreat
