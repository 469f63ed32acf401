/- What is open,by kind and Id: take. -/
import Derived.Test.YtnkelaohcbdjnaaGreatSc
import Derived.DeepKeys5
set_option linter.unusedVariables false
set_option linter.unusedSimpArgs false
namespace Go.Proofs.YtnkelaohcbdjnaaGreat
open Go.RowKit Go.Maps
theorem laid : laidOutB Tryz.prog = true:=by kernel_rfl
theorem key120 : WideMaps.KeyLaw Tryz.prog 128:=deep_law_gate laid (of_decide_eq_true (by kernel_rfl)) (of_decide_eq_true (by kernel_rfl)) (by kernel_rfl) (by rw [Tryz.underlying128])
def okKey (x : Int × Int) : Prop:=(Lit.int .i64 x.1).wf = true ∧ (Lit.int .i64 x.2).wf = true
def kvKey (x : Int × Int) : Value:=.agg #[.int .i64 x.1,.int .i64 x.2]
theorem keyType120 : Tryz.prog.keyType 128 = true:=by kernel_rfl
theorem size120 : Tryz.prog.types.size + 1 = (Tryz.prog.types.size - 1) + 2:=by kernel_rfl
theorem cells120 : Tryz.prog.cellsOf 128 = 2:=by kernel_rfl
theorem cells3 : Tryz.prog.cellsOf 3 = 1:=by kernel_rfl
theorem lits_two {P : Program} {k t : TypeId} (hk : P.underlying k = some (.array 2 t)) 
 (ht : P.underlying t = some (.int .i64)) (hc : P.cellsOf k = 2) (hc1 : P.cellsOf t = 1) (n : Nat) (a b : Int) (wa : (Lit.int .i64 a).wf = true) (wb : (Lit.int .i64 b).wf = true) :
 P.keyLits (n + 2) k [.int .i64 a,.int .i64 b] = some [.int .i64 a,.int .i64 b]:=by
 simp [Program.keyLits,hk,hc,ht,hc1,wa,wb,List.range_succ]
theorem isKey (x : Int × Int) (h : okKey x) : (keyOf Tryz.prog 128 (kvKey x)).isSome = true:=by
 have hf : (kvKey x).formed Tryz.prog 128 = true:=by
  unfold Value.formed kvKey
  simp only [Tryz.underlying128,cells120]
  rfl
 have hl:=lits_two Tryz.underlying128 under3 cells120 cells3 (Tryz.prog.types.size - 1) x.1 x.2 h.1 h.2
 rw [← size120] at hl
 unfold keyOf
 simp only [Tryz.underlying128,keyType120,hf,Bool.and_true,if_true]
 unfold kvKey
 simp only [Value.cells]
 rw [hl]
 rfl
noncomputable def kKE : KE Tryz.prog 128 (Int × Int) where
 kv:=kvKey
 kl x:=(keyOf Tryz.prog 128 (kvKey x)).getD (.bool true)
 ok:=okKey
 law:=Keyed.of_law key120
 hk x hx:=by
  have:=isKey x hx
  cases h : keyOf Tryz.prog 128 (kvKey x) with
  | none=>rw [h] at this;cases this
  | some l=>rfl
 inj x y hx hy e:=by
  have h1:=isKey x hx
  have h2:=isKey y hy
  cases h3 : keyOf Tryz.prog 128 (kvKey x) with
  | none=>rw [h3] at h1;cases h1
  | some l=>
    cases h4 : keyOf Tryz.prog 128 (kvKey y) with
    | none=>rw [h4] at h2;cases h2
    | some l'=>
      rw [h3,h4] at e
      simp only [Option.getD_some] at e
      subst e
      have:=key120.inj h3 h4
      unfold kvKey at this
      cases x;cases y
      simp at this
      simp [this]
/-- a set of pairs,as a map to bools -/
def bM (M : Int × Int → Bool) : Int × Int → Option Value:=fun x=>if M x = true then some (.bool true) else none
def IsSet (W : World) (g c : Nat) (M : Int × Int → Bool) : Prop:=Mp kKE W g c (bM M)
theorem IsSet.fr {S : Nat → Prop} {W W' : World} {g c : Nat} {M : Int × Int → Bool} (h : IsSet W g c M) (hf : Fr S W W') (hne : ¬ S g) : IsSet W' g c M:=Mp.fr h hf hne
theorem IsSet.new (W : World) : IsSet (W.alloc (.map #[] 0)) W.heap.size 0 (fun _=>false):=(Mp.made kKE W).congr fun x _=>rfl
theorem zero4 (W : World) : (zeroValue 4).run Tryz.prog W = .ok (.bool false) W:=by kernel_rfl
theorem bM_getD (M : Int × Int → Bool) (x : Int × Int) : (bM M x).getD (.bool false) = .bool (M x):=by
 unfold bM
 cases M x <;> rfl
def sput (M : Int × Int → Bool) (x : Int × Int) (b : Bool) : Int × Int → Bool:=fun y=>if y = x then b else M y
theorem bM_put (M : Int × Int → Bool) (x : Int × Int) : upd (bM M) x (some (.bool true)) = bM (sput M x true):=by
 funext y
 unfold upd bM sput
 by_cases h : y = x
 ·simp [h]
 ·simp [h]
theorem bM_del (M : Int × Int → Bool) (x : Int × Int) : upd (bM M) x none = bM (sput M x false):=by
 funext y
 unfold upd bM sput
 by_cases h : y = x
 ·simp [h]
 ·simp [h]
/-- what take makes of the set,and what it says -/
def takeM (M : Int × Int → Bool) (k i : Int) : (Int × Int → Bool) × Bool:=
 if k = 3 then (sput M (12,i) false,M (12,i)) else if k = 1 then (sput M (7,i) true,!M (7,i)) else if k = 2 then (sput M (12,i) true,!M (12,i)) else if k = 4 then (sput M (17,i) true,!M (17,i)) else (M,true)
theorem mp_neK {W : World} {b c B : Nat} {F : Int × Int → Option Value} {t : TypeId} {cs : Array Value} (h : Mp kKE W b c F) (hb : Blk W B t cs) : b ≠ B:=by
 rintro rfl
 obtain ⟨D,⟨es,clock,hb',_⟩,_⟩:=h
 have:=hb.symm.trans hb'
 cases this
set_option maxRecDepth 100000 in
set_option maxHeartbeats 1000000 in
theorem take_3 (W : World) (g c : Nat) (M : Int × Int → Bool) (hM : IsSet W g c M) (hc : c ≤ 100000) (i l n : Int) (hi : 0 ≤ i ∧ i ≤ 1048576) (ao : Option Addr) (dl cp : Nat) :
 Calls Tryz.prog 93 #[.map (some g),.agg #[.int .i64 3,.int .i64 i,.int .i64 l,.int .i64 n,.slice ao dl cp]] W fun e W'=>∃ c',c' ≤ c + 1 ∧ e = .returned (.bool (takeM M 3 i).2) ∧ IsSet W' g c' (takeM M 3 i).1 ∧ Fr (fun q=>q = g) W W':=by
 have hx : kKE.ok (12,i):=⟨WalkArith.wf_i64 ⟨by show (_ : Int) ≤ 12;omega,by show (12 : Int) ≤ _;omega⟩,WalkArith.wf_i64 ⟨by show _ ≤ i;omega,by show i ≤ _;omega⟩⟩
 have hfa : Fr (fun _=>False) W ((W.alloc (.cells #[.int .i64 3,.int .i64 i,.int .i64 l,.int .i64 n,.slice ao dl cp] 52)).alloc (.cells #[.int .i64 12,.int .i64 i] 128)):=(Fr.alloc _ _ _).trans (Fr.alloc _ _ _)
 have hB:=Blk.new (W.alloc (.cells #[.int .i64 3,.int .i64 i,.int .i64 l,.int .i64 n,.slice ao dl cp] 52)) 128 #[.int .i64 12,.int .i64 i]
 have hM2 : Mp kKE ((W.alloc (.cells #[.int .i64 3,.int .i64 i,.int .i64 l,.int .i64 n,.slice ao dl cp] 52)).alloc (.cells #[.int .i64 12,.int .i64 i] 128)) g c (bM M):=hM.fr hfa id
 have hcm : c < maxLen:=by unfold maxLen;omega
 obtain ⟨w3,hw3⟩ : ∃ w,((W.alloc (.cells #[.int .i64 3,.int .i64 i,.int .i64 l,.int .i64 n,.slice ao dl cp] 52)).alloc (.cells #[.int .i64 12,.int .i64 i] 128)) = w:=⟨_,rfl⟩
 obtain ⟨kb,hkb⟩ : ∃ b,(W.alloc (.cells #[.int .i64 3,.int .i64 i,.int .i64 l,.int .i64 n,.slice ao dl cp] 52)).heap.size = b:=⟨_,rfl⟩
 rw [hw3] at hfa hB hM2
 rw [hkb] at hB
 have k0:=hB.cell 0
 have k1:=hB.cell 1
 simp only [lA,lB,lC] at k0 k1
 have HFA:=Lib.hid hfa
 have hne : g ≠ kb:=mp_neK hM2 hB
 have HB:=Lib.hid hB
 have HNE:=Lib.hid hne
 simp only [World.size_alloc] at hkb
 clear hM hfa hB hne
 obtain ⟨u,hu⟩ : ∃ u,M (12,i) = u:=⟨_,rfl⟩
 have hgu : (bM M (12,i)).getD (.bool false) = .bool u:=by rw [bM_getD,hu]
 have HU:=Lib.hid hu
 clear hu
 go_enter Tryz.func93,Tryz.ntmps93
 go_upto_region 6 with (fail)
 try rw [hw3]
 try rw [hkb]
 clear hw3 hkb
 go_upto_region 7 with (first | (at_lookup;refine wpLook rfl _ _ rfl Tryz.underlying127 (zero4 _) hM2 rfl (x:=(12,i)) rfl hx hgu ?_) | go_in)
 clear hgu
 go_wp2_with (first | (at_delete;refine wpDrop rfl _ _ _ _ rfl rfl Tryz.underlying127 hM2 rfl (x:=(12,i)) rfl hx ?_;intro W4 hM4 ht4;have HM4:=Lib.hid hM4;have HT4:=Lib.hid ht4;clear hM4 ht4) | go_in)
 go_ret
 have e1 : takeM M 3 i = (sput M (12,i) false,u):=by unfold takeM;rw [← HU.out];rfl
 rw [e1]
 have hM4:=HM4.out
 rw [bM_del] at hM4
 exact ⟨_,(by split <;> omega),rfl,hM4,(HFA.out.mono fun _ e=>e.elim).trans (.grown HT4.out.grown (fun q e=>(Option.some.inj e).symm))⟩
set_option maxRecDepth 100000 in
set_option maxHeartbeats 1000000 in
theorem take_1 (W : World) (g c : Nat) (M : Int × Int → Bool) (hM : IsSet W g c M) (hc : c ≤ 100000) (i l n : Int) (hi : 0 ≤ i ∧ i ≤ 1048576) (ao : Option Addr) (dl cp : Nat) :
 Calls Tryz.prog 93 #[.map (some g),.agg #[.int .i64 1,.int .i64 i,.int .i64 l,.int .i64 n,.slice ao dl cp]] W fun e W'=>∃ c',c' ≤ c + 1 ∧ e = .returned (.bool (takeM M 1 i).2) ∧ IsSet W' g c' (takeM M 1 i).1 ∧ Fr (fun q=>q = g) W W':=by
 have hx : kKE.ok (7,i):=⟨WalkArith.wf_i64 ⟨by show (_ : Int) ≤ 7;omega,by show (7 : Int) ≤ _;omega⟩,WalkArith.wf_i64 ⟨by show _ ≤ i;omega,by show i ≤ _;omega⟩⟩
 have hfa : Fr (fun _=>False) W ((W.alloc (.cells #[.int .i64 1,.int .i64 i,.int .i64 l,.int .i64 n,.slice ao dl cp] 52)).alloc (.cells #[.int .i64 7,.int .i64 i] 128)):=(Fr.alloc _ _ _).trans (Fr.alloc _ _ _)
 have hB:=Blk.new (W.alloc (.cells #[.int .i64 1,.int .i64 i,.int .i64 l,.int .i64 n,.slice ao dl cp] 52)) 128 #[.int .i64 7,.int .i64 i]
 have hM2 : Mp kKE ((W.alloc (.cells #[.int .i64 1,.int .i64 i,.int .i64 l,.int .i64 n,.slice ao dl cp] 52)).alloc (.cells #[.int .i64 7,.int .i64 i] 128)) g c (bM M):=hM.fr hfa id
 have hcm : c < maxLen:=by unfold maxLen;omega
 obtain ⟨w3,hw3⟩ : ∃ w,((W.alloc (.cells #[.int .i64 1,.int .i64 i,.int .i64 l,.int .i64 n,.slice ao dl cp] 52)).alloc (.cells #[.int .i64 7,.int .i64 i] 128)) = w:=⟨_,rfl⟩
 obtain ⟨kb,hkb⟩ : ∃ b,(W.alloc (.cells #[.int .i64 1,.int .i64 i,.int .i64 l,.int .i64 n,.slice ao dl cp] 52)).heap.size = b:=⟨_,rfl⟩
 rw [hw3] at hfa hB hM2
 rw [hkb] at hB
 have k0:=hB.cell 0
 have k1:=hB.cell 1
 simp only [lA,lB,lC] at k0 k1
 have HFA:=Lib.hid hfa
 have hne : g ≠ kb:=mp_neK hM2 hB
 have HB:=Lib.hid hB
 have HNE:=Lib.hid hne
 simp only [World.size_alloc] at hkb
 clear hM hfa hB hne
 obtain ⟨u,hu⟩ : ∃ u,M (7,i) = u:=⟨_,rfl⟩
 have hgu : (bM M (7,i)).getD (.bool false) = .bool u:=by rw [bM_getD,hu]
 have HU:=Lib.hid hu
 clear hu
 go_enter Tryz.func93,Tryz.ntmps93
 go_upto_region 16 with (fail)
 try rw [hw3]
 try rw [hkb]
 clear hw3 hkb
 go_upto_region 17 with (first | (at_lookup;refine wpLook rfl _ _ rfl Tryz.underlying127 (zero4 _) hM2 rfl (x:=(7,i)) rfl hx hgu ?_) | go_in)
 clear hgu
 go_wp2_with (first | (at_mapUpdate;refine wpStore rfl _ _ _ rfl Tryz.underlying127 hM2 hcm rfl (x:=(7,i)) rfl hx (u:=.bool true) rfl ?_;intro W4 hM4 ht4;have HM4:=Lib.hid hM4;have HT4:=Lib.hid ht4;clear hM4 ht4) | go_in)
 go_ret
 have e1 : takeM M 1 i = (sput M (7,i) true,!u):=by unfold takeM;rw [← HU.out];rfl
 rw [e1]
 have hM4:=HM4.out
 rw [bM_put] at hM4
 exact ⟨_,(by split <;> omega),rfl,hM4,(HFA.out.mono fun _ e=>e.elim).trans (.grown HT4.out.grown (fun q e=>(Option.some.inj e).symm))⟩
set_option maxRecDepth 100000 in
set_option maxHeartbeats 1000000 in
theorem take_2 (W : World) (g c : Nat) (M : Int × Int → Bool) (hM : IsSet W g c M) (hc : c ≤ 100000) (i l n : Int) (hi : 0 ≤ i ∧ i ≤ 1048576) (ao : Option Addr) (dl cp : Nat) :
 Calls Tryz.prog 93 #[.map (some g),.agg #[.int .i64 2,.int .i64 i,.int .i64 l,.int .i64 n,.slice ao dl cp]] W fun e W'=>∃ c',c' ≤ c + 1 ∧ e = .returned (.bool (takeM M 2 i).2) ∧ IsSet W' g c' (takeM M 2 i).1 ∧ Fr (fun q=>q = g) W W':=by
 have hx : kKE.ok (12,i):=⟨WalkArith.wf_i64 ⟨by show (_ : Int) ≤ 12;omega,by show (12 : Int) ≤ _;omega⟩,WalkArith.wf_i64 ⟨by show _ ≤ i;omega,by show i ≤ _;omega⟩⟩
 have hfa : Fr (fun _=>False) W ((W.alloc (.cells #[.int .i64 2,.int .i64 i,.int .i64 l,.int .i64 n,.slice ao dl cp] 52)).alloc (.cells #[.int .i64 12,.int .i64 i] 128)):=(Fr.alloc _ _ _).trans (Fr.alloc _ _ _)
 have hB:=Blk.new (W.alloc (.cells #[.int .i64 2,.int .i64 i,.int .i64 l,.int .i64 n,.slice ao dl cp] 52)) 128 #[.int .i64 12,.int .i64 i]
 have hM2 : Mp kKE ((W.alloc (.cells #[.int .i64 2,.int .i64 i,.int .i64 l,.int .i64 n,.slice ao dl cp] 52)).alloc (.cells #[.int .i64 12,.int .i64 i] 128)) g c (bM M):=hM.fr hfa id
 have hcm : c < maxLen:=by unfold maxLen;omega
 obtain ⟨w3,hw3⟩ : ∃ w,((W.alloc (.cells #[.int .i64 2,.int .i64 i,.int .i64 l,.int .i64 n,.slice ao dl cp] 52)).alloc (.cells #[.int .i64 12,.int .i64 i] 128)) = w:=⟨_,rfl⟩
 obtain ⟨kb,hkb⟩ : ∃ b,(W.alloc (.cells #[.int .i64 2,.int .i64 i,.int .i64 l,.int .i64 n,.slice ao dl cp] 52)).heap.size = b:=⟨_,rfl⟩
 rw [hw3] at hfa hB hM2
 rw [hkb] at hB
 have k0:=hB.cell 0
 have k1:=hB.cell 1
 simp only [lA,lB,lC] at k0 k1
 have HFA:=Lib.hid hfa
 have hne : g ≠ kb:=mp_neK hM2 hB
 have HB:=Lib.hid hB
 have HNE:=Lib.hid hne
 simp only [World.size_alloc] at hkb
 clear hM hfa hB hne
 obtain ⟨u,hu⟩ : ∃ u,M (12,i) = u:=⟨_,rfl⟩
 have hgu : (bM M (12,i)).getD (.bool false) = .bool u:=by rw [bM_getD,hu]
 have HU:=Lib.hid hu
 clear hu
 go_enter Tryz.func93,Tryz.ntmps93
 go_upto_region 16 with (fail)
 try rw [hw3]
 try rw [hkb]
 clear hw3 hkb
 go_upto_region 17 with (first | (at_lookup;refine wpLook rfl _ _ rfl Tryz.underlying127 (zero4 _) hM2 rfl (x:=(12,i)) rfl hx hgu ?_) | go_in)
 clear hgu
 go_wp2_with (first | (at_mapUpdate;refine wpStore rfl _ _ _ rfl Tryz.underlying127 hM2 hcm rfl (x:=(12,i)) rfl hx (u:=.bool true) rfl ?_;intro W4 hM4 ht4;have HM4:=Lib.hid hM4;have HT4:=Lib.hid ht4;clear hM4 ht4) | go_in)
 go_ret
 have e1 : takeM M 2 i = (sput M (12,i) true,!u):=by unfold takeM;rw [← HU.out];rfl
 rw [e1]
 have hM4:=HM4.out
 rw [bM_put] at hM4
 exact ⟨_,(by split <;> omega),rfl,hM4,(HFA.out.mono fun _ e=>e.elim).trans (.grown HT4.out.grown (fun q e=>(Option.some.inj e).symm))⟩
set_option maxRecDepth 100000 in
set_option maxHeartbeats 1000000 in
theorem take_4 (W : World) (g c : Nat) (M : Int × Int → Bool) (hM : IsSet W g c M) (hc : c ≤ 100000) (i l n : Int) (hi : 0 ≤ i ∧ i ≤ 1048576) (ao : Option Addr) (dl cp : Nat) :
 Calls Tryz.prog 93 #[.map (some g),.agg #[.int .i64 4,.int .i64 i,.int .i64 l,.int .i64 n,.slice ao dl cp]] W fun e W'=>∃ c',c' ≤ c + 1 ∧ e = .returned (.bool (takeM M 4 i).2) ∧ IsSet W' g c' (takeM M 4 i).1 ∧ Fr (fun q=>q = g) W W':=by
 have hx : kKE.ok (17,i):=⟨WalkArith.wf_i64 ⟨by show (_ : Int) ≤ 17;omega,by show (17 : Int) ≤ _;omega⟩,WalkArith.wf_i64 ⟨by show _ ≤ i;omega,by show i ≤ _;omega⟩⟩
 have hfa : Fr (fun _=>False) W ((W.alloc (.cells #[.int .i64 4,.int .i64 i,.int .i64 l,.int .i64 n,.slice ao dl cp] 52)).alloc (.cells #[.int .i64 17,.int .i64 i] 128)):=(Fr.alloc _ _ _).trans (Fr.alloc _ _ _)
 have hB:=Blk.new (W.alloc (.cells #[.int .i64 4,.int .i64 i,.int .i64 l,.int .i64 n,.slice ao dl cp] 52)) 128 #[.int .i64 17,.int .i64 i]
 have hM2 : Mp kKE ((W.alloc (.cells #[.int .i64 4,.int .i64 i,.int .i64 l,.int .i64 n,.slice ao dl cp] 52)).alloc (.cells #[.int .i64 17,.int .i64 i] 128)) g c (bM M):=hM.fr hfa id
 have hcm : c < maxLen:=by unfold maxLen;omega
 obtain ⟨w3,hw3⟩ : ∃ w,((W.alloc (.cells #[.int .i64 4,.int .i64 i,.int .i64 l,.int .i64 n,.slice ao dl cp] 52)).alloc (.cells #[.int .i64 17,.int .i64 i] 128)) = w:=⟨_,rfl⟩
 obtain ⟨kb,hkb⟩ : ∃ b,(W.alloc (.cells #[.int .i64 4,.int .i64 i,.int .i64 l,.int .i64 n,.slice ao dl cp] 52)).heap.size = b:=⟨_,rfl⟩
 rw [hw3] at hfa hB hM2
 rw [hkb] at hB
 have k0:=hB.cell 0
 have k1:=hB.cell 1
 simp only [lA,lB,lC] at k0 k1
 have HFA:=Lib.hid hfa
 have hne : g ≠ kb:=mp_neK hM2 hB
 have HB:=Lib.hid hB
 have HNE:=Lib.hid hne
 simp only [World.size_alloc] at hkb
 clear hM hfa hB hne
 obtain ⟨u,hu⟩ : ∃ u,M (17,i) = u:=⟨_,rfl⟩
 have hgu : (bM M (17,i)).getD (.bool false) = .bool u:=by rw [bM_getD,hu]
 have HU:=Lib.hid hu
 clear hu
 go_enter Tryz.func93,Tryz.ntmps93
 go_upto_region 16 with (fail)
 try rw [hw3]
 try rw [hkb]
 clear hw3 hkb
 go_upto_region 17 with (first | (at_lookup;refine wpLook rfl _ _ rfl Tryz.underlying127 (zero4 _) hM2 rfl (x:=(17,i)) rfl hx hgu ?_) | go_in)
 clear hgu
 go_wp2_with (first | (at_mapUpdate;refine wpStore rfl _ _ _ rfl Tryz.underlying127 hM2 hcm rfl (x:=(17,i)) rfl hx (u:=.bool true) rfl ?_;intro W4 hM4 ht4;have HM4:=Lib.hid hM4;have HT4:=Lib.hid ht4;clear hM4 ht4) | go_in)
 go_ret
 have e1 : takeM M 4 i = (sput M (17,i) true,!u):=by unfold takeM;rw [← HU.out];rfl
 rw [e1]
 have hM4:=HM4.out
 rw [bM_put] at hM4
 exact ⟨_,(by split <;> omega),rfl,hM4,(HFA.out.mono fun _ e=>e.elim).trans (.grown HT4.out.grown (fun q e=>(Option.some.inj e).symm))⟩
set_option maxRecDepth 100000 in
set_option maxHeartbeats 1000000 in
theorem take_x (W : World) (g c : Nat) (M : Int × Int → Bool) (hM : IsSet W g c M) (hc : c ≤ 100000) (k : Int) (i l n : Int) (hi : 0 ≤ i ∧ i ≤ 1048576) (ao : Option Addr) (dl cp : Nat) (h1 : k ≠ 1) (h2 : k ≠ 2) (h3 : k ≠ 3) (h4 : k ≠ 4) :
 Calls Tryz.prog 93 #[.map (some g),.agg #[.int .i64 k,.int .i64 i,.int .i64 l,.int .i64 n,.slice ao dl cp]] W fun e W'=>∃ c',c' ≤ c + 1 ∧ e = .returned (.bool (takeM M k i).2) ∧ IsSet W' g c' (takeM M k i).1 ∧ Fr (fun q=>q = g) W W':=by
 have e1 : Hid (takeM M k i = (M,true)):=Lib.hid (by unfold takeM;rw [if_neg h3,if_neg h1,if_neg h2,if_neg h4])
 have p1 : (k == 1) = false:=by simp [h1]
 have p2 : (k == 2) = false:=by simp [h2]
 have p3 : (k == 3) = false:=by simp [h3]
 have p4 : (k == 4) = false:=by simp [h4]
 have HM:=Lib.hid hM
 clear hM h1 h2 h3 h4
 go_enter Tryz.func93,Tryz.ntmps93
 go_wp2
 go_ret
 rw [e1.out]
 exact ⟨c,by omega,rfl,HM.out.fr (Fr.alloc (fun _=>False) _ _) id,(Fr.alloc (fun _=>False) _ _).mono fun _ e=>e.elim⟩
theorem take_any (W : World) (g c : Nat) (M : Int × Int → Bool) (hM : IsSet W g c M) (hc : c ≤ 100000) (k i l n : Int) (hi : 0 ≤ i ∧ i ≤ 1048576) (ao : Option Addr) (dl cp : Nat) :
 Calls Tryz.prog 93 #[.map (some g),.agg #[.int .i64 k,.int .i64 i,.int .i64 l,.int .i64 n,.slice ao dl cp]] W fun e W'=>∃ c',c' ≤ c + 1 ∧ e = .returned (.bool (takeM M k i).2) ∧ IsSet W' g c' (takeM M k i).1 ∧ Fr (fun q=>q = g) W W':=by
 by_cases h1 : k = 1
 ·subst h1;exact take_1 W g c M hM hc i l n hi ao dl cp
 by_cases h2 : k = 2
 ·subst h2;exact take_2 W g c M hM hc i l n hi ao dl cp
 by_cases h3 : k = 3
 ·subst h3;exact take_3 W g c M hM hc i l n hi ao dl cp
 by_cases h4 : k = 4
 ·subst h4;exact take_4 W g c M hM hc i l n hi ao dl cp
 exact take_x W g c M hM hc k i l n hi ao dl cp h1 h2 h3 h4
end Go.Proofs.YtnkelaohcbdjnaaGreat
