/- The walk of QuorumMembers. -/
import Derived.Test.YtfeaoapjgcibmaaS6
import Derived.Deep.RegionHeld3
import Derived.Laws.IdiomStrings
import Derived.Laws.BytesArg
import Derived.OpenShut
set_option linter.unusedVariables false
set_option linter.unusedSimpArgs false
namespace Go.Proofs.Ytfeaoapjgcibmaa
open Go.RowKit Go.Shelf
attribute [local go_sem] Oper.semAt_some
/-- what the law holds in memory -/
structure MQ (w W : World) (m : Nat → Int) (A : Nat) : Prop where
  a : Blk W A 25 (arr m)
  r : Blk W (A + 1) 4 #[.bool false]
  b : Below w.heap.size w W
  e : w.heap.size = A
theorem MQ.below {w W W' : World} {m : Nat → Int} {A : Nat} (h : MQ w W m A) (hb : Below W.heap.size W W') : MQ w W' m A := ⟨h.a.below hb, h.r.below hb, h.b.trans (hb.mono h.b.size), h.e⟩
theorem res7 {tmps : Array Value} {W : World} {B : Nat} {v : Value} (hp : tmps.getD 12 undef = .pointer (some ⟨B, 0, none⟩)) (hc : Blk W B 4 #[v]) : (results Try.f7 tmps).run Try.prog W = .ok v W := by
  have hc0 : W.cell? ⟨B, 0, none⟩ = some v := hc.cell 0
  have hp' : tmps[12]?.getD undef = .pointer (some ⟨B, 0, none⟩) := by simpa using hp
  have hr : (Try.f7).results = #[.cell 12 4] := by kernel_rfl
  simp [results, hr, hp', asAddr]
  go_simp
theorem MQ.fin {w W : World} {m : Nat → Int} {A : Nat} (h : MQ w W m A) (v : Bool) : Blk (W.setCell ⟨A + 1, 0, none⟩ (.bool v)) (A + 1) 4 #[.bool v] ∧ Below w.heap.size w (W.setCell ⟨A + 1, 0, none⟩ (.bool v)) :=
  ⟨h.r.set 0 (.bool v), h.b.setCell (p := ⟨A + 1, 0, none⟩) (by have := h.e; show w.heap.size ≤ A + 1; omega) _⟩
/-- all blocks but those of S are as they were -/
structure FrS (S : Nat → Prop) (w w' : World) : Prop where
  os : w'.os = w.os
  tape : w'.tape = w.tape
  output : w'.output = w.output
  size : w.heap.size ≤ w'.heap.size
  block : ∀ k, k < w.heap.size → ¬ S k → w'.heap[k]? = w.heap[k]?
theorem FrS.refl (S : Nat → Prop) (w : World) : FrS S w w := ⟨rfl, rfl, rfl, Nat.le_refl _, fun _ _ _ => rfl⟩
theorem FrS.trans {S : Nat → Prop} {a b c : World} (h : FrS S a b) (k : FrS S b c) : FrS S a c :=
  ⟨k.os.trans h.os, k.tape.trans h.tape, k.output.trans h.output, Nat.le_trans h.size k.size, fun i hi hs => (k.block i (Nat.lt_of_lt_of_le hi h.size) hs).trans (h.block i hi hs)⟩
theorem FrS.mono {S S' : Nat → Prop} {w w' : World} (h : FrS S w w') (hs : ∀ k, S k → S' k) : FrS S' w w' := ⟨h.os, h.tape, h.output, h.size, fun k hk hn => h.block k hk (fun e => hn (hs k e))⟩
theorem FrS.grown {S : Nat → Prop} {w w' : World} {row : Option Nat} (hg : w.grownBy w' row) (hr : ∀ k, row = some k → S k) : FrS S w w' :=
  ⟨hg.os, hg.tape, hg.output, hg.size, fun k hk hn => hg.block k hk (fun e => hn (hr k e.symm))⟩
theorem FrS.setCell {S : Nat → Prop} (w : World) (a : Addr) (v : Value) (h : S a.block) : FrS S w (w.setCell a v) :=
  ⟨rfl, rfl, rfl, Nat.le_of_eq (by simp [World.setCell]), fun k hk hn => Below.heap_setCell _ _ _ k (fun e => hn (by rw [e]; exact h))⟩
theorem Blk.frS {S : Nat → Prop} {W W' : World} {B : Nat} {t : TypeId} {cs : Array Value} (h : Blk W B t cs) (hg : FrS S W W') (hne : ¬ S B) : Blk W' B t cs := (hg.block B h.lt hne).trans h
/-- the number in a cell -/
def cellN (W : World) (Q : Nat) : Nat := match W.cell? ⟨Q, 0, none⟩ with | some v => (intOf v).toNat | none => 0
theorem cellN_of {W : World} {Q : Nat} {t : TypeId} {j : Nat} (h : Blk W Q t #[.int .i64 (j : Int)]) : cellN W Q = j := by
  unfold cellN
  rw [show W.cell? ⟨Q, 0, none⟩ = some (.int .i64 (j : Int)) from h.cell 0]
  simp [intOf]
theorem sel_none (m : Nat → Int) (c : Nat) : ∀ d, (∀ i, c ≤ i → i < c + d → m i ≠ 1) → sel m 1 (c + d) = sel m 1 c
  | 0, _ => rfl
  | d + 1, h => by
    rw [show c + (d + 1) = (c + d) + 1 from rfl, sel_no m 1 (c + d) (h _ (by omega) (by omega))]
    exact sel_none m c d (fun i h1 h2 => h i h1 (by omega))
theorem sel_skip {m : Nat → Int} {c j : Nat} (hcj : c ≤ j) (h : ∀ i, c ≤ i → i < j → m i ≠ 1) : sel m 1 j = sel m 1 c := by
  have := sel_none m c (j - c) (fun i h1 h2 => h i h1 (by omega))
  rwa [show c + (j - c) = j from by omega] at this
theorem sel_pre (m : Nat → Int) (a : Nat) : ∀ d, sel m 1 a <+: sel m 1 (a + d)
  | 0 => List.prefix_refl _
  | d + 1 => (sel_pre m a d).trans (List.prefix_append _ _)
theorem sel_pre' (m : Nat → Int) {a b : Nat} (h : a ≤ b) : sel m 1 a <+: sel m 1 b := by
  have := sel_pre m a (b - a)
  rwa [show a + (b - a) = b from by omega] at this
/-- the next one -/
theorem sel_next {m : Nat → Int} {c j : Nat} (hcj : c ≤ j) (h : ∀ i, c ≤ i → i < j → m i ≠ 1) (hj : j < 9) (hm : m j = 1) : sel m 1 (j + 1) = sel m 1 c ++ [⟨j, hj⟩] := by
  rw [sel_yes m 1 j hj hm, sel_skip hcj h]
theorem sel_wrong {m : Nat → Int} {c j : Nat} (hcj : c ≤ j) (h : ∀ i, c ≤ i → i < j → m i ≠ 1) (hj9 : j ≤ 9) (hm : ∀ _ : j < 9, m j = 1) {x : Fin 9} (hx : x.val ≠ j) : ¬ ∃ k, k ≤ 9 ∧ sel m 1 c ++ [x] = sel m 1 k := by
  rintro ⟨k, hk, e⟩
  have hlen := congrArg List.length e
  rw [List.length_append] at hlen
  simp at hlen
  by_cases hkj : k ≤ j
  · have : sel m 1 k <+: sel m 1 j := sel_pre' m hkj
    have := this.length_le
    rw [sel_skip hcj h] at this
    omega
  · have hjlt : j < 9 := by omega
    have hp := sel_pre' m (show j + 1 ≤ k by omega)
    rw [sel_next hcj h hjlt (hm hjlt), ← e] at hp
    have := hp.eq_of_length (by simp)
    have := List.append_cancel_left this
    simp at this
    exact hx (by rw [← this])
theorem eqIn9 (T : TypeId) (hT : Try.prog.underlying T = some (.array 9 5)) (x y : Nat → Int) (w : World) : (Op.equalIn 10000 T (.agg (arr x)) (.agg (arr y))).run Try.prog w = .ok (same9 x y) w := by
  obtain ⟨i5, hi⟩ := info5
  rw [show (10000 : Nat) = 9999 + 1 from rfl, run_equalIn_array w 9999 _ _ hT hi, cells5, eqItems9 x y w (List.range 9) (fun i hi => List.mem_range.1 hi)]
  rfl
theorem same9_self (m : Nat → Int) : same9 m m = true := by unfold same9; simp
set_option maxRecDepth 100000 in
set_option maxHeartbeats 4000000 in
theorem members_law (w : World) (m : Nat → Int) (hm : ∀ k, k < 9 → 0 ≤ m k ∧ m k ≤ 255) (a1 : Option Addr) (n1 c1 : Nat) (y : Nat → Bool) (hl1 : n1 ≤ 9223372036854775807) (hr1 : Row w a1 n1 (fun j => .bool (y j)))
    (a2 : Option Addr) (n2 c2 : Nat) (mt : Nat → Int) (hl2 : n2 ≤ 9223372036854775807) (hr2 : Row w a2 n2 (fun j => .int .i64 (mt j))) (node role : Int)
    (a5 : Option Addr) (n5 c5 : Nat) (f : Nat → Int) (hl5 : n5 ≤ 9223372036854775807) (hf : ∀ j, j < n5 → 0 ≤ f j ∧ f j ≤ 255) (hr5 : Row w a5 n5 (fun j => .int .u8 (f j))) :
    Calls Try.prog 7 #[.agg #[.int .u8 (m 0), .int .u8 (m 1), .int .u8 (m 2), .int .u8 (m 3), .int .u8 (m 4), .int .u8 (m 5), .int .u8 (m 6), .int .u8 (m 7), .int .u8 (m 8)], .slice a1 n1 c1, .slice a2 n2 c2, .int .i64 node, .int .i64 role, .slice a5 n5 c5] w fun e W' => e = .returned (.bool true) ∧ Below w.heap.size w W' := by
  have hM0 : MQ w ((w.alloc (.cells (arr m) 25)).alloc (.cells #[.bool false] 4)) m w.heap.size := by
    refine ⟨(Blk.new w 25 (arr m)).alloc _, ?_, ((Below.refl _ w).alloc (Nat.le_refl _) _).alloc (by simp) _, rfl⟩
    have := Blk.new (w.alloc (.cells (arr m) 25)) 4 #[.bool false]
    rw [World.size_alloc] at this
    exact this
  have HM0 := Lib.hid hM0
  have HR1 : Hid (∀ W', Below w.heap.size w W' → Row W' a1 n1 (fun j => .bool (y j))) := Lib.hid (fun W' hb => hr1.below hb)
  have HR2 : Hid (∀ W', Below w.heap.size w W' → Row W' a2 n2 (fun j => .int .i64 (mt j))) := Lib.hid (fun W' hb => hr2.below hb)
  have HR5 : Hid (∀ W', Below w.heap.size w W' → Row W' a5 n5 (fun j => .int .u8 (f j))) := Lib.hid (fun W' hb => hr5.below hb)
  clear hM0 hr1 hr2 hr5
  refine (callsIn_wide (n := 9)).1 ?_
  refine callsIn_of_wp_marks Try.func7 rfl trivial ?_ rfl
  simp only [Try.ntmps7, List.size_toArray, List.length_cons, List.length_nil, Nat.reduceAdd, Nat.reduceSub, Array.replicate_succ, Array.replicate_zero, List.push_toArray, List.append_toArray, List.nil_append, List.cons_append]
  refine wpIn_wide.2 ?_
  go_wp2_with fail
  refine (known_any _).mono ?_
  rintro e w1 ⟨rfl, hb1⟩
  have hM1 := HM0.out.below hb1
  have fr := hM1.r.frozen 0
  have cr := hM1.r.cell 0
  simp only [List.getElem?_toArray, List.getElem?_cons_zero] at cr
  have HM1 := Lib.hid hM1
  obtain ⟨A, hA⟩ : ∃ A, w.heap.size = A := ⟨_, rfl⟩
  rw [hA] at HM1 fr cr
  rw [hA]
  clear hM1 hb1 HM0 hA
  by_cases h5 : 100 < n5
  · have p5 : decide (100 < (n5 : Int)) = true := decide_eq_true (by omega)
    go_wp2
    obtain ⟨hfin, hbel⟩ := HM1.out.fin true
    exact ⟨_, res7 rfl hfin, rfl, hbel⟩
  have p5 : decide (100 < (n5 : Int)) = false := decide_eq_false (by omega)
  by_cases h1 : 100 < n1
  · have p1 : decide (100 < (n1 : Int)) = true := decide_eq_true (by omega)
    go_wp2
    obtain ⟨hfin, hbel⟩ := HM1.out.fin true
    exact ⟨_, res7 rfl hfin, rfl, hbel⟩
  have p1 : decide (100 < (n1 : Int)) = false := decide_eq_false (by omega)
  by_cases h2 : 100 < n2
  · have p2 : decide (100 < (n2 : Int)) = true := decide_eq_true (by omega)
    go_wp2
    obtain ⟨hfin, hbel⟩ := HM1.out.fin true
    exact ⟨_, res7 rfl hfin, rfl, hbel⟩
  have p2 : decide (100 < (n2 : Int)) = false := decide_eq_false (by omega)
  go_wp2_with fail
  refine (decode_any a5 n5 c5 hl5 f hf _ (HR5.out _ HM1.out.b)).mono ?_
  rintro e w2 ⟨rfl, hb2⟩
  have HM2 := Lib.hid (HM1.out.below hb2)
  obtain ⟨dm, hdm⟩ : ∃ d, dcM f n5 = d := ⟨_, rfl⟩
  obtain ⟨de, hde⟩ : ∃ d, dcE f n5 = d := ⟨_, rfl⟩
  rw [hdm, hde]
  have HDM := Lib.hid hdm
  have HDE := Lib.hid hde
  clear hb2 HM1 fr cr hdm hde
  go_wp2_with fail
  have bD := Blk.new w2 25 (arr dm)
  have HM3 := Lib.hid (HM2.out.below ((Below.refl _ w2).alloc (Nat.le_refl _) (.cells (arr dm) 25)))
  refine (rdecode_any a5 n5 c5 hl5 f hf _ (HR5.out _ HM3.out.b)).mono ?_
  rw [HDM.out, HDE.out]
  rintro e w3 ⟨rfl, hb3⟩
  have HM4 := Lib.hid (HM3.out.below hb3)
  have bD3 := bD.below hb3
  obtain ⟨D, hD⟩ : ∃ D, w2.heap.size = D := ⟨_, rfl⟩
  rw [hD] at bD3
  rw [hD]
  clear hb3 bD HM3 HM2 hD
  go_upto_region 7 with (fail)
  have bE := Blk.new w3 24 (arr dm)
  have hba : Below w3.heap.size w3 (w3.alloc (.cells (arr dm) 24)) := (Below.refl _ w3).alloc (Nat.le_refl _) _
  have HM5 := Lib.hid (HM4.out.below hba)
  have bD5 := bD3.below hba
  obtain ⟨w4, hw4⟩ : ∃ w4, w3.alloc (.cells (arr dm) 24) = w4 := ⟨_, rfl⟩
  obtain ⟨E, hE⟩ : ∃ E, w3.heap.size = E := ⟨_, rfl⟩
  rw [hE] at bE
  rw [hw4] at bE HM5 bD5
  rw [show (Obj.cells #[Value.int .u8 (dm 0), .int .u8 (dm 1), .int .u8 (dm 2), .int .u8 (dm 3), .int .u8 (dm 4), .int .u8 (dm 5), .int .u8 (dm 6), .int .u8 (dm 7), .int .u8 (dm 8)] 24) = .cells (arr dm) 24 from rfl, hw4, hE]
  clear hba hw4 hE HM4 bD3
  have hu25 : Try.prog.underlying 25 = some (.array 9 5) := Try.underlying25
  have hi25 : (Try.prog.info? 25).map (·.size) = some ([.int .u8 (m 0), .int .u8 (m 1), .int .u8 (m 2), .int .u8 (m 3), .int .u8 (m 4), .int .u8 (m 5), .int .u8 (m 6), .int .u8 (m 7), .int .u8 (m 8)] : List Value).length := by kernel_rfl
  have hu24 : Try.prog.underlying 24 = some (.array 9 5) := Try.underlying24
  have hi24 : (Try.prog.info? 24).map (·.size) = some ([.int .u8 (m 0), .int .u8 (m 1), .int .u8 (m 2), .int .u8 (m 3), .int .u8 (m 4), .int .u8 (m 5), .int .u8 (m 6), .int .u8 (m 7), .int .u8 (m 8)] : List Value).length := by kernel_rfl
  have hj25 : (Try.prog.info? 25).map (·.size) = some ([.int .u8 (dm 0), .int .u8 (dm 1), .int .u8 (dm 2), .int .u8 (dm 3), .int .u8 (dm 4), .int .u8 (dm 5), .int .u8 (dm 6), .int .u8 (dm 7), .int .u8 (dm 8)] : List Value).length := by kernel_rfl
  have hj24 : (Try.prog.info? 24).map (·.size) = some ([.int .u8 (dm 0), .int .u8 (dm 1), .int .u8 (dm 2), .int .u8 (dm 3), .int .u8 (dm 4), .int .u8 (dm 5), .int .u8 (dm 6), .int .u8 (dm 7), .int .u8 (dm 8)] : List Value).length := by kernel_rfl
  have hkp : ∀ w' : World, Below w4.heap.size w4 w' → Below w4.heap.size w4 w' ∧ w'.rangeAt A 0 [.int .u8 (m 0), .int .u8 (m 1), .int .u8 (m 2), .int .u8 (m 3), .int .u8 (m 4), .int .u8 (m 5), .int .u8 (m 6), .int .u8 (m 7), .int .u8 (m 8)] ∧ w'.rangeAt D 0 [.int .u8 (dm 0), .int .u8 (dm 1), .int .u8 (dm 2), .int .u8 (dm 3), .int .u8 (dm 4), .int .u8 (dm 5), .int .u8 (dm 6), .int .u8 (dm 7), .int .u8 (dm 8)] ∧ w'.rangeAt E 0 [.int .u8 (dm 0), .int .u8 (dm 1), .int .u8 (dm 2), .int .u8 (dm 3), .int .u8 (dm 4), .int .u8 (dm 5), .int .u8 (dm 6), .int .u8 (dm 7), .int .u8 (dm 8)] := fun w' hb => ⟨hb, (HM5.out.a.below hb).range9, (bD5.below hb).range9, (bE.below hb).range9⟩
  have ho : (okM m != okM m) = false := by simp
  have hde : (de != de) = false := by simp
  have heq := fun W => eqIn9 24 Try.underlying24 dm dm W
  rw [same9_self] at heq
  simp only [arr] at heq
  have HBE := Lib.hid bE
  have HBD := Lib.hid bD5
  clear bE bD5
  refine wp_region_noPanic ?_
  refine wp_region_held_drew (S := fun (w' : World) => Below w4.heap.size w4 w' ∧ w'.rangeAt A 0 [.int .u8 (m 0), .int .u8 (m 1), .int .u8 (m 2), .int .u8 (m 3), .int .u8 (m 4), .int .u8 (m 5), .int .u8 (m 6), .int .u8 (m 7), .int .u8 (m 8)] ∧ w'.rangeAt D 0 [.int .u8 (dm 0), .int .u8 (dm 1), .int .u8 (dm 2), .int .u8 (dm 3), .int .u8 (dm 4), .int .u8 (dm 5), .int .u8 (dm 6), .int .u8 (dm 7), .int .u8 (dm 8)] ∧ w'.rangeAt E 0 [.int .u8 (dm 0), .int .u8 (dm 1), .int .u8 (dm 2), .int .u8 (dm 3), .int .u8 (dm 4), .int .u8 (dm 5), .int .u8 (dm 6), .int .u8 (dm 7), .int .u8 (dm 8)]) (by kernel_rfl) (hkp _ (Below.refl _ _).drew) (fun hHeld => ?_)
  refine' wpAnyH_take (i := 0) (oi := _) (v := _) rfl (by kernel_rfl) (by kernel_rfl) (by kernel_rfl) (fun _ _ _ h => h) (yieldsIf_load_mid (by rfl) _ _ rfl _ _ rfl _ _ ?sa0 hu25 rfl hi25) (by assumption) ?ra0
  case sa0 => intro w1 hSw; exact hSw.2.1
  try simp only [List.getElem_toArray, List.getElem_cons_zero, List.getElem_cons_succ, Act.put, List.setIfInBounds_toArray, List.set_cons_zero, List.set_cons_succ]
  refine' wpAnyH_take (i := 2) (oi := _) (v := _) rfl (by kernel_rfl) (by kernel_rfl) (by kernel_rfl) (fun _ _ _ h => h) (yieldsIf_load_mid (by rfl) _ _ rfl _ _ rfl _ _ ?sa2 hu25 rfl hi25) (by assumption) ?ra2
  case sa2 => intro w1 hSw; exact hSw.2.1
  try simp only [List.getElem_toArray, List.getElem_cons_zero, List.getElem_cons_succ, Act.put, List.setIfInBounds_toArray, List.set_cons_zero, List.set_cons_succ]
  refine wpAnyH_ready (rs := [1]) (by kernel_rfl) (by simp) ?_
  refine AllReadyH.cons (o := _) rfl (fun K hK => ?_) AllReadyH.nil
  rw [if_pos (by rfl)]
  try simp only [List.getElem_toArray, List.getElem_cons_zero, List.getElem_cons_succ]
  go_simp
  refine (right_any m hm _).mono ?_
  rintro e w5 ⟨rfl, hbw5⟩
  refine hK.out _ _ (hkp _ (bCat hbw5 (by assumption))) (fun hHeldw5 => ?_)
  clear hK K
  try simp only [List.getElem_toArray, List.getElem_cons_zero, List.getElem_cons_succ, Act.put, List.setIfInBounds_toArray, List.set_cons_zero, List.set_cons_succ]
  refine wpAnyH_ready (rs := [3]) (by kernel_rfl) (by simp) ?_
  refine AllReadyH.cons (o := _) rfl (fun K hK => ?_) AllReadyH.nil
  rw [if_pos (by rfl)]
  try simp only [List.getElem_toArray, List.getElem_cons_zero, List.getElem_cons_succ]
  go_simp
  refine (rright_any m hm _).mono ?_
  rintro e w6 ⟨rfl, hbw6⟩
  refine hK.out _ _ (hkp _ (bCat hbw6 (by assumption))) (fun hHeldw6 => ?_)
  clear hK K
  try simp only [List.getElem_toArray, List.getElem_cons_zero, List.getElem_cons_succ, Act.put, List.setIfInBounds_toArray, List.set_cons_zero, List.set_cons_succ]
  refine wpAnyH_take (i := 4) (oi := _) (v := ?va4) rfl (by kernel_rfl) (by kernel_rfl) (by kernel_rfl) (fun _ _ _ h => h) (Or.inl ⟨by rfl, ?ya4⟩) (by assumption) ?ra4
  case ya4 => intro w1 hSw; obtain ⟨s1, s2, s3, s4⟩ := hSw; go_simp; try with_reducible rfl
  try simp only [List.getElem_toArray, List.getElem_cons_zero, List.getElem_cons_succ, Act.put, List.setIfInBounds_toArray, List.set_cons_zero, List.set_cons_succ]
  refine wpAnyH_take (i := 5) (oi := _) (v := ?va5) rfl (by kernel_rfl) (by kernel_rfl) (by kernel_rfl) (fun _ _ _ h => h) (Or.inl ⟨by rfl, ?ya5⟩) (by assumption) ?ra5
  case ya5 => intro w1 hSw; obtain ⟨s1, s2, s3, s4⟩ := hSw; go_simp; try with_reducible rfl
  try simp only [List.getElem_toArray, List.getElem_cons_zero, List.getElem_cons_succ, Act.put, List.setIfInBounds_toArray, List.set_cons_zero, List.set_cons_succ]
  refine' wpAnyH_take (i := 6) (oi := _) (v := _) rfl (by kernel_rfl) (by kernel_rfl) (by kernel_rfl) (fun _ _ _ h => h) (yieldsIf_load_mid (by rfl) _ _ rfl _ _ rfl _ _ ?sa6 hu25 rfl hj25) (by assumption) ?ra6
  case sa6 => intro w1 hSw; exact hSw.2.2.1
  try simp only [List.getElem_toArray, List.getElem_cons_zero, List.getElem_cons_succ, Act.put, List.setIfInBounds_toArray, List.set_cons_zero, List.set_cons_succ]
  refine' wpAnyH_take (i := 7) (oi := _) (v := _) rfl (by kernel_rfl) (by kernel_rfl) (by kernel_rfl) (fun _ _ _ h => h) (yieldsIf_load_mid (by rfl) _ _ rfl _ _ rfl _ _ ?sa7 hu24 rfl hj24) (by assumption) ?ra7
  case sa7 => intro w1 hSw; exact hSw.2.2.2
  try simp only [List.getElem_toArray, List.getElem_cons_zero, List.getElem_cons_succ, Act.put, List.setIfInBounds_toArray, List.set_cons_zero, List.set_cons_succ]
  refine wpAnyH_take (i := 8) (oi := _) (v := ?va8) rfl (by kernel_rfl) (by kernel_rfl) (by kernel_rfl) (fun _ _ _ h => h) (Or.inl ⟨by rfl, ?ya8⟩) (by assumption) ?ra8
  case ya8 => intro w1 hSw; obtain ⟨s1, s2, s3, s4⟩ := hSw; go_simp; try with_reducible rfl
  try simp only [List.getElem_toArray, List.getElem_cons_zero, List.getElem_cons_succ, Act.put, List.setIfInBounds_toArray, List.set_cons_zero, List.set_cons_succ]
  refine wpAnyH_take (i := 9) (oi := _) (v := ?va9) rfl (by kernel_rfl) (by kernel_rfl) (by kernel_rfl) (fun _ _ _ h => h) (Or.inl ⟨by rfl, ?ya9⟩) (by assumption) ?ra9
  case ya9 => intro w1 hSw; obtain ⟨s1, s2, s3, s4⟩ := hSw; go_simp; try with_reducible rfl
  try simp only [List.getElem_toArray, List.getElem_cons_zero, List.getElem_cons_succ, Act.put, List.setIfInBounds_toArray, List.set_cons_zero, List.set_cons_succ]
  refine wpAnyH_take (i := 10) (oi := _) (v := ?va10) rfl (by kernel_rfl) (by kernel_rfl) (by kernel_rfl) (fun _ _ _ h => h) (Or.inl ⟨by rfl, ?ya10⟩) (by assumption) ?ra10
  case ya10 => intro w1 hSw; obtain ⟨s1, s2, s3, s4⟩ := hSw; go_simp; try with_reducible rfl
  try simp only [List.getElem_toArray, List.getElem_cons_zero, List.getElem_cons_succ, Act.put, List.setIfInBounds_toArray, List.set_cons_zero, List.set_cons_succ]
  refine wpAnyH_take (i := 11) (oi := _) (v := ?va11) rfl (by kernel_rfl) (by kernel_rfl) (by kernel_rfl) (fun _ _ _ h => h) (Or.inl ⟨by rfl, ?ya11⟩) (by assumption) ?ra11
  case ya11 => intro w1 hSw; obtain ⟨s1, s2, s3, s4⟩ := hSw; go_simp; try with_reducible rfl
  try simp only [List.getElem_toArray, List.getElem_cons_zero, List.getElem_cons_succ, Act.put, List.setIfInBounds_toArray, List.set_cons_zero, List.set_cons_succ]
  refine wpAnyH_take (i := 12) (oi := _) (v := ?va12) rfl (by kernel_rfl) (by kernel_rfl) (by kernel_rfl) (fun _ _ _ h => h) (Or.inl ⟨by rfl, ?ya12⟩) (by assumption) ?ra12
  case ya12 => intro w1 hSw; obtain ⟨s1, s2, s3, s4⟩ := hSw; go_simp; try with_reducible rfl
  try simp only [List.getElem_toArray, List.getElem_cons_zero, List.getElem_cons_succ, Act.put, List.setIfInBounds_toArray, List.set_cons_zero, List.set_cons_succ]
  refine wpAnyH_take (i := 13) (oi := _) (v := ?va13) rfl (by kernel_rfl) (by kernel_rfl) (by kernel_rfl) (fun _ _ _ h => h) (Or.inl ⟨by rfl, ?ya13⟩) (by assumption) ?ra13
  case ya13 => intro w1 hSw; obtain ⟨s1, s2, s3, s4⟩ := hSw; go_simp; try with_reducible rfl
  try simp only [List.getElem_toArray, List.getElem_cons_zero, List.getElem_cons_succ, Act.put, List.setIfInBounds_toArray, List.set_cons_zero, List.set_cons_succ]
  refine wpAnyH_take (i := 14) (oi := _) (v := ?va14) rfl (by kernel_rfl) (by kernel_rfl) (by kernel_rfl) (fun _ _ _ h => h) (Or.inl ⟨by rfl, ?ya14⟩) (by assumption) ?ra14
  case ya14 => intro w1 hSw; obtain ⟨s1, s2, s3, s4⟩ := hSw; go_simp; try with_reducible rfl
  try simp only [List.getElem_toArray, List.getElem_cons_zero, List.getElem_cons_succ, Act.put, List.setIfInBounds_toArray, List.set_cons_zero, List.set_cons_succ]
  refine wpAnyH_done (by kernel_rfl) ?_ _
  refine NoPanic.normal ?_
  have HM6 := Lib.hid (HM5.out.below hHeldw6.1)
  clear hHeld hHeldw5 hHeldw6 hbw5 hbw6 hkp heq
  have hA6 := HM6.out.a
  obtain ⟨x0, x1, x2, x3, x4, x5, x6, x7, x8⟩ := cells9 hA6
  clear hA6
  go_wp2_with fail
  refine (rright_any m hm _).mono ?_
  rintro e w7 ⟨rfl, hb7⟩
  have HM7 := Lib.hid (HM6.out.below hb7)
  have fr := HM7.out.r.frozen 0
  have cr := HM7.out.r.cell 0
  simp only [List.getElem?_toArray, List.getElem?_cons_zero] at cr
  clear hb7 ho hde
  clear x0 x1 x2 x3 x4 x5 x6 x7 x8
  cases hok : okM m with
  | false =>
    clear hok
    go_wp2
    obtain ⟨hfin, hbel⟩ := HM7.out.fin true
    exact ⟨_, res7 rfl hfin, rfl, hbel⟩
  | true =>
  have HOK := Lib.hid hok
  have hA7 := HM7.out.a
  obtain ⟨x0, x1, x2, x3, x4, x5, x6, x7, x8⟩ := cells9 hA7
  clear hA7 hok fr cr HBE HBD HM6 HM5
  go_wp2_with fail
  refine (votes_any m hm a1 n1 c1 hl1 y _ (HR1.out _ HM7.out.b)).mono ?_
  rintro e w8 ⟨rfl, hb8⟩
  have HM8 := Lib.hid (HM7.out.below hb8)
  obtain ⟨vw, hvw⟩ : ∃ v, won m y n1 = v := ⟨_, rfl⟩
  obtain ⟨vl, hvl⟩ : ∃ v, lost m y n1 = v := ⟨_, rfl⟩
  rw [hvw, hvl]
  have HVW := Lib.hid hvw
  have HVL := Lib.hid hvl
  clear hb8 hvw hvl HM7
  clear x0 x1 x2 x3 x4 x5 x6 x7 x8
  have hA8 := HM8.out.a
  obtain ⟨x0, x1, x2, x3, x4, x5, x6, x7, x8⟩ := cells9 hA8
  clear hA8
  go_wp2_with fail
  refine (rvotes_any m hm a1 n1 c1 hl1 y _ (HR1.out _ HM8.out.b)).mono ?_
  rw [HVW.out, HVL.out]
  rintro e w9 ⟨rfl, hb9⟩
  have HM9 := Lib.hid (HM8.out.below hb9)
  clear hb9 HM8
  clear x0 x1 x2 x3 x4 x5 x6 x7 x8
  have hA9 := HM9.out.a
  obtain ⟨x0, x1, x2, x3, x4, x5, x6, x7, x8⟩ := cells9 hA9
  clear hA9
  go_wp2_with fail
  refine (change_any m hm node role _).mono ?_
  obtain ⟨cm, hcm⟩ : ∃ d, chM m node role = d := ⟨_, rfl⟩
  obtain ⟨ce, hce⟩ : ∃ d, chE m node role = d := ⟨_, rfl⟩
  rw [hcm, hce]
  have HCM := Lib.hid hcm
  have HCE := Lib.hid hce
  rintro e w10 ⟨rfl, hb10⟩
  have HM10 := Lib.hid (HM9.out.below hb10)
  clear hb10 HM9 hcm hce
  clear x0 x1 x2 x3 x4 x5 x6 x7 x8
  have bD := Blk.new w10 25 (arr cm)
  have hba := (Below.refl _ w10).alloc (Nat.le_refl _) (.cells (arr cm) 25)
  have HM11 := Lib.hid (HM10.out.below hba)
  have hA11 := HM11.out.a
  simp only [arr] at hA11
  obtain ⟨x0, x1, x2, x3, x4, x5, x6, x7, x8⟩ := cells9 hA11
  clear hA11 hba
  go_wp2_with fail
  refine (rchange_any m hm node role _).mono ?_
  rw [HCM.out, HCE.out]
  rintro e w11 ⟨rfl, hb11⟩
  have HM12 := Lib.hid (HM11.out.below hb11)
  have bD3 := bD.below hb11
  obtain ⟨D, hD⟩ : ∃ D, w10.heap.size = D := ⟨_, rfl⟩
  rw [hD] at bD3
  rw [hD]
  clear hb11 bD HM11 HM10 hD
  clear x0 x1 x2 x3 x4 x5 x6 x7 x8
  go_upto_region 15 with (fail)
  have bE := Blk.new w11 24 (arr cm)
  have hba : Below w11.heap.size w11 (w11.alloc (.cells (arr cm) 24)) := (Below.refl _ w11).alloc (Nat.le_refl _) _
  have HM13 := Lib.hid (HM12.out.below hba)
  have bD5 := bD3.below hba
  obtain ⟨w12, hw12⟩ : ∃ w4, w11.alloc (.cells (arr cm) 24) = w4 := ⟨_, rfl⟩
  obtain ⟨E, hE⟩ : ∃ E, w11.heap.size = E := ⟨_, rfl⟩
  rw [hE] at bE
  rw [hw12] at bE HM13 bD5
  rw [show (Obj.cells #[Value.int .u8 (cm 0), .int .u8 (cm 1), .int .u8 (cm 2), .int .u8 (cm 3), .int .u8 (cm 4), .int .u8 (cm 5), .int .u8 (cm 6), .int .u8 (cm 7), .int .u8 (cm 8)] 24) = .cells (arr cm) 24 from rfl, hw12, hE]
  clear hba hw12 hE HM12 bD3
  have hu25 : Try.prog.underlying 25 = some (.array 9 5) := Try.underlying25
  have hi25 : (Try.prog.info? 25).map (·.size) = some ([.int .u8 (m 0), .int .u8 (m 1), .int .u8 (m 2), .int .u8 (m 3), .int .u8 (m 4), .int .u8 (m 5), .int .u8 (m 6), .int .u8 (m 7), .int .u8 (m 8)] : List Value).length := by kernel_rfl
  have hu24 : Try.prog.underlying 24 = some (.array 9 5) := Try.underlying24
  have hj25 : (Try.prog.info? 25).map (·.size) = some ([.int .u8 (cm 0), .int .u8 (cm 1), .int .u8 (cm 2), .int .u8 (cm 3), .int .u8 (cm 4), .int .u8 (cm 5), .int .u8 (cm 6), .int .u8 (cm 7), .int .u8 (cm 8)] : List Value).length := by kernel_rfl
  have hj24 : (Try.prog.info? 24).map (·.size) = some ([.int .u8 (cm 0), .int .u8 (cm 1), .int .u8 (cm 2), .int .u8 (cm 3), .int .u8 (cm 4), .int .u8 (cm 5), .int .u8 (cm 6), .int .u8 (cm 7), .int .u8 (cm 8)] : List Value).length := by kernel_rfl
  have hkp : ∀ w' : World, Below w12.heap.size w12 w' → Below w12.heap.size w12 w' ∧ w'.rangeAt A 0 [.int .u8 (m 0), .int .u8 (m 1), .int .u8 (m 2), .int .u8 (m 3), .int .u8 (m 4), .int .u8 (m 5), .int .u8 (m 6), .int .u8 (m 7), .int .u8 (m 8)] ∧ w'.rangeAt D 0 [.int .u8 (cm 0), .int .u8 (cm 1), .int .u8 (cm 2), .int .u8 (cm 3), .int .u8 (cm 4), .int .u8 (cm 5), .int .u8 (cm 6), .int .u8 (cm 7), .int .u8 (cm 8)] ∧ w'.rangeAt E 0 [.int .u8 (cm 0), .int .u8 (cm 1), .int .u8 (cm 2), .int .u8 (cm 3), .int .u8 (cm 4), .int .u8 (cm 5), .int .u8 (cm 6), .int .u8 (cm 7), .int .u8 (cm 8)] := fun w' hb => ⟨hb, (HM13.out.a.below hb).range9, (bD5.below hb).range9, (bE.below hb).range9⟩
  have q1 : (vw != vw) = false := by simp
  have q2 : (vl != vl) = false := by simp
  have q3 : (ce != ce) = false := by simp
  have q4 : (mst m != mst m) = false := by simp
  have q5 : (idx m mt n2 (sel m 1 9) != idx m mt n2 (sel m 1 9)) = false := by simp
  have q6 : ((cnt m role : Int) != (cnt m role : Int)) = false := by simp
  have heq := fun W => eqIn9 24 Try.underlying24 cm cm W
  rw [same9_self] at heq
  simp only [arr] at heq
  obtain ⟨str, hstr⟩ : ∃ str, strOfNums [m 0, m 1, m 2, m 3, m 4, m 5, m 6, m 7, m 8] = str := ⟨_, rfl⟩
  have CV : Hid (∀ (W : World) (g cap : Nat), (∀ j, j < 9 → W.cell? ⟨g, j, none⟩ = some (.int .u8 (m j))) → (convert 42 9 (.slice (some ⟨g, 0, none⟩) 9 cap)).run Try.prog W = .ok (.string str) W) := Lib.hid (fun W g cap hc => by
    rw [← hstr]
    exact run_convert_bytes_arg W 42 5 Try.underlying42 Try.underlying5 g 0 9 cap [m 0, m 1, m 2, m 3, m 4, m 5, m 6, m 7, m 8] rfl (fun i hi => by
      rw [Nat.zero_add, hc i hi]
      have : i = 0 ∨ i = 1 ∨ i = 2 ∨ i = 3 ∨ i = 4 ∨ i = 5 ∨ i = 6 ∨ i = 7 ∨ i = 8 := by omega
      rcases this with rfl | rfl | rfl | rfl | rfl | rfl | rfl | rfl | rfl <;> rfl) 9 Try.underlying9)
  have CR : Hid (∀ W : World, W.rangeAt A 0 [.int .u8 (m 0), .int .u8 (m 1), .int .u8 (m 2), .int .u8 (m 3), .int .u8 (m 4), .int .u8 (m 5), .int .u8 (m 6), .int .u8 (m 7), .int .u8 (m 8)] → ∀ j, j < 9 → W.cell? ⟨A, j, none⟩ = some (.int .u8 (m j))) := Lib.hid (fun W hr j hj => by
    have := hr j (.int .u8 (m j)) (by
      have : j = 0 ∨ j = 1 ∨ j = 2 ∨ j = 3 ∨ j = 4 ∨ j = 5 ∨ j = 6 ∨ j = 7 ∨ j = 8 := by omega
      rcases this with rfl | rfl | rfl | rfl | rfl | rfl | rfl | rfl | rfl <;> rfl)
    rwa [Nat.zero_add] at this)
  have HBE := Lib.hid bE
  have HBD := Lib.hid bD5
  clear bE bD5 hstr
  refine wp_region_noPanic ?_
  refine wp_region_held_drew (S := fun (w' : World) => Below w12.heap.size w12 w' ∧ w'.rangeAt A 0 [.int .u8 (m 0), .int .u8 (m 1), .int .u8 (m 2), .int .u8 (m 3), .int .u8 (m 4), .int .u8 (m 5), .int .u8 (m 6), .int .u8 (m 7), .int .u8 (m 8)] ∧ w'.rangeAt D 0 [.int .u8 (cm 0), .int .u8 (cm 1), .int .u8 (cm 2), .int .u8 (cm 3), .int .u8 (cm 4), .int .u8 (cm 5), .int .u8 (cm 6), .int .u8 (cm 7), .int .u8 (cm 8)] ∧ w'.rangeAt E 0 [.int .u8 (cm 0), .int .u8 (cm 1), .int .u8 (cm 2), .int .u8 (cm 3), .int .u8 (cm 4), .int .u8 (cm 5), .int .u8 (cm 6), .int .u8 (cm 7), .int .u8 (cm 8)]) (by kernel_rfl) (hkp _ (Below.refl _ _).drew) (fun hHeld => ?_)
  refine wpAnyH_take (i := 0) (oi := _) (v := ?vb0) rfl (by kernel_rfl) (by kernel_rfl) (by kernel_rfl) (fun _ _ _ h => h) (Or.inl ⟨by rfl, ?yb0⟩) (by assumption) ?rb0
  case yb0 => intro w1 hSw; obtain ⟨s1, s2, s3, s4⟩ := hSw; go_simp; try with_reducible rfl
  try simp only [List.getElem_toArray, List.getElem_cons_zero, List.getElem_cons_succ, Act.put, List.setIfInBounds_toArray, List.set_cons_zero, List.set_cons_succ]
  refine wpAnyH_take (i := 1) (oi := _) (v := ?vb1) rfl (by kernel_rfl) (by kernel_rfl) (by kernel_rfl) (fun _ _ _ h => h) (Or.inl ⟨by rfl, ?yb1⟩) (by assumption) ?rb1
  case yb1 => intro w1 hSw; obtain ⟨s1, s2, s3, s4⟩ := hSw; go_simp; try with_reducible rfl
  try simp only [List.getElem_toArray, List.getElem_cons_zero, List.getElem_cons_succ, Act.put, List.setIfInBounds_toArray, List.set_cons_zero, List.set_cons_succ]
  refine wpAnyH_take (i := 2) (oi := _) (v := ?vb2) rfl (by kernel_rfl) (by kernel_rfl) (by kernel_rfl) (fun _ _ _ h => h) (Or.inl ⟨by rfl, ?yb2⟩) (by assumption) ?rb2
  case yb2 => intro w1 hSw; obtain ⟨s1, s2, s3, s4⟩ := hSw; go_simp; try with_reducible rfl
  try simp only [List.getElem_toArray, List.getElem_cons_zero, List.getElem_cons_succ, Act.put, List.setIfInBounds_toArray, List.set_cons_zero, List.set_cons_succ]
  refine wpAnyH_take (i := 3) (oi := _) (v := ?vb3) rfl (by kernel_rfl) (by kernel_rfl) (by kernel_rfl) (fun _ _ _ h => h) (Or.inl ⟨by rfl, ?yb3⟩) (by assumption) ?rb3
  case yb3 => intro w1 hSw; obtain ⟨s1, s2, s3, s4⟩ := hSw; go_simp; try with_reducible rfl
  try simp only [List.getElem_toArray, List.getElem_cons_zero, List.getElem_cons_succ, Act.put, List.setIfInBounds_toArray, List.set_cons_zero, List.set_cons_succ]
  refine wpAnyH_take (i := 4) (oi := _) (v := ?vb4) rfl (by kernel_rfl) (by kernel_rfl) (by kernel_rfl) (fun _ _ _ h => h) (Or.inl ⟨by rfl, ?yb4⟩) (by assumption) ?rb4
  case yb4 => intro w1 hSw; obtain ⟨s1, s2, s3, s4⟩ := hSw; go_simp; try with_reducible rfl
  try simp only [List.getElem_toArray, List.getElem_cons_zero, List.getElem_cons_succ, Act.put, List.setIfInBounds_toArray, List.set_cons_zero, List.set_cons_succ]
  refine wpAnyH_take (i := 5) (oi := _) (v := ?vb5) rfl (by kernel_rfl) (by kernel_rfl) (by kernel_rfl) (fun _ _ _ h => h) (Or.inl ⟨by rfl, ?yb5⟩) (by assumption) ?rb5
  case yb5 => intro w1 hSw; obtain ⟨s1, s2, s3, s4⟩ := hSw; go_simp; try with_reducible rfl
  try simp only [List.getElem_toArray, List.getElem_cons_zero, List.getElem_cons_succ, Act.put, List.setIfInBounds_toArray, List.set_cons_zero, List.set_cons_succ]
  refine wpAnyH_take (i := 6) (oi := _) (v := ?vb6) rfl (by kernel_rfl) (by kernel_rfl) (by kernel_rfl) (fun _ _ _ h => h) (Or.inl ⟨by rfl, ?yb6⟩) (by assumption) ?rb6
  case yb6 => intro w1 hSw; obtain ⟨s1, s2, s3, s4⟩ := hSw; go_simp; try with_reducible rfl
  try simp only [List.getElem_toArray, List.getElem_cons_zero, List.getElem_cons_succ, Act.put, List.setIfInBounds_toArray, List.set_cons_zero, List.set_cons_succ]
  refine wpAnyH_take (i := 7) (oi := _) (v := ?vb7) rfl (by kernel_rfl) (by kernel_rfl) (by kernel_rfl) (fun _ _ _ h => h) (Or.inl ⟨by rfl, ?yb7⟩) (by assumption) ?rb7
  case yb7 => intro w1 hSw; obtain ⟨s1, s2, s3, s4⟩ := hSw; go_simp; try with_reducible rfl
  try simp only [List.getElem_toArray, List.getElem_cons_zero, List.getElem_cons_succ, Act.put, List.setIfInBounds_toArray, List.set_cons_zero, List.set_cons_succ]
  refine wpAnyH_take (i := 8) (oi := _) (v := ?vb8) rfl (by kernel_rfl) (by kernel_rfl) (by kernel_rfl) (fun _ _ _ h => h) (Or.inl ⟨by rfl, ?yb8⟩) (by assumption) ?rb8
  case yb8 => intro w1 hSw; obtain ⟨s1, s2, s3, s4⟩ := hSw; go_simp; try with_reducible rfl
  try simp only [List.getElem_toArray, List.getElem_cons_zero, List.getElem_cons_succ, Act.put, List.setIfInBounds_toArray, List.set_cons_zero, List.set_cons_succ]
  refine' wpAnyH_take (i := 9) (oi := _) (v := _) rfl (by kernel_rfl) (by kernel_rfl) (by kernel_rfl) (fun _ _ _ h => h) (yieldsIf_load_mid (by rfl) _ _ rfl _ _ rfl _ _ ?sb9 hu25 rfl hj25) (by assumption) ?rb9
  case sb9 => intro w1 hSw; exact hSw.2.2.1
  try simp only [List.getElem_toArray, List.getElem_cons_zero, List.getElem_cons_succ, Act.put, List.setIfInBounds_toArray, List.set_cons_zero, List.set_cons_succ]
  refine' wpAnyH_take (i := 10) (oi := _) (v := _) rfl (by kernel_rfl) (by kernel_rfl) (by kernel_rfl) (fun _ _ _ h => h) (yieldsIf_load_mid (by rfl) _ _ rfl _ _ rfl _ _ ?sb10 hu24 rfl hj24) (by assumption) ?rb10
  case sb10 => intro w1 hSw; exact hSw.2.2.2
  try simp only [List.getElem_toArray, List.getElem_cons_zero, List.getElem_cons_succ, Act.put, List.setIfInBounds_toArray, List.set_cons_zero, List.set_cons_succ]
  refine wpAnyH_take (i := 11) (oi := _) (v := ?vb11) rfl (by kernel_rfl) (by kernel_rfl) (by kernel_rfl) (fun _ _ _ h => h) (Or.inl ⟨by rfl, ?yb11⟩) (by assumption) ?rb11
  case yb11 => intro w1 hSw; obtain ⟨s1, s2, s3, s4⟩ := hSw; go_simp; try with_reducible rfl
  try simp only [List.getElem_toArray, List.getElem_cons_zero, List.getElem_cons_succ, Act.put, List.setIfInBounds_toArray, List.set_cons_zero, List.set_cons_succ]
  refine wpAnyH_take (i := 12) (oi := _) (v := ?vb12) rfl (by kernel_rfl) (by kernel_rfl) (by kernel_rfl) (fun _ _ _ h => h) (Or.inl ⟨by rfl, ?yb12⟩) (by assumption) ?rb12
  case yb12 => intro w1 hSw; obtain ⟨s1, s2, s3, s4⟩ := hSw; go_simp; try with_reducible rfl
  try simp only [List.getElem_toArray, List.getElem_cons_zero, List.getElem_cons_succ, Act.put, List.setIfInBounds_toArray, List.set_cons_zero, List.set_cons_succ]
  refine wpAnyH_take (i := 13) (oi := _) (v := ?vb13) rfl (by kernel_rfl) (by kernel_rfl) (by kernel_rfl) (fun _ _ _ h => h) (Or.inl ⟨by rfl, ?yb13⟩) (by assumption) ?rb13
  case yb13 => intro w1 hSw; obtain ⟨s1, s2, s3, s4⟩ := hSw; go_simp; try with_reducible rfl
  try simp only [List.getElem_toArray, List.getElem_cons_zero, List.getElem_cons_succ, Act.put, List.setIfInBounds_toArray, List.set_cons_zero, List.set_cons_succ]
  refine wpAnyH_take (i := 14) (oi := _) (v := ?vb14) rfl (by kernel_rfl) (by kernel_rfl) (by kernel_rfl) (fun _ _ _ h => h) (Or.inl ⟨by rfl, ?yb14⟩) (by assumption) ?rb14
  case yb14 => intro w1 hSw; obtain ⟨s1, s2, s3, s4⟩ := hSw; go_simp; try with_reducible rfl
  try simp only [List.getElem_toArray, List.getElem_cons_zero, List.getElem_cons_succ, Act.put, List.setIfInBounds_toArray, List.set_cons_zero, List.set_cons_succ]
  refine wpAnyH_take (i := 15) (oi := _) (v := ?vb15) rfl (by kernel_rfl) (by kernel_rfl) (by kernel_rfl) (fun _ _ _ h => h) (Or.inl ⟨by rfl, ?yb15⟩) (by assumption) ?rb15
  case yb15 => intro w1 hSw; obtain ⟨s1, s2, s3, s4⟩ := hSw; go_simp; try with_reducible rfl
  try simp only [List.getElem_toArray, List.getElem_cons_zero, List.getElem_cons_succ, Act.put, List.setIfInBounds_toArray, List.set_cons_zero, List.set_cons_succ]
  refine wpAnyH_take (i := 16) (oi := _) (v := ?vb16) rfl (by kernel_rfl) (by kernel_rfl) (by kernel_rfl) (fun _ _ _ h => h) (Or.inl ⟨by rfl, ?yb16⟩) (by assumption) ?rb16
  case yb16 => intro w1 hSw; obtain ⟨s1, s2, s3, s4⟩ := hSw; go_simp; try with_reducible rfl
  try simp only [List.getElem_toArray, List.getElem_cons_zero, List.getElem_cons_succ, Act.put, List.setIfInBounds_toArray, List.set_cons_zero, List.set_cons_succ]
  refine wpAnyH_take (i := 17) (oi := _) (v := ?vb17) rfl (by kernel_rfl) (by kernel_rfl) (by kernel_rfl) (fun _ _ _ h => h) (Or.inl ⟨by rfl, ?yb17⟩) (by assumption) ?rb17
  case yb17 => intro w1 hSw; obtain ⟨s1, s2, s3, s4⟩ := hSw; go_simp; try with_reducible rfl
  try simp only [List.getElem_toArray, List.getElem_cons_zero, List.getElem_cons_succ, Act.put, List.setIfInBounds_toArray, List.set_cons_zero, List.set_cons_succ]
  refine wpAnyH_take (i := 18) (oi := _) (v := ?vb18) rfl (by kernel_rfl) (by kernel_rfl) (by kernel_rfl) (fun _ _ _ h => h) (Or.inl ⟨by rfl, ?yb18⟩) (by assumption) ?rb18
  case yb18 => intro w1 hSw; obtain ⟨s1, s2, s3, s4⟩ := hSw; go_simp; try with_reducible rfl
  try simp only [List.getElem_toArray, List.getElem_cons_zero, List.getElem_cons_succ, Act.put, List.setIfInBounds_toArray, List.set_cons_zero, List.set_cons_succ]
  refine' wpAnyH_take (i := 19) (oi := _) (v := _) rfl (by kernel_rfl) (by kernel_rfl) (by kernel_rfl) (fun _ _ _ h => h) (yieldsIf_load_mid (by rfl) _ _ rfl _ _ rfl _ _ ?sb19 hu25 rfl hi25) (by assumption) ?rb19
  case sb19 => intro w1 hSw; exact hSw.2.1
  try simp only [List.getElem_toArray, List.getElem_cons_zero, List.getElem_cons_succ, Act.put, List.setIfInBounds_toArray, List.set_cons_zero, List.set_cons_succ]
  refine' wpAnyH_take (i := 21) (oi := _) (v := _) rfl (by kernel_rfl) (by kernel_rfl) (by kernel_rfl) (fun _ _ _ h => h) (yieldsIf_load_mid (by rfl) _ _ rfl _ _ rfl _ _ ?sb21 hu25 rfl hi25) (by assumption) ?rb21
  case sb21 => intro w1 hSw; exact hSw.2.1
  try simp only [List.getElem_toArray, List.getElem_cons_zero, List.getElem_cons_succ, Act.put, List.setIfInBounds_toArray, List.set_cons_zero, List.set_cons_succ]
  refine wpAnyH_ready (rs := [20]) (by kernel_rfl) (by simp) ?_
  refine AllReadyH.cons (o := _) rfl (fun K hK => ?_) AllReadyH.nil
  rw [if_pos (by rfl)]
  try simp only [List.getElem_toArray, List.getElem_cons_zero, List.getElem_cons_succ]
  go_simp
  refine (most_any m hm _).mono ?_
  rintro e w13 ⟨rfl, hbw13⟩
  refine hK.out _ _ (hkp _ (bCat hbw13 (by assumption))) (fun hHeldw13 => ?_)
  clear hK K
  try simp only [List.getElem_toArray, List.getElem_cons_zero, List.getElem_cons_succ, Act.put, List.setIfInBounds_toArray, List.set_cons_zero, List.set_cons_succ]
  refine wpAnyH_ready (rs := [22]) (by kernel_rfl) (by simp) ?_
  refine AllReadyH.cons (o := _) rfl (fun K hK => ?_) AllReadyH.nil
  rw [if_pos (by rfl)]
  try simp only [List.getElem_toArray, List.getElem_cons_zero, List.getElem_cons_succ]
  go_simp
  refine (rmost_any m hm _).mono ?_
  rintro e w14 ⟨rfl, hbw14⟩
  refine hK.out _ _ (hkp _ (bCat hbw14 (by assumption))) (fun hHeldw14 => ?_)
  clear hK K
  try simp only [List.getElem_toArray, List.getElem_cons_zero, List.getElem_cons_succ, Act.put, List.setIfInBounds_toArray, List.set_cons_zero, List.set_cons_succ]
  refine wpAnyH_take (i := 23) (oi := _) (v := ?vb23) rfl (by kernel_rfl) (by kernel_rfl) (by kernel_rfl) (fun _ _ _ h => h) (Or.inl ⟨by rfl, ?yb23⟩) (by assumption) ?rb23
  case yb23 => intro w1 hSw; obtain ⟨s1, s2, s3, s4⟩ := hSw; go_simp; try with_reducible rfl
  try simp only [List.getElem_toArray, List.getElem_cons_zero, List.getElem_cons_succ, Act.put, List.setIfInBounds_toArray, List.set_cons_zero, List.set_cons_succ]
  refine wpAnyH_take (i := 24) (oi := _) (v := ?vb24) rfl (by kernel_rfl) (by kernel_rfl) (by kernel_rfl) (fun _ _ _ h => h) (Or.inl ⟨by rfl, ?yb24⟩) (by assumption) ?rb24
  case yb24 => intro w1 hSw; obtain ⟨s1, s2, s3, s4⟩ := hSw; go_simp; try with_reducible rfl
  try simp only [List.getElem_toArray, List.getElem_cons_zero, List.getElem_cons_succ, Act.put, List.setIfInBounds_toArray, List.set_cons_zero, List.set_cons_succ]
  refine wpAnyH_take (i := 25) (oi := _) (v := ?vb25) rfl (by kernel_rfl) (by kernel_rfl) (by kernel_rfl) (fun _ _ _ h => h) (Or.inl ⟨by rfl, ?yb25⟩) (by assumption) ?rb25
  case yb25 => intro w1 hSw; obtain ⟨s1, s2, s3, s4⟩ := hSw; go_simp; try with_reducible rfl
  try simp only [List.getElem_toArray, List.getElem_cons_zero, List.getElem_cons_succ, Act.put, List.setIfInBounds_toArray, List.set_cons_zero, List.set_cons_succ]
  refine' wpAnyH_take (i := 26) (oi := _) (v := _) rfl (by kernel_rfl) (by kernel_rfl) (by kernel_rfl) (fun _ _ _ h => h) (yieldsIf_load_mid (by rfl) _ _ rfl _ _ rfl _ _ ?sb26 hu25 rfl hi25) (by assumption) ?rb26
  case sb26 => intro w1 hSw; exact hSw.2.1
  try simp only [List.getElem_toArray, List.getElem_cons_zero, List.getElem_cons_succ, Act.put, List.setIfInBounds_toArray, List.set_cons_zero, List.set_cons_succ]
  refine wpAnyH_take (i := 27) (oi := _) (v := ?vb27) rfl (by kernel_rfl) (by kernel_rfl) (by kernel_rfl) (fun _ _ _ h => h) (Or.inl ⟨by rfl, ?yb27⟩) (by assumption) ?rb27
  case yb27 => intro w1 hSw; obtain ⟨s1, s2, s3, s4⟩ := hSw; go_simp; try with_reducible rfl
  try simp only [List.getElem_toArray, List.getElem_cons_zero, List.getElem_cons_succ, Act.put, List.setIfInBounds_toArray, List.set_cons_zero, List.set_cons_succ]
  refine' wpAnyH_take (i := 29) (oi := _) (v := _) rfl (by kernel_rfl) (by kernel_rfl) (by kernel_rfl) (fun _ _ _ h => h) (yieldsIf_load_mid (by rfl) _ _ rfl _ _ rfl _ _ ?sb29 hu25 rfl hi25) (by assumption) ?rb29
  case sb29 => intro w1 hSw; exact hSw.2.1
  try simp only [List.getElem_toArray, List.getElem_cons_zero, List.getElem_cons_succ, Act.put, List.setIfInBounds_toArray, List.set_cons_zero, List.set_cons_succ]
  refine wpAnyH_take (i := 30) (oi := _) (v := ?vb30) rfl (by kernel_rfl) (by kernel_rfl) (by kernel_rfl) (fun _ _ _ h => h) (Or.inl ⟨by rfl, ?yb30⟩) (by assumption) ?rb30
  case yb30 => intro w1 hSw; obtain ⟨s1, s2, s3, s4⟩ := hSw; go_simp; try with_reducible rfl
  try simp only [List.getElem_toArray, List.getElem_cons_zero, List.getElem_cons_succ, Act.put, List.setIfInBounds_toArray, List.set_cons_zero, List.set_cons_succ]
  refine wpAnyH_ready (rs := [28]) (by kernel_rfl) (by simp) ?_
  refine AllReadyH.cons (o := _) rfl (fun K hK => ?_) AllReadyH.nil
  rw [if_pos (by rfl)]
  try simp only [List.getElem_toArray, List.getElem_cons_zero, List.getElem_cons_succ]
  go_simp
  refine (index_any m hm a2 n2 c2 hl2 mt _ (HR2.out _ (HM13.out.below hHeldw14.1).b)).mono ?_
  rintro e w15 ⟨rfl, hbw15⟩
  refine hK.out _ _ (hkp _ (bCat hbw15 (by assumption))) (fun hHeldw15 => ?_)
  clear hK K
  try simp only [List.getElem_toArray, List.getElem_cons_zero, List.getElem_cons_succ, Act.put, List.setIfInBounds_toArray, List.set_cons_zero, List.set_cons_succ]
  refine wpAnyH_ready (rs := [31]) (by kernel_rfl) (by simp) ?_
  refine AllReadyH.cons (o := _) rfl (fun K hK => ?_) AllReadyH.nil
  rw [if_pos (by rfl)]
  try simp only [List.getElem_toArray, List.getElem_cons_zero, List.getElem_cons_succ]
  go_simp
  refine (rindex_any m hm a2 n2 c2 hl2 mt _ (HR2.out _ (HM13.out.below hHeldw15.1).b)).mono ?_
  rintro e w16 ⟨rfl, hbw16⟩
  refine hK.out _ _ (hkp _ (bCat hbw16 (by assumption))) (fun hHeldw16 => ?_)
  clear hK K
  try simp only [List.getElem_toArray, List.getElem_cons_zero, List.getElem_cons_succ, Act.put, List.setIfInBounds_toArray, List.set_cons_zero, List.set_cons_succ]
  refine wpAnyH_take (i := 32) (oi := _) (v := ?vb32) rfl (by kernel_rfl) (by kernel_rfl) (by kernel_rfl) (fun _ _ _ h => h) (Or.inl ⟨by rfl, ?yb32⟩) (by assumption) ?rb32
  case yb32 => intro w1 hSw; obtain ⟨s1, s2, s3, s4⟩ := hSw; go_simp; try with_reducible rfl
  try simp only [List.getElem_toArray, List.getElem_cons_zero, List.getElem_cons_succ, Act.put, List.setIfInBounds_toArray, List.set_cons_zero, List.set_cons_succ]
  refine wpAnyH_take (i := 33) (oi := _) (v := ?vb33) rfl (by kernel_rfl) (by kernel_rfl) (by kernel_rfl) (fun _ _ _ h => h) (Or.inl ⟨by rfl, ?yb33⟩) (by assumption) ?rb33
  case yb33 => intro w1 hSw; obtain ⟨s1, s2, s3, s4⟩ := hSw; go_simp; try with_reducible rfl
  try simp only [List.getElem_toArray, List.getElem_cons_zero, List.getElem_cons_succ, Act.put, List.setIfInBounds_toArray, List.set_cons_zero, List.set_cons_succ]
  refine wpAnyH_take (i := 34) (oi := _) (v := ?vb34) rfl (by kernel_rfl) (by kernel_rfl) (by kernel_rfl) (fun _ _ _ h => h) (Or.inl ⟨by rfl, ?yb34⟩) (by assumption) ?rb34
  case yb34 => intro w1 hSw; obtain ⟨s1, s2, s3, s4⟩ := hSw; go_simp; try with_reducible rfl
  try simp only [List.getElem_toArray, List.getElem_cons_zero, List.getElem_cons_succ, Act.put, List.setIfInBounds_toArray, List.set_cons_zero, List.set_cons_succ]
  refine' wpAnyH_take (i := 35) (oi := _) (v := _) rfl (by kernel_rfl) (by kernel_rfl) (by kernel_rfl) (fun _ _ _ h => h) (yieldsIf_load_mid (by rfl) _ _ rfl _ _ rfl _ _ ?sb35 hu25 rfl hi25) (by assumption) ?rb35
  case sb35 => intro w1 hSw; exact hSw.2.1
  try simp only [List.getElem_toArray, List.getElem_cons_zero, List.getElem_cons_succ, Act.put, List.setIfInBounds_toArray, List.set_cons_zero, List.set_cons_succ]
  refine wpAnyH_take (i := 36) (oi := _) (v := ?vb36) rfl (by kernel_rfl) (by kernel_rfl) (by kernel_rfl) (fun _ _ _ h => h) (Or.inl ⟨by rfl, ?yb36⟩) (by assumption) ?rb36
  case yb36 => intro w1 hSw; obtain ⟨s1, s2, s3, s4⟩ := hSw; go_simp; try with_reducible rfl
  try simp only [List.getElem_toArray, List.getElem_cons_zero, List.getElem_cons_succ, Act.put, List.setIfInBounds_toArray, List.set_cons_zero, List.set_cons_succ]
  refine' wpAnyH_take (i := 38) (oi := _) (v := _) rfl (by kernel_rfl) (by kernel_rfl) (by kernel_rfl) (fun _ _ _ h => h) (yieldsIf_load_mid (by rfl) _ _ rfl _ _ rfl _ _ ?sb38 hu25 rfl hi25) (by assumption) ?rb38
  case sb38 => intro w1 hSw; exact hSw.2.1
  try simp only [List.getElem_toArray, List.getElem_cons_zero, List.getElem_cons_succ, Act.put, List.setIfInBounds_toArray, List.set_cons_zero, List.set_cons_succ]
  refine wpAnyH_take (i := 39) (oi := _) (v := ?vb39) rfl (by kernel_rfl) (by kernel_rfl) (by kernel_rfl) (fun _ _ _ h => h) (Or.inl ⟨by rfl, ?yb39⟩) (by assumption) ?rb39
  case yb39 => intro w1 hSw; obtain ⟨s1, s2, s3, s4⟩ := hSw; go_simp; try with_reducible rfl
  try simp only [List.getElem_toArray, List.getElem_cons_zero, List.getElem_cons_succ, Act.put, List.setIfInBounds_toArray, List.set_cons_zero, List.set_cons_succ]
  refine wpAnyH_ready (rs := [37]) (by kernel_rfl) (by simp) ?_
  refine AllReadyH.cons (o := _) rfl (fun K hK => ?_) AllReadyH.nil
  rw [if_pos (by rfl)]
  try simp only [List.getElem_toArray, List.getElem_cons_zero, List.getElem_cons_succ]
  go_simp
  refine (count_any m hm role _).mono ?_
  rintro e w17 ⟨rfl, hbw17⟩
  refine hK.out _ _ (hkp _ (bCat hbw17 (by assumption))) (fun hHeldw17 => ?_)
  clear hK K
  try simp only [List.getElem_toArray, List.getElem_cons_zero, List.getElem_cons_succ, Act.put, List.setIfInBounds_toArray, List.set_cons_zero, List.set_cons_succ]
  refine wpAnyH_ready (rs := [40]) (by kernel_rfl) (by simp) ?_
  refine AllReadyH.cons (o := _) rfl (fun K hK => ?_) AllReadyH.nil
  rw [if_pos (by rfl)]
  try simp only [List.getElem_toArray, List.getElem_cons_zero, List.getElem_cons_succ]
  go_simp
  refine (rcount_any m hm role _).mono ?_
  rintro e w18 ⟨rfl, hbw18⟩
  refine hK.out _ _ (hkp _ (bCat hbw18 (by assumption))) (fun hHeldw18 => ?_)
  clear hK K
  try simp only [List.getElem_toArray, List.getElem_cons_zero, List.getElem_cons_succ, Act.put, List.setIfInBounds_toArray, List.set_cons_zero, List.set_cons_succ]
  refine wpAnyH_take (i := 41) (oi := _) (v := ?vb41) rfl (by kernel_rfl) (by kernel_rfl) (by kernel_rfl) (fun _ _ _ h => h) (Or.inl ⟨by rfl, ?yb41⟩) (by assumption) ?rb41
  case yb41 => intro w1 hSw; obtain ⟨s1, s2, s3, s4⟩ := hSw; go_simp; try with_reducible rfl
  try simp only [List.getElem_toArray, List.getElem_cons_zero, List.getElem_cons_succ, Act.put, List.setIfInBounds_toArray, List.set_cons_zero, List.set_cons_succ]
  refine wpAnyH_take (i := 42) (oi := _) (v := ?vb42) rfl (by kernel_rfl) (by kernel_rfl) (by kernel_rfl) (fun _ _ _ h => h) (Or.inl ⟨by rfl, ?yb42⟩) (by assumption) ?rb42
  case yb42 => intro w1 hSw; obtain ⟨s1, s2, s3, s4⟩ := hSw; go_simp; try with_reducible rfl
  try simp only [List.getElem_toArray, List.getElem_cons_zero, List.getElem_cons_succ, Act.put, List.setIfInBounds_toArray, List.set_cons_zero, List.set_cons_succ]
  refine wpAnyH_take (i := 43) (oi := _) (v := ?vb43) rfl (by kernel_rfl) (by kernel_rfl) (by kernel_rfl) (fun _ _ _ h => h) (Or.inl ⟨by rfl, ?yb43⟩) (by assumption) ?rb43
  case yb43 => intro w1 hSw; obtain ⟨s1, s2, s3, s4⟩ := hSw; go_simp; try with_reducible rfl
  try simp only [List.getElem_toArray, List.getElem_cons_zero, List.getElem_cons_succ, Act.put, List.setIfInBounds_toArray, List.set_cons_zero, List.set_cons_succ]
  refine' wpAnyH_take (i := 44) (oi := _) (v := _) rfl (by kernel_rfl) (by kernel_rfl) (by kernel_rfl) (fun _ _ _ h => h) (yieldsIf_load_mid (by rfl) _ _ rfl _ _ rfl _ _ ?sb44 hu25 rfl hi25) (by assumption) ?rb44
  case sb44 => intro w1 hSw; exact hSw.2.1
  try simp only [List.getElem_toArray, List.getElem_cons_zero, List.getElem_cons_succ, Act.put, List.setIfInBounds_toArray, List.set_cons_zero, List.set_cons_succ]
  refine wpAnyH_take (i := 47) (oi := _) (v := ?vb47) rfl (by kernel_rfl) (by kernel_rfl) (by kernel_rfl) (fun _ _ _ h => h) (Or.inl ⟨by rfl, ?yb47⟩) (by assumption) ?rb47
  case yb47 => intro w1 hSw; obtain ⟨s1, s2, s3, s4⟩ := hSw; go_simp; try with_reducible rfl
  try simp only [List.getElem_toArray, List.getElem_cons_zero, List.getElem_cons_succ, Act.put, List.setIfInBounds_toArray, List.set_cons_zero, List.set_cons_succ]
  refine wpAnyH_take (i := 48) (oi := _) (v := ?vb48) rfl (by kernel_rfl) (by kernel_rfl) (by kernel_rfl) (fun _ _ _ h => h) (Or.inl ⟨by rfl, ?yb48⟩) (by assumption) ?rb48
  case yb48 => intro w1 hSw; obtain ⟨s1, s2, s3, s4⟩ := hSw; have hcv := CV.out w1 A 9 (CR.out w1 s2); go_simp; try with_reducible rfl
  try simp only [List.getElem_toArray, List.getElem_cons_zero, List.getElem_cons_succ, Act.put, List.setIfInBounds_toArray, List.set_cons_zero, List.set_cons_succ]
  refine wpAnyH_ready (rs := [45]) (by kernel_rfl) (by simp) ?_
  refine AllReadyH.cons (o := _) rfl (fun K hK => ?_) AllReadyH.nil
  rw [if_pos (by rfl)]
  try simp only [List.getElem_toArray, List.getElem_cons_zero, List.getElem_cons_succ]
  go_simp
  refine (encode_any m _).mono ?_
  rintro e w19 ⟨g, cap, rfl, hcg, hbw19⟩
  refine hK.out _ _ (hkp _ (bCat hbw19 (by assumption))) (fun hHeldw19 => ?_)
  clear hK K
  try simp only [List.getElem_toArray, List.getElem_cons_zero, List.getElem_cons_succ, Act.put, List.setIfInBounds_toArray, List.set_cons_zero, List.set_cons_succ]
  have hcv := CV.out w19 g cap hcg
  refine wpAnyH_ready (rs := [46]) (by kernel_rfl) (by simp) ?_
  refine AllReadyH.cons (o := _) rfl (fun K hK => ?_) AllReadyH.nil
  rw [if_pos (by rfl)]
  try simp only [List.getElem_toArray, List.getElem_cons_zero, List.getElem_cons_succ]
  go_simp
  refine hK.out _ _ hHeldw19 (fun hHeld20 => ?_)
  clear hK K
  try simp only [List.getElem_toArray, List.getElem_cons_zero, List.getElem_cons_succ, Act.put, List.setIfInBounds_toArray, List.set_cons_zero, List.set_cons_succ]
  refine wpAnyH_take (i := 49) (oi := _) (v := ?vb49) rfl (by kernel_rfl) (by kernel_rfl) (by kernel_rfl) (fun _ _ _ h => h) (Or.inl ⟨by rfl, ?yb49⟩) (by assumption) ?rb49
  case yb49 => intro w1 hSw; obtain ⟨s1, s2, s3, s4⟩ := hSw; go_simp; try with_reducible rfl
  try simp only [List.getElem_toArray, List.getElem_cons_zero, List.getElem_cons_succ, Act.put, List.setIfInBounds_toArray, List.set_cons_zero, List.set_cons_succ]
  refine wpAnyH_take (i := 50) (oi := _) (v := ?vb50) rfl (by kernel_rfl) (by kernel_rfl) (by kernel_rfl) (fun _ _ _ h => h) (Or.inl ⟨by rfl, ?yb50⟩) (by assumption) ?rb50
  case yb50 => intro w1 hSw; obtain ⟨s1, s2, s3, s4⟩ := hSw; go_simp; try with_reducible rfl
  try simp only [List.getElem_toArray, List.getElem_cons_zero, List.getElem_cons_succ, Act.put, List.setIfInBounds_toArray, List.set_cons_zero, List.set_cons_succ]
  refine wpAnyH_done (by kernel_rfl) ?_ _
  refine NoPanic.normal ?_
  have HM20 := Lib.hid (HM13.out.below hHeldw19.1)
  clear hHeld hHeldw13 hHeldw14 hHeldw15 hHeldw16 hHeldw17 hHeldw18 hHeldw19 hHeld20 hbw13 hbw14 hbw15 hbw16 hbw17 hbw18 hbw19 hkp heq hcg hcv CV CR q1 q2 q3 q4 q5 q6 HBE HBD HM13
  go_upto_region 18 with (fail)
  have hq0 := Blk.new w19 3 #[.int .i64 0]
  have hM21 := HM20.out.below ((Below.refl _ w19).alloc (Nat.le_refl _) (.cells #[.int .i64 0] 3))
  obtain ⟨w21, hw21⟩ : ∃ w', w19.alloc (.cells #[.int .i64 0] 3) = w' := ⟨_, rfl⟩
  obtain ⟨Q, hQ⟩ : ∃ Q, w19.heap.size = Q := ⟨_, rfl⟩
  rw [hw21, hQ] at hq0
  rw [hw21] at hM21
  rw [hw21, hQ]
  have hAQ : A < Q ∧ A + 1 < Q := by have := HM20.out.a.lt; have := HM20.out.r.lt; omega
  have HM21 := Lib.hid hM21
  have HQ0 := Lib.hid hq0
  have hA21 := hM21.a
  obtain ⟨x0, x1, x2, x3, x4, x5, x6, x7, x8⟩ := cells9 hA21
  clear hA21 hM21 hq0 hw21 hQ HM20
  go_wp2_with fail
  refine (callsIn_wide.1 (all_in Fence.wide 9 trivial rfl m 1 w21)).mono ?_
  rintro e w22 ⟨rfl, rfl⟩
  have hB21 := ((Below.refl _ w21).alloc (Nat.le_refl _) (.cells (arr m) 25)).alloc (by simp) (.cells #[.int .i64 1] 3)
  have HM22 := Lib.hid (HM21.out.below hB21)
  have HQ2 := Lib.hid (HQ0.out.below hB21)
  have cM := (Blk.new w21 25 (arr m)).alloc (.cells #[.int .i64 1] 3)
  have cR := Blk.new (w21.alloc (.cells (arr m) 25)) 3 #[.int .i64 1]
  rw [World.size_alloc] at cR
  have hsz : ((w21.alloc (.cells (arr m) 25)).alloc (.cells #[.int .i64 1] 3)).heap.size = w21.heap.size + 2 := by simp
  obtain ⟨w22, hw22⟩ : ∃ w', (w21.alloc (.cells (arr m) 25)).alloc (.cells #[.int .i64 1] 3) = w' := ⟨_, rfl⟩
  rw [hw22] at HM22 HQ2 cM cR hsz
  rw [show (Obj.cells #[Value.int .u8 (m 0), .int .u8 (m 1), .int .u8 (m 2), .int .u8 (m 3), .int .u8 (m 4), .int .u8 (m 5), .int .u8 (m 6), .int .u8 (m 7), .int .u8 (m 8)] 25) = .cells (arr m) 25 from rfl, hw22]
  have hQl := HQ0.out.lt
  obtain ⟨Bm, hBm⟩ : ∃ B, w21.heap.size = B := ⟨_, rfl⟩
  rw [hBm] at cM cR hsz hQl
  rw [hBm]
  clear hB21 hw22 hBm HM21 HQ0
  clear x0 x1 x2 x3 x4 x5 x6 x7 x8
  go_wp2_with fail
  refine (wpIn_wide (n := 9)).1 ?_
  have h27 : Fence.wide.fn 27 := trivial
  have hro : Fence.wide.round = none := rfl
  obtain ⟨F, hF⟩ : ∃ F, Fence.wide = F := ⟨_, rfl⟩
  rw [hF] at h27 hro
  rw [hF]
  have HFF := Lib.hid hF
  clear hF
  have hA22 := HM22.out.a
  have hR22 := HM22.out.r
  refine' wpIn_rangeFunc_ownF hro (by decide) (gf := 27) (lb := #[.pointer (some ⟨Bm, 0, none⟩), .pointer (some ⟨Bm + 1, 0, none⟩)]) rfl h27 (enters_of Try.func27 (by kernel_rfl) rfl)
    (all_stops F 8 h27 hro (by decide) Bm (Bm + 1) m hm 1 w22 ⟨by omega, by omega⟩ (fun o => cM.cell o) (cR.cell 0)) keepR_t (keepR_b (by omega)) (Below.refl _ _) (fun _ => rfl)
    (fun pre W' => FrS (fun k => k = Q ∨ w22.heap.size ≤ k) w22 W' ∧ ∃ c : Nat, c ≤ 9 ∧ Blk W' Q 3 #[.int .i64 (c : Int)] ∧ pre = sel m 1 c)
    (fun _ pre _ => ¬ ∃ k, k ≤ 9 ∧ pre = sel m 1 k)
    (fun p W' W2 row h hg hr => (by
      obtain ⟨h1, c, h2, h3, h4⟩ := h
      have hf : FrS (fun k => w22.heap.size ≤ k) W' W2 := FrS.grown hg (fun r e => (hr r e).1)
      exact ⟨h1.trans (hf.mono (fun k e => .inr e)), c, h2, h3.frS hf (by omega), h4⟩))
    (fun _ _ _ _ _ hs _ _ => hs)
    ⟨FrS.refl _ _, 0, by omega, HQ2.out, rfl⟩ _ ?assign ?body ?done ?stop
  case assign =>
    intro l y W' K hK
    gi_wp2
    exact hK
  case stop =>
    rintro D c pre W' _ hsp h _
    exact absurd hsp h
  case body =>
    rintro l pre x W' ⟨hfr, c, hc9, hq, rfl⟩ hlen
    have HFR := Lib.hid hfr
    have hx := x.isLt
    clear hlen
    gi_wp2
    gi_loopw [150] (fun _ wz => ∃ j : Nat, c ≤ j ∧ j ≤ 9 ∧ Blk wz Q 3 #[.int .i64 (j : Int)] ∧ (∀ i, c ≤ i → i < j → m i ≠ 1) ∧ FrS (fun k => k = Q ∨ w22.heap.size ≤ k) w22 wz ∧ KeepsOthers W' wz) (fun _ wz => 9 - cellN wz Q)
    case atStart => exact ⟨c, Nat.le_refl _, hc9, hq, fun i h1 h2 => by omega, HFR.out, KeepsOthers.refl _⟩
    case round =>
      obtain ⟨j, hcj, hj9, hbq, hno, hfz, hko⟩ := hrel
      have cq := hbq.cell 0
      have fq := hbq.frozen 0
      have hAz := hA22.frS hfz (by omega)
      have hRz := hR22.frS hfz (by omega)
      have fz := hRz.frozen 0
      have cz := hRz.cell 0
      simp only [List.getElem?_toArray, List.getElem?_cons_zero] at cq cz
      have HCN := Lib.hid (cellN_of hbq)
      have HBQ := Lib.hid hbq
      have HNO := Lib.hid hno
      have HFZ := Lib.hid hfz
      have HKO := Lib.hid hko
      by_cases h9 : j < 9
      · have i1 : (j : Int) < 9 := by omega
        have r1 : decide ((j : Int) < 9) = true := decide_eq_true i1
        have mj := arr_cell hAz j h9
        obtain ⟨b1, b2⟩ := hm j h9
        by_cases hmj : m j = 1
        · have r2 : (m j != 1) = false := by simp [hmj]
          have HMJ := Lib.hid hmj
          by_cases hxj : x.val = j
          · obtain ⟨xv, hxv⟩ : ∃ v, x.val = v := ⟨_, rfl⟩
            obtain rfl : xv = j := by omega
            have HSN := Lib.hid (sel_next hcj hno h9 hmj)
            have HX : Hid (x = ⟨xv, h9⟩) := Lib.hid (Fin.ext hxj)
            have r3 : ((xv : Int) != (xv : Int)) = false := by simp
            rw [hxv]
            clear hbq hno hfz hko hmj hxj hxv
            gi_wp2
            refine ⟨HKO.out.trans (KeepsOthers.setCell _ _ _), ?_, HFZ.out.trans (FrS.setCell _ _ _ (.inl rfl)), xv + 1, by omega, ?_, ?_⟩
            · have h1 := HFZ.out.trans (FrS.setCell (S := fun k => k = Q ∨ w22.heap.size ≤ k) wr ⟨Q, 0, none⟩ (.int .i64 ((xv : Int) + 1)) (.inl rfl))
              exact (World.cell?_of_block (h1.block (Bm + 1) (by omega) (by omega))).trans (World.cell?_of_block (HFR.out.block (Bm + 1) (by omega) (by omega))).symm
            · have := HBQ.out.set 0 (.int .i64 ((xv : Int) + 1))
              exact this
            · rw [HSN.out, HX.out]
          · have r3 : ((j : Int) != (x.val : Int)) = true := by simp; omega
            have HW := Lib.hid (sel_wrong hcj hno hj9 (fun _ => hmj) hxj)
            clear hbq hno hfz hko hmj hxj
            gi_wp2
            exact ⟨HKO.out.trans (KeepsOthers.setCell _ _ _), HW.out⟩
        · have r2 : (m j != 1) = true := by simp [hmj]
          have HN2 : Hid (∀ i, c ≤ i → i < j + 1 → m i ≠ 1) := Lib.hid (fun i h1 h2 => by
            by_cases e : i = j
            · rw [e]; exact hmj
            · exact hno i h1 (by omega))
          clear hbq hno hfz hko hmj
          gi_wp2
          have hb2 := HBQ.out.set 0 (.int .i64 ((j : Int) + 1))
          go_roundw
          case rel => exact ⟨j + 1, by omega, by omega, hb2, HN2.out, HFZ.out.trans (FrS.setCell _ _ _ (.inl rfl)), HKO.out.trans (KeepsOthers.setCell _ _ _)⟩
          case measure =>
            rw [HCN.out, cellN_of (j := j + 1) hb2]
            omega
      · obtain rfl : j = 9 := by omega
        have r3 : ((9 : Int) != (x.val : Int)) = true := by simp; omega
        have HW := Lib.hid (sel_wrong hcj hno hj9 (fun h => absurd h (by omega)) (x := x) (by omega))
        clear hbq hno hfz hko
        gi_wp2
        exact ⟨HKO.out.trans (KeepsOthers.setCell _ _ _), HW.out⟩
  case done =>
    rintro D ys W' hD rfl ⟨hfr, c, hc9, hq, hsel⟩ hK
    have HFR := Lib.hid hfr
    have HSEL := Lib.hid hsel
    have e := HFF.out
    subst e
    clear hfr hsel
    go_wp2
    go_loopw [165] (fun _ wz => ∃ j : Nat, c ≤ j ∧ j ≤ 9 ∧ Blk wz Q 3 #[.int .i64 (j : Int)] ∧ FrS (fun k => k = Q ∨ w22.heap.size ≤ k) w22 wz ∧ wz.heap[D]? = some (.deferred (some []))) (fun _ wz => 9 - cellN wz Q)
    case atStart => exact ⟨c, Nat.le_refl _, hc9, hq, HFR.out, hK⟩
    case round =>
      obtain ⟨j, hcj, hj9, hbq, hfz, hkz⟩ := hrel
      have cq := hbq.cell 0
      have fq := hbq.frozen 0
      have hAz := hA22.frS hfz (by omega)
      have hRz := hR22.frS hfz (by omega)
      have fz := hRz.frozen 0
      have cz := hRz.cell 0
      simp only [List.getElem?_toArray, List.getElem?_cons_zero] at cq cz
      have HCN := Lib.hid (cellN_of hbq)
      have HBQ := Lib.hid hbq
      have HFZ := Lib.hid hfz
      have HKZ := Lib.hid hkz
      have HRZ := Lib.hid hRz
      by_cases h9 : j < 9
      · have i1 : (j : Int) < 9 := by omega
        have r1 : decide ((j : Int) < 9) = true := decide_eq_true i1
        have mj := arr_cell hAz j h9
        obtain ⟨b1, b2⟩ := hm j h9
        have hmj : m j ≠ 1 := fun hmj => by
          have h1 := (sel_pre' m (show j + 1 ≤ 9 by omega)).length_le
          have h2 := (sel_pre' m hcj).length_le
          rw [sel_yes m 1 j h9 hmj, List.length_append, HSEL.out] at h1
          simp at h1
          omega
        have r2 : (m j != 1) = true := by simp [hmj]
        clear hbq hfz hkz hmj hRz
        go_wp2
        have hb2 := HBQ.out.set 0 (.int .i64 ((j : Int) + 1))
        have hf2 := FrS.setCell (S := fun k => k = Q) wr ⟨Q, 0, none⟩ (.int .i64 ((j : Int) + 1)) rfl
        go_roundw
        case rel => exact ⟨j + 1, by omega, by omega, hb2, HFZ.out.trans (hf2.mono (fun k e => .inl e)), (hf2.block D (Array.getElem?_eq_some_iff.1 HKZ.out).1 (by omega)).trans HKZ.out⟩
        case measure =>
          rw [HCN.out, cellN_of (j := j + 1) hb2]
          omega
      · obtain rfl : j = 9 := by omega
        clear hbq hfz hkz hRz
        go_wp2
        have hf2 := FrS.setCell (S := fun k => k = A + 1) wr ⟨A + 1, 0, none⟩ (.bool true) rfl
        have hDl := (Array.getElem?_eq_some_iff.1 HKZ.out).1
        have hK9 : (wr.setCell ⟨A + 1, 0, none⟩ (.bool true)).heap[D]? = some (.deferred (some [])) := (hf2.block D hDl (by omega)).trans HKZ.out
        have hfe : FrS (fun k => k = D) (wr.setCell ⟨A + 1, 0, none⟩ (.bool true)) ((wr.setCell ⟨A + 1, 0, none⟩ (.bool true)).putObj D (.deferred none)) := FrS.grown (grownBy_putObj' _ _ _) (fun k e => (Option.some.inj e).symm)
        refine ⟨by simp, .inl ⟨_, _, rfl, run_takeDeferred hK9, ?_⟩⟩
        refine ⟨_, res7 rfl ((HRZ.out.set 0 (.bool true)).frS hfe (by omega)), rfl, ?_⟩
        have h1 : FrS (fun k => k = Q ∨ w22.heap.size ≤ k ∨ k = A + 1) w22 ((wr.setCell ⟨A + 1, 0, none⟩ (.bool true)).putObj D (.deferred none)) :=
          ((FrS.mono HFZ.out (fun k e => e.elim .inl (fun e => .inr (.inl e)))).trans (hf2.mono (fun k e => .inr (.inr e)))).trans (hfe.mono (fun k e => .inr (.inl (by omega))))
        have h2 := HM22.out.b
        have he := HM22.out.e
        exact ⟨h1.os.trans h2.os, h1.tape.trans h2.tape, h1.output.trans h2.output, Nat.le_trans h2.size h1.size, fun k hk => (h1.block k (by have := h2.size; omega) (by omega)).trans (h2.block k hk)⟩
theorem members_row (w : World) (m : Nat → Int) (hm : ∀ k, k < 9 → 0 ≤ m k ∧ m k ≤ 255) (a1 : Option Addr) (n1 c1 : Nat) (y : Nat → Bool) (hlc : n1 ≤ c1) (hcap : c1 ≤ 9223372036854775807) (hr1' : Row w a1 c1 (fun j => .bool (y j)))
    (a2 : Option Addr) (n2 c2 : Nat) (mt : Nat → Int) (hl2 : n2 ≤ 9223372036854775807) (hr2 : Row w a2 n2 (fun j => .int .i64 (mt j))) (_ : ∀ j, j < n2 → (Lit.int .i64 (mt j)).wf = true) (node : Int) (_ : (Lit.int .i64 node).wf = true) (role : Int) (_ : (Lit.int .i64 role).wf = true)
    (a5 : Option Addr) (n5 c5 : Nat) (f : Nat → Int) (hl5 : n5 ≤ 9223372036854775807) (hr5 : Row w a5 n5 (fun j => .int .u8 (f j))) (hf : ∀ j, j < n5 → (Lit.int .u8 (f j)).wf = true) :
    Calls Try.prog 7 #[.agg #[.int .u8 (m 0), .int .u8 (m 1), .int .u8 (m 2), .int .u8 (m 3), .int .u8 (m 4), .int .u8 (m 5), .int .u8 (m 6), .int .u8 (m 7), .int .u8 (m 8)], .slice a1 n1 c1, .slice a2 n2 c2, .int .i64 node, .int .i64 role, .slice a5 n5 c5] w fun e W' => e = .returned (.bool true) ∧ Below w.heap.size w W' := by
  have hr1 : Row w a1 n1 (fun j => .bool (y j)) := by
    rcases hr1' with h | ⟨b, o, h1, h2, h3⟩
    · exact .inl (by omega)
    · exact .inr ⟨b, o, h1, h2, fun j hj => h3 j (by omega)⟩
  exact members_law w m hm a1 n1 c1 y (by omega) hr1 a2 n2 c2 mt hl2 hr2 node role a5 n5 c5 f hl5 (fun j hj => bounds_u8 (hf j hj)) hr5
end Go.Proofs.Ytfeaoapjgcibmaa
