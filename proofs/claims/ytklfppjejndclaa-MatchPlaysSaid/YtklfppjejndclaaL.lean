/- The program's All: a row of names, a map of rows apart. -/
import Derived.Test.YtklfppjejndclaaJ
set_option linter.unusedVariables false
set_option linter.unusedSimpArgs false
namespace Go.Proofs.Ytklfppjejndclaa.P2
open Go.RowKit Go.Maps Go.Sort
variable {S : Nat → Prop}
theorem turned_fr {W W' : World} {b : Nat} (h : W.mapTurned W' b) : Fr (fun k => k = b) W W' := Fr.grown h.grown (fun k e => (Option.some.inj e).symm)
/-- a world in which the blocks of S0 alone have turned; another S -/
theorem LS.turn0 {S0 S' : Nat → Prop} {TS : TypeId} {W W' : World} {sb mb : Nat} {most : Int} {N : Nat} {L : Int → List Value} (h : LS S TS W sb mb most N L) (hf : Fr S0 W W') (h0 : ∀ k, S0 k → S k) (h1 : ¬ S0 sb) (h2 : ¬ S0 mb)
    (hS : ∀ k, S' k → S k ∨ W.heap.size ≤ k) : LS S' TS W' sb mb most N L := by
  have hs := h.s
  obtain ⟨c, F, hc, hM, hr⟩ := h.m
  refine ⟨hs.fr hf h1, ⟨c, F, hc, hM.fr hf h2, fun x hx => ?_⟩, h.one⟩
  rcases hr x hx with h | ⟨b, o, cap, g1, g2, g3, g4, g5, g6⟩
  · exact .inl h
  · have hlt : b < W.heap.size := by
      cases hL : L x with
      | nil => exact absurd hL g2
      | cons v l => exact lt_of_cell (g6 0 v (by rw [hL]; rfl))
    refine .inr ⟨b, o, cap, g1, g2, g3, g4, ⟨g5.1, fun e => ?_⟩, fun j v hj => ?_⟩
    · rcases hS b e with e | e
      · exact g5.2 e
      · omega
    · exact (World.cell?_of_block (hf.block b hlt (fun e => g5.2 (h0 b e)))).trans (g6 j v hj)
/-- integers that a slice shows -/
def RowZ (W : World) (ao : Option Addr) (l : List Int) : Prop := (ao = none ∧ l = []) ∨ ∃ g, ao = some ⟨g, 0, none⟩ ∧ ∀ (j : Nat) (x : Int), l[j]? = some x → W.cell? ⟨g, j, none⟩ = some (.int .i64 x)
theorem RowZ.fr {S : Nat → Prop} {W W' : World} {ao : Option Addr} {l : List Int} (h : RowZ W ao l) (hf : Fr S W W') (hS : ∀ k, S k → ∀ o, ao ≠ some ⟨k, o, none⟩) : RowZ W' ao l := by
  rcases h with h | ⟨g, h1, h2⟩
  · exact .inl h
  · exact .inr ⟨g, h1, fun j x hj => (World.cell?_of_block (hf.block g (lt_of_cell (h2 j x hj)) (fun e => hS g e 0 h1))).trans (h2 j x hj)⟩
theorem rowZ_of {W : World} {B : Nat} {v : Value} {l : List Int} (h : W.ownsRow B 3 1 v l.length (zv l)) : ∃ ao cp, v = .slice ao l.length cp ∧ l.length ≤ cp ∧ cp ≤ maxLen ∧ RowZ W ao l ∧ ∀ k o, ao = some ⟨k, o, none⟩ → B ≤ k := by
  have hcs := h
  rcases h.2 with ⟨h, h0⟩ | ⟨go, cp, cur, rfl, hb, hgb, hnc, hcm, _, _⟩
  · exact ⟨none, 0, by rw [h0]; exact h, by omega, by decide, .inl ⟨rfl, List.eq_nil_of_length_eq_zero h0⟩, fun k o e => nomatch e⟩
  · refine ⟨_, cp, rfl, hnc, hcm, .inr ⟨go, rfl, fun j y hj => ?_⟩, fun k o e => by cases e; exact hb⟩
    rw [hcs.cellAt j (by have := (List.getElem?_eq_some_iff.1 hj).1; omega)]
    simp [zv, hj]
/-- what the closure of All holds -/
structure AllC (W : World) (Bs b1 b2 b3 : Nat) (L : Int → List Value) (ks : List Int) : Prop where
  names : ∃ ao cp, W.cell? ⟨b2, 0, none⟩ = some (.slice ao ks.length cp) ∧ ks.length ≤ cp ∧ cp ≤ maxLen ∧ RowZ W ao ks ∧ ∀ k o, ao = some ⟨k, o, none⟩ → Bs ≤ k
  map : W.cell? ⟨b1, 0, none⟩ = some (.map (some b3))
  rows : ∃ c F, Mp iKE W b3 c F ∧ ∀ x ∈ ks, iKE.ok x ∧ RowV (fun k => k < Bs) W b3 (F x) (L x)
  lo : Bs ≤ b1 ∧ Bs ≤ b2 ∧ Bs ≤ b3
theorem mp_nocell {W : World} {b c o : Nat} {F : Int → Option Value} {v : Value} (h : Mp iKE W b c F) (hc : W.cell? ⟨b, o, none⟩ = some v) : False := by
  obtain ⟨D, ⟨es, clock, hb, _⟩, _⟩ := h
  simp [World.cell?, hb] at hc
set_option maxRecDepth 100000 in
set_option maxHeartbeats 2000000 in
theorem all_any (W : World) (sb mb : Nat) (most : Int) (N : Nat) (L : Int → List Value) (h : LS S 55 W sb mb most N L) (hN : N ≤ 100000) (hlen : ∀ x, iKE.ok x → (L x).length ≤ 500000) :
    Calls Try.prog 38 #[.pointer (some ⟨sb, 0, none⟩)] W fun e W' => ∃ (b1 b2 b3 : Nat) (ks : List Int), e = .returned (.func (.func 45) #[] #[.pointer (some ⟨b2, 0, none⟩), .pointer (some ⟨b1, 0, none⟩)]) ∧ ks.Pairwise (· < ·) ∧ (∀ x, x ∈ ks ↔ iKE.ok x ∧ L x ≠ []) ∧ ks.length ≤ N ∧ AllC W' W.heap.size b1 b2 b3 L ks ∧ Fr (fun _ => False) W W' := by
  have hmm := @run_makeMap Try.prog
  have hlt := h.lt
  have hfA : Fr (fun _ => False) W ((W.alloc (.map #[] 0)).alloc (.cells #[.map (some W.heap.size)] 53)) := (Fr.alloc _ W _).trans (Fr.alloc _ _ _)
  have hMP0 : Mp iKE ((W.alloc (.map #[] 0)).alloc (.cells #[.map (some W.heap.size)] 53)) W.heap.size 0 (fun _ => none) := (Mp.made iKE W).alloc _
  have hLS1 : LS (fun k => k = W.heap.size) 55 ((W.alloc (.map #[] 0)).alloc (.cells #[.map (some W.heap.size)] 53)) sb mb most N L := h.turn0 hfA (fun k e => e.elim) id id (fun k e => .inr (by omega))
  have HMP0 := Lib.hid hMP0
  have HLS1 := Lib.hid hLS1
  have HFA := Lib.hid hfA
  have HLEN := Lib.hid hlen
  have hbx : ((W.alloc (.map #[] 0)).alloc (.cells #[.map (some W.heap.size)] 53)).cell? ⟨W.heap.size + 1, 0, none⟩ = some (.map (some W.heap.size)) := by
    simp
  clear hMP0 hLS1 hfA h hlen
  go_enter Try.func38, Try.ntmps38
  go_wp2_with fail
  refine (names_any _ sb mb most N L HLS1.out (by omega)).mono ?_
  rintro e w2 ⟨v, ks, rfl, hown, hpw, hmem, hkl, hbl⟩
  have hf2 : Fr (fun _ => False) ((W.alloc (.map #[] 0)).alloc (.cells #[.map (some W.heap.size)] 53)) w2 := ⟨hbl.os, hbl.tape, hbl.output, hbl.size, fun k hk _ => hbl.block k hk⟩
  have hb2 := (World.cell?_of_block (hf2.block (W.heap.size + 1) (lt_of_cell hbx) id)).trans hbx
  have hs2 : W.heap.size + 2 ≤ w2.heap.size := by have := hf2.size; simp at this; omega
  have HLS2 := Lib.hid (HLS1.out.turn0 (S' := fun k => k = W.heap.size) hf2 (fun k e => e.elim) id id (fun k e => .inl e))
  have HMP2 := Lib.hid (HMP0.out.fr hf2 id)
  have HF2 := Lib.hid (HFA.out.trans hf2)
  obtain ⟨ao, cp, rfl, hcp, hcm, hrz, hbB⟩ := rowZ_of hown
  have HRZ := Lib.hid hrz
  obtain ⟨m, hm⟩ : ∃ m, ks.length = m := ⟨_, rfl⟩
  have HM := Lib.hid hm
  rw [hm] at hcp hkl
  have HPW := Lib.hid hpw
  have HME := Lib.hid hmem
  rw [hm]
  have hbB2 : ∀ k o, ao = some ⟨k, o, none⟩ → W.heap.size ≤ k := fun k o e => by have := hbB k o e; simp at this; omega
  have HBB := Lib.hid hbB2
  clear hown hpw hmem hbl hf2 hrz hm hbx hbB hbB2
  go_wp2
  obtain ⟨w3, hw3⟩ : ∃ w, w2.alloc (.cells #[.slice ao m cp] 22) = w := ⟨_, rfl⟩
  obtain ⟨b2, hbb⟩ : ∃ b, w2.heap.size = b := ⟨_, rfl⟩
  have hfB : Fr (fun _ => False) w2 (w2.alloc (.cells #[.slice ao m cp] 22)) := Fr.alloc _ _ _
  have hc2 : (w2.alloc (.cells #[.slice ao m cp] 22)).cell? ⟨w2.heap.size, 0, none⟩ = some (.slice ao m cp) := by rw [Blk.cell (Blk.new w2 22 #[.slice ao m cp])]; rfl
  have hc1 := (World.cell?_of_block (hfB.block _ (lt_of_cell hb2) id)).trans hb2
  have HLS3 := Lib.hid (HLS2.out.turn0 (S' := fun k => k = W.heap.size) hfB (fun k e => e.elim) id id (fun k e => .inl e))
  have HMP3 := Lib.hid (HMP2.out.fr hfB id)
  have HF3 := Lib.hid (HF2.out.trans hfB)
  have HRZ3 := Lib.hid (HRZ.out.fr hfB (fun k e => e.elim))
  have hs3 : (w2.alloc (.cells #[.slice ao m cp] 22)).heap.size = w2.heap.size + 1 := by simp
  rw [hw3] at hc2 hc1 HLS3 HMP3 HF3 HRZ3 hs3
  rw [hbb] at hc2 hs3 hs2
  rw [hw3, hbb]
  obtain ⟨b3, hb3⟩ : ∃ b, W.heap.size = b := ⟨_, rfl⟩
  have hWb : W.heap.size ≤ b3 := Nat.le_of_eq hb3
  rw [hb3] at hc1 HLS3 HMP3 hs2
  rw [hb3]
  clear hw3 hbb HLS1 HMP0 HFA HLS2 HMP2 HF2 HRZ hfB hb2 hb3
  go_loopw [12] (fun kv wr => ∃ (i c : Nat) (F : Int → Option Value), i ≤ m ∧ kv = .int .i64 i ∧ c ≤ i ∧ Mp iKE wr b3 c F ∧ (∀ x ∈ ks.take i, RowV (fun k => k < W.heap.size) wr b3 (F x) (L x)) ∧ Fr (fun k => k = b3) w3 wr) (fun kv _ => m - (intOf kv).toNat)
  case atStart => exact ⟨0, 0, _, by omega, rfl, Nat.le_refl _, HMP3.out, fun x hx => (by simp at hx), Fr.refl _ _⟩
  case round =>
    obtain ⟨i, c, F, hi, rfl, hc, hM, hrows, hfr⟩ := hrel
    have k1 := (World.cell?_of_block (hfr.block _ (lt_of_cell hc1) (fun e => by simp at e))).trans hc1
    have k2 := (World.cell?_of_block (hfr.block _ (lt_of_cell hc2) (fun e => by simp at e; omega))).trans hc2
    have HMR := Lib.hid hM
    have HRW := Lib.hid hrows
    have HFR := Lib.hid hfr
    have HLSR := Lib.hid (HLS3.out.turn0 (S' := fun k => k = b3) hfr (fun k e => e) (by omega) (by omega) (fun k e => .inl e))
    by_cases hlt2 : i < m
    · have p0 : decide ((i : Int) < m) = true := decide_eq_true (by omega)
      have i0' : (i : Int) < (m : Int) := by omega
      obtain ⟨x, hx⟩ : ∃ x, ks[i]? = some x := ⟨_, List.getElem?_eq_getElem (by rw [HM.out]; exact hlt2)⟩
      rcases HRZ3.out with ⟨_, h⟩ | ⟨g, rfl, hcell⟩
      · have := HM.out; rw [h] at this; simp at this; omega
      have d0 := hcell i x hx
      have hgb : g ≠ b3 := fun e => mp_nocell HMP3.out (e ▸ d0)
      have e0 := (World.cell?_of_block (hfr.block g (lt_of_cell d0) hgb)).trans d0
      obtain ⟨hxk, hxn⟩ := (HME.out x).1 (List.mem_of_getElem? hx)
      have l1 := HLSR.out.s.cell 1
      simp only [List.getElem?_toArray, List.getElem?_cons_zero, List.getElem?_cons_succ] at l1
      have hLx := HLEN.out x hxk
      have hone := HLSR.out.one x hxk
      obtain ⟨c4, F4, _, hM4, hr4⟩ := HLSR.out.m
      rcases hr4 x hxk with ⟨_, h⟩ | ⟨b, o, cap, g1, g2, g3, g4, g5, g6⟩
      · exact absurd h hxn
      have HX := Lib.hid hx
      have HXK : Hid (iKE.ok x) := Lib.hid hxk
      have hmb3 : mb ≠ b3 := by omega
      have hsb3 : sb ≠ b3 := by omega
      have hlook : ∀ w' : World, Fr (fun k => k = b3) wr w' → (Instr.lookup 53 (.map (some mb)) (.int .i64 x) false).run Try.prog w' = .ok (.slice (some ⟨b, o, none⟩) (L x).length cap) w' := fun w' hf => by
        have := (hM4.fr hf (fun e => hmb3 e)).look Try.underlying53 (zeroIL w') hxk
        rw [g1] at this
        exact this
      have HSS : Hid (∀ w' : World, Fr (fun k => k = b3) wr w' → w'.cell? ⟨b3 + 1, 0, none⟩ = some (.map (some b3)) ∧ w'.cell? ⟨sb, 1, none⟩ = some (.map (some mb)) ∧ (Instr.lookup 53 (.map (some mb)) (.int .i64 x) false).run Try.prog w' = .ok (.slice (some ⟨b, o, none⟩) (L x).length cap) w') := Lib.hid (fun w' hf =>
        ⟨(World.cell?_of_block (hf.block _ (lt_of_cell k1) (fun e => by simp at e))).trans k1, (World.cell?_of_block (hf.block _ (lt_of_cell l1) hsb3)).trans l1, hlook w' hf⟩)
      have HROW := Lib.hid (show ∀ j v, (L x)[j]? = some v → wr.cell? ⟨b, o + j, none⟩ = some v from g6)
      have HONE := Lib.hid hone
      clear hcell d0 hM hrows hfr hx hxk hlook g6 g5 g1 hone hr4 hM4 hxn
      go_upto_region 6 with (fail)
      refine wp_region_held_drew (S := fun (w' : World) => w'.cell? ⟨b3 + 1, 0, none⟩ = some (.map (some b3)) ∧ w'.cell? ⟨sb, 1, none⟩ = some (.map (some mb)) ∧ (Instr.lookup 53 (.map (some mb)) (.int .i64 x) false).run Try.prog w' = .ok (.slice (some ⟨b, o, none⟩) (L x).length cap) w') (by kernel_rfl) (HSS.out wr.drew (Fr.drewN _ wr 1)) (fun hHeld => ?_)
      have hF0 : Fr (fun _ => False) wr wr.drew := Fr.drewN _ wr 1
      obtain ⟨w0, hw0⟩ : ∃ w, wr.drew = w := ⟨_, rfl⟩
      rw [hw0] at hF0 hHeld ⊢
      have HF0 := Lib.hid hF0
      have HMP := Lib.hid (HMR.out.fr hF0 id)
      have HCL := Lib.hid (cloneI_any w0 b o (L x).length cap (L x) rfl hLx HONE.out (fun j v hj => (World.cell?_of_block (hF0.block b (lt_of_cell (HROW.out j v hj)) id)).trans (HROW.out j v hj)))
      have HSK : Hid (∀ w' : World, Fr (fun _ => False) w0 w' → _) := Lib.hid (fun w' hf => HSS.out w' ((HF0.out.trans hf).mono fun _ e => e.elim))
      have HSM : Hid (∀ w2 w3' : World, Fr (fun _ => False) w0 w2 → w2.mapTurned w3' b3 → _) := Lib.hid (fun w2 w3' hf ht => HSS.out w3' (((HF0.out.trans hf).mono fun _ e => e.elim).trans (turned_fr ht)))
      clear hw0 hF0
      refine wpAnyH_take (i := 0) (oi := _) (v := ?v0) rfl (by kernel_rfl) (by kernel_rfl) (by kernel_rfl) (fun _ _ _ h => h) (Or.inl ⟨by rfl, ?y0⟩) (by assumption) ?r0
      case y0 => intro w1 hSw; obtain ⟨s1, s2, s3⟩ := hSw; go_simp; try with_reducible rfl
      try simp only [List.getElem_toArray, List.getElem_cons_zero, List.getElem_cons_succ, Act.put, List.setIfInBounds_toArray, List.set_cons_zero, List.set_cons_succ]
      refine wpAnyH_take (i := 1) (oi := _) (v := ?v1) rfl (by kernel_rfl) (by kernel_rfl) (by kernel_rfl) (fun _ _ _ h => h) (Or.inl ⟨by rfl, ?y1⟩) (by assumption) ?r1
      case y1 => intro w1 hSw; obtain ⟨s1, s2, s3⟩ := hSw; go_simp; try with_reducible rfl
      try simp only [List.getElem_toArray, List.getElem_cons_zero, List.getElem_cons_succ, Act.put, List.setIfInBounds_toArray, List.set_cons_zero, List.set_cons_succ]
      refine wpAnyH_take (i := 2) (oi := _) (v := ?v2) rfl (by kernel_rfl) (by kernel_rfl) (by kernel_rfl) (fun _ _ _ h => h) (Or.inl ⟨by rfl, ?y2⟩) (by assumption) ?r2
      case y2 => intro w1 hSw; obtain ⟨s1, s2, s3⟩ := hSw; go_simp; try with_reducible rfl
      try simp only [List.getElem_toArray, List.getElem_cons_zero, List.getElem_cons_succ, Act.put, List.setIfInBounds_toArray, List.set_cons_zero, List.set_cons_succ]
      refine wpAnyH_take (i := 3) (oi := _) (v := ?v3) rfl (by kernel_rfl) (by kernel_rfl) (by kernel_rfl) (fun _ _ _ h => h) (Or.inl ⟨by rfl, ?y3⟩) (by assumption) ?r3
      case y3 => intro w1 hSw; obtain ⟨s1, s2, s3⟩ := hSw; go_simp; try with_reducible rfl
      try simp only [List.getElem_toArray, List.getElem_cons_zero, List.getElem_cons_succ, Act.put, List.setIfInBounds_toArray, List.set_cons_zero, List.set_cons_succ]
      refine wpAnyH_take (i := 4) (oi := _) (v := ?v4) rfl (by kernel_rfl) (by kernel_rfl) (by kernel_rfl) (fun _ _ _ h => h) (Or.inl ⟨by rfl, ?y4⟩) (by assumption) ?r4
      case y4 => intro w1 hSw; obtain ⟨s1, s2, s3⟩ := hSw; go_simp; try with_reducible rfl
      try simp only [List.getElem_toArray, List.getElem_cons_zero, List.getElem_cons_succ, Act.put, List.setIfInBounds_toArray, List.set_cons_zero, List.set_cons_succ]
      refine wpAnyH_take (i := 5) (oi := _) (v := ?v5) rfl (by kernel_rfl) (by kernel_rfl) (by kernel_rfl) (fun _ _ _ h => h) (Or.inl ⟨by rfl, ?y5⟩) (by assumption) ?r5
      case y5 => intro w1 hSw; obtain ⟨s1, s2, s3⟩ := hSw; go_simp; try with_reducible rfl
      try simp only [List.getElem_toArray, List.getElem_cons_zero, List.getElem_cons_succ, Act.put, List.setIfInBounds_toArray, List.set_cons_zero, List.set_cons_succ]
      refine wpAnyH_take (i := 6) (oi := _) (v := ?v6) rfl (by kernel_rfl) (by kernel_rfl) (by kernel_rfl) (fun _ _ _ h => h) (Or.inl ⟨by rfl, ?y6⟩) (by assumption) ?r6
      case y6 => intro w1 hSw; obtain ⟨s1, s2, s3⟩ := hSw; go_simp; try with_reducible rfl
      try simp only [List.getElem_toArray, List.getElem_cons_zero, List.getElem_cons_succ, Act.put, List.setIfInBounds_toArray, List.set_cons_zero, List.set_cons_succ]
      refine wpAnyH_take (i := 7) (oi := _) (v := ?v7) rfl (by kernel_rfl) (by kernel_rfl) (by kernel_rfl) (fun _ _ _ h => h) (Or.inl ⟨by rfl, ?y7⟩) (by assumption) ?r7
      case y7 => intro w1 hSw; obtain ⟨s1, s2, s3⟩ := hSw; go_simp; try with_reducible rfl
      try simp only [List.getElem_toArray, List.getElem_cons_zero, List.getElem_cons_succ, Act.put, List.setIfInBounds_toArray, List.set_cons_zero, List.set_cons_succ]
      refine wpAnyH_ready (rs := [8]) (by kernel_rfl) (by simp) ?_
      refine AllReadyH.cons (o := _) rfl (fun K hK => ?_) AllReadyH.nil
      rw [if_pos (by rfl)]
      try simp only [List.getElem_toArray, List.getElem_cons_zero, List.getElem_cons_succ]
      go_simp
      refine HCL.out.mono ?_
      rintro e w2 ⟨g, cpx, rfl, gq1, gq2, gq3, gq4, gq5⟩
      have hfx : Fr (fun _ => False) w0 w2 := Fr.grown gq5 (fun k e => nomatch e)
      refine hK.out _ _ (HSK.out _ hfx) (fun hHeld2 => ?_)
      clear hK K
      try simp only [List.getElem_toArray, List.getElem_cons_zero, List.getElem_cons_succ, Act.put, List.setIfInBounds_toArray, List.set_cons_zero, List.set_cons_succ]
      have hM2 := (HMP.out.fr hfx id)
      obtain ⟨w3', hrun3, hM3, ht3⟩ := hM2.store Try.underlying53 (by omega) HXK.out (.slice (some ⟨g, 0, none⟩) (L x).length cpx)
      replace hrun3 : (Instr.mapUpdate 53 (.map (some b3)) (.int .i64 x) (.slice (some ⟨g, 0, none⟩) (L x).length cpx)).run Try.prog w2 = .ok () w3' := hrun3
      refine wpAnyH_ready (rs := [9]) (by kernel_rfl) (by simp) ?_
      refine AllReadyH.cons (o := _) rfl (fun K hK => ?_) AllReadyH.nil
      rw [if_pos (by rfl)]
      try simp only [List.getElem_toArray, List.getElem_cons_zero, List.getElem_cons_succ]
      go_simp
      refine hK.out _ _ (HSM.out _ _ hfx ht3) (fun hHeld3 => ?_)
      clear hK K
      try simp only [List.getElem_toArray, List.getElem_cons_zero, List.getElem_cons_succ, Act.put, List.setIfInBounds_toArray, List.set_cons_zero, List.set_cons_succ]
      refine wpAnyH_done (by kernel_rfl) ?_ _
      have HM3 := Lib.hid hM3
      have HF9 := Lib.hid ((((HF0.out.trans hfx).mono (S' := fun k => k = b3) fun _ e => e.elim)).trans (turned_fr ht3))
      have HT3 := Lib.hid ht3
      have HG4 := Lib.hid gq4
      have HFX := Lib.hid hfx
      have hgw : b3 < g := by have := HF0.out.size; have := HFR.out.size; omega
      clear hM3 ht3 hfx hM2 hrun3 hHeld hHeld2 hHeld3 gq4 gq5
      go_wp2
      go_roundw
      case rel =>
        refine ⟨i + 1, _, _, by omega, by go_num, ?_, HM3.out, fun y hy => ?_, HFR.out.trans HF9.out⟩
        · split <;> omega
        · rw [List.take_add_one, HX.out] at hy
          rcases List.mem_append.1 hy with hy | hy
          · have hne : y ≠ x := fun e => by
              have hpi := List.pairwise_iff_getElem.1 HPW.out
              obtain ⟨j, hj⟩ := List.getElem?_of_mem hy
              have hji : j < i := by have := (List.getElem?_eq_some_iff.1 hj).1; rw [List.length_take] at this; omega
              rw [List.getElem?_take_of_lt hji] at hj
              obtain ⟨a1, a2⟩ := List.getElem?_eq_some_iff.1 hj
              obtain ⟨a3, a4⟩ := List.getElem?_eq_some_iff.1 HX.out
              have := hpi j i a1 a3 hji
              omega
            rw [upd_other _ _ _ _ hne]
            have h9 := HF9.out
            exact (HRW.out y hy).kept ⟨h9.os, h9.tape, h9.output, h9.size, fun k h1 h2 => h9.block k h1 (fun e => h2 (by rw [e]))⟩
          · obtain rfl : y = x := by simpa using hy
            rw [upd_same]
            refine .inr ⟨g, 0, cpx, rfl, ?_, gq1, gq2, ⟨by omega, fun e => by omega⟩, fun j v hj => ?_⟩
            · have := (HME.out y).1 (List.mem_of_getElem? HX.out); exact this.2
            · rw [Nat.zero_add, mapTurned_cell HT3.out _ (by show g ≠ b3; omega)]
              exact HG4.out j v hj
      case measure => simp [intOf]; omega
    · obtain rfl : i = m := by omega
      have p0 : decide ((i : Int) < i) = false := decide_eq_false (by omega)
      have ht : ks.take i = ks := List.take_of_length_le (by rw [HM.out]; exact Nat.le_refl _)
      rw [ht] at HRW
      have K1 := Lib.hid k1
      have K2 := Lib.hid k2
      clear hM hrows hfr ht
      go_wp2
      go_ret
      refine ⟨b3 + 1, b2, b3, ks, rfl, HPW.out, HME.out, by rw [HM.out]; exact hkl, ⟨⟨ao, cp, by rw [HM.out]; exact K2.out, by rw [HM.out]; exact hcp, hcm, ?_, HBB.out⟩, K1.out, ⟨_, _, HMR.out, fun x hx => ⟨((HME.out x).1 hx).1, HRW.out x hx⟩⟩, by omega, by omega, by omega⟩, ?_⟩
      · rcases HRZ3.out with h | ⟨g, h1, h2⟩
        · exact .inl h
        · exact .inr ⟨g, h1, fun j x hj => (World.cell?_of_block (HFR.out.block g (lt_of_cell (h2 j x hj)) (fun e => mp_nocell HMP3.out (e ▸ h2 j x hj)))).trans (h2 j x hj)⟩
      · have h3 := HF3.out
        have h4 := HFR.out
        exact ⟨h4.os.trans h3.os, h4.tape.trans h3.tape, h4.output.trans h3.output, Nat.le_trans h3.size h4.size, fun k hk _ => (h4.block k (Nat.lt_of_lt_of_le hk h3.size) (fun e => by omega)).trans (h3.block k hk id)⟩
end Go.Proofs.Ytklfppjejndclaa.P2
