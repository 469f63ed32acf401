/- Result; known. -/
import Derived.Test.YtnkelaohcbdjnaaXx
import Derived.Test.YtnkelaohcbdjnaaNx
import Derived.Test.YtnkelaohcbdjnaaUx
import Derived.Lib.SlBytesConst
import Derived.Laws.BytesArg
set_option linter.unusedVariables false
set_option linter.unusedSimpArgs false
namespace Go.Proofs.Ytnkelaohcbdjnaa
open Go.RowKit Go.Maps
set_option maxRecDepth 100000 in
set_option maxHeartbeats 2000000 in
theorem result_any (S : Nat → Prop) (W : World) (fb mb : Nat) (s : FSt) (h : FL S W fb mb s) (x : Rv) (hr : s.l.getLast? = some x) (hs : statusK s.l ≠ 1) :
    Calls Try.prog 27 #[.pointer (some ⟨fb, 0, none⟩)] W fun e W' => ∃ v, e = .returned v ∧ RowB (fun _ => False) W' v x.d ∧ Fr (fun _ => False) W W' := by
  have hst := status_any S W fb mb s h
  obtain ⟨st, hst2⟩ : ∃ y, statusK s.l = y := ⟨_, rfl⟩
  rw [hst2] at hst hs
  have q1 : (st == 1) = false := by simp [hs]
  have HST := Lib.hid hst
  have hfew := h.few
  have HX := Lib.hid (h.ok x (List.mem_of_getLast? hr))
  obtain ⟨g, cp2, dv, h3, hpos, hcp, _, _, hd, hc⟩ := h.last hr
  have hdd := hd
  obtain ⟨ao, cp, rfl, _⟩ := hdd
  obtain ⟨n, hnn⟩ : ∃ n, x.d.length = n := ⟨_, rfl⟩
  rw [hnn] at hd hc
  clear hst hst2 hs hnn
  have c4 := h3.cell 4
  simp only [fcells, List.getElem?_toArray, List.getElem?_cons_zero, List.getElem?_cons_succ] at c4
  have d6 := hc 6 (.slice ao n cp) rfl
  obtain ⟨q, hq⟩ : ∃ q, s.l.length = q + 1 := ⟨s.l.length - 1, by omega⟩
  rw [hq] at c4 hcp hfew d6
  rw [show q + 1 - 1 = q from rfl] at d6
  have hw : IntKind.i64.wrap ((q : Nat) : Int) = ((q : Nat) : Int) := by
    simp [IntKind.wrap, IntKind.bits, IntKind.signed]
    omega
  have hw0 : (0 : Int) ≤ ((q : Nat) : Int) ∧ ((q : Nat) : Int) < ((q : Nat) : Int) + 1 := by omega
  have HD := Lib.hid hd
  clear h h3 hr hc hq hd
  go_enter Try.func27, Try.ntmps27
  go_upto_region 3 with (first | (go_at_call 16; refine HST.out.mono ?_; rintro e w1 ⟨rfl, rfl⟩) | go_in)
  refine wp_region_held_drew (S := fun (w' : World) => w'.cell? ⟨fb, 4, none⟩ = some (.slice (some ⟨g, 0, none⟩) (q + 1) cp2) ∧ w'.cell? ⟨g, q * 7 + 6, none⟩ = some (.slice ao n cp)) (by kernel_rfl) ⟨c4, d6⟩ (fun hHeld => ?_)
  refine wpAnyH_take (i := 0) (oi := _) (v := ?va0) rfl (by kernel_rfl) (by kernel_rfl) (by kernel_rfl) (fun _ _ _ h => h) (Or.inl ⟨by rfl, ?ya0⟩) (by assumption) ?ra0
  case ya0 => intro w1 hSw; obtain ⟨s1, s2⟩ := hSw; go_simp; try with_reducible rfl
  try simp only [List.getElem_toArray, List.getElem_cons_zero, List.getElem_cons_succ, Act.put, List.setIfInBounds_toArray, List.set_cons_zero, List.set_cons_succ]
  refine wpAnyH_take (i := 1) (oi := _) (v := ?va1) rfl (by kernel_rfl) (by kernel_rfl) (by kernel_rfl) (fun _ _ _ h => h) (Or.inl ⟨by rfl, ?ya1⟩) (by assumption) ?ra1
  case ya1 => intro w1 hSw; obtain ⟨s1, s2⟩ := hSw; go_simp; try with_reducible rfl
  try simp only [List.getElem_toArray, List.getElem_cons_zero, List.getElem_cons_succ, Act.put, List.setIfInBounds_toArray, List.set_cons_zero, List.set_cons_succ]
  refine wpAnyH_take (i := 2) (oi := _) (v := ?va2) rfl (by kernel_rfl) (by kernel_rfl) (by kernel_rfl) (fun _ _ _ h => h) (Or.inl ⟨by rfl, ?ya2⟩) (by assumption) ?ra2
  case ya2 => intro w1 hSw; obtain ⟨s1, s2⟩ := hSw; go_simp; try with_reducible rfl
  try simp only [List.getElem_toArray, List.getElem_cons_zero, List.getElem_cons_succ, Act.put, List.setIfInBounds_toArray, List.set_cons_zero, List.set_cons_succ]
  refine wpAnyH_take (i := 3) (oi := _) (v := ?va3) rfl (by kernel_rfl) (by kernel_rfl) (by kernel_rfl) (fun _ _ _ h => h) (Or.inl ⟨by rfl, ?ya3⟩) (by assumption) ?ra3
  case ya3 => intro w1 hSw; obtain ⟨s1, s2⟩ := hSw; go_simp; try with_reducible rfl
  try simp only [List.getElem_toArray, List.getElem_cons_zero, List.getElem_cons_succ, Act.put, List.setIfInBounds_toArray, List.set_cons_zero, List.set_cons_succ]
  refine wpAnyH_take (i := 4) (oi := _) (v := ?va4) rfl (by kernel_rfl) (by kernel_rfl) (by kernel_rfl) (fun _ _ _ h => h) (Or.inl ⟨by rfl, ?ya4⟩) (by assumption) ?ra4
  case ya4 => intro w1 hSw; obtain ⟨s1, s2⟩ := hSw; go_simp; try with_reducible rfl
  try simp only [List.getElem_toArray, List.getElem_cons_zero, List.getElem_cons_succ, Act.put, List.setIfInBounds_toArray, List.set_cons_zero, List.set_cons_succ]
  refine wpAnyH_take (i := 5) (oi := _) (v := ?va5) rfl (by kernel_rfl) (by kernel_rfl) (by kernel_rfl) (fun _ _ _ h => h) (Or.inl ⟨by rfl, ?ya5⟩) (by assumption) ?ra5
  case ya5 => intro w1 hSw; obtain ⟨s1, s2⟩ := hSw; go_simp; try with_reducible rfl
  try simp only [List.getElem_toArray, List.getElem_cons_zero, List.getElem_cons_succ, Act.put, List.setIfInBounds_toArray, List.set_cons_zero, List.set_cons_succ]
  refine wpAnyH_take (i := 6) (oi := _) (v := ?va6) rfl (by kernel_rfl) (by kernel_rfl) (by kernel_rfl) (fun _ _ _ h => h) (Or.inl ⟨by rfl, ?ya6⟩) (by assumption) ?ra6
  case ya6 => intro w1 hSw; obtain ⟨s1, s2⟩ := hSw; go_simp; try with_reducible rfl
  try simp only [List.getElem_toArray, List.getElem_cons_zero, List.getElem_cons_succ, Act.put, List.setIfInBounds_toArray, List.set_cons_zero, List.set_cons_succ]
  refine wpAnyH_take (i := 7) (oi := _) (v := ?va7) rfl (by kernel_rfl) (by kernel_rfl) (by kernel_rfl) (fun _ _ _ h => h) (Or.inl ⟨by rfl, ?ya7⟩) (by assumption) ?ra7
  case ya7 => intro w1 hSw; obtain ⟨s1, s2⟩ := hSw; go_simp; try with_reducible rfl
  try simp only [List.getElem_toArray, List.getElem_cons_zero, List.getElem_cons_succ, Act.put, List.setIfInBounds_toArray, List.set_cons_zero, List.set_cons_succ]
  refine wpAnyH_take (i := 8) (oi := _) (v := ?va8) rfl (by kernel_rfl) (by kernel_rfl) (by kernel_rfl) (fun _ _ _ h => h) (Or.inl ⟨by rfl, ?ya8⟩) (by assumption) ?ra8
  case ya8 => intro w1 hSw; obtain ⟨s1, s2⟩ := hSw; go_simp; try with_reducible rfl
  try simp only [List.getElem_toArray, List.getElem_cons_zero, List.getElem_cons_succ, Act.put, List.setIfInBounds_toArray, List.set_cons_zero, List.set_cons_succ]
  refine wpAnyH_take (i := 9) (oi := _) (v := ?va9) rfl (by kernel_rfl) (by kernel_rfl) (by kernel_rfl) (fun _ _ _ h => h) (Or.inl ⟨by rfl, ?ya9⟩) (by assumption) ?ra9
  case ya9 => intro w1 hSw; obtain ⟨s1, s2⟩ := hSw; go_simp; try with_reducible rfl
  try simp only [List.getElem_toArray, List.getElem_cons_zero, List.getElem_cons_succ, Act.put, List.setIfInBounds_toArray, List.set_cons_zero, List.set_cons_succ]
  refine wpAnyH_take (i := 10) (oi := _) (v := ?va10) rfl (by kernel_rfl) (by kernel_rfl) (by kernel_rfl) (fun _ _ _ h => h) (Or.inl ⟨by rfl, ?ya10⟩) (by assumption) ?ra10
  case ya10 => intro w1 hSw; obtain ⟨s1, s2⟩ := hSw; go_simp; try with_reducible rfl
  try simp only [List.getElem_toArray, List.getElem_cons_zero, List.getElem_cons_succ, Act.put, List.setIfInBounds_toArray, List.set_cons_zero, List.set_cons_succ]
  refine wpAnyH_take (i := 11) (oi := _) (v := ?va11) rfl (by kernel_rfl) (by kernel_rfl) (by kernel_rfl) (fun _ _ _ h => h) (Or.inl ⟨by rfl, ?ya11⟩) (by assumption) ?ra11
  case ya11 => intro w1 hSw; obtain ⟨s1, s2⟩ := hSw; go_simp; try with_reducible rfl
  try simp only [List.getElem_toArray, List.getElem_cons_zero, List.getElem_cons_succ, Act.put, List.setIfInBounds_toArray, List.set_cons_zero, List.set_cons_succ]
  refine wpAnyH_take (i := 12) (oi := _) (v := ?va12) rfl (by kernel_rfl) (by kernel_rfl) (by kernel_rfl) (fun _ _ _ h => h) (Or.inl ⟨by rfl, ?ya12⟩) (by assumption) ?ra12
  case ya12 => intro w1 hSw; obtain ⟨s1, s2⟩ := hSw; go_simp; try with_reducible rfl
  try simp only [List.getElem_toArray, List.getElem_cons_zero, List.getElem_cons_succ, Act.put, List.setIfInBounds_toArray, List.set_cons_zero, List.set_cons_succ]
  refine wpAnyH_ready (rs := [13]) (by kernel_rfl) (by simp) ?_
  refine AllReadyH.cons (o := _) rfl (fun K hK => ?_) AllReadyH.nil
  rw [if_pos (by rfl)]
  try simp only [List.getElem_toArray, List.getElem_cons_zero, List.getElem_cons_succ]
  go_simp
  refine (clone_any (fun _ => False) (fun _ => False) _ _ x.d ((HD.out.to (S' := fun _ => False) (fun k _ e => e.elim)).fr (Fr.drewN _ W 1)) (by have := HX.out.1; omega) HX.out.2 (fun k e => e.elim)).mono ?_
  rintro e w2 ⟨v, rfl, hr2, hf2⟩
  have hf2' := (Fr.drewN (fun _ => False) W 1).trans hf2
  refine hK.out _ _ ⟨(World.cell?_of_block (hf2'.block fb (lt_of_cell c4) id)).trans c4, (World.cell?_of_block (hf2'.block g (lt_of_cell d6) id)).trans d6⟩ (fun hHeld2 => ?_)
  clear hK K
  try simp only [List.getElem_toArray, List.getElem_cons_zero, List.getElem_cons_succ, Act.put, List.setIfInBounds_toArray, List.set_cons_zero, List.set_cons_succ]
  refine wpAnyH_take (i := 14) (oi := _) (v := ?va14) rfl (by kernel_rfl) (by kernel_rfl) (by kernel_rfl) (fun _ _ _ h => h) (Or.inl ⟨by rfl, ?ya14⟩) (by assumption) ?ra14
  case ya14 => intro w1 hSw; go_simp; try with_reducible rfl
  try simp only [List.getElem_toArray, List.getElem_cons_zero, List.getElem_cons_succ, Act.put, List.setIfInBounds_toArray, List.set_cons_zero, List.set_cons_succ]
  refine wpAnyH_done (by kernel_rfl) ?_ _
  clear hHeld hHeld2 c4 d6
  go_wp2
  go_ret
  exact ⟨v, rfl, hr2, hf2'⟩
set_option maxRecDepth 100000 in
theorem result_open (S : Nat → Prop) (W : World) (fb mb : Nat) (s : FSt) (h : FL S W fb mb s) (hs : statusK s.l = 1) :
    Calls Try.prog 27 #[.pointer (some ⟨fb, 0, none⟩)] W fun e W' => e = .returned (.slice none 0 0) ∧ W = W' := by
  have hst := status_any S W fb mb s h
  rw [hs] at hst
  have HST := Lib.hid hst
  clear h hs hst
  go_enter Try.func27, Try.ntmps27
  go_wp2_with (first | (go_at_call 16; refine HST.out.mono ?_; rintro e w1 ⟨rfl, rfl⟩) | go_in)
  go_ret
  exact ⟨rfl, rfl⟩
theorem str_of {S : Nat → Prop} {W : World} {v : Value} (l : List UInt8) (h : RowB S W v (l.map fun b => .int .u8 (b.toNat : Int))) : (convert 22 9 v).run Try.prog W = .ok (.string ⟨l.toArray⟩) W := by
  obtain ⟨ao, cap, rfl, h1, h2, h3, h4⟩ := h
  have hl : (l.map fun b => Value.int .u8 (b.toNat : Int)).length = l.length := by simp
  rw [hl]
  cases ao with
  | none =>
    have := h3 rfl
    have h0 : l = [] := List.eq_nil_of_length_eq_zero (by omega)
    subst h0
    exact run_convert_bytes_nil W 22 5 Try.underlying22 Try.underlying5 _ _ 9 Try.underlying9
  | some a =>
    refine run_convert_bytes_back W 22 9 5 a cap l Try.underlying22 Try.underlying5 Try.underlying9 (fun j hj => ?_)
    refine (h4 a rfl).2 j _ ?_
    simp [List.getElem?_eq_getElem hj]
theorem lit_row {S : Nat → Prop} (W : World) (C : Array Value) (n : Nat) (hn : C.size = n) (hm : n ≤ maxLen) (fr : Nat × Nat) (hS : ∀ k, S k → k < W.heap.size) : RowB S (W.alloc (.cells C 5 fr)) (.slice (some ⟨W.heap.size, 0, none⟩) n n) C.toList := by
  subst hn
  refine ⟨some ⟨W.heap.size, 0, none⟩, C.size, by simp, by simp, hm, fun h => (by cases h), fun a ha => ?_⟩
  cases ha
  refine ⟨fun _ e => by have := hS _ e; simp at this, fun j u hj => ?_⟩
  rw [off_add, Nat.zero_add]
  exact (World.cell?_alloc_mark W C 5 fr j).trans (by simpa using hj)
set_option maxRecDepth 100000 in
set_option maxHeartbeats 4000000 in
theorem known_any (W : World) : Calls Try.prog 8 #[] W fun e W' => e = .returned (.bool true) ∧ Fr (fun _ => False) W W' := by
  have ki := fun W : World => Lib.run_convert_bytes_const (P := Try.prog) W 22 5 #[.int .u8 105, .int .u8 110] 2 2 Try.underlying22 Try.underlying5
  have ko := fun W : World => Lib.run_convert_bytes_const (P := Try.prog) W 22 5 #[.int .u8 111, .int .u8 117, .int .u8 116] 3 3 Try.underlying22 Try.underlying5
  have hW1 : Fr (fun _ => False) W (W.alloc (.cells #[.int .u8 105, .int .u8 110] 5 (2, 3))) := Fr.alloc _ _ _
  have hd1 := lit_row (S := fun _ => False) W #[.int .u8 105, .int .u8 110] 2 rfl (by decide) (2, 3) (fun k e => e.elim)
  obtain ⟨W1, hW1e⟩ : ∃ W1, W.alloc (.cells #[.int .u8 105, .int .u8 110] 5 (2, 3)) = W1 := ⟨_, rfl⟩
  rw [hW1e] at hW1 hd1
  have HNEW := Lib.hid (new_any W1 1 1 2 10 0 (by omega) (by omega) (by omega) (by omega) (by omega) _ 2 2 _ hd1 (by omega) rfl (by intro u hu; simp at hu; rcases hu with rfl | rfl <;> rfl))
  have HW1 := Lib.hid hW1
  clear hW1 hd1
  go_enter Try.func8, Try.ntmps8
  go_upto_region 2 with (first | (go_at_call 11; refine HNEW.out.mono ?_; rintro e w2 ⟨fb, mb, ob, rfl, hfb, hmb, hne, hfl, hob, hbo, hf2⟩) | go_in)
  have o0 := hbo.cell 0
  have o2 := hbo.cell 2
  simp only [List.getElem?_toArray, List.getElem?_cons_zero, List.getElem?_cons_succ] at o0 o2
  have HW2 := Lib.hid (HW1.out.trans hf2)
  have HFL2 := Lib.hid hfl
  have HDEC := Lib.hid (decides_any w2 fb mb _ hfl (by simp [begun1, sched, start]) 1 2 0 ⟨by omega, by omega, by omega, fun e he => (by simp [begun1, sched, start] at he; subst he; simp)⟩ (by simp [begun1, sched, start, statusK]) (by omega) (by simp [begun1, sched, start]))
  have hsz2 := hf2.size
  have hlt2 := hfl.lt
  have hbl2 : W.heap.size ≤ mb ∧ W.heap.size ≤ fb := by have := HW1.out.size; omega
  have HB2 := Lib.hid hbl2
  clear ki HNEW hfl hf2 hbo hW1e HW1 hfb hmb hob hsz2 hlt2 hbl2
  go_upto_region 5 with (first | (go_at_call 12; refine HDEC.out.mono ?_; rintro e w3 ⟨ob3, xm3, q3, rfl, hob3, hxm3, hbo3, hfl3, hf3, _⟩) | go_in)
  have hW3 : Fr (fun _ => False) W w3 := ⟨hf3.os.trans HW2.out.os, hf3.tape.trans HW2.out.tape, hf3.output.trans HW2.out.output, Nat.le_trans HW2.out.size hf3.size, fun k hk _ => (hf3.block k (Nat.lt_of_lt_of_le hk HW2.out.size) (by have := HB2.out; omega)).trans (HW2.out.block k hk id)⟩
  have HW3 := Lib.hid hW3
  have HFL3 := Lib.hid hfl3
  have HLT3 := Lib.hid hfl3.lt
  have HXM3 : Hid (W.heap.size ≤ xm3) := Lib.hid (Nat.le_trans HW2.out.size hxm3)
  clear o0 o2 HDEC hbo3 hfl3 hf3 hob3 hxm3 hW3
  go_upto_region 6 with (fail)
  have hrA := lit_row (S := fun k => k = fb ∨ k = xm3) w3 #[.int .u8 111, .int .u8 117, .int .u8 116] 3 rfl (by decide) (3, 4) (fun k e => by have := HLT3.out; omega)
  have hfA : Fr (fun _ => False) w3 (w3.alloc (.cells #[.int .u8 111, .int .u8 117, .int .u8 116] 5 (3, 4))) := Fr.alloc _ _ _
  obtain ⟨w4, hw4⟩ : ∃ w4, w3.alloc (.cells #[.int .u8 111, .int .u8 117, .int .u8 116] 5 (3, 4)) = w4 := ⟨_, rfl⟩
  have hs4 : w4.heap.size = w3.heap.size + 1 := by rw [← hw4]; simp
  rw [hw4] at hrA hfA ⊢
  have hfB : Fr (fun _ => False) w4 (w4.alloc (.cells #[.int .i64 5, .int .i64 0, .int .i64 0, .int .i64 0, .slice (some ⟨w3.heap.size, 0, none⟩) 3 3] 24)) := Fr.alloc _ _ _
  have hLB := Blk.new w4 24 #[.int .i64 5, .int .i64 0, .int .i64 0, .int .i64 0, .slice (some ⟨w3.heap.size, 0, none⟩) 3 3]
  obtain ⟨w5, hw5⟩ : ∃ w5, w4.alloc (.cells #[.int .i64 5, .int .i64 0, .int .i64 0, .int .i64 0, .slice (some ⟨w3.heap.size, 0, none⟩) 3 3] 24) = w5 := ⟨_, rfl⟩
  rw [hs4] at hLB
  rw [hw5] at hfB hLB ⊢
  have hf35 := hfA.trans hfB
  have HW5 := Lib.hid (HW3.out.trans hf35)
  have HDEC := Lib.hid (decide_5 w5 fb xm3 _ (HFL3.out.fr0 hf35) (by simp [began, begun1, sched, start]) 3 2 0 ⟨by omega, by omega, by omega, fun e he => (by simp [began, begun1, sched, start] at he; subst he; simp)⟩ (by simp [began, begun1, sched, start, statusK]) (by simp [began, begun1, sched, start]) rfl (w3.heap.size + 1) _ 3 3 _ hLB (by have := HLT3.out; omega) (hrA.fr (hfB.mono fun _ e => e.elim)) (by omega) rfl (by intro u hu; simp at hu; rcases hu with rfl | rfl | rfl <;> rfl) rfl rfl)
  clear hw4 hw5 hrA hfA hfB hLB hf35 hs4 ko
  refine HDEC.out.mono ?_
  rintro e w6 ⟨g, cp6, xm6, rfl, hg, hc1, hc2, hxm6, hcell, hfl6, hf6⟩
  have hW6 : Fr (fun _ => False) W w6 := ⟨hf6.os.trans HW5.out.os, hf6.tape.trans HW5.out.tape, hf6.output.trans HW5.out.output, Nat.le_trans HW5.out.size hf6.size, fun k hk _ => (hf6.block k (Nat.lt_of_lt_of_le hk HW5.out.size) (by have := HB2.out; omega)).trans (HW5.out.block k hk id)⟩
  have HW6 := Lib.hid hW6
  have hst := status_any _ w6 fb xm6 _ hfl6
  rw [show statusK (shut _ 20 3 _).l = 2 from statusK_snoc _ _ 20 (by decide) rfl] at hst
  have HST := Lib.hid hst
  have HRES := Lib.hid (result_any _ w6 fb xm6 _ hfl6 ⟨20, 3, 0, 0, 0, 0, [.int .u8 111, .int .u8 117, .int .u8 116]⟩ (by simp [shut]) (by rw [show statusK (shut _ 20 3 _).l = 2 from statusK_snoc _ _ 20 (by decide) rfl]; decide))
  have HLEN := Lib.hid (fun w7 (hf7 : Fr (fun _ => False) w6 w7) => len_any _ w7 fb xm6 _ (hfl6.fr0 hf7))
  clear HDEC hfl6 hf6 hst hW6 hg hxm6
  go_wp2_with (first
    | (go_at_call 16; refine HST.out.mono ?_; rintro e w7 ⟨rfl, rfl⟩)
    | (go_at_call 27; refine HRES.out.mono ?_; rintro e w7 ⟨v7, rfl, hr7, hf7⟩; have hst := str_of [111, 117, 116] hr7)
    | (go_at_call 21; refine (HLEN.out _ hf7).mono ?_; rintro e w8 ⟨rfl, rfl⟩)
    | go_in)
  go_ret
  exact ⟨rfl, HW6.out.trans hf7⟩
end Go.Proofs.Ytnkelaohcbdjnaa
