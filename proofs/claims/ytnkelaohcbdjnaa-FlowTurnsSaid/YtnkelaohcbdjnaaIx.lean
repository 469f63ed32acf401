/- A twin, a task that is scheduled, what is wanted, the result. -/
import Derived.Test.YtnkelaohcbdjnaaHx
set_option linter.unusedVariables false
set_option linter.unusedSimpArgs false
namespace Go.Proofs.Ytnkelaohcbdjnaa
open Go.RowKit Go.Maps
set_option maxRecDepth 100000 in
/-- a map's copy -/
theorem mclone_any (W : World) (mb c : Nat) (F : Int → Option Value) (h : Mp iKE W mb c F) :
    Calls Try.prog 63 #[.map (some mb)] W fun e W' => e = .returned (.map (some W.heap.size)) ∧ Mp iKE W' W.heap.size c F ∧ Fr (fun _ => False) W W' := by
  obtain ⟨D, ⟨es, clock, hb, r⟩, hs⟩ := h
  have hq := fun w => run_eql_map_nil_sl (P := Try.prog) w 73 3 101 (some mb) Try.underlying73
  have HR := Lib.hid r
  have HS := Lib.hid hs
  clear r hs
  go_enter Try.func63, Try.ntmps63
  go_wp2
  rw [run_callFunc_extern Try.func94 (by kernel_rfl) (by kernel_rfl) (by kernel_rfl) (e := Extern.MapsClone.clone) (by kernel_rfl), run_maps_clone_sl W 73 hb]
  simp only [Result.andThen]
  rw [Oper.upon_value]
  go_wp2
  rw [run_typeAssert_map_sl _ 73 20 _ _ _ Try.underlying73]
  simp only [Result.andThen]
  rw [Oper.upon_value]
  go_wp2
  go_ret
  exact ⟨rfl, ⟨D, ⟨es, clock, World.alloc_heap_new W _, HR.out⟩, HS.out⟩, Fr.alloc _ _ _⟩
set_option maxRecDepth 100000 in
set_option maxHeartbeats 1000000 in
theorem twin_any (S : Nat → Prop) (W : World) (hS : ∀ k, S k → k < W.heap.size) (fb mb : Nat) (s : FSt) (h : FL S W fb mb s) :
    Calls Try.prog 22 #[.pointer (some ⟨fb, 0, none⟩)] W fun e W' => ∃ xb xm : Nat, e = .returned (.pointer (some ⟨xb, 0, none⟩)) ∧ W.heap.size ≤ xb ∧ W.heap.size ≤ xm ∧ FL (fun k => S k ∨ k = xb ∨ k = xm) W' xb xm s ∧ Fr (fun _ => False) W W' := by
  obtain ⟨ao, cp, vs, hvl, hb, hrow, hdat⟩ := h.f
  obtain ⟨n, hn⟩ : ∃ n, s.l.length = n := ⟨_, rfl⟩
  rw [hn] at hb
  have c0 := hb.cell 0
  have c1 := hb.cell 1
  have c2 := hb.cell 2
  have c3 := hb.cell 3
  have c4 := hb.cell 4
  have c5 := hb.cell 5
  have c6 := hb.cell 6
  have c7 := hb.cell 7
  have c8 := hb.cell 8
  have c9 := hb.cell 9
  have c10 := hb.cell 10
  have c11 := hb.cell 11
  simp only [fcells, List.getElem?_toArray, List.getElem?_cons_zero, List.getElem?_cons_succ] at c0 c1 c2 c3 c4 c5 c6 c7 c8 c9 c10 c11
  have hlt := hb.lt
  have HH := Lib.hid h
  have HROW := Lib.hid hrow
  have HDAT := Lib.hid hdat
  have HVL := Lib.hid hvl
  have HN := Lib.hid hn
  clear h hb hrow hdat hvl hn
  go_enter Try.func22, Try.ntmps22
  go_wp2_with fail
  have hX := Blk.new W 75 (fcells s (.slice ao n cp) (.map (some mb)))
  have hfA : Fr (fun _ => False) W (W.alloc (.cells (fcells s (.slice ao n cp) (.map (some mb))) 75)) := Fr.alloc _ _ _
  have hM := HH.out.m.fr hfA id
  simp only [fcells] at hX hfA hM
  obtain ⟨w1, hw1⟩ : ∃ w1, W.alloc (.cells #[.int .i64 s.id, .int .i64 s.run, .int .i64 s.list, .int .i64 s.n, .slice ao n cp, .int .i64 s.task, .int .i64 s.at_, .int .i64 s.bg, .int .i64 s.turn, .bool s.late, .bool s.asked, .map (some mb)] 75) = w1 := ⟨_, rfl⟩
  rw [hw1] at hX hfA hM ⊢
  obtain ⟨xb, hxb⟩ : ∃ b, W.heap.size = b := ⟨_, rfl⟩
  rw [hxb] at hX hlt
  have HXB := Lib.hid hxb
  refine (mclone_any w1 mb s.mc _ hM).mono ?_
  rintro e w2 ⟨rfl, hM2, hf2⟩
  have hX2 := hX.fr hf2 id
  have x11 := hX2.cell 11
  have y11 := hX2.frozen 11
  simp only [List.getElem?_toArray, List.getElem?_cons_zero, List.getElem?_cons_succ] at x11
  obtain ⟨xm, hxm⟩ : ∃ b, w1.heap.size = b := ⟨_, rfl⟩
  have hsz := hfA.size
  have hxl := hX.lt
  rw [hxm] at hM2 hsz hxl
  have HX2 := Lib.hid hX2
  have HM2 := Lib.hid hM2
  have HF2 := Lib.hid (hfA.trans hf2)
  rw [hxb] at hsz
  clear hX hX2 hM2 hf2 hfA hM hw1
  rw [hxb, hxm]
  clear hxb hxm
  go_wp2
  go_ret
  have hset := HX2.out.set 11 (.map (some xm))
  have hf3 := Fr.setCell (S := fun k => k = xb) w2 ⟨xb, 11, none⟩ (.map (some xm)) rfl
  have hfW : Fr (fun _ => False) W (w2.setCell ⟨xb, 11, none⟩ (.map (some xm))) := ⟨hf3.os.trans HF2.out.os, hf3.tape.trans HF2.out.tape, hf3.output.trans HF2.out.output, Nat.le_trans HF2.out.size hf3.size, fun k hk _ => (hf3.block k (Nat.lt_of_lt_of_le hk HF2.out.size) (by have := HXB.out; omega)).trans (HF2.out.block k hk id)⟩
  refine ⟨xb, xm, rfl, by have := HXB.out; omega, by have := HXB.out; omega, ⟨⟨ao, cp, vs, HVL.out, ?_, ?_, ?_⟩, HM2.out.fr hf3 (by omega), HH.out.ok, HH.out.few⟩, hfW⟩
  · rw [HN.out]; exact hset
  · refine (HROW.out.to (S' := fun k => S k ∨ k = xb ∨ k = xm) (fun k hk e => ?_)).fr (hfW.mono fun _ e => e.elim)
    rcases e with e | e | e
    · exact e
    · have := HXB.out; omega
    · have := HXB.out; omega
  · refine (HDAT.out.to (S' := fun k => S k ∨ k = xb ∨ k = xm) (fun k hk e => ?_)).fr (hfW.mono fun _ e => e.elim)
    rcases e with e | e | e
    · exact e
    · have := HXB.out; omega
    · have := HXB.out; omega
set_option maxRecDepth 100000 in
set_option maxHeartbeats 1000000 in
theorem wants_any (S : Nat → Prop) (W : World) (fb mb : Nat) (s : FSt) (h : FL S W fb mb s) (ref turn : Int) (ht : 0 ≤ turn) :
    Calls Try.prog 29 #[.pointer (some ⟨fb, 0, none⟩), .int .i64 ref, .int .i64 turn] W fun e W' => e = .returned (.bool (decide (s.task = 1 ∧ s.at_ = ref ∧ s.turn = turn))) ∧ ∃ k, W' = W.drewN k := by
  obtain ⟨ao, cp, vs, hvl, hb, hrow, hdat⟩ := h.f
  clear hvl hdat
  have c5 := hb.cell 5
  have c6 := hb.cell 6
  have c8 := hb.cell 8
  simp only [fcells, List.getElem?_toArray, List.getElem?_cons_zero, List.getElem?_cons_succ] at c5 c6 c8
  obtain ⟨ta, hta⟩ : ∃ x, s.task = x := ⟨_, rfl⟩
  obtain ⟨aa, haa⟩ : ∃ x, s.at_ = x := ⟨_, rfl⟩
  obtain ⟨tu, htu⟩ : ∃ x, s.turn = x := ⟨_, rfl⟩
  rw [hta] at c5 ⊢
  rw [haa] at c6 ⊢
  rw [htu] at c8 ⊢
  have p0 : (turn == -1) = false := by simp; omega
  clear h hb hrow hta haa htu
  by_cases h1 : ta = 1
  · have p1 : (ta == 1) = true := by simp [h1]
    by_cases h2 : aa = ref
    · have p2 : (aa == ref) = true := by simp [h2]
      by_cases h3 : tu = turn
      · have p3 : (tu == turn) = true := by simp [h3]
        have HD : Hid (decide (ta = 1 ∧ aa = ref ∧ tu = turn) = true) := Lib.hid (decide_eq_true ⟨h1, h2, h3⟩)
        clear h1 h2 h3
        go_enter Try.func29, Try.ntmps29
        go_wp2
        try go_quiet (fail)
        try go_wp2
        go_ret
        exact ⟨by rw [HD.out]; rfl, 0, rfl⟩
      · have p3 : (tu == turn) = false := by simp [h3]
        have HD : Hid (decide (ta = 1 ∧ aa = ref ∧ tu = turn) = false) := Lib.hid (decide_eq_false (fun e => h3 e.2.2))
        clear h1 h2 h3
        go_enter Try.func29, Try.ntmps29
        go_wp2
        go_ret
        exact ⟨by rw [HD.out]; rfl, 0, rfl⟩
    · have p2 : (aa == ref) = false := by simp [h2]
      have HD : Hid (decide (ta = 1 ∧ aa = ref ∧ tu = turn) = false) := Lib.hid (decide_eq_false (fun e => h2 e.2.1))
      clear h1 h2
      go_enter Try.func29, Try.ntmps29
      go_wp2
      go_ret
      exact ⟨by rw [HD.out]; rfl, 0, rfl⟩
  · have p1 : (ta == 1) = false := by simp [h1]
    have HD : Hid (decide (ta = 1 ∧ aa = ref ∧ tu = turn) = false) := Lib.hid (decide_eq_false (fun e => h1 e.1))
    clear h1
    go_enter Try.func29, Try.ntmps29
    go_wp2
    go_ret
    exact ⟨by rw [HD.out]; rfl, 0, rfl⟩
end Go.Proofs.Ytnkelaohcbdjnaa
