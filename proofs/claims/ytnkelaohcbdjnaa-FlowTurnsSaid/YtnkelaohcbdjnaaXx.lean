/- Decide: one decision that closes. -/
import Derived.Test.YtnkelaohcbdjnaaVx
import Derived.Test.YtnkelaohcbdjnaaPx
set_option linter.unusedVariables false
set_option linter.unusedSimpArgs false
namespace Go.Proofs.Ytnkelaohcbdjnaa
open Go.RowKit Go.Maps
/-- what Decide leaves -/
def DecideOut_5 (W : World) (fb : Nat) (s : FSt) (now : Int) (ds : List Value) (e : Ending) (W' : World) : Prop :=
  ∃ (g cp xm : Nat), e = .returned (.tuple #[.slice (some ⟨g, 0, none⟩) 1 cp, .int .i64 0]) ∧ W.heap.size ≤ g ∧ 1 ≤ cp ∧ cp ≤ maxLen ∧ W.heap.size ≤ xm ∧ W'.cell? ⟨g, 0, none⟩ = some (.int .i64 7) ∧ FL2 W' fb xm (shut (decided s now) 20 now ds) ∧ Fr (fun k => k = fb) W W'
set_option maxRecDepth 100000 in
set_option maxHeartbeats 2000000 in
theorem decide_5 (W : World) (fb mb : Nat) (s : FSt) (h : FL2 W fb mb s) (hl : s.l.length ≤ 4094) (now ref turn : Int) 
    (hr : rightP s.l 0 now) (hk : statusK s.l = 1) (hw : s.task = 2 ∧ s.at_ = ref ∧ s.turn = turn) (hlate : s.late = false)
    (lb : Nat) (ao : Option Addr) (dl cp : Nat) (ds : List Value) (hlb : Blk W lb 24 #[.int .i64 5, .int .i64 0, .int .i64 0, .int .i64 0, .slice ao dl cp]) (hlne : lb ≠ fb ∧ lb ≠ mb) (hd : RowB (fun k => k = fb ∨ k = mb) W (.slice ao dl cp) ds) (hdl : dl ≤ 4096) (hdn : ds.length = dl) (hd1 : ∀ u ∈ ds, u.oneCell' = true) (hmc : s.mc = 0) (hmp : s.mp = fun _ => none) :
    Calls Try.prog 15 #[.pointer (some ⟨fb, 0, none⟩), .int .i64 ref, .int .i64 turn, .slice (some ⟨lb, 0, none⟩) 1 1, .int .i64 now] W fun e W' => DecideOut_5 W fb s now ds e W' := by
  have hB0 := Blk.new W 3 #[.int .i64 ref]
  have hF0 : Fr (fun _ => False) W (W.alloc (.cells #[.int .i64 ref] 3)) := Fr.alloc _ _ _
  have hB1 := Blk.new (W.alloc (.cells #[.int .i64 ref] 3)) 3 #[.int .i64 turn]
  have hF1 : Fr (fun _ => False) (W.alloc (.cells #[.int .i64 ref] 3)) ((W.alloc (.cells #[.int .i64 ref] 3)).alloc (.cells #[.int .i64 turn] 3)) := Fr.alloc _ _ _
  have hB2 := Blk.new ((W.alloc (.cells #[.int .i64 ref] 3)).alloc (.cells #[.int .i64 turn] 3)) 37 #[.slice (some ⟨lb, 0, none⟩) 1 1]
  have hF2 : Fr (fun _ => False) ((W.alloc (.cells #[.int .i64 ref] 3)).alloc (.cells #[.int .i64 turn] 3)) (((W.alloc (.cells #[.int .i64 ref] 3)).alloc (.cells #[.int .i64 turn] 3)).alloc (.cells #[.slice (some ⟨lb, 0, none⟩) 1 1] 37)) := Fr.alloc _ _ _
  have hB3 := Blk.new (((W.alloc (.cells #[.int .i64 ref] 3)).alloc (.cells #[.int .i64 turn] 3)).alloc (.cells #[.slice (some ⟨lb, 0, none⟩) 1 1] 37)) 3 #[.int .i64 now]
  have hF3 : Fr (fun _ => False) (((W.alloc (.cells #[.int .i64 ref] 3)).alloc (.cells #[.int .i64 turn] 3)).alloc (.cells #[.slice (some ⟨lb, 0, none⟩) 1 1] 37)) ((((W.alloc (.cells #[.int .i64 ref] 3)).alloc (.cells #[.int .i64 turn] 3)).alloc (.cells #[.slice (some ⟨lb, 0, none⟩) 1 1] 37)).alloc (.cells #[.int .i64 now] 3)) := Fr.alloc _ _ _
  have hb0 := ((hB0.fr hF1 id).fr hF2 id).fr hF3 id
  have hb1 := (hB1.fr hF2 id).fr hF3 id
  have hb2 := hB2.fr hF3 id
  have hfr := ((hF0.trans hF1).trans hF2).trans hF3
  obtain ⟨W3, hW3⟩ : ∃ W3, ((((W.alloc (.cells #[.int .i64 ref] 3)).alloc (.cells #[.int .i64 turn] 3)).alloc (.cells #[.slice (some ⟨lb, 0, none⟩) 1 1] 37)).alloc (.cells #[.int .i64 now] 3)) = W3 := ⟨_, rfl⟩
  have hsz : W3.heap.size = W.heap.size + 4 := by rw [← hW3]; simp
  simp only [World.size_alloc] at hb1 hb2 hB3
  rw [hW3] at hb0 hb1 hb2 hB3 hfr
  have hn := hB3.cell 0
  simp only [List.getElem?_toArray, List.getElem?_cons_zero] at hn
  have hlt := h.lt
  have hlbl := hlb.lt
  have HT := Lib.hid (tryK 45 (run_enter Try.func45 (by kernel_rfl) (by kernel_rfl)) #[.pointer (some ⟨W.heap.size, 0, none⟩), .pointer (some ⟨W.heap.size + 1, 0, none⟩), .pointer (some ⟨W.heap.size + 1 + 1, 0, none⟩), .pointer (some ⟨W.heap.size + 1 + 1 + 1, 0, none⟩)] W3 fb mb s (h.fr0 hfr) none 0 0 now
    hr hk
    (fun ov er s' xb xm w' => ∃ (g cp : Nat), ov = .slice (some ⟨g, 0, none⟩) 1 cp ∧ er = 0 ∧ W.heap.size ≤ g ∧ 1 ≤ cp ∧ cp ≤ maxLen ∧ w'.cell? ⟨g, 0, none⟩ = some (.int .i64 7) ∧ s' = shut (decided s now) 20 now ds)
    (fun w xb xm hf hxb hxm hx => (dec1_5 _ w (fun k e => by have := hf.size; have := hx.lt; rcases e with (e | e) | e | e <;> omega) xb xm s hx (by simp) (by simp) (by omega) now ref turn W.heap.size (W.heap.size + 1) (W.heap.size + 1 + 1) (W.heap.size + 1 + 1 + 1) lb ao dl cp ds (hb0.fr hf id) (hb1.fr hf id) (hb2.fr hf id) (hB3.fr hf id) ((hlb.fr hfr id).fr hf id)
        (fun b hb e => by rcases hb with hb | hb | hb | hb | hb <;> rcases e with (e | e) | e | e <;> omega)
        (((hd.to (S' := fun k => (k = fb ∨ k = mb) ∨ k = xb ∨ k = xm) (fun k hk e => by rcases e with e | e | e; exact e; omega; omega)).fr (hfr.mono fun _ e => e.elim)).fr (hf.mono fun _ e => e.elim)) hdl hdn hd1 hw hlate hmc hmp).mono (fun e w' hh => by
      obtain ⟨g, cp2, h1, h2, h3, h4, h5, h7, h8⟩ := hh
      refine ⟨_, _, _, h1, h7, h8, fun e => absurd rfl e, by simp [shut, decided]; omega, g, cp2, rfl, rfl, ?_, h3, h4, h5, rfl⟩
      have := hf.size; omega)))
  have HFR := Lib.hid hfr
  have HSZ := Lib.hid hsz
  have HLT := Lib.hid hlt
  clear h hw hr hk hB0 hB1 hB2 hb0 hb1 hb2 hB3 hF0 hF1 hF2 hF3 hfr hsz hlt hlb hd hd1 hdn hlne hlate
  go_enter Try.func15, Try.ntmps15
  go_upto_region 1 with (fail)
  clear hW3
  go_wp2_with (first | (go_at_call 40; refine HT.out.mono ?_; rintro e w5 ⟨ov, er, s', xb, xm, w4, rfl, hxb, hxm, hfl, hf5, hf45, g, cp2, rfl, rfl, hg, hc1, hc2, hcell, rfl⟩) | go_in)
  go_ret2
  have := HSZ.out
  have := HLT.out
  refine ⟨g, cp2, xm, rfl, hg, hc1, hc2, by omega, ?_, hfl, (HFR.out.mono fun _ e => e.elim).trans hf5⟩
  exact (World.cell?_of_block (hf45.block g (lt_of_cell hcell) (by omega))).trans hcell
end Go.Proofs.Ytnkelaohcbdjnaa
