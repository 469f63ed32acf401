/- The law's own functions: known. -/
import Derived.Test.YtookojfigjdgcaaDoorY
import Derived.Test.YtookojfigjdgcaaDoorL
import Derived.Test.YtookojfigjdgcaaDoorP
import Derived.Test.YtookojfigjdgcaaDoorX
import Derived.Test.YtookojfigjdgcaaDoorR
import Derived.Lib.SlBytesConst
set_option linter.unusedVariables false
set_option linter.unusedSimpArgs false
namespace Go.Proofs.YtookojfigjdgcaaDoor
open Go.RowKit
theorem Laid.lt1 {W : World} (h : Laid W) : 1 < W.heap.size := by
  have := h.t.cell var1 0 (by decide)
  exact lt_of_cell this
theorem CutR.keep {S : Nat → Prop} {W W2 : World} {B : Nat} {E : TypeId} {v : Value} {l : List UInt8} {id : Int} {sz : Nat} {ps : List Pc} (h : CutR W B E v l id sz ps) (hf : Fr S W W2) (hS : ∀ k, k < W.heap.size → ¬ S k) : CutR W2 B E v l id sz ps :=
  ⟨h.o.fr hf (fun k hk => hS k (h.o.ob hk).2.1), fun k p hp => by
    obtain ⟨h1, h2, h3, h4, h5⟩ := h.p k p hp
    exact ⟨h1, h2, h3, h4, h5.fr hf (fun k hk => hS k (h5.ob hk).2.1)⟩⟩
theorem CutR.piece {W : World} {B : Nat} {E : TypeId} {v : Value} {l : List UInt8} {id : Int} {sz : Nat} {ps : List Pc} (h : CutR W B E v l id sz ps) {k : Nat} {p : Pc} (hp : ps[k]? = some p) :
    RowY W p.ao (pcL l sz k) ∧ (pcL l sz k).length = p.dl ∧ p.dl ≤ p.cp ∧ p.cp ≤ maxLen ∧ (p.ao = none → p.cp = 0) := by
  obtain ⟨_, _, _, _, h5⟩ := h.p k p hp
  rcases h5.form with ⟨e, e0⟩ | ⟨g, cap, e, _⟩
  · obtain ⟨a, c, e2, h1, h2, h3, _⟩ := h5.row
    rw [e] at e2
    injection e with ea ed ec
    injection e2 with fa fd fc
    refine ⟨by rw [ea, fa]; exact h3, by rw [ed, ← fd], by omega, by omega, fun _ => ec⟩
  · obtain ⟨a, c, e2, h1, h2, h3, _⟩ := h5.row
    injection e with ea ed ec
    injection e2 with fa fd fc
    refine ⟨by rw [fa]; exact h3, fd.symm, by omega, by omega, fun e => by rw [ea] at e; cases e⟩
theorem CutR.row {W : World} {B : Nat} {E : TypeId} {v : Value} {l : List UInt8} {id : Int} {sz : Nat} {ps : List Pc} (h : CutR W B E v l id sz ps) (hne : 1 ≤ ps.length) :
    ∃ g cap, v = .slice (some ⟨g, 0, none⟩) ps.length cap ∧ B ≤ g ∧ g < W.heap.size ∧ ps.length ≤ cap ∧ cap ≤ maxLen ∧ (∃ cs, W.heap[g]? = some (.cells cs E (0, 0))) := by
  rcases h.o.form with ⟨_, e⟩ | ⟨g, cap, e, h1, h2, h3, h4, h5, _⟩
  · rw [e] at hne; simp at hne
  · exact ⟨g, cap, e, h1, h2, h3, h4, h5⟩
theorem CutR.cell {W : World} {B : Nat} {E : TypeId} {g n cap : Nat} {l : List UInt8} {id : Int} {sz : Nat} {ps : List Pc} (h : CutR W B E (.slice (some ⟨g, 0, none⟩) n cap) l id sz ps) {k : Nat} {p : Pc} (hp : ps[k]? = some p) {j : Nat} {u : Value} (hj : (pcv p)[j]? = some u) : W.cell? ⟨g, k * 5 + j, none⟩ = some u := by
  rcases h.o.form with ⟨e, _⟩ | ⟨g', cap', e, _, _, _, _, _, h6⟩
  · cases e
  · cases e
    exact h6 k p hp j u hj
set_option maxRecDepth 100000 in
set_option maxHeartbeats 8000000 in
theorem known_any (W : World) (hL : Laid W) : Calls Tryd.prog 7 #[] W fun r W' => r = .returned (.bool true) ∧ Fr (fun _ => False) W W' := by
  have kc := fun (w : World) (C : Array Value) (n c : Nat) => Lib.run_convert_bytes_const (P := Tryd.prog) w 22 5 C n c Tryd.underlying22 Tryd.underlying5
  have hf : Fr (fun _ => False) W (W.alloc (.cells #[.int .u8 97, .int .u8 98, .int .u8 99] 5 (3, 4))) := Fr.alloc _ _ _
  have hrow : RowY (W.alloc (.cells #[.int .u8 97, .int .u8 98, .int .u8 99] 5 (3, 4))) (some ⟨W.heap.size, 0, none⟩) [97, 98, 99] := .inr ⟨W.heap.size, 0, rfl, (Array.getElem?_eq_some_iff.1 (World.alloc_heap_new W _)).1, fun i x hx => by
    rw [World.cell?_alloc_mark]
    match i, hx with
    | 0, hx => cases hx; rfl
    | 1, hx => cases hx; rfl
    | 2, hx => cases hx; rfl
    | k + 3, hx => simp at hx⟩
  obtain ⟨w1, hw1⟩ : ∃ w, W.alloc (.cells #[.int .u8 97, .int .u8 98, .int .u8 99] 5 (3, 4)) = w := ⟨_, rfl⟩
  obtain ⟨g, hg⟩ : ∃ g, W.heap.size = g := ⟨_, rfl⟩
  rw [hw1] at hf hrow
  rw [hg] at hrow
  have HCUT := Lib.hid (cut_good w1 3 (some ⟨g, 0, none⟩) 3 3 [97, 98, 99] hrow rfl (by decide) (by decide) (by decide) (fun e => by cases e) 2 (by decide) (by decide) (by decide))
  have HF := Lib.hid hf
  have HL := Lib.hid hL
  have HG := Lib.hid hg
  clear hf hrow hL hg
  go_enter Tryd.func7, Tryd.ntmps7
  go_upto_region 2 with (first | (go_at_call 8; (try rw [hw1]); (try rw [HG.out]); refine HCUT.out.mono ?_; rintro r1 w2 ⟨v, ps, rfl, hc, h1, h2, h3, hf2⟩) | go_in)
  clear kc HCUT hw1
  have hlen : ps.length = 2 := by
    rcases Nat.lt_or_ge 2 ps.length with h | h
    · have := h3 2 (by decide) h
      omega
    · omega
  obtain ⟨p0, p1, rfl⟩ : ∃ p0 p1, ps = [p0, p1] := by
    match ps, hlen with
    | [a, b], _ => exact ⟨a, b, rfl⟩
  obtain ⟨gp, cap, rfl, hBg, hglt, hlc, hcx, cs, hgb⟩ := hc.row h1
  obtain ⟨e1, e2, e3, e4, _⟩ := hc.p 0 p0 rfl
  obtain ⟨f1, f2, f3, f4, _⟩ := hc.p 1 p1 rfl
  obtain ⟨r1, r2, r3, r4, r5⟩ := hc.piece (k := 0) (p := p0) rfl
  obtain ⟨u1, u2, u3, u4, u5⟩ := hc.piece (k := 1) (p := p1) rfl
  obtain ⟨i0, x0, t0, s0, ao0, dl0, cp0⟩ := p0
  obtain ⟨i1, x1, t1, s1, ao1, dl1, cp1⟩ := p1
  dsimp only at e1 e2 e3 e4 f1 f2 f3 f4 r1 r2 r3 r4 r5 u1 u2 u3 u4 u5
  obtain ⟨sm, hsm⟩ : ∃ sm : Int, ((crc [97, 98, 99]).toNat : Int) = sm := ⟨_, rfl⟩
  rw [hsm] at e4 f4
  subst e1 e2 e3 e4 f1 f2 f3 f4
  have hl0 : pcL [97, 98, 99] 2 0 = [97, 98] := rfl
  have hl1 : pcL [97, 98, 99] 2 1 = [99] := rfl
  rw [hl0] at r1 r2
  rw [hl1] at u1 u2
  obtain rfl : 2 = dl0 := r2
  obtain rfl : 1 = dl1 := u2
  have HC := Lib.hid hc
  have HSM := Lib.hid hsm
  have HF2 := Lib.hid (HF.out.trans hf2)
  have HR := Lib.hid (And.intro r1 (And.intro r3 (And.intro r4 (And.intro u1 (And.intro u3 (And.intro u4 hglt))))))
  have HGB := Lib.hid hgb
  have HL2 := Lib.hid (HL.out.fr0 HF2.out)
  clear hc h1 h2 h3 hf2 hlen hBg hglt hlc hcx hgb r1 r3 r4 r5 u1 u3 u4 u5 hl0 hl1 hsm HF HL
  go_upto_region 3 with (first | (go_at_call 12; refine (newb_any w2).mono ?_; rintro r3 w3 ⟨rfl, hbs3, hf3⟩) | go_in)
  obtain ⟨bb, hbb⟩ : ∃ b, w2.heap.size = b := ⟨_, rfl⟩
  rw [hbb] at hbs3 ⊢
  have HB3 := Lib.hid (hbs3 bb)
  have HBB := Lib.hid hbb
  have HF3 := Lib.hid hf3
  have hc3 := HC.out.keep hf3 (fun _ _ e => e)
  have c0 : w3.cell? ⟨gp, 0, none⟩ = some (.int .i64 3) := hc3.cell (k := 0) rfl (j := 0) rfl
  have c1 : w3.cell? ⟨gp, 1, none⟩ = some (.int .i64 0) := hc3.cell (k := 0) rfl (j := 1) rfl
  have c2 : w3.cell? ⟨gp, 2, none⟩ = some (.int .i64 3) := hc3.cell (k := 0) rfl (j := 2) rfl
  have c3 : w3.cell? ⟨gp, 3, none⟩ = some (.int .u32 s1) := hc3.cell (k := 0) rfl (j := 3) rfl
  have c4 : w3.cell? ⟨gp, 4, none⟩ = some (.slice ao0 2 cp0) := hc3.cell (k := 0) rfl (j := 4) rfl
  have ha1 := Add_any w3 bb bb (-1) 0 0 [] [97, 98] HB3.out (by have := hf3.size; omega) 3 0 3 s1 ao0 2 cp0 (HR.out.1.fr0 hf3) rfl (by decide) HR.out.2.1 (by have := HR.out.2.2.1; unfold maxLen at this; omega) (by decide) 0 (by simp [addE])
  have x1 : (((addB (-1) [] 3 0 [97, 98]).length : Int) == fresh (-1) 3 3 0) = false := by decide
  rw [x1] at ha1
  have HA1 := Lib.hid ha1
  clear hbs3 hf3 hc3 hbb ha1 x1
  go_upto_region 6 with (first | (go_at_call 13; refine HA1.out.mono ?_; rintro r4 w4 ⟨hf4, _, hg4⟩; obtain ⟨hbs4, rfl⟩ := hg4 rfl) | go_in)
  have HB4 : Hid (BS w4 bb bb 3 3 s1 [97, 98]) := Lib.hid hbs4
  have hf24 : Fr (fun k => k = bb) w2 w4 := (HF3.out.mono fun _ e => e.elim).trans hf4
  have hc4 := HC.out.keep hf24 (fun k hk e => by have := HBB.out; omega)
  have d0 : w4.cell? ⟨gp, 5, none⟩ = some (.int .i64 3) := hc4.cell (k := 1) rfl (j := 0) rfl
  have d1 : w4.cell? ⟨gp, 6, none⟩ = some (.int .i64 2) := hc4.cell (k := 1) rfl (j := 1) rfl
  have d2 : w4.cell? ⟨gp, 7, none⟩ = some (.int .i64 3) := hc4.cell (k := 1) rfl (j := 2) rfl
  have d3 : w4.cell? ⟨gp, 8, none⟩ = some (.int .u32 s1) := hc4.cell (k := 1) rfl (j := 3) rfl
  have d4 : w4.cell? ⟨gp, 9, none⟩ = some (.slice ao1 1 cp1) := hc4.cell (k := 1) rfl (j := 4) rfl
  have HF4 := Lib.hid hf24
  have ha2 := Add_any w4 bb bb 3 3 s1 [97, 98] [99] HB4.out (by have := hf24.size; have := HBB.out; omega) 3 2 3 s1 ao1 1 cp1 (hc4.piece (k := 1) rfl).1 rfl (by decide) HR.out.2.2.2.2.1 (by have := HR.out.2.2.2.2.2.1; unfold maxLen at this; omega) (by decide) 0 (by simp [addE])
  have x2 : (((addB 3 [97, 98] 3 2 [99]).length : Int) == fresh 3 3 3 3) = true := by decide
  rw [x2] at ha2
  have HA2 := Lib.hid ha2
  clear hbs4 hf4 hc4 hg4 ha2 x2 hf24 c0 c1 c2 c3 c4 HA1
  go_upto_region 7 with (first | (go_at_call 13; refine HA2.out.mono ?_; rintro r5 w5 ⟨hf5, _, hg5⟩; obtain ⟨hbs5, rfl⟩ := hg5 rfl) | go_in)
  have HB5 : Hid (BS w5 bb bb 3 3 s1 [97, 98, 99]) := Lib.hid hbs5
  have HF5 := Lib.hid (HF4.out.trans hf5)
  have HD1 := Lib.hid (Done_any w5 bb bb 3 3 s1 [97, 98, 99] HB5.out (by have := HF5.out.size; have := HBB.out; omega) (by decide))
  clear hbs5 hf5 hg5 d0 d1 d2 d3 d4 HA2
  go_upto_region 8 with (first | (go_at_call 14; refine HD1.out.mono ?_; rintro r6 w6 ⟨hf6, _, hg6⟩; obtain ⟨hbs6, _, hok⟩ := hg6 (by decide); obtain ⟨v6, rfl, ho6⟩ := hok HSM.out) | go_in)
  have HB6 := Lib.hid hbs6
  have HF6 := Lib.hid (HF5.out.trans hf6)
  have HO6 := Lib.hid ho6
  have HD2 := Lib.hid (Done_any w6 bb bb (-1) 0 0 [] HB6.out (by have := HF6.out.size; have := HBB.out; omega) (by decide))
  clear hbs6 hf6 hg6 ho6 hok HD1
  go_upto_region 9 with (first | (go_at_call 14; refine HD2.out.mono ?_; rintro r7 w7 ⟨hf7, hbad7, _⟩; obtain ⟨hbs7, pb, hpb, hblk7, rfl⟩ := hbad7 (by decide)) | go_in)
  have HF7 := Lib.hid (HF6.out.trans hf7)
  have ho7 : OwnY w7 bb v6 [97, 98, 99] := HO6.out.fr hf7 (fun k hk e => by
    obtain ⟨v, hb, _⟩ := HB6.out
    exact HO6.out.notBlk hb (by decide) (e ▸ hk))
  obtain ⟨ao7, cp7, rfl, hc7, hx7, hr7, hz7⟩ := ho7.row
  have k7 := str_of w7 ao7 3 cp7 [97, 98, 99] hr7 rfl hc7 (fun e => by
    subst e
    rcases ho7.form with ⟨e1, _⟩ | ⟨g', c', e1, _⟩
    · injection e1
    · cases e1)
  have HL7 : Laid w7 := HL2.out.fr HF7.out (fun k e => by have := HL2.out.lt1; have := HBB.out; omega)
  have HBR := Lib.hid (broken_any w7 HL7 pb (-1) 6 (by unfold In64; omega) (by unfold Num; omega) hblk7)
  clear hf7 hbad7 hbs7 hpb hblk7 ho7 hc7 hx7 hr7 hz7 HL7 HD2
  go_wp2_with (first | (go_at_call 10; refine HBR.out.mono ?_; rintro r8 w8 ⟨rfl, hf8⟩) | go_in)
  go_ret
  exact ⟨rfl, Fr.above' HF2.out (HF7.out.trans (hf8.mono fun _ e => e.elim)) (fun k e => by have := HF2.out.size; have := HBB.out; omega)⟩
end Go.Proofs.YtookojfigjdgcaaDoor
