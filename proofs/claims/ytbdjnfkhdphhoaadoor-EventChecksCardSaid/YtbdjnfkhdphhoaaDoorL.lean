/- The known history. -/
import Derived.Test.YtbdjnfkhdphhoaaDoorJ
set_option linter.unusedVariables false
set_option linter.unusedSimpArgs false
namespace Go.Proofs.YtbdjnfkhdphhoaaDoor
open Go.RowKit Go.Maps
/-- the variable errors.errorType holds what it is laid with -/
def Laid (W : World) : Prop := W.cell? ⟨0, 0, none⟩ = some (.iface 93 (.agg #[.pointer (some ⟨4, 33, none⟩)]))
theorem Laid.lt {W : World} (h : Laid W) : 0 < W.heap.size := by
  have := lt_of_cell h
  exact this
theorem Laid.fr {S : Nat → Prop} {W W' : World} (h : Laid W) (hf : Fr S W W') (h0 : ¬ S 0) : Laid W' := (World.cell?_of_block (hf.block 0 h.lt h0)).trans h
theorem as_any (W : World) (e : Addr) (tb : Nat) (old : Value) (hL : Laid W) (ht : Blk W tb 36 #[old]) :
    Calls Tryd.prog 18 #[.iface 36 (.pointer (some e)), .iface 38 (.pointer (some ⟨tb, 0, none⟩))] W fun r W' => r = .returned (.bool true) ∧ Fr (fun k => k = tb) W W' ∧ Blk W' tb 36 #[.pointer (some e)] := by
  refine (as_hit e ⟨tb, 0, none⟩ old W hL (ht.cell 0) (ht.frozen 0)).mono ?_
  rintro r W' ⟨rfl, rfl⟩
  have ht2 := ((((ht.alloc (.cells #[.pointer (some ⟨tb, 0, none⟩)] 38)).alloc (.cells #[.pointer (some ⟨4, 38, none⟩), .pointer (some ⟨W.heap.size, 0, none⟩), .int .u64 150] 69)).alloc (.cells #[.pointer (some ⟨4, 38, none⟩), .pointer (some ⟨W.heap.size, 0, none⟩), .int .u64 150] 69)).alloc (.cells #[.pointer (some e)] 36)).set 0 (.pointer (some e))
  refine ⟨rfl, ?_, ht2⟩
  exact ((((Fr.alloc _ W _).trans (Fr.alloc _ _ _)).trans (Fr.alloc _ _ _)).trans (Fr.alloc _ _ _)).trans (Fr.setCell _ _ _ rfl)
theorem fault_zero {s : Hi} {e : Ev} (h1 : rightB e = true) (h2 : ¬ e.at_ < s.at_) (h3 : (((s.n : Int) == 0) == (e.k == 1)) = true) (h4 : s.closed = 0) (h5 : refB s e = true) (h6 : ¬ (e.k = 2 ∧ s.task ≠ 0)) (h7 : ¬ (e.k = 7 ∨ e.k = 12 ∨ e.k = 17)) : faultC s e = 0 := by
  rw [fault_rest h1 h2 h3 h4 h5, if_neg h6]
  exact if_neg (fun h => h7 h.1)
def kn1 : Ev := ⟨1, 0, 0, 0, 0, 0, none, 0, 0⟩
def kn2 : Ev := ⟨2, 0, 0, 0, 0, 0, none, 0, 0⟩
def kn3 : Ev := ⟨3, 0, 2, 0, 0, 0, none, 0, 0⟩
def kn4 : Ev := ⟨4, 0, 3, 0, 0, 0, none, 0, 0⟩
def knL : List Ev := [kn1, kn2, kn3, kn4, kn4]
def ks (n : Nat) (task : Int) (begun : Bool) : Hi := ⟨n, 0, 0, task, begun, fun _ => none, fun _ => none, fun _ => none, fun _ => none⟩
theorem kf1 : faultC hi0 kn1 = 0 := fault_zero (by decide) (by decide) (by decide) rfl (by decide) (by decide) (by decide)
theorem kf2 : faultC (ks 1 0 false) kn2 = 0 := fault_zero (by decide) (by decide) (by decide) rfl (by decide) (by decide) (by decide)
theorem kf3 : faultC (ks 2 2 false) kn3 = 0 := fault_zero (by decide) (by decide) (by decide) rfl (by decide) (by decide) (by decide)
theorem kf4 : faultC (ks 3 3 true) kn4 = 0 := fault_zero (by decide) (by decide) (by decide) rfl (by decide) (by decide) (by decide)
theorem kf5 : faultC (ks 4 0 false) kn4 = 5 := fault5 (by decide) (by decide) (by decide) rfl (by decide)
theorem kt1 : feed hi0 (knL.take 1) = ks 1 0 false := by show addO hi0 kn1 = _; rw [addO_0 kf1]; rfl
theorem kt2 : feed hi0 (knL.take 2) = ks 2 2 false := by rw [feed_take hi0 knL 1 kn2 rfl, kt1, addO_0 kf2]; rfl
theorem kt3 : feed hi0 (knL.take 3) = ks 3 3 true := by rw [feed_take hi0 knL 2 kn3 rfl, kt2, addO_0 kf3]; rfl
theorem kt4 : feed hi0 (knL.take 4) = ks 4 0 false := by rw [feed_take hi0 knL 3 kn4 rfl, kt3, addO_0 kf4]; rfl
theorem kn_faults (i : Nat) (e : Ev) (h : knL[i]? = some e) (hf : faultC (feed hi0 (knL.take i)) e ≠ 0) : i = 4 := by
  have : i = 0 ∨ i = 1 ∨ i = 2 ∨ i = 3 ∨ i = 4 := by
    have := (List.getElem?_eq_some_iff.1 h).1
    simp [knL] at this
    omega
  rcases this with rfl | rfl | rfl | rfl | rfl
  · cases h; exact absurd kf1 hf
  · cases h; rw [kt1] at hf; exact absurd kf2 hf
  · cases h; rw [kt2] at hf; exact absurd kf3 hf
  · cases h; rw [kt3] at hf; exact absurd kf4 hf
  · rfl
theorem kn_bad : faultC (feed hi0 (knL.take 4)) kn4 = 5 := by rw [kt4]; exact kf5
theorem kn_row {W : World} {b : Nat} (h : Blk W b 24 (knL.flatMap (fun e => (evc e).toList)).toArray) : RowV W (some ⟨b, 0, none⟩) knL := by
  refine .inr ⟨b, 0, rfl, h.lt, fun i e he j v hj => ?_⟩
  rw [Nat.zero_add, h.cell]
  have hi : i = 0 ∨ i = 1 ∨ i = 2 ∨ i = 3 ∨ i = 4 := by
    have := (List.getElem?_eq_some_iff.1 he).1
    simp [knL] at this
    omega
  have hj7 : j = 0 ∨ j = 1 ∨ j = 2 ∨ j = 3 ∨ j = 4 ∨ j = 5 ∨ j = 6 := by
    have := (Array.getElem?_eq_some_iff.1 hj).1
    simp [evc] at this
    omega
  rcases hi with rfl | rfl | rfl | rfl | rfl <;> (cases he; rcases hj7 with rfl | rfl | rfl | rfl | rfl | rfl | rfl <;> (rw [← hj]; rfl))
theorem RowV.frB {S : Nat → Prop} {W W' : World} {ao : Option Addr} {l : List Ev} (h : RowV W ao l) (hf : Fr S W W') (hS : ∀ b o, ao = some ⟨b, o, none⟩ → ¬ S b) : RowV W' ao l := by
  rcases h with h | ⟨b, o, h1, h2, h3⟩
  · exact .inl h
  · exact .inr ⟨b, o, h1, Nat.lt_of_lt_of_le h2 hf.size, fun i e he j v hj => (World.cell?_of_block (hf.block b h2 (hS b o h1))).trans (h3 i e he j v hj)⟩
theorem RowV.take {W : World} {ao : Option Addr} {l : List Ev} (h : RowV W ao l) (n : Nat) : RowV W ao (l.take n) := by
  rcases h with h | ⟨b, o, h1, h2, h3⟩
  · exact .inl (by rw [h]; simp)
  · exact .inr ⟨b, o, h1, h2, fun i e he => h3 i e (by rw [List.getElem?_take] at he; split at he; exact he; cases he)⟩
theorem check5 (w : World) (b : Nat) (h : RowV w (some ⟨b, 0, none⟩) knL) : Calls Tryd.prog 16 #[.slice (some ⟨b, 0, none⟩) 5 5] w fun r W' => ∃ p : Nat, r = .returned (.iface 36 (.pointer (some ⟨p, 0, none⟩))) ∧ Blk W' p 53 #[.int .i64 5, .string ⟨#[114, 101, 102]⟩, .iface 55 (.int .i64 8)] ∧ Fr (fun _ => False) w W' := by
  refine (check_any w _ 5 knL h (by decide)).mono ?_
  rintro r W' ⟨hf, ⟨rfl, hg⟩ | ⟨i, e, p, he, hg, hbad, rfl, hp, hb⟩⟩
  · have := hg 4 kn4 (by decide) rfl
    rw [kn_bad] at this
    cases this
  · have hi4 := kn_faults i e he hbad
    subst hi4
    obtain rfl : kn4 = e := Option.some.inj he
    rw [kn_bad] at hb
    exact ⟨p, rfl, hb, hf⟩
theorem check4 (w : World) (b : Nat) (h : RowV w (some ⟨b, 0, none⟩) knL) : Calls Tryd.prog 16 #[.slice (some ⟨b, 0, none⟩) 4 5] w fun r W' => r = .returned .nilIface ∧ Fr (fun _ => False) w W' := by
  refine (check_any w _ 5 (knL.take 4) (h.take 4) (by decide)).mono ?_
  rintro r W' ⟨hf, ⟨rfl, hg⟩ | ⟨i, e, p, he, hg, hbad, rfl, hp, hb⟩⟩
  · exact ⟨rfl, hf⟩
  · have hi : i < 4 := by
      have := (List.getElem?_eq_some_iff.1 he).1
      simpa [knL] using this
    have he2 : knL[i]? = some e := by
      rw [List.getElem?_take, if_pos hi] at he
      exact he
    rw [List.take_take, Nat.min_eq_left (by omega)] at hbad
    have := kn_faults i e he2 hbad
    omega
set_option maxRecDepth 100000 in
set_option maxHeartbeats 2000000 in
theorem known_any (W : World) (hL : Laid W) : Calls Tryd.prog 8 #[] W fun e W' => e = .returned (.bool true) ∧ Fr (fun _ => False) W W' := by
  have hB := Blk.new W 24 (knL.flatMap (fun e => (evc e).toList)).toArray
  have hF : Fr (fun _ => False) W (W.alloc (.cells (knL.flatMap (fun e => (evc e).toList)).toArray 24)) := Fr.alloc _ _ _
  have hROW := kn_row hB
  obtain ⟨w1, hw1⟩ : ∃ w1, W.alloc (.cells (knL.flatMap (fun e => (evc e).toList)).toArray 24) = w1 := ⟨_, rfl⟩
  rw [hw1] at hB hF hROW
  simp only [knL, kn1, kn2, kn3, kn4, evc, List.flatMap_cons, List.flatMap_nil, List.cons_append, List.nil_append, List.append_nil] at hw1
  have HROW := Lib.hid hROW
  have HF1 := Lib.hid hF
  have HL1 := Lib.hid (hL.fr hF id)
  clear hB hF hROW hL
  have HCK := Lib.hid (check5 w1 _ HROW.out)
  go_enter Tryd.func8, Tryd.ntmps8
  go_upto_region 3 with (first | (go_at_call 16; refine HCK.out.mono ?_; rintro r2 w2 ⟨p, rfl, hb2, hf2⟩) | go_in)
  have HB2 := Lib.hid hb2
  have HROW2 := Lib.hid (HROW.out.fr hf2 (fun k e => e.elim))
  have HF2 := Lib.hid (HF1.out.trans hf2)
  have HL2 := Lib.hid (HL1.out.fr hf2 id)
  have hs1 : w1.heap.size = W.heap.size + 1 := by rw [← hw1]; simp
  have hs2 := hf2.size
  have HTS : Hid (W.heap.size < w2.heap.size) := Lib.hid (by omega)
  clear hw1 hb2 hf2 HCK HROW HF1 HL1 hs1 hs2
  go_upto_region 4 with (fail)
  have hT := Blk.new w2 36 #[.pointer none]
  have hfT : Fr (fun _ => False) w2 (w2.alloc (.cells #[.pointer none] 36)) := Fr.alloc _ _ _
  obtain ⟨tb, htb⟩ : ∃ b, w2.heap.size = b := ⟨_, rfl⟩
  have htw := HF2.out.size
  obtain ⟨w3, hw3⟩ : ∃ w3, w2.alloc (.cells #[.pointer none] 36) = w3 := ⟨_, rfl⟩
  rw [hw3] at hT hfT ⊢
  rw [htb] at hT htw HTS ⊢
  obtain ⟨bl, hbl⟩ : ∃ b, W.heap.size = b := ⟨_, rfl⟩
  have HBL := Lib.hid hbl
  rw [hbl] at HROW2 htw HTS ⊢
  have HTW := Lib.hid htw
  have HT3 := Lib.hid hT
  have hpt : p ≠ tb := by have := HB2.out.lt; omega
  have HPT := Lib.hid hpt
  have hnb : bl ≠ tb := by have := HB2.out.lt; have := HTS.out; omega
  have HNB := Lib.hid hnb
  clear hnb
  have HB3 := Lib.hid (HB2.out.fr hfT id)
  have HROW3 := Lib.hid (HROW2.out.fr hfT (fun k e => e.elim))
  have HF3 := Lib.hid (HF2.out.trans hfT)
  have HL3 := Lib.hid (HL2.out.fr hfT id)
  clear hT hfT hw3 htb htw hbl hpt HB2 HROW2 HF2 HL2
  have HC4 := Lib.hid (check4 w3 bl HROW3.out)
  go_wp2_with (first
    | (go_at_call 16; refine HC4.out.mono ?_; rintro r4 w4 ⟨rfl, hf4⟩; have HT4 := Lib.hid (HT3.out.fr hf4 id); have HL4 := Lib.hid (HL3.out.fr hf4 id); have HB4 := Lib.hid (HB3.out.fr hf4 id); have HROW4 := Lib.hid (HROW3.out.fr hf4 (fun k e => e.elim)); have HF4 := Lib.hid (HF3.out.trans hf4); clear hf4)
    | (go_at_call 18; refine (as_any _ _ tb _ HL4.out HT4.out).mono ?_; rintro r5 w5 ⟨rfl, hf5, ht5⟩; have HT5 := Lib.hid ht5; have d0 := ht5.cell 0; have e0 := (HB4.out.fr hf5 HPT.out).cell 0; have e1 := (HB4.out.fr hf5 HPT.out).cell 1; simp only [List.getElem?_toArray, List.getElem?_cons_zero, List.getElem?_cons_succ] at d0 e0 e1; have HB5 := Lib.hid (HB4.out.fr hf5 HPT.out); have HF5 := Lib.hid hf5; clear hf5 ht5)
    | (go_at_call 28; refine (is_any p w5 _ _ HB5.out).mono ?_; rintro r6 w6 ⟨rfl, rfl⟩)
    | (go_at_call 19; refine (error_any w5 p 5 ⟨#[114, 101, 102]⟩ ⟨#[53]⟩ _ HB5.out (by decide) (by decide) itoa5).mono ?_; rintro r7 w7 ⟨rfl, hf7⟩; rw [show textB ⟨#[53]⟩ ⟨#[114, 101, 102]⟩ = ⟨#[101, 118, 101, 110, 116, 32, 53, 58, 32, 114, 101, 102]⟩ by decide]; have HF7 := Lib.hid hf7; clear hf7 d0 e0 e1)
    | (go_at_call 9; refine (name_any w7 18).mono ?_; rintro r8 w8 ⟨rfl, hf8⟩; rw [show nameS 18 = ⟨#[99, 104, 105, 108, 100, 101, 110, 100, 115]⟩ by decide]; have HF8 := Lib.hid hf8; clear hf8)
    | (go_at_call 22; refine (stat_any w8 (some ⟨bl, 0, none⟩) 5 (knL.take 4) (((((HROW4.out.take 4).frB HF5.out (fun b o e => by cases e; exact HNB.out)).fr HF7.out (fun k e => e.elim)).fr HF8.out (fun k e => e.elim))) (by decide)).mono ?_; rintro r9 w9 ⟨rfl, hf9⟩; rw [show statL (knL.take 4) = 1 by decide]; have HF9 := Lib.hid hf9; clear hf9)
    | go_in)
  go_ret
  exact ⟨rfl, (((HF4.out.above HF5.out (fun k e => by subst e; rw [HBL.out]; exact HTW.out)).trans HF7.out).trans HF8.out).trans HF9.out⟩
end Go.Proofs.YtbdjnfkhdphhoaaDoor
