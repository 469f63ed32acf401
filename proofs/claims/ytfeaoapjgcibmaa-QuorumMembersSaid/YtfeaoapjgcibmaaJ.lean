/- The reference's Of. -/
import Derived.Test.YtfeaoapjgcibmaaF
import Derived.LoopTactic
set_option linter.unusedVariables false
set_option linter.unusedSimpArgs false
namespace Go.Proofs.Ytfeaoapjgcibmaa
open Go.RowKit Go.Shelf
attribute [local go_sem] Oper.semAt_some
def stR (v : Nat → Int) (n : Nat) (l : Nat → Int) (i : Nat) : Option (Nat → Int) :=
  if i ≤ n then ofN v 1 zro i else match ofN v 1 zro n with
    | none => none
    | some m => ofN l 2 m (i - n)
theorem stR_good1 {v : Nat → Int} {n : Nat} {l : Nat → Int} {i : Nat} {m : Nat → Int} (h : stR v n l i = some m) (hi : i < n) (hb : bad m (v i) = false) : stR v n l (i + 1) = some (put m (v i).toNat 1) := by
  unfold stR at h ⊢
  rw [if_pos (by omega)] at h ⊢
  exact ofN_good h hb
theorem stR_good2 {v : Nat → Int} {n : Nat} {l : Nat → Int} {i : Nat} {m : Nat → Int} (h : stR v n l i = some m) (hi : n ≤ i) (hb : bad m (l (i - n)) = false) : stR v n l (i + 1) = some (put m (l (i - n)).toNat 2) := by
  unfold stR at h ⊢
  rw [if_neg (by omega), show i + 1 - n = i - n + 1 from by omega]
  by_cases e : i = n
  · subst e
    rw [if_pos (Nat.le_refl _)] at h
    rw [h]
    simp only [Nat.sub_self] at hb ⊢
    exact ofN_good rfl hb
  · rw [if_neg (by omega)] at h
    cases h1 : ofN v 1 zro n with
    | none => rw [h1] at h; simp at h
    | some m1 => rw [h1] at h; simp only at h ⊢; exact ofN_good h hb
theorem stR_bad1 {v : Nat → Int} {n : Nat} {l : Nat → Int} {p i : Nat} {m : Nat → Int} (h : stR v n l i = some m) (hi : i < n) (hb : bad m (v i) = true) : ofO v n l p = none := by
  unfold stR at h
  rw [if_pos (by omega)] at h
  unfold ofO
  rw [ofN_bad h hb hi]
theorem stR_bad2 {v : Nat → Int} {n : Nat} {l : Nat → Int} {p i : Nat} {m : Nat → Int} (h : stR v n l i = some m) (hi : n ≤ i) (hp : i - n < p) (hb : bad m (l (i - n)) = true) : ofO v n l p = none := by
  unfold stR at h
  unfold ofO
  by_cases e : i = n
  · subst e
    rw [if_pos (Nat.le_refl _)] at h
    rw [h]
    simp only [Nat.sub_self] at hb hp ⊢
    rw [ofN_bad (j := 0) rfl hb hp]
  · rw [if_neg (by omega)] at h
    cases h1 : ofN v 1 zro n with
    | none => rfl
    | some m1 => rw [h1] at h; simp only at h ⊢; rw [ofN_bad h hb hp]
theorem stR_end {v : Nat → Int} {n : Nat} {l : Nat → Int} {p : Nat} {m : Nat → Int} (h : stR v n l (n + p) = some m) : ofO v n l p = if n = 0 then none else some m := by
  unfold stR at h
  unfold ofO
  by_cases e : p = 0
  · subst e
    rw [if_pos (by omega)] at h
    rw [show n + 0 = n from rfl] at h
    rw [h]
    rfl
  · rw [if_neg (by omega), show n + p - n = p from by omega] at h
    cases h1 : ofN v 1 zro n with
    | none => rw [h1] at h; simp at h
    | some m1 => rw [h1] at h; simp only at h ⊢; rw [h]
structure OfJ (w : World) (m : Nat → Int) (W : World) : Prop where
  z : Blk W w.heap.size 24 (arr zro)
  a : Blk W (w.heap.size + 1) 24 (arr m)
  b : Below w.heap.size w W
theorem OfJ.put {w : World} {m : Nat → Int} {W : World} (h : OfJ w m W) (k : Nat) (r : Int) : OfJ w (put m k r) (W.setCell ⟨w.heap.size + 1, k, none⟩ (.int .u8 r)) :=
  ⟨h.z.otherAt (by omega) _ _, by rw [← arr_put]; exact h.a.set _ _, h.b.setCell (p := ⟨w.heap.size + 1, k, none⟩) (by simp) _⟩
set_option maxRecDepth 100000 in
set_option maxHeartbeats 4000000 in
theorem ofR_any (a1 : Option Addr) (n1 c1 : Nat) (v1 : Nat → Int) (a2 : Option Addr) (n2 c2 : Nat) (v2 : Nat → Int) (hl1 : n1 ≤ 1000) (hl2 : n2 ≤ 1000) (w : World) (hr1 : Row w a1 n1 (fun j => .int .i64 (v1 j))) (hr2 : Row w a2 n2 (fun j => .int .i64 (v2 j))) :
    Calls Try.prog 10 #[.slice a1 n1 c1, .slice a2 n2 c2] w fun e W' => e = .returned (.tuple #[.agg #[.int .u8 (ofM v1 n1 v2 n2 0), .int .u8 (ofM v1 n1 v2 n2 1), .int .u8 (ofM v1 n1 v2 n2 2), .int .u8 (ofM v1 n1 v2 n2 3), .int .u8 (ofM v1 n1 v2 n2 4), .int .u8 (ofM v1 n1 v2 n2 5), .int .u8 (ofM v1 n1 v2 n2 6), .int .u8 (ofM v1 n1 v2 n2 7), .int .u8 (ofM v1 n1 v2 n2 8)], .int .i64 (ofE v1 n1 v2 n2)]) ∧ Below w.heap.size w W' := by
  go_enter Try.func10, Try.ntmps10
  go_wp2
  go_loopw [7] (fun i wr => ∃ i' : Nat, i' ≤ n1 + n2 ∧ i = .int .i64 i' ∧ ∃ m, stR v1 n1 v2 i' = some m ∧ OfJ w m wr) (fun i _ => n1 + n2 - (intOf i).toNat)
  case atStart =>
    refine ⟨0, by omega, rfl, zro, by unfold stR; rw [if_pos (by omega)]; rfl, ?_, ?_, ?_⟩
    · have := (Blk.new w 24 (arr zro)).alloc (.cells (arr zro) 24); exact this
    · have := Blk.new (w.alloc (.cells (arr zro) 24)) 24 (arr zro); rw [World.size_alloc] at this; exact this
    · exact ((Below.refl _ w).alloc (Nat.le_refl _) _).alloc (by simp) _
  case round =>
    obtain ⟨i, hi, rfl, m, hst, hI⟩ := hrel
    obtain ⟨hz, ha, hb⟩ := hI
    have hI : OfJ w m wr := ⟨hz, ha, hb⟩
    by_cases hlt : i < n1 + n2
    · have p0 : decide ((i : Int) < n1 + n2) = true := decide_eq_true (by omega)
      by_cases h1 : i < n1
      · have p1 : decide ((i : Int) < n1) = true := decide_eq_true (by omega)
        rcases hr1.below hb with h0 | ⟨B, o, rfl, hB, hc⟩
        · omega
        · have hcj := hc i h1
          dsimp only at hcj
          obtain ⟨x, hx⟩ : ∃ x, v1 i = x := ⟨_, rfl⟩
          rw [hx] at hcj
          have Hgood := Lib.hid (fun (hbb : bad m x = false) => stR_good1 (i := i) hst h1 (by rw [hx]; exact hbb))
          have Hbad := Lib.hid (fun (hbb : bad m x = true) => stR_bad1 (p := n2) (i := i) hst h1 (by rw [hx]; exact hbb))
          have HX := Lib.hid hx
          clear hx hc hst hI
          by_cases hbad : bad m x = true
          · obtain ⟨hM0, hE0⟩ := ofM_none (Hbad.out hbad)
            have HM := Lib.hid hM0
            have HE := Lib.hid hE0
            have zz0 := hz.cell 0
            have zz1 := hz.cell 1
            have zz2 := hz.cell 2
            have zz3 := hz.cell 3
            have zz4 := hz.cell 4
            have zz5 := hz.cell 5
            have zz6 := hz.cell 6
            have zz7 := hz.cell 7
            have zz8 := hz.cell 8
            simp only [arr, zro, List.getElem?_toArray, List.getElem?_cons_zero, List.getElem?_cons_succ] at zz0 zz1 zz2 zz3 zz4 zz5 zz6 zz7 zz8
            have zf := fun o => hz.frozen o
            clear hM0 hE0
            by_cases h0 : x < 0
            · have p3 : decide (x < 0) = true := decide_eq_true h0
              clear hbad
              go_wp2
              refine bodyPost_ret (results9 Try.results10 (.inl rfl) _ rfl rfl (hz.set9 zro)) rfl ⟨?_, below_set9 zro hb (Nat.le_refl _)⟩
              rw [HM.out, HE.out]
              rfl
            · by_cases h9 : 9 ≤ x
              · have p3 : decide (x < 0) = false := decide_eq_false h0
                have p4 : decide (8 < x) = true := decide_eq_true (by omega)
                clear hbad
                go_wp2
                refine bodyPost_ret (results9 Try.results10 (.inl rfl) _ rfl rfl (hz.set9 zro)) rfl ⟨?_, below_set9 zro hb (Nat.le_refl _)⟩
                rw [HM.out, HE.out]
                rfl
              · obtain ⟨q, rfl⟩ := Int.eq_ofNat_of_zero_le (Int.not_lt.1 h0)
                have hmq : m q ≠ 0 := by
                  simpa [bad, h0, h9] using hbad
                have hq9 : (q : Int) < 9 := by omega
                have hq8 : q < 9 := by omega
                obtain ⟨c, hc⟩ : ∃ c, m q = c := ⟨_, rfl⟩
                rw [hc] at hmq
                have cq : wr.cell? ⟨w.heap.size + 1, q, none⟩ = some (.int .u8 c) := by
                  rw [ha.cell, ← hc]
                  have : q = 0 ∨ q = 1 ∨ q = 2 ∨ q = 3 ∨ q = 4 ∨ q = 5 ∨ q = 6 ∨ q = 7 ∨ q = 8 := by omega
                  rcases this with rfl | rfl | rfl | rfl | rfl | rfl | rfl | rfl | rfl <;> rfl
                have p3 : decide ((q : Int) < 0) = false := decide_eq_false (by omega)
                have p4 : decide (8 < (q : Int)) = false := decide_eq_false (by omega)
                have p5 : (c != 0) = true := bne_iff_ne.2 hmq
                clear hbad hmq hc h0 h9
                go_wp2
                refine bodyPost_ret (results9 Try.results10 (.inl rfl) _ rfl rfl (hz.set9 zro)) rfl ⟨?_, below_set9 zro hb (Nat.le_refl _)⟩
                rw [HM.out, HE.out]
                rfl
          · have hb' : ¬ x < 0 ∧ ¬ 9 ≤ x ∧ m x.toNat = 0 := by
              simp only [bad, Bool.or_eq_true, decide_eq_true_eq, not_or, ne_eq, Classical.not_not] at hbad
              exact ⟨hbad.1.1, hbad.1.2, hbad.2⟩
            obtain ⟨h0, h9, hmq⟩ := hb'
            obtain ⟨q, rfl⟩ := Int.eq_ofNat_of_zero_le (Int.not_lt.1 h0)
            rw [Int.toNat_natCast] at hmq
            have hq9 : (q : Int) < 9 := by omega
            have hq8 : q < 9 := by omega
            have cq : wr.cell? ⟨w.heap.size + 1, q, none⟩ = some (.int .u8 0) := by
              rw [ha.cell, ← hmq]
              have : q = 0 ∨ q = 1 ∨ q = 2 ∨ q = 3 ∨ q = 4 ∨ q = 5 ∨ q = 6 ∨ q = 7 ∨ q = 8 := by omega
              rcases this with rfl | rfl | rfl | rfl | rfl | rfl | rfl | rfl | rfl <;> rfl
            have fq := ha.frozen q
            have HG := Lib.hid (Hgood.out (Bool.eq_false_iff.2 hbad))
            have hp := OfJ.put ⟨hz, ha, hb⟩ q 1
            have p3 : decide ((q : Int) < 0) = false := decide_eq_false (by omega)
            have p4 : decide (8 < (q : Int)) = false := decide_eq_false (by omega)
            clear hbad hmq hz ha h0 h9
            go_wp2
            go_roundw
            case rel => exact ⟨i + 1, by omega, by go_num, _, HG.out, by rw [HX.out, Int.toNat_natCast]; exact hp⟩
            case measure => simp [intOf]; omega
      · have p1 : decide ((i : Int) < n1) = false := decide_eq_false (by omega)
        rcases hr2.below hb with h0 | ⟨B, o, rfl, hB, hc⟩
        · omega
        · have hcj := hc (i - n1) (by omega)
          dsimp only at hcj
          obtain ⟨x, hx⟩ : ∃ x, v2 (i - n1) = x := ⟨_, rfl⟩
          rw [hx] at hcj
          have Hgood := Lib.hid (fun (hbb : bad m x = false) => stR_good2 (i := i) hst (by omega) (by rw [hx]; exact hbb))
          have Hbad := Lib.hid (fun (hbb : bad m x = true) => stR_bad2 (p := n2) (i := i) hst (by omega) (by omega) (by rw [hx]; exact hbb))
          have HX := Lib.hid hx
          have hi0 : (0 : Int) ≤ (i : Int) - n1 := by omega
          have hi1 : (i : Int) - n1 < n2 := by omega
          have hi2 : ((i : Int) - n1).toNat = i - n1 := by omega
          clear hx hc hst hI
          by_cases hbad : bad m x = true
          · obtain ⟨hM0, hE0⟩ := ofM_none (Hbad.out hbad)
            have HM := Lib.hid hM0
            have HE := Lib.hid hE0
            have zz0 := hz.cell 0
            have zz1 := hz.cell 1
            have zz2 := hz.cell 2
            have zz3 := hz.cell 3
            have zz4 := hz.cell 4
            have zz5 := hz.cell 5
            have zz6 := hz.cell 6
            have zz7 := hz.cell 7
            have zz8 := hz.cell 8
            simp only [arr, zro, List.getElem?_toArray, List.getElem?_cons_zero, List.getElem?_cons_succ] at zz0 zz1 zz2 zz3 zz4 zz5 zz6 zz7 zz8
            have zf := fun o => hz.frozen o
            clear hM0 hE0
            by_cases h0 : x < 0
            · have p3 : decide (x < 0) = true := decide_eq_true h0
              clear hbad
              go_wp2
              refine bodyPost_ret (results9 Try.results10 (.inl rfl) _ rfl rfl (hz.set9 zro)) rfl ⟨?_, below_set9 zro hb (Nat.le_refl _)⟩
              rw [HM.out, HE.out]
              rfl
            · by_cases h9 : 9 ≤ x
              · have p3 : decide (x < 0) = false := decide_eq_false h0
                have p4 : decide (8 < x) = true := decide_eq_true (by omega)
                clear hbad
                go_wp2
                refine bodyPost_ret (results9 Try.results10 (.inl rfl) _ rfl rfl (hz.set9 zro)) rfl ⟨?_, below_set9 zro hb (Nat.le_refl _)⟩
                rw [HM.out, HE.out]
                rfl
              · obtain ⟨q, rfl⟩ := Int.eq_ofNat_of_zero_le (Int.not_lt.1 h0)
                have hmq : m q ≠ 0 := by
                  simpa [bad, h0, h9] using hbad
                have hq9 : (q : Int) < 9 := by omega
                have hq8 : q < 9 := by omega
                obtain ⟨c, hc⟩ : ∃ c, m q = c := ⟨_, rfl⟩
                rw [hc] at hmq
                have cq : wr.cell? ⟨w.heap.size + 1, q, none⟩ = some (.int .u8 c) := by
                  rw [ha.cell, ← hc]
                  have : q = 0 ∨ q = 1 ∨ q = 2 ∨ q = 3 ∨ q = 4 ∨ q = 5 ∨ q = 6 ∨ q = 7 ∨ q = 8 := by omega
                  rcases this with rfl | rfl | rfl | rfl | rfl | rfl | rfl | rfl | rfl <;> rfl
                have p3 : decide ((q : Int) < 0) = false := decide_eq_false (by omega)
                have p4 : decide (8 < (q : Int)) = false := decide_eq_false (by omega)
                have p5 : (c != 0) = true := bne_iff_ne.2 hmq
                clear hbad hmq hc h0 h9
                go_wp2
                refine bodyPost_ret (results9 Try.results10 (.inl rfl) _ rfl rfl (hz.set9 zro)) rfl ⟨?_, below_set9 zro hb (Nat.le_refl _)⟩
                rw [HM.out, HE.out]
                rfl
          · have hb' : ¬ x < 0 ∧ ¬ 9 ≤ x ∧ m x.toNat = 0 := by
              simp only [bad, Bool.or_eq_true, decide_eq_true_eq, not_or, ne_eq, Classical.not_not] at hbad
              exact ⟨hbad.1.1, hbad.1.2, hbad.2⟩
            obtain ⟨h0, h9, hmq⟩ := hb'
            obtain ⟨q, rfl⟩ := Int.eq_ofNat_of_zero_le (Int.not_lt.1 h0)
            rw [Int.toNat_natCast] at hmq
            have hq9 : (q : Int) < 9 := by omega
            have hq8 : q < 9 := by omega
            have cq : wr.cell? ⟨w.heap.size + 1, q, none⟩ = some (.int .u8 0) := by
              rw [ha.cell, ← hmq]
              have : q = 0 ∨ q = 1 ∨ q = 2 ∨ q = 3 ∨ q = 4 ∨ q = 5 ∨ q = 6 ∨ q = 7 ∨ q = 8 := by omega
              rcases this with rfl | rfl | rfl | rfl | rfl | rfl | rfl | rfl | rfl <;> rfl
            have fq := ha.frozen q
            have HG := Lib.hid (Hgood.out (Bool.eq_false_iff.2 hbad))
            have hp := OfJ.put ⟨hz, ha, hb⟩ q 2
            have p3 : decide ((q : Int) < 0) = false := decide_eq_false (by omega)
            have p4 : decide (8 < (q : Int)) = false := decide_eq_false (by omega)
            clear hbad hmq hz ha h0 h9
            go_wp2
            go_roundw
            case rel => exact ⟨i + 1, by omega, by go_num, _, HG.out, by rw [HX.out, Int.toNat_natCast]; exact hp⟩
            case measure => simp [intOf]; omega
    · obtain rfl : i = n1 + n2 := by omega
      have p0 : decide (((n1 + n2 : Nat) : Int) < n1 + n2) = false := decide_eq_false (by omega)
      have hend := stR_end (p := n2) hst
      have zz0 := hz.cell 0
      have zz1 := hz.cell 1
      have zz2 := hz.cell 2
      have zz3 := hz.cell 3
      have zz4 := hz.cell 4
      have zz5 := hz.cell 5
      have zz6 := hz.cell 6
      have zz7 := hz.cell 7
      have zz8 := hz.cell 8
      simp only [arr, zro, List.getElem?_toArray, List.getElem?_cons_zero, List.getElem?_cons_succ] at zz0 zz1 zz2 zz3 zz4 zz5 zz6 zz7 zz8
      have zf := fun o => hz.frozen o
      by_cases h0 : n1 = 0
      · obtain ⟨hM0, hE0⟩ := ofM_none (v := v1) (n := n1) (l := v2) (p := n2) (by rw [hend, if_pos h0])
        have HM := Lib.hid hM0
        have HE := Lib.hid hE0
        clear hM0 hE0 hI hst hend
        have p2 : ((n1 : Int) == 0) = true := by rw [beq_iff_eq]; omega
        clear h0
        go_wp2
        refine bodyPost_ret (results9 Try.results10 (.inl rfl) _ rfl rfl (hz.set9 zro)) rfl ⟨?_, below_set9 zro hb (Nat.le_refl _)⟩
        rw [HM.out, HE.out]
        rfl
      · obtain ⟨hM0, hE0⟩ := ofM_some (v := v1) (n := n1) (l := v2) (p := n2) (m := m) (by rw [hend, if_neg h0])
        have HM := Lib.hid hM0
        have HE := Lib.hid hE0
        have ma0 := ha.cell 0
        have ma1 := ha.cell 1
        have ma2 := ha.cell 2
        have ma3 := ha.cell 3
        have ma4 := ha.cell 4
        have ma5 := ha.cell 5
        have ma6 := ha.cell 6
        have ma7 := ha.cell 7
        have ma8 := ha.cell 8
        simp only [arr, List.getElem?_toArray, List.getElem?_cons_zero, List.getElem?_cons_succ] at ma0 ma1 ma2 ma3 ma4 ma5 ma6 ma7 ma8
        clear hM0 hE0 hI hst hend
        have p2 : ((n1 : Int) == 0) = false := by rw [beq_eq_false_iff_ne]; omega
        clear h0
        go_wp2
        refine bodyPost_ret (results9 Try.results10 (.inl rfl) _ rfl rfl (hz.set9 m)) rfl ⟨?_, below_set9 m hb (Nat.le_refl _)⟩
        rw [HM.out, HE.out]
        rfl
end Go.Proofs.Ytfeaoapjgcibmaa

