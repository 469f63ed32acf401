/- The document's look at one event more: Why. -/
import Derived.Test.YtbdjnfkhdphhoaaDoorR2
import Derived.Deep.RegionHeld3
set_option linter.unusedVariables false
set_option linter.unusedSimpArgs false
namespace Go.Proofs.YtbdjnfkhdphhoaaDoor
open Go.RowKit Go.Maps
def lastAt (l : List Ev) : Int := match l.getLast? with | some x => x.at_ | none => 0
def usedB (l : List Ev) (e : Ev) (i : Nat) : Bool := match l[i]? with | some x => (x.k == e.k) && ((x.id == e.id) && rOpen l ((i : Int) + 1)) | none => false
def rUsed (l : List Ev) (e : Ev) : Bool := (List.range l.length).any (usedB l e)
def rWhyC (l : List Ev) (e : Ev) : Nat :=
  if rightB e = false then 1
  else if 0 < l.length ∧ e.at_ < lastAt l then 2
  else if (((l.length : Int) == 0) == (e.k == 1)) = false then 3
  else if l.any (fun x => closeB x.k) = true then 4
  else if rRefs l e = false then 5
  else if e.k = 2 ∧ (rTask l).1 ≠ 0 then 6
  else if (e.k = 7 ∨ e.k = 12 ∨ e.k = 17) ∧ rUsed l e = true then 7
  else 0
theorem wrap_succI (i : Nat) (h : i ≤ 1000000) : IntKind.i64.wrap ((i : Int) + 1) = (i : Int) + 1 := by simp [IntKind.wrap, IntKind.bits, IntKind.signed]; omega
theorem used_yes {l : List Ev} {e : Ev} {i : Nat} (hi : i < l.length) (h : usedB l e i = true) : rUsed l e = true := List.any_eq_true.2 ⟨i, List.mem_range.2 hi, h⟩
theorem used_no {l : List Ev} {e : Ev} (h : ∀ i, i < l.length → usedB l e i = false) : rUsed l e = false := by
  rw [Bool.eq_false_iff]
  intro ht
  obtain ⟨i, hi, hh⟩ := List.any_eq_true.1 ht
  rw [h i (List.mem_range.1 hi)] at hh
  cases hh
theorem any_no {l : List Ev} (h : ∀ (i : Nat) (x : Ev), l[i]? = some x → closeB x.k = false) : (l.any fun x => closeB x.k) = false := by
  rw [Bool.eq_false_iff]
  intro ht
  obtain ⟨x, hx, hh⟩ := List.any_eq_true.1 ht
  obtain ⟨i, hi⟩ := List.getElem?_of_mem hx
  rw [h i x hi] at hh
  cases hh
set_option maxRecDepth 100000 in
set_option maxHeartbeats 16000000 in
theorem rwhy_any (W : World) (ao : Option Addr) (cp n : Nat) (l : List Ev) (hl : RowV W ao l) (hnl : l.length = n) (hn : n ≤ 100000) (e : Ev) : Calls Tryd.prog 17 #[.slice ao n cp, .agg (evc e)] W fun r W' => r = .returned (whyV (rWhyC l e)) ∧ Fr (fun _ => False) W W' := by
  have hB := Blk.new W 24 (evc e)
  have hF : Fr (fun _ => False) W (W.alloc (.cells (evc e) 24)) := Fr.alloc _ _ _
  obtain ⟨w1, hw1⟩ : ∃ w1, W.alloc (.cells (evc e) 24) = w1 := ⟨_, rfl⟩
  rw [hw1] at hB hF
  have HROW := Lib.hid (fun w (hf : Fr (fun _ => False) W w) => hl.fr hf (fun k e => e.elim))
  have HTK := Lib.hid (fun w (hf : Fr (fun _ => False) W w) => rtask_any w ao cp n l (HROW.out w hf) hnl hn)
  have HRF := Lib.hid (fun w (hf : Fr (fun _ => False) W w) => rrefs_any w ao cp n l (HROW.out w hf) hnl hn e)
  have HOP := Lib.hid (fun w (hf : Fr (fun _ => False) W w) at_ => ropen_any w ao cp n l (HROW.out w hf) hnl hn at_)
  have HRT := Lib.hid (fun w => rright_any w e)
  simp only [evc] at HRT HRF
  have HNL := Lib.hid hnl
  obtain ⟨r, hr⟩ : ∃ r, whyV (rWhyC l e) = r := ⟨_, rfl⟩
  simp only [hr]
  have HR := Lib.hid hr
  obtain ⟨bb, hbb⟩ : ∃ b, W.heap.size = b := ⟨_, rfl⟩
  rw [hbb] at hB
  have HB := Lib.hid hB
  have HF := Lib.hid hF
  have HN := Lib.hid hn
  clear hl hn hnl hr hB hF
  simp only [evc] at hw1
  rw [show Value.agg (evc e) = Value.agg #[.int .i64 e.k, .int .i64 e.at_, .int .i64 e.ref, .int .i64 e.id, .int .i64 e.list, .int .i64 e.n, .slice e.ao e.dl e.cp] from rfl]
  go_enter Tryd.func17, Tryd.ntmps17
  go_upto_region 1 with (fail)
  try rw [hw1]
  try rw [hbb]
  clear hw1 hbb
  have c0 := HB.out.cell 0
  have c1 := HB.out.cell 1
  have c2 := HB.out.cell 2
  have c3 := HB.out.cell 3
  have c4 := HB.out.cell 4
  have c5 := HB.out.cell 5
  have c6 := HB.out.cell 6
  simp only [evc, List.getElem?_toArray, List.getElem?_cons_zero, List.getElem?_cons_succ] at c0 c1 c2 c3 c4 c5 c6
  cases q1 : rightB e with
  | false =>
    go_upto_region 2 with (first | (go_at_call 14; refine (HRT.out _).mono ?_; rintro e2 w2 ⟨rfl, hf2⟩; rw [q1]) | go_in)
    have HF2 := Lib.hid (HF.out.trans hf2)
    have HC : Hid (rWhyC l e = 1) := Lib.hid (by unfold rWhyC; rw [if_pos q1])
    go_wp2
    go_ret
    exact ⟨by rw [← HR.out, HC.out]; rfl, HF2.out⟩
  | true =>
  have N1 : Hid (¬ rightB e = false) := Lib.hid (by rw [q1]; decide)
  go_upto_region 3 with (first | (go_at_call 14; refine (HRT.out _).mono ?_; rintro e2 w2 ⟨rfl, hf2⟩; rw [q1]) | go_in)
  have HF2 := Lib.hid (HF.out.trans hf2)
  have HB2 := Lib.hid (HB.out.fr hf2 id)
  clear hf2 HF HB HRT q1
  clear c0 c1 c2 c3 c4 c5 c6
  have c0 := HB2.out.cell 0
  have c1 := HB2.out.cell 1
  have c2 := HB2.out.cell 2
  have c3 := HB2.out.cell 3
  have c4 := HB2.out.cell 4
  have c5 := HB2.out.cell 5
  have c6 := HB2.out.cell 6
  simp only [evc, List.getElem?_toArray, List.getElem?_cons_zero, List.getElem?_cons_succ] at c0 c1 c2 c3 c4 c5 c6
  by_cases hpos : 0 < n
  · obtain ⟨m, hm⟩ : ∃ m, n = m + 1 := ⟨n - 1, by omega⟩
    obtain ⟨x, hx⟩ : ∃ x, l[m]? = some x := ⟨_, List.getElem?_eq_getElem (by rw [HNL.out]; omega)⟩
    have hla : lastAt l = x.at_ := by
      unfold lastAt
      rw [List.getLast?_eq_getElem?, HNL.out, show n - 1 = m by omega, hx]
    have HLA := Lib.hid hla
    obtain ⟨b, o, rfl, hc⟩ := (HROW.out W (Fr.refl _ _)).at_ hx
    have x1 : w2.cell? ⟨b, o + m * 7 + 1, none⟩ = some (.int .i64 x.at_) := hc w2 HF2.out 1 _ rfl
    have q0 : decide (0 < n) = true := decide_eq_true hpos
    have hmn : m < n := by omega
    have hnn := HN.out
    have hw : IntKind.i64.wrap ((n : Int) - 1) = (m : Int) := by simp [IntKind.wrap, IntKind.bits, IntKind.signed]; omega
    have HM := Lib.hid hm
    clear hla hc hx hm
    by_cases h2 : e.at_ < x.at_
    · have p2 : decide (e.at_ < x.at_) = true := decide_eq_true h2
      have HH := Lib.hid h2
      go_quiet (fail)
      have hf3 : Fr (fun _ => False) w2 (w2.drewN nq) := Fr.drewN _ w2 nq
      have HF3 := Lib.hid (HF2.out.trans hf3)
      clear hw
      have HC : Hid (rWhyC l e = 2) := Lib.hid (by unfold rWhyC; rw [if_neg N1.out, if_pos ⟨by rw [HNL.out]; omega, by rw [HLA.out]; exact HH.out⟩])
      go_wp2
      go_ret
      exact ⟨by rw [← HR.out, HC.out]; rfl, HF3.out⟩
    · have p2 : decide (e.at_ < x.at_) = false := decide_eq_false h2
      have N2 : Hid (¬ (0 < l.length ∧ e.at_ < lastAt l)) := Lib.hid (by rw [HLA.out]; exact fun h => h2 h.2)
      go_quiet (fail)
      have hf3 : Fr (fun _ => False) w2 (w2.drewN nq) := Fr.drewN _ w2 nq
      obtain ⟨w3, hw3⟩ : ∃ w, w2.drewN nq = w := ⟨_, rfl⟩
      rw [hw3] at hf3 ⊢
      have HF3 := Lib.hid (HF2.out.trans hf3)
      have HB3 := Lib.hid (HB2.out.fr hf3 id)
      clear hf3 hw3 HF2 HB2 hw p2 h2 x1 hmn q0 hnn c0 c1 c2 c3 c4 c5 c6
      have c0 := HB3.out.cell 0
      have c1 := HB3.out.cell 1
      have c2 := HB3.out.cell 2
      have c3 := HB3.out.cell 3
      have c4 := HB3.out.cell 4
      have c5 := HB3.out.cell 5
      have c6 := HB3.out.cell 6
      simp only [evc, List.getElem?_toArray, List.getElem?_cons_zero, List.getElem?_cons_succ] at c0 c1 c2 c3 c4 c5 c6
      obtain ⟨bn, hbn⟩ : ∃ b, ((n : Int) == 0) = b := ⟨_, rfl⟩
      obtain ⟨bk, hbk⟩ : ∃ b, (e.k == 1) = b := ⟨_, rfl⟩
      have HBN := Lib.hid hbn
      have HBK := Lib.hid hbk
      go_upto_region 5 with (fail)
      cases h3 : (bn == bk) with
      | false =>
        have HC : Hid (rWhyC l e = 3) := Lib.hid (by unfold rWhyC; rw [if_neg N1.out, if_neg N2.out, if_pos (by rw [HNL.out, HBN.out, HBK.out]; exact h3)])
        go_wp2
        go_ret
        exact ⟨by rw [← HR.out, HC.out]; rfl, HF3.out⟩
      | true =>
        have N3 : Hid (¬ (((l.length : Int) == 0) == (e.k == 1)) = false) := Lib.hid (by rw [HNL.out, HBN.out, HBK.out, h3]; decide)
        skip
        go_upto_region 7 with (fail)
        clear hbn hbk h3 c0 c1 c2 c3 c4 c5 c6 HBN HBK
        go_wp2_with fail
        go_loopw [5] (fun iv wr => ∃ i : Nat, i ≤ n ∧ iv = .int .i64 i ∧ (∀ (j : Nat) (x : Ev), j < i → l[j]? = some x → closeB x.k = false) ∧ Fr (fun _ => False) w3 wr) (fun iv _ => n - (intOf iv).toNat)
        case atStart => exact ⟨0, Nat.zero_le _, rfl, fun j x hj => by omega, Fr.refl _ _⟩
        case round =>
          obtain ⟨i, hi, rfl, hb, hf⟩ := hrel
          have HBF := Lib.hid hb
          have HF4w := Lib.hid hf
          have HF4 := Lib.hid (HF3.out.trans hf)
          clear hb hf
          have hnn := HN.out
          by_cases hlt : i < n
          · have p0 : decide ((i : Int) < n) = true := decide_eq_true (by omega)
            obtain ⟨x, hx⟩ : ∃ x, l[i]? = some x := ⟨_, List.getElem?_eq_getElem (by rw [HNL.out]; exact hlt)⟩
            have HX := Lib.hid hx
            obtain ⟨b1, o1, hbo, hc⟩ := (HROW.out W (Fr.refl _ _)).at_ hx
            injection hbo with hbo
            injection hbo with e1 e2 _
            subst e1 e2
            have x0 : wr.cell? ⟨b, o + i * 7, none⟩ = some (.int .i64 x.k) := hc wr HF4.out 0 _ rfl
            have HCL := Lib.hid (rcloses_any wr x.k)
            clear hc hx
            cases hcl : closeB x.k with
            | true =>
              rw [hcl] at HCL
              have HY : Hid ((l.any fun y => closeB y.k) = true) := Lib.hid (List.any_eq_true.2 ⟨x, List.mem_of_getElem? HX.out, hcl⟩)
              have HC : Hid (rWhyC l e = 4) := Lib.hid (by unfold rWhyC; rw [if_neg N1.out, if_neg N2.out, if_neg N3.out, if_pos HY.out])
              go_wp2_with (first | (go_at_call 12; refine HCL.out.mono ?_; rintro r5 w5 ⟨rfl, rfl⟩) | go_in)
              go_ret
              exact ⟨by rw [← HR.out, HC.out]; rfl, HF4.out⟩
            | false =>
              rw [hcl] at HCL
              have HW := Lib.hid hcl
              clear hcl
              go_wp2_with (first | (go_at_call 12; refine HCL.out.mono ?_; rintro r5 w5 ⟨rfl, rfl⟩) | go_in)
              go_roundw
              case rel =>
                refine ⟨i + 1, by omega, by go_num, fun j y hj hy => ?_, HF4w.out⟩
                by_cases hji : j = i
                · subst hji
                  rw [HX.out] at hy
                  cases hy
                  exact HW.out
                · exact HBF.out j y (by omega) hy
              case measure => simp [intOf]; omega
      
          · have hin : n = i := by omega
            subst hin
            have p0 : decide ((n : Int) < n) = false := decide_eq_false (by omega)
            have N4 : Hid (¬ (l.any fun y => closeB y.k) = true) := Lib.hid (by rw [any_no (fun j x hj => HBF.out j x (by have := (List.getElem?_eq_some_iff.1 hj).1; have := HNL.out; omega) hj)]; decide)
            have HB4 := Lib.hid (HB3.out.fr HF4w.out id)
            clear HB3 HBF hi hlt
            have c0 := HB4.out.cell 0
            have c1 := HB4.out.cell 1
            have c2 := HB4.out.cell 2
            have c3 := HB4.out.cell 3
            have c4 := HB4.out.cell 4
            have c5 := HB4.out.cell 5
            have c6 := HB4.out.cell 6
            simp only [evc, List.getElem?_toArray, List.getElem?_cons_zero, List.getElem?_cons_succ] at c0 c1 c2 c3 c4 c5 c6
            cases q5 : rRefs l e with
            | false =>
              go_upto_region 13 with (first | (go_at_call 35; refine (HRF.out wr HF4.out).mono ?_; rintro e2 w5 ⟨rfl, hf5⟩; rw [q5]) | go_in)
              have HF5 := Lib.hid (HF4.out.trans hf5)
              have HC : Hid (rWhyC l e = 5) := Lib.hid (by unfold rWhyC; rw [if_neg N1.out, if_neg N2.out, if_neg N3.out, if_neg N4.out, if_pos q5])
              go_wp2
              go_ret
              exact ⟨by rw [← HR.out, HC.out]; rfl, HF5.out⟩
            | true =>
            have N5 : Hid (¬ rRefs l e = false) := Lib.hid (by rw [q5]; decide)
            go_upto_region 14 with (first | (go_at_call 35; refine (HRF.out wr HF4.out).mono ?_; rintro e2 w5 ⟨rfl, hf5⟩; rw [q5]) | go_in)
            have HF5 := Lib.hid (HF4.out.trans hf5)
            have HB5 := Lib.hid (HB4.out.fr hf5 id)
            clear hf5 q5 p0 HB4 c0 c1 c2 c3 c4 c5 c6
            obtain ⟨t1, ht1⟩ : ∃ z, (rTask l).1 = z := ⟨_, rfl⟩
            have HT1 := Lib.hid ht1
            have HTK5 := Lib.hid (HTK.out w5 HF5.out)
            rw [ht1] at HTK5
            clear ht1
            go_upto_region 15 with (first | (go_at_call 36; refine HTK5.out.mono ?_; rintro e2 w6 ⟨rfl, hf6⟩) | go_in)
            have HF6 := Lib.hid (HF5.out.trans hf6)
            have HB6 := Lib.hid (HB5.out.fr hf6 id)
            clear hf6 HB5 HTK5
            have c0 := HB6.out.cell 0
            have c1 := HB6.out.cell 1
            have c2 := HB6.out.cell 2
            have c3 := HB6.out.cell 3
            have c4 := HB6.out.cell 4
            have c5 := HB6.out.cell 5
            have c6 := HB6.out.cell 6
            simp only [evc, List.getElem?_toArray, List.getElem?_cons_zero, List.getElem?_cons_succ] at c0 c1 c2 c3 c4 c5 c6
            by_cases h2 : e.k = 2
            · have r2 : (e.k == 2) = true := by simp [h2]
              have HK := Lib.hid h2
              clear h2
              by_cases h0 : t1 = 0
              · have q0 : (t1 != 0) = false := by simp [h0]
                have N6 : Hid (¬ (e.k = 2 ∧ (rTask l).1 ≠ 0)) := Lib.hid (by rw [HT1.out]; exact fun h => h.2 h0)
                have r7 : (e.k == 7) = false := by rw [HK.out]; rfl
                have r12 : (e.k == 12) = false := by rw [HK.out]; rfl
                have r17 : (e.k == 17) = false := by rw [HK.out]; rfl
                clear h0
                have HC : Hid (rWhyC l e = 0) := Lib.hid (by unfold rWhyC; rw [if_neg N1.out, if_neg N2.out, if_neg N3.out, if_neg N4.out, if_neg N5.out, if_neg N6.out, if_neg (fun h => by have := HK.out; omega)])
                go_wp2
                go_ret
                exact ⟨by rw [← HR.out, HC.out]; rfl, HF6.out⟩
              · have q0 : (t1 != 0) = true := by simp [h0]
                have HH := Lib.hid h0
                clear h0
                have HC : Hid (rWhyC l e = 6) := Lib.hid (by unfold rWhyC; rw [if_neg N1.out, if_neg N2.out, if_neg N3.out, if_neg N4.out, if_neg N5.out, if_pos ⟨HK.out, by rw [HT1.out]; exact HH.out⟩])
                go_wp2
                go_ret
                exact ⟨by rw [← HR.out, HC.out]; rfl, HF6.out⟩
            have r2 : (e.k == 2) = false := by simp [h2]
            have N6 : Hid (¬ (e.k = 2 ∧ (rTask l).1 ≠ 0)) := Lib.hid (fun h => h2 h.1)
            by_cases h7 : e.k = 7
            · have HK := Lib.hid h7
              clear h7
              have r7 : (e.k == 7) = true := by rw [HK.out]; rfl
              have r12 : (e.k == 12) = false := by rw [HK.out]; rfl
              have r17 : (e.k == 17) = false := by rw [HK.out]; rfl
              go_wp2_with fail
              go_loopw [8] (fun iv wr => ∃ j : Nat, j ≤ n ∧ iv = .int .i64 j ∧ (∀ x : Nat, x < j → usedB l e x = false) ∧ Fr (fun _ => False) w6 wr) (fun iv _ => n - (intOf iv).toNat)
              case atStart => exact ⟨0, Nat.zero_le _, rfl, fun x hx => by omega, Fr.refl _ _⟩
              case round =>
                obtain ⟨j, hj, rfl, hu, hfz⟩ := hrel
                have HU := Lib.hid hu
                have HFW := Lib.hid hfz
                have HFZ := Lib.hid (HF6.out.trans hfz)
                clear hu hfz
                by_cases hjl : j < n
                · have p5 : decide ((j : Int) < n) = true := decide_eq_true (by omega)
                  obtain ⟨x, hx⟩ : ∃ x, l[j]? = some x := ⟨_, List.getElem?_eq_getElem (by rw [HNL.out]; exact hjl)⟩
                  have HX := Lib.hid hx
                  obtain ⟨b1, o1, hbo, hc⟩ := (HROW.out W (Fr.refl _ _)).at_ hx
                  injection hbo with hbo
                  injection hbo with e1 e2 _
                  subst e1 e2
                  have hbx := hc wr HFZ.out
                  have x0 : wr.cell? ⟨b, o + j * 7, none⟩ = some (.int .i64 x.k) := hbx 0 _ rfl
                  have x3 : wr.cell? ⟨b, o + j * 7 + 3, none⟩ = some (.int .i64 x.id) := hbx 3 _ rfl
                  have HBW := Lib.hid (HB6.out.fr HFW.out id)
                  have c0 := HBW.out.cell 0
                  have c3 := HBW.out.cell 3
                  simp only [evc, List.getElem?_toArray, List.getElem?_cons_zero, List.getElem?_cons_succ] at c0 c3
                  clear hc hbx hx
                  have NEXT : Hid (usedB l e j = false → ∀ y : Nat, y < j + 1 → usedB l e y = false) := Lib.hid (fun hw y hy => by
                    by_cases hyj : y = j
                    · rw [hyj]; exact hw
                    · exact HU.out y (by omega))
                  have HUE : Hid (usedB l e j = ((x.k == e.k) && ((x.id == e.id) && rOpen l ((j : Int) + 1)))) := Lib.hid (by unfold usedB; rw [HX.out])
                  go_upto_region 21 with (fail)
                  have hnn := HN.out
                  by_cases g1 : x.k = e.k
                  · have y1 : (x.k == e.k) = true := by simp [g1]
                    have G1 := Lib.hid y1
                    clear g1
                    by_cases g2 : x.id = e.id
                    · have y2 : (x.id == e.id) = true := by simp [g2]
                      have G2 := Lib.hid y2
                      clear g2
                      refine wp_region_held_drew (S := fun (w' : World) => w'.cell? ⟨b, o + j * 7, none⟩ = some (.int .i64 x.k) ∧ w'.cell? ⟨b, o + j * 7 + 3, none⟩ = some (.int .i64 x.id) ∧ w'.cell? ⟨bb, 0, none⟩ = some (.int .i64 e.k) ∧ w'.cell? ⟨bb, 3, none⟩ = some (.int .i64 e.id)) (by kernel_rfl) ⟨x0, x3, c0, c3⟩ (fun hHeld => ?_)
                      refine wpAnyH_take (i := 0) (oi := _) (v := ?va00) rfl (by kernel_rfl) (by kernel_rfl) (by kernel_rfl) (fun _ _ _ h => h) (Or.inl ⟨by rfl, ?ya00⟩) (by assumption) ?ra00
                      case ya00 => intro w1 hSw; obtain ⟨s1, s2, s3, s4⟩ := hSw; go_simp; try with_reducible rfl
                      try simp only [List.getElem_toArray, List.getElem_cons_zero, List.getElem_cons_succ, Act.put, List.setIfInBounds_toArray, List.set_cons_zero, List.set_cons_succ]
                      refine wpAnyH_take (i := 1) (oi := _) (v := ?va01) rfl (by kernel_rfl) (by kernel_rfl) (by kernel_rfl) (fun _ _ _ h => h) (Or.inl ⟨by rfl, ?ya01⟩) (by assumption) ?ra01
                      case ya01 => intro w1 hSw; obtain ⟨s1, s2, s3, s4⟩ := hSw; go_simp; try with_reducible rfl
                      try simp only [List.getElem_toArray, List.getElem_cons_zero, List.getElem_cons_succ, Act.put, List.setIfInBounds_toArray, List.set_cons_zero, List.set_cons_succ]
                      refine wpAnyH_take (i := 2) (oi := _) (v := ?va02) rfl (by kernel_rfl) (by kernel_rfl) (by kernel_rfl) (fun _ _ _ h => h) (Or.inl ⟨by rfl, ?ya02⟩) (by assumption) ?ra02
                      case ya02 => intro w1 hSw; obtain ⟨s1, s2, s3, s4⟩ := hSw; go_simp; try with_reducible rfl
                      try simp only [List.getElem_toArray, List.getElem_cons_zero, List.getElem_cons_succ, Act.put, List.setIfInBounds_toArray, List.set_cons_zero, List.set_cons_succ]
                      refine wpAnyH_take (i := 3) (oi := _) (v := ?va03) rfl (by kernel_rfl) (by kernel_rfl) (by kernel_rfl) (fun _ _ _ h => h) (Or.inl ⟨by rfl, ?ya03⟩) (by assumption) ?ra03
                      case ya03 => intro w1 hSw; obtain ⟨s1, s2, s3, s4⟩ := hSw; go_simp; try with_reducible rfl
                      try simp only [List.getElem_toArray, List.getElem_cons_zero, List.getElem_cons_succ, Act.put, List.setIfInBounds_toArray, List.set_cons_zero, List.set_cons_succ]
                      refine wpAnyH_take (i := 4) (oi := _) (v := ?va04) rfl (by kernel_rfl) (by kernel_rfl) (by kernel_rfl) (fun _ _ _ h => h) (Or.inl ⟨by rfl, ?ya04⟩) (by assumption) ?ra04
                      case ya04 => intro w1 hSw; obtain ⟨s1, s2, s3, s4⟩ := hSw; go_simp; try with_reducible rfl
                      try simp only [List.getElem_toArray, List.getElem_cons_zero, List.getElem_cons_succ, Act.put, List.setIfInBounds_toArray, List.set_cons_zero, List.set_cons_succ]
                      refine wpAnyH_take (i := 5) (oi := _) (v := ?va05) rfl (by kernel_rfl) (by kernel_rfl) (by kernel_rfl) (fun _ _ _ h => h) (Or.inl ⟨by rfl, ?ya05⟩) (by assumption) ?ra05
                      case ya05 => intro w1 hSw; obtain ⟨s1, s2, s3, s4⟩ := hSw; go_simp; try with_reducible rfl
                      try simp only [List.getElem_toArray, List.getElem_cons_zero, List.getElem_cons_succ, Act.put, List.setIfInBounds_toArray, List.set_cons_zero, List.set_cons_succ]
                      refine wpAnyH_take (i := 6) (oi := _) (v := ?va06) rfl (by kernel_rfl) (by kernel_rfl) (by kernel_rfl) (fun _ _ _ h => h) (Or.inl ⟨by rfl, ?ya06⟩) (by assumption) ?ra06
                      case ya06 => intro w1 hSw; obtain ⟨s1, s2, s3, s4⟩ := hSw; go_simp; try with_reducible rfl
                      try simp only [List.getElem_toArray, List.getElem_cons_zero, List.getElem_cons_succ, Act.put, List.setIfInBounds_toArray, List.set_cons_zero, List.set_cons_succ]
                      refine wpAnyH_take (i := 7) (oi := _) (v := ?va07) rfl (by kernel_rfl) (by kernel_rfl) (by kernel_rfl) (fun _ _ _ h => h) (Or.inl ⟨by rfl, ?ya07⟩) (by assumption) ?ra07
                      case ya07 => intro w1 hSw; obtain ⟨s1, s2, s3, s4⟩ := hSw; go_simp; try with_reducible rfl
                      try simp only [List.getElem_toArray, List.getElem_cons_zero, List.getElem_cons_succ, Act.put, List.setIfInBounds_toArray, List.set_cons_zero, List.set_cons_succ]
                      refine wpAnyH_take (i := 8) (oi := _) (v := ?va08) rfl (by kernel_rfl) (by kernel_rfl) (by kernel_rfl) (fun _ _ _ h => h) (Or.inl ⟨by rfl, ?ya08⟩) (by assumption) ?ra08
                      case ya08 => intro w1 hSw; obtain ⟨s1, s2, s3, s4⟩ := hSw; go_simp; try with_reducible rfl
                      try simp only [List.getElem_toArray, List.getElem_cons_zero, List.getElem_cons_succ, Act.put, List.setIfInBounds_toArray, List.set_cons_zero, List.set_cons_succ]
                      refine wpAnyH_take (i := 9) (oi := _) (v := ?va09) rfl (by kernel_rfl) (by kernel_rfl) (by kernel_rfl) (fun _ _ _ h => h) (Or.inl ⟨by rfl, ?ya09⟩) (by assumption) ?ra09
                      case ya09 => intro w1 hSw; obtain ⟨s1, s2, s3, s4⟩ := hSw; go_simp; try with_reducible rfl
                      try simp only [List.getElem_toArray, List.getElem_cons_zero, List.getElem_cons_succ, Act.put, List.setIfInBounds_toArray, List.set_cons_zero, List.set_cons_succ]
                      refine wpAnyH_take (i := 10) (oi := _) (v := ?va010) rfl (by kernel_rfl) (by kernel_rfl) (by kernel_rfl) (fun _ _ _ h => h) (Or.inl ⟨by rfl, ?ya010⟩) (by assumption) ?ra010
                      case ya010 => intro w1 hSw; obtain ⟨s1, s2, s3, s4⟩ := hSw; go_simp; try with_reducible rfl
                      try simp only [List.getElem_toArray, List.getElem_cons_zero, List.getElem_cons_succ, Act.put, List.setIfInBounds_toArray, List.set_cons_zero, List.set_cons_succ]
                      refine wpAnyH_take (i := 11) (oi := _) (v := ?va011) rfl (by kernel_rfl) (by kernel_rfl) (by kernel_rfl) (fun _ _ _ h => h) (Or.inl ⟨by rfl, ?ya011⟩) (by assumption) ?ra011
                      case ya011 => intro w1 hSw; obtain ⟨s1, s2, s3, s4⟩ := hSw; go_simp; try with_reducible rfl
                      try simp only [List.getElem_toArray, List.getElem_cons_zero, List.getElem_cons_succ, Act.put, List.setIfInBounds_toArray, List.set_cons_zero, List.set_cons_succ]
                      refine wpAnyH_take (i := 12) (oi := _) (v := ?va012) rfl (by kernel_rfl) (by kernel_rfl) (by kernel_rfl) (fun _ _ _ h => h) (Or.inl ⟨by rfl, ?ya012⟩) (by assumption) ?ra012
                      case ya012 => intro w1 hSw; obtain ⟨s1, s2, s3, s4⟩ := hSw; go_simp; try with_reducible rfl
                      try simp only [List.getElem_toArray, List.getElem_cons_zero, List.getElem_cons_succ, Act.put, List.setIfInBounds_toArray, List.set_cons_zero, List.set_cons_succ]
                      refine wpAnyH_take (i := 13) (oi := _) (v := ?va013) rfl (by kernel_rfl) (by kernel_rfl) (by kernel_rfl) (fun _ _ _ h => h) (Or.inl ⟨by rfl, ?ya013⟩) (by assumption) ?ra013
                      case ya013 => intro w1 hSw; obtain ⟨s1, s2, s3, s4⟩ := hSw; go_simp; try with_reducible rfl
                      try simp only [List.getElem_toArray, List.getElem_cons_zero, List.getElem_cons_succ, Act.put, List.setIfInBounds_toArray, List.set_cons_zero, List.set_cons_succ]
                      refine wpAnyH_take (i := 14) (oi := _) (v := ?va014) rfl (by kernel_rfl) (by kernel_rfl) (by kernel_rfl) (fun _ _ _ h => h) (Or.inl ⟨by rfl, ?ya014⟩) (by assumption) ?ra014
                      case ya014 => intro w1 hSw; obtain ⟨s1, s2, s3, s4⟩ := hSw; go_simp; try with_reducible rfl
                      try simp only [List.getElem_toArray, List.getElem_cons_zero, List.getElem_cons_succ, Act.put, List.setIfInBounds_toArray, List.set_cons_zero, List.set_cons_succ]
                      refine wpAnyH_take (i := 15) (oi := _) (v := ?va015) rfl (by kernel_rfl) (by kernel_rfl) (by kernel_rfl) (fun _ _ _ h => h) (Or.inl ⟨by rfl, ?ya015⟩) (by assumption) ?ra015
                      case ya015 => intro w1 hSw; obtain ⟨s1, s2, s3, s4⟩ := hSw; go_simp; try with_reducible rfl
                      try simp only [List.getElem_toArray, List.getElem_cons_zero, List.getElem_cons_succ, Act.put, List.setIfInBounds_toArray, List.set_cons_zero, List.set_cons_succ]
                      refine wpAnyH_take (i := 16) (oi := _) (v := ?va016) rfl (by kernel_rfl) (by kernel_rfl) (by kernel_rfl) (fun _ _ _ h => h) (Or.inl ⟨by rfl, ?ya016⟩) (by assumption) ?ra016
                      case ya016 => intro w1 hSw; obtain ⟨s1, s2, s3, s4⟩ := hSw; go_simp; try with_reducible rfl
                      try simp only [List.getElem_toArray, List.getElem_cons_zero, List.getElem_cons_succ, Act.put, List.setIfInBounds_toArray, List.set_cons_zero, List.set_cons_succ]
                      refine wpAnyH_take (i := 17) (oi := _) (v := ?va017) rfl (by kernel_rfl) (by kernel_rfl) (by kernel_rfl) (fun _ _ _ h => h) (Or.inl ⟨by rfl, ?ya017⟩) (by assumption) ?ra017
                      case ya017 => intro w1 hSw; obtain ⟨s1, s2, s3, s4⟩ := hSw; go_simp; try with_reducible rfl
                      try simp only [List.getElem_toArray, List.getElem_cons_zero, List.getElem_cons_succ, Act.put, List.setIfInBounds_toArray, List.set_cons_zero, List.set_cons_succ]
                      refine wpAnyH_take (i := 18) (oi := _) (v := ?va018) rfl (by kernel_rfl) (by kernel_rfl) (by kernel_rfl) (fun _ _ _ h => h) (Or.inl ⟨by rfl, ?ya018⟩) (by assumption) ?ra018
                      case ya018 => intro w1 hSw; obtain ⟨s1, s2, s3, s4⟩ := hSw; go_simp; try with_reducible rfl
                      try simp only [List.getElem_toArray, List.getElem_cons_zero, List.getElem_cons_succ, Act.put, List.setIfInBounds_toArray, List.set_cons_zero, List.set_cons_succ]
                      obtain ⟨op, hop⟩ : ∃ z, rOpen l ((j : Int) + 1) = z := ⟨_, rfl⟩
                      have HOJ := Lib.hid (HOP.out wr.drew (HFZ.out.trans (Fr.drewN _ wr 1)) ((j : Int) + 1))
                      rw [hop] at HOJ
                      have HOPE := Lib.hid hop
                      clear hop
                      have hnn := HN.out
                      refine wpAnyH_take (i := 19) (oi := _) (v := ?vb019) rfl (by kernel_rfl) (by kernel_rfl) (by kernel_rfl) (fun _ _ _ h => h) (Or.inl ⟨by rfl, ?yb019⟩) (by assumption) ?rb019
                      case yb019 => intro w1 hSw; obtain ⟨s1, s2, s3, s4⟩ := hSw; go_simp; try with_reducible rfl
                      try simp only [List.getElem_toArray, List.getElem_cons_zero, List.getElem_cons_succ, Act.put, List.setIfInBounds_toArray, List.set_cons_zero, List.set_cons_succ]
                      refine wpAnyH_take (i := 20) (oi := _) (v := ?vb020) rfl (by kernel_rfl) (by kernel_rfl) (by kernel_rfl) (fun _ _ _ h => h) (Or.inl ⟨by rfl, ?yb020⟩) (by assumption) ?rb020
                      case yb020 => intro w1 hSw; obtain ⟨s1, s2, s3, s4⟩ := hSw; go_simp; try with_reducible rfl
                      try simp only [List.getElem_toArray, List.getElem_cons_zero, List.getElem_cons_succ, Act.put, List.setIfInBounds_toArray, List.set_cons_zero, List.set_cons_succ]
                      refine wpAnyH_take (i := 21) (oi := _) (v := ?vb021) rfl (by kernel_rfl) (by kernel_rfl) (by kernel_rfl) (fun _ _ _ h => h) (Or.inl ⟨by rfl, ?yb021⟩) (by assumption) ?rb021
                      case yb021 => intro w1 hSw; obtain ⟨s1, s2, s3, s4⟩ := hSw; go_simp; try with_reducible rfl
                      try simp only [List.getElem_toArray, List.getElem_cons_zero, List.getElem_cons_succ, Act.put, List.setIfInBounds_toArray, List.set_cons_zero, List.set_cons_succ]
                      refine wpAnyH_ready (rs := [22]) (by kernel_rfl) (by simp) ?_
                      refine AllReadyH.cons (o := _) rfl (fun K hK => ?_) AllReadyH.nil
                      rw [if_pos (by rfl)]
                      try simp only [List.getElem_toArray, List.getElem_cons_zero, List.getElem_cons_succ]
                      go_simp
                      rw [wrap_succI j (by omega)]
                      refine HOJ.out.mono ?_
                      rintro r7 w7 ⟨rfl, hf7⟩
                      have HF7 := Lib.hid ((HFZ.out.trans (Fr.drewN _ wr 1)).trans hf7)
                      have HF7w := Lib.hid ((HFW.out.trans (Fr.drewN _ wr 1)).trans hf7)
                      have hx7 := (HROW.out W (Fr.refl _ _)).at_ HX.out
                      obtain ⟨b1, o1, hbo, hc7⟩ := hx7
                      injection hbo with hbo
                      injection hbo with e1 e2 _
                      subst e1 e2
                      have hb7 := HB6.out.fr HF7w.out id
                      refine hK.out _ _ ⟨hc7 w7 HF7.out 0 _ rfl, hc7 w7 HF7.out 3 _ rfl, hb7.cell 0, hb7.cell 3⟩ (fun hHeld2 => ?_)
                      clear hK K hHeld hc7 hb7
                      try simp only [List.getElem_toArray, List.getElem_cons_zero, List.getElem_cons_succ, Act.put, List.setIfInBounds_toArray, List.set_cons_zero, List.set_cons_succ]
                      have hHeld := hHeld2
                      clear hHeld2
                      refine wpAnyH_take (i := 23) (oi := _) (v := ?vc023) rfl (by kernel_rfl) (by kernel_rfl) (by kernel_rfl) (fun _ _ _ h => h) (Or.inl ⟨by rfl, ?yc023⟩) (by assumption) ?rc023
                      case yc023 => intro w1 hSw; obtain ⟨s1, s2, s3, s4⟩ := hSw; go_simp; try with_reducible rfl
                      try simp only [List.getElem_toArray, List.getElem_cons_zero, List.getElem_cons_succ, Act.put, List.setIfInBounds_toArray, List.set_cons_zero, List.set_cons_succ]
                      cases op with
                      | true =>
                        have HUS := Lib.hid (used_yes (l := l) (e := e) (i := j) (by have := HNL.out; omega) (by rw [HUE.out, G1.out, G2.out, HOPE.out]; rfl))
                        refine wpAnyH_done (by kernel_rfl) ?_ _
                        clear hHeld
                        have HC : Hid (rWhyC l e = 7) := Lib.hid (by unfold rWhyC; rw [if_neg N1.out, if_neg N2.out, if_neg N3.out, if_neg N4.out, if_neg N5.out, if_neg N6.out, if_pos ⟨by have := HK.out; omega, HUS.out⟩])
                        go_wp2
                        go_ret
                        exact ⟨by rw [← HR.out, HC.out]; rfl, HF7.out⟩
                      | false =>
                        have HW := Lib.hid (NEXT.out (by rw [HUE.out, G1.out, G2.out, HOPE.out]; rfl))
                        refine wpAnyH_done (by kernel_rfl) ?_ _
                        clear hHeld
                        go_wp2
                        go_roundw
                        case rel => exact ⟨j + 1, by omega, by go_num, HW.out, HF7w.out⟩
                        case measure => simp [intOf]; omega
                    · have y2 : (x.id == e.id) = false := by simp [g2]
                      have HW := Lib.hid (NEXT.out (by rw [HUE.out, G1.out, y2]; rfl))
                      clear g2
                      go_quiet (fail)
                      have HFQ := Lib.hid (HFW.out.trans (Fr.drewN (fun _ => False) wr nq))
                      go_wp2
                      go_roundw
                      case rel => exact ⟨j + 1, by omega, by go_num, HW.out, HFQ.out⟩
                      case measure => simp [intOf]; omega
                  · have y1 : (x.k == e.k) = false := by simp [g1]
                    have HW := Lib.hid (NEXT.out (by rw [HUE.out, y1]; rfl))
                    clear g1
                    go_quiet (fail)
                    have HFQ := Lib.hid (HFW.out.trans (Fr.drewN (fun _ => False) wr nq))
                    go_wp2
                    go_roundw
                    case rel => exact ⟨j + 1, by omega, by go_num, HW.out, HFQ.out⟩
                    case measure => simp [intOf]; omega
                · obtain rfl : j = n := by omega
                  have p5 : decide ((j : Int) < j) = false := decide_eq_false (by omega)
                  have HNO := Lib.hid (used_no (l := l) (e := e) (fun y hy => HU.out y (by have := HNL.out; omega)))
                  have HC : Hid (rWhyC l e = 0) := Lib.hid (by unfold rWhyC; rw [if_neg N1.out, if_neg N2.out, if_neg N3.out, if_neg N4.out, if_neg N5.out, if_neg N6.out, if_neg (fun h => by rw [HNO.out] at h; exact absurd h.2 (by decide))])
                  go_wp2
                  go_ret
                  exact ⟨by rw [← HR.out, HC.out]; rfl, HFZ.out⟩
            have r7 : (e.k == 7) = false := by simp [h7]
            by_cases h12 : e.k = 12
            · have HK := Lib.hid h12
              clear h12
              have r12 : (e.k == 12) = true := by rw [HK.out]; rfl
              have r17 : (e.k == 17) = false := by rw [HK.out]; rfl
              go_wp2_with fail
              go_loopw [8] (fun iv wr => ∃ j : Nat, j ≤ n ∧ iv = .int .i64 j ∧ (∀ x : Nat, x < j → usedB l e x = false) ∧ Fr (fun _ => False) w6 wr) (fun iv _ => n - (intOf iv).toNat)
              case atStart => exact ⟨0, Nat.zero_le _, rfl, fun x hx => by omega, Fr.refl _ _⟩
              case round =>
                obtain ⟨j, hj, rfl, hu, hfz⟩ := hrel
                have HU := Lib.hid hu
                have HFW := Lib.hid hfz
                have HFZ := Lib.hid (HF6.out.trans hfz)
                clear hu hfz
                by_cases hjl : j < n
                · have p5 : decide ((j : Int) < n) = true := decide_eq_true (by omega)
                  obtain ⟨x, hx⟩ : ∃ x, l[j]? = some x := ⟨_, List.getElem?_eq_getElem (by rw [HNL.out]; exact hjl)⟩
                  have HX := Lib.hid hx
                  obtain ⟨b1, o1, hbo, hc⟩ := (HROW.out W (Fr.refl _ _)).at_ hx
                  injection hbo with hbo
                  injection hbo with e1 e2 _
                  subst e1 e2
                  have hbx := hc wr HFZ.out
                  have x0 : wr.cell? ⟨b, o + j * 7, none⟩ = some (.int .i64 x.k) := hbx 0 _ rfl
                  have x3 : wr.cell? ⟨b, o + j * 7 + 3, none⟩ = some (.int .i64 x.id) := hbx 3 _ rfl
                  have HBW := Lib.hid (HB6.out.fr HFW.out id)
                  have c0 := HBW.out.cell 0
                  have c3 := HBW.out.cell 3
                  simp only [evc, List.getElem?_toArray, List.getElem?_cons_zero, List.getElem?_cons_succ] at c0 c3
                  clear hc hbx hx
                  have NEXT : Hid (usedB l e j = false → ∀ y : Nat, y < j + 1 → usedB l e y = false) := Lib.hid (fun hw y hy => by
                    by_cases hyj : y = j
                    · rw [hyj]; exact hw
                    · exact HU.out y (by omega))
                  have HUE : Hid (usedB l e j = ((x.k == e.k) && ((x.id == e.id) && rOpen l ((j : Int) + 1)))) := Lib.hid (by unfold usedB; rw [HX.out])
                  go_upto_region 21 with (fail)
                  have hnn := HN.out
                  by_cases g1 : x.k = e.k
                  · have y1 : (x.k == e.k) = true := by simp [g1]
                    have G1 := Lib.hid y1
                    clear g1
                    by_cases g2 : x.id = e.id
                    · have y2 : (x.id == e.id) = true := by simp [g2]
                      have G2 := Lib.hid y2
                      clear g2
                      refine wp_region_held_drew (S := fun (w' : World) => w'.cell? ⟨b, o + j * 7, none⟩ = some (.int .i64 x.k) ∧ w'.cell? ⟨b, o + j * 7 + 3, none⟩ = some (.int .i64 x.id) ∧ w'.cell? ⟨bb, 0, none⟩ = some (.int .i64 e.k) ∧ w'.cell? ⟨bb, 3, none⟩ = some (.int .i64 e.id)) (by kernel_rfl) ⟨x0, x3, c0, c3⟩ (fun hHeld => ?_)
                      refine wpAnyH_take (i := 0) (oi := _) (v := ?va10) rfl (by kernel_rfl) (by kernel_rfl) (by kernel_rfl) (fun _ _ _ h => h) (Or.inl ⟨by rfl, ?ya10⟩) (by assumption) ?ra10
                      case ya10 => intro w1 hSw; obtain ⟨s1, s2, s3, s4⟩ := hSw; go_simp; try with_reducible rfl
                      try simp only [List.getElem_toArray, List.getElem_cons_zero, List.getElem_cons_succ, Act.put, List.setIfInBounds_toArray, List.set_cons_zero, List.set_cons_succ]
                      refine wpAnyH_take (i := 1) (oi := _) (v := ?va11) rfl (by kernel_rfl) (by kernel_rfl) (by kernel_rfl) (fun _ _ _ h => h) (Or.inl ⟨by rfl, ?ya11⟩) (by assumption) ?ra11
                      case ya11 => intro w1 hSw; obtain ⟨s1, s2, s3, s4⟩ := hSw; go_simp; try with_reducible rfl
                      try simp only [List.getElem_toArray, List.getElem_cons_zero, List.getElem_cons_succ, Act.put, List.setIfInBounds_toArray, List.set_cons_zero, List.set_cons_succ]
                      refine wpAnyH_take (i := 2) (oi := _) (v := ?va12) rfl (by kernel_rfl) (by kernel_rfl) (by kernel_rfl) (fun _ _ _ h => h) (Or.inl ⟨by rfl, ?ya12⟩) (by assumption) ?ra12
                      case ya12 => intro w1 hSw; obtain ⟨s1, s2, s3, s4⟩ := hSw; go_simp; try with_reducible rfl
                      try simp only [List.getElem_toArray, List.getElem_cons_zero, List.getElem_cons_succ, Act.put, List.setIfInBounds_toArray, List.set_cons_zero, List.set_cons_succ]
                      refine wpAnyH_take (i := 3) (oi := _) (v := ?va13) rfl (by kernel_rfl) (by kernel_rfl) (by kernel_rfl) (fun _ _ _ h => h) (Or.inl ⟨by rfl, ?ya13⟩) (by assumption) ?ra13
                      case ya13 => intro w1 hSw; obtain ⟨s1, s2, s3, s4⟩ := hSw; go_simp; try with_reducible rfl
                      try simp only [List.getElem_toArray, List.getElem_cons_zero, List.getElem_cons_succ, Act.put, List.setIfInBounds_toArray, List.set_cons_zero, List.set_cons_succ]
                      refine wpAnyH_take (i := 4) (oi := _) (v := ?va14) rfl (by kernel_rfl) (by kernel_rfl) (by kernel_rfl) (fun _ _ _ h => h) (Or.inl ⟨by rfl, ?ya14⟩) (by assumption) ?ra14
                      case ya14 => intro w1 hSw; obtain ⟨s1, s2, s3, s4⟩ := hSw; go_simp; try with_reducible rfl
                      try simp only [List.getElem_toArray, List.getElem_cons_zero, List.getElem_cons_succ, Act.put, List.setIfInBounds_toArray, List.set_cons_zero, List.set_cons_succ]
                      refine wpAnyH_take (i := 5) (oi := _) (v := ?va15) rfl (by kernel_rfl) (by kernel_rfl) (by kernel_rfl) (fun _ _ _ h => h) (Or.inl ⟨by rfl, ?ya15⟩) (by assumption) ?ra15
                      case ya15 => intro w1 hSw; obtain ⟨s1, s2, s3, s4⟩ := hSw; go_simp; try with_reducible rfl
                      try simp only [List.getElem_toArray, List.getElem_cons_zero, List.getElem_cons_succ, Act.put, List.setIfInBounds_toArray, List.set_cons_zero, List.set_cons_succ]
                      refine wpAnyH_take (i := 6) (oi := _) (v := ?va16) rfl (by kernel_rfl) (by kernel_rfl) (by kernel_rfl) (fun _ _ _ h => h) (Or.inl ⟨by rfl, ?ya16⟩) (by assumption) ?ra16
                      case ya16 => intro w1 hSw; obtain ⟨s1, s2, s3, s4⟩ := hSw; go_simp; try with_reducible rfl
                      try simp only [List.getElem_toArray, List.getElem_cons_zero, List.getElem_cons_succ, Act.put, List.setIfInBounds_toArray, List.set_cons_zero, List.set_cons_succ]
                      refine wpAnyH_take (i := 7) (oi := _) (v := ?va17) rfl (by kernel_rfl) (by kernel_rfl) (by kernel_rfl) (fun _ _ _ h => h) (Or.inl ⟨by rfl, ?ya17⟩) (by assumption) ?ra17
                      case ya17 => intro w1 hSw; obtain ⟨s1, s2, s3, s4⟩ := hSw; go_simp; try with_reducible rfl
                      try simp only [List.getElem_toArray, List.getElem_cons_zero, List.getElem_cons_succ, Act.put, List.setIfInBounds_toArray, List.set_cons_zero, List.set_cons_succ]
                      refine wpAnyH_take (i := 8) (oi := _) (v := ?va18) rfl (by kernel_rfl) (by kernel_rfl) (by kernel_rfl) (fun _ _ _ h => h) (Or.inl ⟨by rfl, ?ya18⟩) (by assumption) ?ra18
                      case ya18 => intro w1 hSw; obtain ⟨s1, s2, s3, s4⟩ := hSw; go_simp; try with_reducible rfl
                      try simp only [List.getElem_toArray, List.getElem_cons_zero, List.getElem_cons_succ, Act.put, List.setIfInBounds_toArray, List.set_cons_zero, List.set_cons_succ]
                      refine wpAnyH_take (i := 9) (oi := _) (v := ?va19) rfl (by kernel_rfl) (by kernel_rfl) (by kernel_rfl) (fun _ _ _ h => h) (Or.inl ⟨by rfl, ?ya19⟩) (by assumption) ?ra19
                      case ya19 => intro w1 hSw; obtain ⟨s1, s2, s3, s4⟩ := hSw; go_simp; try with_reducible rfl
                      try simp only [List.getElem_toArray, List.getElem_cons_zero, List.getElem_cons_succ, Act.put, List.setIfInBounds_toArray, List.set_cons_zero, List.set_cons_succ]
                      refine wpAnyH_take (i := 10) (oi := _) (v := ?va110) rfl (by kernel_rfl) (by kernel_rfl) (by kernel_rfl) (fun _ _ _ h => h) (Or.inl ⟨by rfl, ?ya110⟩) (by assumption) ?ra110
                      case ya110 => intro w1 hSw; obtain ⟨s1, s2, s3, s4⟩ := hSw; go_simp; try with_reducible rfl
                      try simp only [List.getElem_toArray, List.getElem_cons_zero, List.getElem_cons_succ, Act.put, List.setIfInBounds_toArray, List.set_cons_zero, List.set_cons_succ]
                      refine wpAnyH_take (i := 11) (oi := _) (v := ?va111) rfl (by kernel_rfl) (by kernel_rfl) (by kernel_rfl) (fun _ _ _ h => h) (Or.inl ⟨by rfl, ?ya111⟩) (by assumption) ?ra111
                      case ya111 => intro w1 hSw; obtain ⟨s1, s2, s3, s4⟩ := hSw; go_simp; try with_reducible rfl
                      try simp only [List.getElem_toArray, List.getElem_cons_zero, List.getElem_cons_succ, Act.put, List.setIfInBounds_toArray, List.set_cons_zero, List.set_cons_succ]
                      refine wpAnyH_take (i := 12) (oi := _) (v := ?va112) rfl (by kernel_rfl) (by kernel_rfl) (by kernel_rfl) (fun _ _ _ h => h) (Or.inl ⟨by rfl, ?ya112⟩) (by assumption) ?ra112
                      case ya112 => intro w1 hSw; obtain ⟨s1, s2, s3, s4⟩ := hSw; go_simp; try with_reducible rfl
                      try simp only [List.getElem_toArray, List.getElem_cons_zero, List.getElem_cons_succ, Act.put, List.setIfInBounds_toArray, List.set_cons_zero, List.set_cons_succ]
                      refine wpAnyH_take (i := 13) (oi := _) (v := ?va113) rfl (by kernel_rfl) (by kernel_rfl) (by kernel_rfl) (fun _ _ _ h => h) (Or.inl ⟨by rfl, ?ya113⟩) (by assumption) ?ra113
                      case ya113 => intro w1 hSw; obtain ⟨s1, s2, s3, s4⟩ := hSw; go_simp; try with_reducible rfl
                      try simp only [List.getElem_toArray, List.getElem_cons_zero, List.getElem_cons_succ, Act.put, List.setIfInBounds_toArray, List.set_cons_zero, List.set_cons_succ]
                      refine wpAnyH_take (i := 14) (oi := _) (v := ?va114) rfl (by kernel_rfl) (by kernel_rfl) (by kernel_rfl) (fun _ _ _ h => h) (Or.inl ⟨by rfl, ?ya114⟩) (by assumption) ?ra114
                      case ya114 => intro w1 hSw; obtain ⟨s1, s2, s3, s4⟩ := hSw; go_simp; try with_reducible rfl
                      try simp only [List.getElem_toArray, List.getElem_cons_zero, List.getElem_cons_succ, Act.put, List.setIfInBounds_toArray, List.set_cons_zero, List.set_cons_succ]
                      refine wpAnyH_take (i := 15) (oi := _) (v := ?va115) rfl (by kernel_rfl) (by kernel_rfl) (by kernel_rfl) (fun _ _ _ h => h) (Or.inl ⟨by rfl, ?ya115⟩) (by assumption) ?ra115
                      case ya115 => intro w1 hSw; obtain ⟨s1, s2, s3, s4⟩ := hSw; go_simp; try with_reducible rfl
                      try simp only [List.getElem_toArray, List.getElem_cons_zero, List.getElem_cons_succ, Act.put, List.setIfInBounds_toArray, List.set_cons_zero, List.set_cons_succ]
                      refine wpAnyH_take (i := 16) (oi := _) (v := ?va116) rfl (by kernel_rfl) (by kernel_rfl) (by kernel_rfl) (fun _ _ _ h => h) (Or.inl ⟨by rfl, ?ya116⟩) (by assumption) ?ra116
                      case ya116 => intro w1 hSw; obtain ⟨s1, s2, s3, s4⟩ := hSw; go_simp; try with_reducible rfl
                      try simp only [List.getElem_toArray, List.getElem_cons_zero, List.getElem_cons_succ, Act.put, List.setIfInBounds_toArray, List.set_cons_zero, List.set_cons_succ]
                      refine wpAnyH_take (i := 17) (oi := _) (v := ?va117) rfl (by kernel_rfl) (by kernel_rfl) (by kernel_rfl) (fun _ _ _ h => h) (Or.inl ⟨by rfl, ?ya117⟩) (by assumption) ?ra117
                      case ya117 => intro w1 hSw; obtain ⟨s1, s2, s3, s4⟩ := hSw; go_simp; try with_reducible rfl
                      try simp only [List.getElem_toArray, List.getElem_cons_zero, List.getElem_cons_succ, Act.put, List.setIfInBounds_toArray, List.set_cons_zero, List.set_cons_succ]
                      refine wpAnyH_take (i := 18) (oi := _) (v := ?va118) rfl (by kernel_rfl) (by kernel_rfl) (by kernel_rfl) (fun _ _ _ h => h) (Or.inl ⟨by rfl, ?ya118⟩) (by assumption) ?ra118
                      case ya118 => intro w1 hSw; obtain ⟨s1, s2, s3, s4⟩ := hSw; go_simp; try with_reducible rfl
                      try simp only [List.getElem_toArray, List.getElem_cons_zero, List.getElem_cons_succ, Act.put, List.setIfInBounds_toArray, List.set_cons_zero, List.set_cons_succ]
                      obtain ⟨op, hop⟩ : ∃ z, rOpen l ((j : Int) + 1) = z := ⟨_, rfl⟩
                      have HOJ := Lib.hid (HOP.out wr.drew (HFZ.out.trans (Fr.drewN _ wr 1)) ((j : Int) + 1))
                      rw [hop] at HOJ
                      have HOPE := Lib.hid hop
                      clear hop
                      have hnn := HN.out
                      refine wpAnyH_take (i := 19) (oi := _) (v := ?vb119) rfl (by kernel_rfl) (by kernel_rfl) (by kernel_rfl) (fun _ _ _ h => h) (Or.inl ⟨by rfl, ?yb119⟩) (by assumption) ?rb119
                      case yb119 => intro w1 hSw; obtain ⟨s1, s2, s3, s4⟩ := hSw; go_simp; try with_reducible rfl
                      try simp only [List.getElem_toArray, List.getElem_cons_zero, List.getElem_cons_succ, Act.put, List.setIfInBounds_toArray, List.set_cons_zero, List.set_cons_succ]
                      refine wpAnyH_take (i := 20) (oi := _) (v := ?vb120) rfl (by kernel_rfl) (by kernel_rfl) (by kernel_rfl) (fun _ _ _ h => h) (Or.inl ⟨by rfl, ?yb120⟩) (by assumption) ?rb120
                      case yb120 => intro w1 hSw; obtain ⟨s1, s2, s3, s4⟩ := hSw; go_simp; try with_reducible rfl
                      try simp only [List.getElem_toArray, List.getElem_cons_zero, List.getElem_cons_succ, Act.put, List.setIfInBounds_toArray, List.set_cons_zero, List.set_cons_succ]
                      refine wpAnyH_take (i := 21) (oi := _) (v := ?vb121) rfl (by kernel_rfl) (by kernel_rfl) (by kernel_rfl) (fun _ _ _ h => h) (Or.inl ⟨by rfl, ?yb121⟩) (by assumption) ?rb121
                      case yb121 => intro w1 hSw; obtain ⟨s1, s2, s3, s4⟩ := hSw; go_simp; try with_reducible rfl
                      try simp only [List.getElem_toArray, List.getElem_cons_zero, List.getElem_cons_succ, Act.put, List.setIfInBounds_toArray, List.set_cons_zero, List.set_cons_succ]
                      refine wpAnyH_ready (rs := [22]) (by kernel_rfl) (by simp) ?_
                      refine AllReadyH.cons (o := _) rfl (fun K hK => ?_) AllReadyH.nil
                      rw [if_pos (by rfl)]
                      try simp only [List.getElem_toArray, List.getElem_cons_zero, List.getElem_cons_succ]
                      go_simp
                      rw [wrap_succI j (by omega)]
                      refine HOJ.out.mono ?_
                      rintro r7 w7 ⟨rfl, hf7⟩
                      have HF7 := Lib.hid ((HFZ.out.trans (Fr.drewN _ wr 1)).trans hf7)
                      have HF7w := Lib.hid ((HFW.out.trans (Fr.drewN _ wr 1)).trans hf7)
                      have hx7 := (HROW.out W (Fr.refl _ _)).at_ HX.out
                      obtain ⟨b1, o1, hbo, hc7⟩ := hx7
                      injection hbo with hbo
                      injection hbo with e1 e2 _
                      subst e1 e2
                      have hb7 := HB6.out.fr HF7w.out id
                      refine hK.out _ _ ⟨hc7 w7 HF7.out 0 _ rfl, hc7 w7 HF7.out 3 _ rfl, hb7.cell 0, hb7.cell 3⟩ (fun hHeld2 => ?_)
                      clear hK K hHeld hc7 hb7
                      try simp only [List.getElem_toArray, List.getElem_cons_zero, List.getElem_cons_succ, Act.put, List.setIfInBounds_toArray, List.set_cons_zero, List.set_cons_succ]
                      have hHeld := hHeld2
                      clear hHeld2
                      refine wpAnyH_take (i := 23) (oi := _) (v := ?vc123) rfl (by kernel_rfl) (by kernel_rfl) (by kernel_rfl) (fun _ _ _ h => h) (Or.inl ⟨by rfl, ?yc123⟩) (by assumption) ?rc123
                      case yc123 => intro w1 hSw; obtain ⟨s1, s2, s3, s4⟩ := hSw; go_simp; try with_reducible rfl
                      try simp only [List.getElem_toArray, List.getElem_cons_zero, List.getElem_cons_succ, Act.put, List.setIfInBounds_toArray, List.set_cons_zero, List.set_cons_succ]
                      cases op with
                      | true =>
                        have HUS := Lib.hid (used_yes (l := l) (e := e) (i := j) (by have := HNL.out; omega) (by rw [HUE.out, G1.out, G2.out, HOPE.out]; rfl))
                        refine wpAnyH_done (by kernel_rfl) ?_ _
                        clear hHeld
                        have HC : Hid (rWhyC l e = 7) := Lib.hid (by unfold rWhyC; rw [if_neg N1.out, if_neg N2.out, if_neg N3.out, if_neg N4.out, if_neg N5.out, if_neg N6.out, if_pos ⟨by have := HK.out; omega, HUS.out⟩])
                        go_wp2
                        go_ret
                        exact ⟨by rw [← HR.out, HC.out]; rfl, HF7.out⟩
                      | false =>
                        have HW := Lib.hid (NEXT.out (by rw [HUE.out, G1.out, G2.out, HOPE.out]; rfl))
                        refine wpAnyH_done (by kernel_rfl) ?_ _
                        clear hHeld
                        go_wp2
                        go_roundw
                        case rel => exact ⟨j + 1, by omega, by go_num, HW.out, HF7w.out⟩
                        case measure => simp [intOf]; omega
                    · have y2 : (x.id == e.id) = false := by simp [g2]
                      have HW := Lib.hid (NEXT.out (by rw [HUE.out, G1.out, y2]; rfl))
                      clear g2
                      go_quiet (fail)
                      have HFQ := Lib.hid (HFW.out.trans (Fr.drewN (fun _ => False) wr nq))
                      go_wp2
                      go_roundw
                      case rel => exact ⟨j + 1, by omega, by go_num, HW.out, HFQ.out⟩
                      case measure => simp [intOf]; omega
                  · have y1 : (x.k == e.k) = false := by simp [g1]
                    have HW := Lib.hid (NEXT.out (by rw [HUE.out, y1]; rfl))
                    clear g1
                    go_quiet (fail)
                    have HFQ := Lib.hid (HFW.out.trans (Fr.drewN (fun _ => False) wr nq))
                    go_wp2
                    go_roundw
                    case rel => exact ⟨j + 1, by omega, by go_num, HW.out, HFQ.out⟩
                    case measure => simp [intOf]; omega
                · obtain rfl : j = n := by omega
                  have p5 : decide ((j : Int) < j) = false := decide_eq_false (by omega)
                  have HNO := Lib.hid (used_no (l := l) (e := e) (fun y hy => HU.out y (by have := HNL.out; omega)))
                  have HC : Hid (rWhyC l e = 0) := Lib.hid (by unfold rWhyC; rw [if_neg N1.out, if_neg N2.out, if_neg N3.out, if_neg N4.out, if_neg N5.out, if_neg N6.out, if_neg (fun h => by rw [HNO.out] at h; exact absurd h.2 (by decide))])
                  go_wp2
                  go_ret
                  exact ⟨by rw [← HR.out, HC.out]; rfl, HFZ.out⟩
            have r12 : (e.k == 12) = false := by simp [h12]
            by_cases h17 : e.k = 17
            · have HK := Lib.hid h17
              clear h17
              have r17 : (e.k == 17) = true := by rw [HK.out]; rfl
              go_wp2_with fail
              go_loopw [8] (fun iv wr => ∃ j : Nat, j ≤ n ∧ iv = .int .i64 j ∧ (∀ x : Nat, x < j → usedB l e x = false) ∧ Fr (fun _ => False) w6 wr) (fun iv _ => n - (intOf iv).toNat)
              case atStart => exact ⟨0, Nat.zero_le _, rfl, fun x hx => by omega, Fr.refl _ _⟩
              case round =>
                obtain ⟨j, hj, rfl, hu, hfz⟩ := hrel
                have HU := Lib.hid hu
                have HFW := Lib.hid hfz
                have HFZ := Lib.hid (HF6.out.trans hfz)
                clear hu hfz
                by_cases hjl : j < n
                · have p5 : decide ((j : Int) < n) = true := decide_eq_true (by omega)
                  obtain ⟨x, hx⟩ : ∃ x, l[j]? = some x := ⟨_, List.getElem?_eq_getElem (by rw [HNL.out]; exact hjl)⟩
                  have HX := Lib.hid hx
                  obtain ⟨b1, o1, hbo, hc⟩ := (HROW.out W (Fr.refl _ _)).at_ hx
                  injection hbo with hbo
                  injection hbo with e1 e2 _
                  subst e1 e2
                  have hbx := hc wr HFZ.out
                  have x0 : wr.cell? ⟨b, o + j * 7, none⟩ = some (.int .i64 x.k) := hbx 0 _ rfl
                  have x3 : wr.cell? ⟨b, o + j * 7 + 3, none⟩ = some (.int .i64 x.id) := hbx 3 _ rfl
                  have HBW := Lib.hid (HB6.out.fr HFW.out id)
                  have c0 := HBW.out.cell 0
                  have c3 := HBW.out.cell 3
                  simp only [evc, List.getElem?_toArray, List.getElem?_cons_zero, List.getElem?_cons_succ] at c0 c3
                  clear hc hbx hx
                  have NEXT : Hid (usedB l e j = false → ∀ y : Nat, y < j + 1 → usedB l e y = false) := Lib.hid (fun hw y hy => by
                    by_cases hyj : y = j
                    · rw [hyj]; exact hw
                    · exact HU.out y (by omega))
                  have HUE : Hid (usedB l e j = ((x.k == e.k) && ((x.id == e.id) && rOpen l ((j : Int) + 1)))) := Lib.hid (by unfold usedB; rw [HX.out])
                  go_upto_region 21 with (fail)
                  have hnn := HN.out
                  by_cases g1 : x.k = e.k
                  · have y1 : (x.k == e.k) = true := by simp [g1]
                    have G1 := Lib.hid y1
                    clear g1
                    by_cases g2 : x.id = e.id
                    · have y2 : (x.id == e.id) = true := by simp [g2]
                      have G2 := Lib.hid y2
                      clear g2
                      refine wp_region_held_drew (S := fun (w' : World) => w'.cell? ⟨b, o + j * 7, none⟩ = some (.int .i64 x.k) ∧ w'.cell? ⟨b, o + j * 7 + 3, none⟩ = some (.int .i64 x.id) ∧ w'.cell? ⟨bb, 0, none⟩ = some (.int .i64 e.k) ∧ w'.cell? ⟨bb, 3, none⟩ = some (.int .i64 e.id)) (by kernel_rfl) ⟨x0, x3, c0, c3⟩ (fun hHeld => ?_)
                      refine wpAnyH_take (i := 0) (oi := _) (v := ?va20) rfl (by kernel_rfl) (by kernel_rfl) (by kernel_rfl) (fun _ _ _ h => h) (Or.inl ⟨by rfl, ?ya20⟩) (by assumption) ?ra20
                      case ya20 => intro w1 hSw; obtain ⟨s1, s2, s3, s4⟩ := hSw; go_simp; try with_reducible rfl
                      try simp only [List.getElem_toArray, List.getElem_cons_zero, List.getElem_cons_succ, Act.put, List.setIfInBounds_toArray, List.set_cons_zero, List.set_cons_succ]
                      refine wpAnyH_take (i := 1) (oi := _) (v := ?va21) rfl (by kernel_rfl) (by kernel_rfl) (by kernel_rfl) (fun _ _ _ h => h) (Or.inl ⟨by rfl, ?ya21⟩) (by assumption) ?ra21
                      case ya21 => intro w1 hSw; obtain ⟨s1, s2, s3, s4⟩ := hSw; go_simp; try with_reducible rfl
                      try simp only [List.getElem_toArray, List.getElem_cons_zero, List.getElem_cons_succ, Act.put, List.setIfInBounds_toArray, List.set_cons_zero, List.set_cons_succ]
                      refine wpAnyH_take (i := 2) (oi := _) (v := ?va22) rfl (by kernel_rfl) (by kernel_rfl) (by kernel_rfl) (fun _ _ _ h => h) (Or.inl ⟨by rfl, ?ya22⟩) (by assumption) ?ra22
                      case ya22 => intro w1 hSw; obtain ⟨s1, s2, s3, s4⟩ := hSw; go_simp; try with_reducible rfl
                      try simp only [List.getElem_toArray, List.getElem_cons_zero, List.getElem_cons_succ, Act.put, List.setIfInBounds_toArray, List.set_cons_zero, List.set_cons_succ]
                      refine wpAnyH_take (i := 3) (oi := _) (v := ?va23) rfl (by kernel_rfl) (by kernel_rfl) (by kernel_rfl) (fun _ _ _ h => h) (Or.inl ⟨by rfl, ?ya23⟩) (by assumption) ?ra23
                      case ya23 => intro w1 hSw; obtain ⟨s1, s2, s3, s4⟩ := hSw; go_simp; try with_reducible rfl
                      try simp only [List.getElem_toArray, List.getElem_cons_zero, List.getElem_cons_succ, Act.put, List.setIfInBounds_toArray, List.set_cons_zero, List.set_cons_succ]
                      refine wpAnyH_take (i := 4) (oi := _) (v := ?va24) rfl (by kernel_rfl) (by kernel_rfl) (by kernel_rfl) (fun _ _ _ h => h) (Or.inl ⟨by rfl, ?ya24⟩) (by assumption) ?ra24
                      case ya24 => intro w1 hSw; obtain ⟨s1, s2, s3, s4⟩ := hSw; go_simp; try with_reducible rfl
                      try simp only [List.getElem_toArray, List.getElem_cons_zero, List.getElem_cons_succ, Act.put, List.setIfInBounds_toArray, List.set_cons_zero, List.set_cons_succ]
                      refine wpAnyH_take (i := 5) (oi := _) (v := ?va25) rfl (by kernel_rfl) (by kernel_rfl) (by kernel_rfl) (fun _ _ _ h => h) (Or.inl ⟨by rfl, ?ya25⟩) (by assumption) ?ra25
                      case ya25 => intro w1 hSw; obtain ⟨s1, s2, s3, s4⟩ := hSw; go_simp; try with_reducible rfl
                      try simp only [List.getElem_toArray, List.getElem_cons_zero, List.getElem_cons_succ, Act.put, List.setIfInBounds_toArray, List.set_cons_zero, List.set_cons_succ]
                      refine wpAnyH_take (i := 6) (oi := _) (v := ?va26) rfl (by kernel_rfl) (by kernel_rfl) (by kernel_rfl) (fun _ _ _ h => h) (Or.inl ⟨by rfl, ?ya26⟩) (by assumption) ?ra26
                      case ya26 => intro w1 hSw; obtain ⟨s1, s2, s3, s4⟩ := hSw; go_simp; try with_reducible rfl
                      try simp only [List.getElem_toArray, List.getElem_cons_zero, List.getElem_cons_succ, Act.put, List.setIfInBounds_toArray, List.set_cons_zero, List.set_cons_succ]
                      refine wpAnyH_take (i := 7) (oi := _) (v := ?va27) rfl (by kernel_rfl) (by kernel_rfl) (by kernel_rfl) (fun _ _ _ h => h) (Or.inl ⟨by rfl, ?ya27⟩) (by assumption) ?ra27
                      case ya27 => intro w1 hSw; obtain ⟨s1, s2, s3, s4⟩ := hSw; go_simp; try with_reducible rfl
                      try simp only [List.getElem_toArray, List.getElem_cons_zero, List.getElem_cons_succ, Act.put, List.setIfInBounds_toArray, List.set_cons_zero, List.set_cons_succ]
                      refine wpAnyH_take (i := 8) (oi := _) (v := ?va28) rfl (by kernel_rfl) (by kernel_rfl) (by kernel_rfl) (fun _ _ _ h => h) (Or.inl ⟨by rfl, ?ya28⟩) (by assumption) ?ra28
                      case ya28 => intro w1 hSw; obtain ⟨s1, s2, s3, s4⟩ := hSw; go_simp; try with_reducible rfl
                      try simp only [List.getElem_toArray, List.getElem_cons_zero, List.getElem_cons_succ, Act.put, List.setIfInBounds_toArray, List.set_cons_zero, List.set_cons_succ]
                      refine wpAnyH_take (i := 9) (oi := _) (v := ?va29) rfl (by kernel_rfl) (by kernel_rfl) (by kernel_rfl) (fun _ _ _ h => h) (Or.inl ⟨by rfl, ?ya29⟩) (by assumption) ?ra29
                      case ya29 => intro w1 hSw; obtain ⟨s1, s2, s3, s4⟩ := hSw; go_simp; try with_reducible rfl
                      try simp only [List.getElem_toArray, List.getElem_cons_zero, List.getElem_cons_succ, Act.put, List.setIfInBounds_toArray, List.set_cons_zero, List.set_cons_succ]
                      refine wpAnyH_take (i := 10) (oi := _) (v := ?va210) rfl (by kernel_rfl) (by kernel_rfl) (by kernel_rfl) (fun _ _ _ h => h) (Or.inl ⟨by rfl, ?ya210⟩) (by assumption) ?ra210
                      case ya210 => intro w1 hSw; obtain ⟨s1, s2, s3, s4⟩ := hSw; go_simp; try with_reducible rfl
                      try simp only [List.getElem_toArray, List.getElem_cons_zero, List.getElem_cons_succ, Act.put, List.setIfInBounds_toArray, List.set_cons_zero, List.set_cons_succ]
                      refine wpAnyH_take (i := 11) (oi := _) (v := ?va211) rfl (by kernel_rfl) (by kernel_rfl) (by kernel_rfl) (fun _ _ _ h => h) (Or.inl ⟨by rfl, ?ya211⟩) (by assumption) ?ra211
                      case ya211 => intro w1 hSw; obtain ⟨s1, s2, s3, s4⟩ := hSw; go_simp; try with_reducible rfl
                      try simp only [List.getElem_toArray, List.getElem_cons_zero, List.getElem_cons_succ, Act.put, List.setIfInBounds_toArray, List.set_cons_zero, List.set_cons_succ]
                      refine wpAnyH_take (i := 12) (oi := _) (v := ?va212) rfl (by kernel_rfl) (by kernel_rfl) (by kernel_rfl) (fun _ _ _ h => h) (Or.inl ⟨by rfl, ?ya212⟩) (by assumption) ?ra212
                      case ya212 => intro w1 hSw; obtain ⟨s1, s2, s3, s4⟩ := hSw; go_simp; try with_reducible rfl
                      try simp only [List.getElem_toArray, List.getElem_cons_zero, List.getElem_cons_succ, Act.put, List.setIfInBounds_toArray, List.set_cons_zero, List.set_cons_succ]
                      refine wpAnyH_take (i := 13) (oi := _) (v := ?va213) rfl (by kernel_rfl) (by kernel_rfl) (by kernel_rfl) (fun _ _ _ h => h) (Or.inl ⟨by rfl, ?ya213⟩) (by assumption) ?ra213
                      case ya213 => intro w1 hSw; obtain ⟨s1, s2, s3, s4⟩ := hSw; go_simp; try with_reducible rfl
                      try simp only [List.getElem_toArray, List.getElem_cons_zero, List.getElem_cons_succ, Act.put, List.setIfInBounds_toArray, List.set_cons_zero, List.set_cons_succ]
                      refine wpAnyH_take (i := 14) (oi := _) (v := ?va214) rfl (by kernel_rfl) (by kernel_rfl) (by kernel_rfl) (fun _ _ _ h => h) (Or.inl ⟨by rfl, ?ya214⟩) (by assumption) ?ra214
                      case ya214 => intro w1 hSw; obtain ⟨s1, s2, s3, s4⟩ := hSw; go_simp; try with_reducible rfl
                      try simp only [List.getElem_toArray, List.getElem_cons_zero, List.getElem_cons_succ, Act.put, List.setIfInBounds_toArray, List.set_cons_zero, List.set_cons_succ]
                      refine wpAnyH_take (i := 15) (oi := _) (v := ?va215) rfl (by kernel_rfl) (by kernel_rfl) (by kernel_rfl) (fun _ _ _ h => h) (Or.inl ⟨by rfl, ?ya215⟩) (by assumption) ?ra215
                      case ya215 => intro w1 hSw; obtain ⟨s1, s2, s3, s4⟩ := hSw; go_simp; try with_reducible rfl
                      try simp only [List.getElem_toArray, List.getElem_cons_zero, List.getElem_cons_succ, Act.put, List.setIfInBounds_toArray, List.set_cons_zero, List.set_cons_succ]
                      refine wpAnyH_take (i := 16) (oi := _) (v := ?va216) rfl (by kernel_rfl) (by kernel_rfl) (by kernel_rfl) (fun _ _ _ h => h) (Or.inl ⟨by rfl, ?ya216⟩) (by assumption) ?ra216
                      case ya216 => intro w1 hSw; obtain ⟨s1, s2, s3, s4⟩ := hSw; go_simp; try with_reducible rfl
                      try simp only [List.getElem_toArray, List.getElem_cons_zero, List.getElem_cons_succ, Act.put, List.setIfInBounds_toArray, List.set_cons_zero, List.set_cons_succ]
                      refine wpAnyH_take (i := 17) (oi := _) (v := ?va217) rfl (by kernel_rfl) (by kernel_rfl) (by kernel_rfl) (fun _ _ _ h => h) (Or.inl ⟨by rfl, ?ya217⟩) (by assumption) ?ra217
                      case ya217 => intro w1 hSw; obtain ⟨s1, s2, s3, s4⟩ := hSw; go_simp; try with_reducible rfl
                      try simp only [List.getElem_toArray, List.getElem_cons_zero, List.getElem_cons_succ, Act.put, List.setIfInBounds_toArray, List.set_cons_zero, List.set_cons_succ]
                      refine wpAnyH_take (i := 18) (oi := _) (v := ?va218) rfl (by kernel_rfl) (by kernel_rfl) (by kernel_rfl) (fun _ _ _ h => h) (Or.inl ⟨by rfl, ?ya218⟩) (by assumption) ?ra218
                      case ya218 => intro w1 hSw; obtain ⟨s1, s2, s3, s4⟩ := hSw; go_simp; try with_reducible rfl
                      try simp only [List.getElem_toArray, List.getElem_cons_zero, List.getElem_cons_succ, Act.put, List.setIfInBounds_toArray, List.set_cons_zero, List.set_cons_succ]
                      obtain ⟨op, hop⟩ : ∃ z, rOpen l ((j : Int) + 1) = z := ⟨_, rfl⟩
                      have HOJ := Lib.hid (HOP.out wr.drew (HFZ.out.trans (Fr.drewN _ wr 1)) ((j : Int) + 1))
                      rw [hop] at HOJ
                      have HOPE := Lib.hid hop
                      clear hop
                      have hnn := HN.out
                      refine wpAnyH_take (i := 19) (oi := _) (v := ?vb219) rfl (by kernel_rfl) (by kernel_rfl) (by kernel_rfl) (fun _ _ _ h => h) (Or.inl ⟨by rfl, ?yb219⟩) (by assumption) ?rb219
                      case yb219 => intro w1 hSw; obtain ⟨s1, s2, s3, s4⟩ := hSw; go_simp; try with_reducible rfl
                      try simp only [List.getElem_toArray, List.getElem_cons_zero, List.getElem_cons_succ, Act.put, List.setIfInBounds_toArray, List.set_cons_zero, List.set_cons_succ]
                      refine wpAnyH_take (i := 20) (oi := _) (v := ?vb220) rfl (by kernel_rfl) (by kernel_rfl) (by kernel_rfl) (fun _ _ _ h => h) (Or.inl ⟨by rfl, ?yb220⟩) (by assumption) ?rb220
                      case yb220 => intro w1 hSw; obtain ⟨s1, s2, s3, s4⟩ := hSw; go_simp; try with_reducible rfl
                      try simp only [List.getElem_toArray, List.getElem_cons_zero, List.getElem_cons_succ, Act.put, List.setIfInBounds_toArray, List.set_cons_zero, List.set_cons_succ]
                      refine wpAnyH_take (i := 21) (oi := _) (v := ?vb221) rfl (by kernel_rfl) (by kernel_rfl) (by kernel_rfl) (fun _ _ _ h => h) (Or.inl ⟨by rfl, ?yb221⟩) (by assumption) ?rb221
                      case yb221 => intro w1 hSw; obtain ⟨s1, s2, s3, s4⟩ := hSw; go_simp; try with_reducible rfl
                      try simp only [List.getElem_toArray, List.getElem_cons_zero, List.getElem_cons_succ, Act.put, List.setIfInBounds_toArray, List.set_cons_zero, List.set_cons_succ]
                      refine wpAnyH_ready (rs := [22]) (by kernel_rfl) (by simp) ?_
                      refine AllReadyH.cons (o := _) rfl (fun K hK => ?_) AllReadyH.nil
                      rw [if_pos (by rfl)]
                      try simp only [List.getElem_toArray, List.getElem_cons_zero, List.getElem_cons_succ]
                      go_simp
                      rw [wrap_succI j (by omega)]
                      refine HOJ.out.mono ?_
                      rintro r7 w7 ⟨rfl, hf7⟩
                      have HF7 := Lib.hid ((HFZ.out.trans (Fr.drewN _ wr 1)).trans hf7)
                      have HF7w := Lib.hid ((HFW.out.trans (Fr.drewN _ wr 1)).trans hf7)
                      have hx7 := (HROW.out W (Fr.refl _ _)).at_ HX.out
                      obtain ⟨b1, o1, hbo, hc7⟩ := hx7
                      injection hbo with hbo
                      injection hbo with e1 e2 _
                      subst e1 e2
                      have hb7 := HB6.out.fr HF7w.out id
                      refine hK.out _ _ ⟨hc7 w7 HF7.out 0 _ rfl, hc7 w7 HF7.out 3 _ rfl, hb7.cell 0, hb7.cell 3⟩ (fun hHeld2 => ?_)
                      clear hK K hHeld hc7 hb7
                      try simp only [List.getElem_toArray, List.getElem_cons_zero, List.getElem_cons_succ, Act.put, List.setIfInBounds_toArray, List.set_cons_zero, List.set_cons_succ]
                      have hHeld := hHeld2
                      clear hHeld2
                      refine wpAnyH_take (i := 23) (oi := _) (v := ?vc223) rfl (by kernel_rfl) (by kernel_rfl) (by kernel_rfl) (fun _ _ _ h => h) (Or.inl ⟨by rfl, ?yc223⟩) (by assumption) ?rc223
                      case yc223 => intro w1 hSw; obtain ⟨s1, s2, s3, s4⟩ := hSw; go_simp; try with_reducible rfl
                      try simp only [List.getElem_toArray, List.getElem_cons_zero, List.getElem_cons_succ, Act.put, List.setIfInBounds_toArray, List.set_cons_zero, List.set_cons_succ]
                      cases op with
                      | true =>
                        have HUS := Lib.hid (used_yes (l := l) (e := e) (i := j) (by have := HNL.out; omega) (by rw [HUE.out, G1.out, G2.out, HOPE.out]; rfl))
                        refine wpAnyH_done (by kernel_rfl) ?_ _
                        clear hHeld
                        have HC : Hid (rWhyC l e = 7) := Lib.hid (by unfold rWhyC; rw [if_neg N1.out, if_neg N2.out, if_neg N3.out, if_neg N4.out, if_neg N5.out, if_neg N6.out, if_pos ⟨by have := HK.out; omega, HUS.out⟩])
                        go_wp2
                        go_ret
                        exact ⟨by rw [← HR.out, HC.out]; rfl, HF7.out⟩
                      | false =>
                        have HW := Lib.hid (NEXT.out (by rw [HUE.out, G1.out, G2.out, HOPE.out]; rfl))
                        refine wpAnyH_done (by kernel_rfl) ?_ _
                        clear hHeld
                        go_wp2
                        go_roundw
                        case rel => exact ⟨j + 1, by omega, by go_num, HW.out, HF7w.out⟩
                        case measure => simp [intOf]; omega
                    · have y2 : (x.id == e.id) = false := by simp [g2]
                      have HW := Lib.hid (NEXT.out (by rw [HUE.out, G1.out, y2]; rfl))
                      clear g2
                      go_quiet (fail)
                      have HFQ := Lib.hid (HFW.out.trans (Fr.drewN (fun _ => False) wr nq))
                      go_wp2
                      go_roundw
                      case rel => exact ⟨j + 1, by omega, by go_num, HW.out, HFQ.out⟩
                      case measure => simp [intOf]; omega
                  · have y1 : (x.k == e.k) = false := by simp [g1]
                    have HW := Lib.hid (NEXT.out (by rw [HUE.out, y1]; rfl))
                    clear g1
                    go_quiet (fail)
                    have HFQ := Lib.hid (HFW.out.trans (Fr.drewN (fun _ => False) wr nq))
                    go_wp2
                    go_roundw
                    case rel => exact ⟨j + 1, by omega, by go_num, HW.out, HFQ.out⟩
                    case measure => simp [intOf]; omega
                · obtain rfl : j = n := by omega
                  have p5 : decide ((j : Int) < j) = false := decide_eq_false (by omega)
                  have HNO := Lib.hid (used_no (l := l) (e := e) (fun y hy => HU.out y (by have := HNL.out; omega)))
                  have HC : Hid (rWhyC l e = 0) := Lib.hid (by unfold rWhyC; rw [if_neg N1.out, if_neg N2.out, if_neg N3.out, if_neg N4.out, if_neg N5.out, if_neg N6.out, if_neg (fun h => by rw [HNO.out] at h; exact absurd h.2 (by decide))])
                  go_wp2
                  go_ret
                  exact ⟨by rw [← HR.out, HC.out]; rfl, HFZ.out⟩
            have r17 : (e.k == 17) = false := by simp [h17]
            have HC : Hid (rWhyC l e = 0) := Lib.hid (by unfold rWhyC; rw [if_neg N1.out, if_neg N2.out, if_neg N3.out, if_neg N4.out, if_neg N5.out, if_neg N6.out, if_neg (fun h => by omega)])
            go_wp2
            go_ret
            exact ⟨by rw [← HR.out, HC.out]; rfl, HF6.out⟩
  · have q0 : decide (0 < n) = false := decide_eq_false hpos
    have N2 : Hid (¬ (0 < l.length ∧ e.at_ < lastAt l)) := Lib.hid (by rw [HNL.out]; exact fun h => hpos h.1)
    go_quiet (fail)
    have hf3 : Fr (fun _ => False) w2 (w2.drewN nq) := Fr.drewN _ w2 nq
    obtain ⟨w3, hw3⟩ : ∃ w, w2.drewN nq = w := ⟨_, rfl⟩
    rw [hw3] at hf3 ⊢
    have HF3 := Lib.hid (HF2.out.trans hf3)
    have HB3 := Lib.hid (HB2.out.fr hf3 id)
    clear hf3 hw3 HF2 HB2 c0 c1 c2 c3 c4 c5 c6
    have c0 := HB3.out.cell 0
    have c1 := HB3.out.cell 1
    have c2 := HB3.out.cell 2
    have c3 := HB3.out.cell 3
    have c4 := HB3.out.cell 4
    have c5 := HB3.out.cell 5
    have c6 := HB3.out.cell 6
    simp only [evc, List.getElem?_toArray, List.getElem?_cons_zero, List.getElem?_cons_succ] at c0 c1 c2 c3 c4 c5 c6
    have hn0 : n = 0 := by omega
    have HN0 := Lib.hid hn0
    clear hn0 hpos q0
    obtain ⟨bn, hbn⟩ : ∃ b, ((n : Int) == 0) = b := ⟨_, rfl⟩
    obtain ⟨bk, hbk⟩ : ∃ b, (e.k == 1) = b := ⟨_, rfl⟩
    have HBN := Lib.hid hbn
    have HBK := Lib.hid hbk
    go_upto_region 5 with (fail)
    cases h3 : (bn == bk) with
    | false =>
      have HC : Hid (rWhyC l e = 3) := Lib.hid (by unfold rWhyC; rw [if_neg N1.out, if_neg N2.out, if_pos (by rw [HNL.out, HBN.out, HBK.out]; exact h3)])
      go_wp2
      go_ret
      exact ⟨by rw [← HR.out, HC.out]; rfl, HF3.out⟩
    | true =>
      have N3 : Hid (¬ (((l.length : Int) == 0) == (e.k == 1)) = false) := Lib.hid (by rw [HNL.out, HBN.out, HBK.out, h3]; decide)
      have HK1 : Hid (e.k = 1) := Lib.hid (by have h1 := HBN.out; have h2 := HBK.out; rw [← h1, ← h2] at h3; simpa [HN0.out] using h3)
      go_upto_region 7 with (fail)
      clear hbn hbk h3 c0 c1 c2 c3 c4 c5 c6 HBN HBK
      go_wp2_with fail
      go_loopw [5] (fun iv wr => ∃ i : Nat, i ≤ n ∧ iv = .int .i64 i ∧ (∀ (j : Nat) (x : Ev), j < i → l[j]? = some x → closeB x.k = false) ∧ Fr (fun _ => False) w3 wr) (fun iv _ => n - (intOf iv).toNat)
      case atStart => exact ⟨0, Nat.zero_le _, rfl, fun j x hj => by omega, Fr.refl _ _⟩
      case round =>
        obtain ⟨i, hi, rfl, hb, hf⟩ := hrel
        have HBF := Lib.hid hb
        have HF4w := Lib.hid hf
        have HF4 := Lib.hid (HF3.out.trans hf)
        clear hb hf
        have hnn := HN.out
        by_cases hlt : i < n
        · exact absurd hlt (by have := HN0.out; omega)
        · have hin : n = i := by omega
          subst hin
          have p0 : decide ((n : Int) < n) = false := decide_eq_false (by omega)
          have N4 : Hid (¬ (l.any fun y => closeB y.k) = true) := Lib.hid (by rw [any_no (fun j x hj => HBF.out j x (by have := (List.getElem?_eq_some_iff.1 hj).1; have := HNL.out; omega) hj)]; decide)
          have HB4 := Lib.hid (HB3.out.fr HF4w.out id)
          clear HB3 HBF hi hlt
          have c0 := HB4.out.cell 0
          have c1 := HB4.out.cell 1
          have c2 := HB4.out.cell 2
          have c3 := HB4.out.cell 3
          have c4 := HB4.out.cell 4
          have c5 := HB4.out.cell 5
          have c6 := HB4.out.cell 6
          simp only [evc, List.getElem?_toArray, List.getElem?_cons_zero, List.getElem?_cons_succ] at c0 c1 c2 c3 c4 c5 c6
          cases q5 : rRefs l e with
          | false =>
            go_upto_region 13 with (first | (go_at_call 35; refine (HRF.out wr HF4.out).mono ?_; rintro e2 w5 ⟨rfl, hf5⟩; rw [q5]) | go_in)
            have HF5 := Lib.hid (HF4.out.trans hf5)
            have HC : Hid (rWhyC l e = 5) := Lib.hid (by unfold rWhyC; rw [if_neg N1.out, if_neg N2.out, if_neg N3.out, if_neg N4.out, if_pos q5])
            go_wp2
            go_ret
            exact ⟨by rw [← HR.out, HC.out]; rfl, HF5.out⟩
          | true =>
          have N5 : Hid (¬ rRefs l e = false) := Lib.hid (by rw [q5]; decide)
          go_upto_region 14 with (first | (go_at_call 35; refine (HRF.out wr HF4.out).mono ?_; rintro e2 w5 ⟨rfl, hf5⟩; rw [q5]) | go_in)
          have HF5 := Lib.hid (HF4.out.trans hf5)
          have HB5 := Lib.hid (HB4.out.fr hf5 id)
          clear hf5 q5 p0 HB4 c0 c1 c2 c3 c4 c5 c6
          obtain ⟨t1, ht1⟩ : ∃ z, (rTask l).1 = z := ⟨_, rfl⟩
          have HT1 := Lib.hid ht1
          have HTK5 := Lib.hid (HTK.out w5 HF5.out)
          rw [ht1] at HTK5
          clear ht1
          go_upto_region 15 with (first | (go_at_call 36; refine HTK5.out.mono ?_; rintro e2 w6 ⟨rfl, hf6⟩) | go_in)
          have HF6 := Lib.hid (HF5.out.trans hf6)
          have HB6 := Lib.hid (HB5.out.fr hf6 id)
          clear hf6 HB5 HTK5
          have c0 := HB6.out.cell 0
          have c1 := HB6.out.cell 1
          have c2 := HB6.out.cell 2
          have c3 := HB6.out.cell 3
          have c4 := HB6.out.cell 4
          have c5 := HB6.out.cell 5
          have c6 := HB6.out.cell 6
          simp only [evc, List.getElem?_toArray, List.getElem?_cons_zero, List.getElem?_cons_succ] at c0 c1 c2 c3 c4 c5 c6
          by_cases h2 : e.k = 2
          · have r2 : (e.k == 2) = true := by simp [h2]
            have HK := Lib.hid h2
            clear h2
            by_cases h0 : t1 = 0
            · have q0 : (t1 != 0) = false := by simp [h0]
              have N6 : Hid (¬ (e.k = 2 ∧ (rTask l).1 ≠ 0)) := Lib.hid (by rw [HT1.out]; exact fun h => h.2 h0)
              have r7 : (e.k == 7) = false := by rw [HK.out]; rfl
              have r12 : (e.k == 12) = false := by rw [HK.out]; rfl
              have r17 : (e.k == 17) = false := by rw [HK.out]; rfl
              clear h0
              have HC : Hid (rWhyC l e = 0) := Lib.hid (by unfold rWhyC; rw [if_neg N1.out, if_neg N2.out, if_neg N3.out, if_neg N4.out, if_neg N5.out, if_neg N6.out, if_neg (fun h => by have := HK.out; omega)])
              go_wp2
              go_ret
              exact ⟨by rw [← HR.out, HC.out]; rfl, HF6.out⟩
            · have q0 : (t1 != 0) = true := by simp [h0]
              have HH := Lib.hid h0
              clear h0
              have HC : Hid (rWhyC l e = 6) := Lib.hid (by unfold rWhyC; rw [if_neg N1.out, if_neg N2.out, if_neg N3.out, if_neg N4.out, if_neg N5.out, if_pos ⟨HK.out, by rw [HT1.out]; exact HH.out⟩])
              go_wp2
              go_ret
              exact ⟨by rw [← HR.out, HC.out]; rfl, HF6.out⟩
          have r2 : (e.k == 2) = false := by simp [h2]
          have N6 : Hid (¬ (e.k = 2 ∧ (rTask l).1 ≠ 0)) := Lib.hid (fun h => h2 h.1)
          have r7 : (e.k == 7) = false := by rw [HK1.out]; rfl
          have r12 : (e.k == 12) = false := by rw [HK1.out]; rfl
          have r17 : (e.k == 17) = false := by rw [HK1.out]; rfl
          have HC : Hid (rWhyC l e = 0) := Lib.hid (by unfold rWhyC; rw [if_neg N1.out, if_neg N2.out, if_neg N3.out, if_neg N4.out, if_neg N5.out, if_neg N6.out, if_neg (fun h => by have := HK1.out; omega)])
          go_wp2
          go_ret
          exact ⟨by rw [← HR.out, HC.out]; rfl, HF6.out⟩
end Go.Proofs.YtbdjnfkhdphhoaaDoor
