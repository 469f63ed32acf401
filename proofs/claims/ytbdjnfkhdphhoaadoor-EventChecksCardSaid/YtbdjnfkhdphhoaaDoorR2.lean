/- The document's looks at a history: open, task, refs. -/
import Derived.Test.YtbdjnfkhdphhoaaDoorR1
set_option linter.unusedVariables false
set_option linter.unusedSimpArgs false
namespace Go.Proofs.YtbdjnfkhdphhoaaDoor
open Go.RowKit Go.Maps
def rOpen (l : List Ev) (at_ : Int) : Bool :=
  if rKind l at_ = 7 then (rWorks l at_ == 0) || !rNamed l (rWorks l at_) [9, 10, 11]
  else if rKind l at_ = 12 then !rNamed l at_ [13, 14]
  else if rKind l at_ = 17 then !rNamed l at_ [18]
  else false
def rTask (l : List Ev) : Int × Int :=
  if rLast l 2 = 0 then (0, 0)
  else if rLast l 3 < rLast l 2 then (1, (rLast l 2 : Int))
  else if rNamed l (rLast l 3 : Int) [4, 5, 6] = true then (0, 0)
  else (2, (rLast l 3 : Int))
def refAt (l : List Ev) (at_ : Int) : Int := match l[(at_ - 1).toNat]? with | some e => e.ref | none => 0
def rRefs (l : List Ev) (e : Ev) : Bool :=
  if e.k = 3 then ((rTask l).1 == 1) && (e.ref == (rTask l).2)
  else if e.k = 4 ∨ e.k = 5 ∨ e.k = 6 then ((rTask l).1 == 2) && (e.ref == (rTask l).2)
  else if e.k = 8 then (rKind l e.ref == 7) && (rWorks l e.ref == 0)
  else if e.k = 9 ∨ e.k = 10 ∨ e.k = 11 then (rKind l e.ref == 8) && rOpen l (refAt l e.ref)
  else if e.k = 13 ∨ e.k = 14 then (rKind l e.ref == 12) && rOpen l e.ref
  else if e.k = 18 then (rKind l e.ref == 17) && rOpen l e.ref
  else e.ref == 0
set_option maxRecDepth 100000 in
set_option maxHeartbeats 4000000 in
theorem ropen_any (W : World) (ao : Option Addr) (cp n : Nat) (l : List Ev) (hl : RowV W ao l) (hnl : l.length = n) (hn : n ≤ 100000) (at_ : Int) : Calls Tryd.prog 37 #[.slice ao n cp, .int .i64 at_] W fun r W' => r = .returned (.bool (rOpen l at_)) ∧ Fr (fun _ => False) W W' := by
  subst hnl
  have HKD := Lib.hid (rkind_any W ao cp l hl hn at_)
  have HWK := Lib.hid (fun w (hf : Fr (fun _ => False) W w) => rworks_any w ao cp l (hl.fr hf (fun k e => e.elim)) hn at_)
  have HNM := Lib.hid (fun w (hf : Fr (fun _ => False) W w) a kb m ks hk hm h10 => rnamed_any w ao cp l (hl.fr hf (fun k e => e.elim)) hn a kb m ks hk hm h10)
  obtain ⟨n, hnl⟩ : ∃ n, l.length = n := ⟨_, rfl⟩
  rw [hnl] at HKD
  simp only [hnl] at HWK HNM
  rw [hnl]
  obtain ⟨r, hr⟩ : ∃ r, rOpen l at_ = r := ⟨_, rfl⟩
  rw [hr]
  have HR := Lib.hid hr
  obtain ⟨k, hk⟩ : ∃ k, rKind l at_ = k := ⟨_, rfl⟩
  have HK := Lib.hid hk
  rw [hk] at HKD
  obtain ⟨w0, hw0⟩ : ∃ w, rWorks l at_ = w := ⟨_, rfl⟩
  have HW0 := Lib.hid hw0
  rw [hw0] at HWK
  clear hl hn hnl hr hk hw0
  go_enter Tryd.func37, Tryd.ntmps37
  go_upto_region 2 with (first | (go_at_call 50; refine HKD.out.mono ?_; rintro r1 w1 ⟨rfl, hf1⟩) | go_in)
  have HF1 := Lib.hid hf1
  clear hf1 HKD
  by_cases h7 : k = 7
  · have p7 : (k == 7) = true := by simp [h7]
    have HH := Lib.hid h7
    clear h7
    go_upto_region 4 with (first | (go_at_call 51; refine (HWK.out _ HF1.out).mono ?_; rintro r2 w2 ⟨rfl, hf2⟩) | go_in)
    have HF2 := Lib.hid (HF1.out.trans hf2)
    clear hf2
    by_cases hz0 : w0 = 0
    · have q0 : (w0 == 0) = true := by simp [hz0]
      have HZ0 := Lib.hid hz0
      clear hz0
      go_wp2
      go_ret
      exact ⟨by rw [← HR.out]; simp [rOpen, HK.out, HH.out, HW0.out, HZ0.out], HF2.out⟩
    · have q0 : (w0 == 0) = false := by simp [hz0]
      have HZ0 := Lib.hid hz0
      clear hz0
      go_wp2_with (first | (go_at_call 53; refine (HNM.out _ (HF2.out.trans (Fr.alloc _ _ _)) w0 _ 3 [9, 10, 11] (KRow.new _ [9, 10, 11] #[.int .i64 9, .int .i64 10, .int .i64 11] rfl) rfl (by omega)).mono ?_; rintro r3 w3 ⟨rfl, hf3⟩; have HF3 := Lib.hid ((HF2.out.trans (Fr.alloc _ _ _)).trans hf3); clear hf3; generalize hz : rNamed l w0 [9, 10, 11] = z; have HZ := Lib.hid hz; clear hz) | go_in)
      go_ret
      exact ⟨by rw [← HR.out]; simp [rOpen, HK.out, HH.out, HW0.out, HZ0.out, HZ.out], HF3.out⟩
  have p7 : (k == 7) = false := by simp [h7]
  by_cases h12 : k = 12
  · have p12 : (k == 12) = true := by simp [h12]
    have HH := Lib.hid h12
    clear h12
    go_wp2_with (first | (go_at_call 53; refine (HNM.out _ (HF1.out.trans (Fr.alloc _ _ _)) at_ _ 2 [13, 14] (KRow.new _ [13, 14] #[.int .i64 13, .int .i64 14] rfl) rfl (by omega)).mono ?_; rintro r3 w3 ⟨rfl, hf3⟩; have HF3 := Lib.hid ((HF1.out.trans (Fr.alloc _ _ _)).trans hf3); clear hf3; generalize hz : rNamed l at_ [13, 14] = z; have HZ := Lib.hid hz; clear hz) | go_in)
    go_ret
    exact ⟨by rw [← HR.out]; simp [rOpen, HK.out, HH.out, HZ.out], HF3.out⟩
  have p12 : (k == 12) = false := by simp [h12]
  by_cases h17 : k = 17
  · have p17 : (k == 17) = true := by simp [h17]
    have HH := Lib.hid h17
    clear h17
    go_wp2_with (first | (go_at_call 53; refine (HNM.out _ (HF1.out.trans (Fr.alloc _ _ _)) at_ _ 1 [18] (KRow.new _ [18] #[.int .i64 18] rfl) rfl (by omega)).mono ?_; rintro r3 w3 ⟨rfl, hf3⟩; have HF3 := Lib.hid ((HF1.out.trans (Fr.alloc _ _ _)).trans hf3); clear hf3; generalize hz : rNamed l at_ [18] = z; have HZ := Lib.hid hz; clear hz) | go_in)
    go_ret
    exact ⟨by rw [← HR.out]; simp [rOpen, HK.out, HH.out, HZ.out], HF3.out⟩
  have p17 : (k == 17) = false := by simp [h17]
  go_wp2
  go_ret
  exact ⟨by rw [← HR.out]; simp [rOpen, HK.out, h7, h12, h17], HF1.out⟩
set_option maxRecDepth 100000 in
set_option maxHeartbeats 4000000 in
theorem rtask_any (W : World) (ao : Option Addr) (cp n : Nat) (l : List Ev) (hl : RowV W ao l) (hnl : l.length = n) (hn : n ≤ 100000) : Calls Tryd.prog 36 #[.slice ao n cp] W fun r W' => r = .returned (.tuple #[.int .i64 (rTask l).1, .int .i64 (rTask l).2]) ∧ Fr (fun _ => False) W W' := by
  subst hnl
  have HLS := Lib.hid (fun w (hf : Fr (fun _ => False) W w) k => rlast_any w ao cp l (hl.fr hf (fun k e => e.elim)) hn k)
  have HNM := Lib.hid (fun w (hf : Fr (fun _ => False) W w) a kb m ks hk hm h10 => rnamed_any w ao cp l (hl.fr hf (fun k e => e.elim)) hn a kb m ks hk hm h10)
  obtain ⟨n, hnl⟩ : ∃ n, l.length = n := ⟨_, rfl⟩
  simp only [hnl] at HLS HNM
  rw [hnl]
  obtain ⟨r, hr⟩ : ∃ r, rTask l = r := ⟨_, rfl⟩
  rw [hr]
  have HR := Lib.hid hr
  obtain ⟨s, hs⟩ : ∃ s, rLast l 2 = s := ⟨_, rfl⟩
  obtain ⟨d, hd⟩ : ∃ d, rLast l 3 = d := ⟨_, rfl⟩
  have HL2 := Lib.hid (fun w hf => HLS.out w hf 2)
  have HL3 := Lib.hid (fun w hf => HLS.out w hf 3)
  rw [hs] at HL2
  rw [hd] at HL3
  have HSD := Lib.hid (And.intro hs hd)
  clear hl hn hnl hr hs hd HLS
  go_enter Tryd.func36, Tryd.ntmps36
  go_upto_region 2 with (first | (go_at_call 52; refine (HL2.out _ (Fr.refl _ _)).mono ?_; rintro r1 w1 ⟨rfl, hf1⟩) | go_in)
  have HF1 := Lib.hid hf1
  clear hf1
  by_cases h0 : s = 0
  · have HH := Lib.hid h0
    subst h0
    go_wp2
    go_ret2
    have := HSD.out
    exact ⟨by rw [← HR.out]; simp [rTask, this.1], HF1.out⟩
  have q0 : ((s : Int) == 0) = false := by simp; omega
  go_upto_region 5 with (first | (go_at_call 52; refine (HL3.out _ HF1.out).mono ?_; rintro r1 w2 ⟨rfl, hf2⟩) | go_in)
  have HF2 := Lib.hid (HF1.out.trans hf2)
  clear hf2
  by_cases h1 : d < s
  · have q1 : decide ((d : Int) < s) = true := decide_eq_true (by omega)
    go_wp2
    go_ret2
    have := HSD.out
    exact ⟨by rw [← HR.out]; simp [rTask, this.1, this.2, h0, h1], HF2.out⟩
  have q1 : decide ((d : Int) < s) = false := decide_eq_false (by omega)
  have q2 : decide (d < s) = false := decide_eq_false h1
  obtain ⟨z, hz⟩ : ∃ z, rNamed l (d : Int) [4, 5, 6] = z := ⟨_, rfl⟩
  have HN3 := Lib.hid (HNM.out _ (HF2.out.trans (Fr.alloc _ _ _)) (d : Int) _ 3 [4, 5, 6] (KRow.new w2 [4, 5, 6] #[.int .i64 4, .int .i64 5, .int .i64 6] rfl) rfl (by omega))
  rw [hz] at HN3
  have HZ := Lib.hid hz
  clear hz
  have HND := Lib.hid (And.intro h0 h1)
  clear h0 h1
  cases z with
  | true =>
    go_wp2_with (first | (go_at_call 53; refine HN3.out.mono ?_; rintro r3 w3 ⟨rfl, hf3⟩; have HF3 := Lib.hid ((HF2.out.trans (Fr.alloc _ _ _)).trans hf3); clear hf3) | go_in)
    go_ret2
    have := HSD.out
    have := HND.out
    exact ⟨by rw [← HR.out]; simp [rTask, HSD.out.1, HSD.out.2, HND.out.1, HND.out.2, HZ.out], HF3.out⟩
  | false =>
    go_wp2_with (first | (go_at_call 53; refine HN3.out.mono ?_; rintro r3 w3 ⟨rfl, hf3⟩; have HF3 := Lib.hid ((HF2.out.trans (Fr.alloc _ _ _)).trans hf3); clear hf3) | go_in)
    go_ret2
    exact ⟨by rw [← HR.out]; simp [rTask, HSD.out.1, HSD.out.2, HND.out.1, HND.out.2, HZ.out], HF3.out⟩
set_option maxRecDepth 100000 in
set_option maxHeartbeats 8000000 in
theorem rrefs_any (W : World) (ao : Option Addr) (cp n : Nat) (l : List Ev) (hl : RowV W ao l) (hnl : l.length = n) (hn : n ≤ 100000) (e : Ev) : Calls Tryd.prog 35 #[.slice ao n cp, .agg (evc e)] W fun r W' => r = .returned (.bool (rRefs l e)) ∧ Fr (fun _ => False) W W' := by
  subst hnl
  have hB := Blk.new W 24 (evc e)
  have hF : Fr (fun _ => False) W (W.alloc (.cells (evc e) 24)) := Fr.alloc _ _ _
  obtain ⟨w1, hw1⟩ : ∃ w1, W.alloc (.cells (evc e) 24) = w1 := ⟨_, rfl⟩
  rw [hw1] at hB hF
  have HROW := Lib.hid (fun w (hf : Fr (fun _ => False) W w) => hl.fr hf (fun k e => e.elim))
  have HTK := Lib.hid (fun w (hf : Fr (fun _ => False) W w) => rtask_any w ao cp _ l (HROW.out w hf) rfl hn)
  have HKD := Lib.hid (fun w (hf : Fr (fun _ => False) W w) => rkind_any w ao cp l (HROW.out w hf) hn e.ref)
  have HWK := Lib.hid (fun w (hf : Fr (fun _ => False) W w) => rworks_any w ao cp l (HROW.out w hf) hn e.ref)
  have HOP := Lib.hid (fun w (hf : Fr (fun _ => False) W w) at_ => ropen_any w ao cp _ l (HROW.out w hf) rfl hn at_)
  obtain ⟨n, hnl⟩ : ∃ n, l.length = n := ⟨_, rfl⟩
  simp only [hnl] at HTK HKD HWK HOP
  rw [hnl]
  have HNL := Lib.hid hnl
  obtain ⟨r, hr⟩ : ∃ r, rRefs l e = r := ⟨_, rfl⟩
  rw [hr]
  have HR := Lib.hid hr
  obtain ⟨t1, ht1⟩ : ∃ z, (rTask l).1 = z := ⟨_, rfl⟩
  obtain ⟨t2, ht2⟩ : ∃ z, (rTask l).2 = z := ⟨_, rfl⟩
  obtain ⟨kd, hkd⟩ : ∃ z, rKind l e.ref = z := ⟨_, rfl⟩
  obtain ⟨wk, hwk⟩ : ∃ z, rWorks l e.ref = z := ⟨_, rfl⟩
  rw [ht1, ht2] at HTK
  rw [hkd] at HKD
  rw [hwk] at HWK
  have HV := Lib.hid (And.intro ht1 (And.intro ht2 (And.intro hkd hwk)))
  obtain ⟨bb, hbb⟩ : ∃ b, W.heap.size = b := ⟨_, rfl⟩
  rw [hbb] at hB
  have HB := Lib.hid hB
  have HF := Lib.hid hF
  have HN := Lib.hid hn
  clear hl hn hnl hr ht1 ht2 hkd hwk hB hF
  simp only [evc] at hw1
  rw [show Value.agg (evc e) = Value.agg #[.int .i64 e.k, .int .i64 e.at_, .int .i64 e.ref, .int .i64 e.id, .int .i64 e.list, .int .i64 e.n, .slice e.ao e.dl e.cp] from rfl]
  go_enter Tryd.func35, Tryd.ntmps35
  go_upto_region 1 with (fail)
  try rw [hw1]
  try rw [hbb]
  clear hw1 hbb
  go_upto_region 2 with (first | (go_at_call 36; refine (HTK.out _ HF.out).mono ?_; rintro r2 w2 ⟨rfl, hf2⟩) | go_in)
  have HF2 := Lib.hid (HF.out.trans hf2)
  have HB2 := Lib.hid (HB.out.fr hf2 id)
  clear hf2 HF HB HTK
  have c0 := HB2.out.cell 0
  have c2 := HB2.out.cell 2
  simp only [evc, List.getElem?_toArray, List.getElem?_cons_zero, List.getElem?_cons_succ] at c0 c2
  by_cases h3 : e.k = 3
  · have HH := Lib.hid h3
    clear h3
    have r3 : (e.k == 3) = true := by rw [HH.out]; rfl
    have r4 : (e.k == 4) = false := by rw [HH.out]; rfl
    have r5 : (e.k == 5) = false := by rw [HH.out]; rfl
    have r6 : (e.k == 6) = false := by rw [HH.out]; rfl
    have r8 : (e.k == 8) = false := by rw [HH.out]; rfl
    have r9 : (e.k == 9) = false := by rw [HH.out]; rfl
    have r10 : (e.k == 10) = false := by rw [HH.out]; rfl
    have r11 : (e.k == 11) = false := by rw [HH.out]; rfl
    have r13 : (e.k == 13) = false := by rw [HH.out]; rfl
    have r14 : (e.k == 14) = false := by rw [HH.out]; rfl
    have r18 : (e.k == 18) = false := by rw [HH.out]; rfl
    by_cases g1 : t1 = 1
    · have q1 : (t1 == 1) = true := by simp [g1]
      have G1 := Lib.hid g1
      clear g1
      by_cases g2 : e.ref = t2
      · have q2 : (e.ref == t2) = true := by simp [g2]
        have G2 := Lib.hid g2
        clear g2
        go_wp2
        go_ret
        have v := HV.out
        exact ⟨by rw [← HR.out]; simp [rRefs, HH.out, v.1, v.2.1, G1.out, G2.out], HF2.out⟩
      · have q2 : (e.ref == t2) = false := by simp [g2]
        have G2 := Lib.hid g2
        clear g2
        go_wp2
        go_ret
        have v := HV.out
        exact ⟨by rw [← HR.out]; simp [rRefs, HH.out, v.1, v.2.1, G1.out, G2.out], HF2.out⟩
    · have q1 : (t1 == 1) = false := by simp [g1]
      have G1 := Lib.hid g1
      clear g1
      go_wp2
      go_ret
      have v := HV.out
      exact ⟨by rw [← HR.out]; simp [rRefs, HH.out, v.1, v.2.1, G1.out], HF2.out⟩
  have r3 : (e.k == 3) = false := by simp [h3]
  by_cases h4 : e.k = 4
  · have HH := Lib.hid h4
    clear h4
    have r4 : (e.k == 4) = true := by rw [HH.out]; rfl
    have r5 : (e.k == 5) = false := by rw [HH.out]; rfl
    have r6 : (e.k == 6) = false := by rw [HH.out]; rfl
    have r8 : (e.k == 8) = false := by rw [HH.out]; rfl
    have r9 : (e.k == 9) = false := by rw [HH.out]; rfl
    have r10 : (e.k == 10) = false := by rw [HH.out]; rfl
    have r11 : (e.k == 11) = false := by rw [HH.out]; rfl
    have r13 : (e.k == 13) = false := by rw [HH.out]; rfl
    have r14 : (e.k == 14) = false := by rw [HH.out]; rfl
    have r18 : (e.k == 18) = false := by rw [HH.out]; rfl
    by_cases g1 : t1 = 2
    · have q1 : (t1 == 2) = true := by simp [g1]
      have G1 := Lib.hid g1
      clear g1
      by_cases g2 : e.ref = t2
      · have q2 : (e.ref == t2) = true := by simp [g2]
        have G2 := Lib.hid g2
        clear g2
        go_wp2
        go_ret
        have v := HV.out
        exact ⟨by rw [← HR.out]; simp [rRefs, HH.out, v.1, v.2.1, G1.out, G2.out], HF2.out⟩
      · have q2 : (e.ref == t2) = false := by simp [g2]
        have G2 := Lib.hid g2
        clear g2
        go_wp2
        go_ret
        have v := HV.out
        exact ⟨by rw [← HR.out]; simp [rRefs, HH.out, v.1, v.2.1, G1.out, G2.out], HF2.out⟩
    · have q1 : (t1 == 2) = false := by simp [g1]
      have G1 := Lib.hid g1
      clear g1
      go_wp2
      go_ret
      have v := HV.out
      exact ⟨by rw [← HR.out]; simp [rRefs, HH.out, v.1, v.2.1, G1.out], HF2.out⟩
  have r4 : (e.k == 4) = false := by simp [h4]
  by_cases h5 : e.k = 5
  · have HH := Lib.hid h5
    clear h5
    have r5 : (e.k == 5) = true := by rw [HH.out]; rfl
    have r6 : (e.k == 6) = false := by rw [HH.out]; rfl
    have r8 : (e.k == 8) = false := by rw [HH.out]; rfl
    have r9 : (e.k == 9) = false := by rw [HH.out]; rfl
    have r10 : (e.k == 10) = false := by rw [HH.out]; rfl
    have r11 : (e.k == 11) = false := by rw [HH.out]; rfl
    have r13 : (e.k == 13) = false := by rw [HH.out]; rfl
    have r14 : (e.k == 14) = false := by rw [HH.out]; rfl
    have r18 : (e.k == 18) = false := by rw [HH.out]; rfl
    by_cases g1 : t1 = 2
    · have q1 : (t1 == 2) = true := by simp [g1]
      have G1 := Lib.hid g1
      clear g1
      by_cases g2 : e.ref = t2
      · have q2 : (e.ref == t2) = true := by simp [g2]
        have G2 := Lib.hid g2
        clear g2
        go_wp2
        go_ret
        have v := HV.out
        exact ⟨by rw [← HR.out]; simp [rRefs, HH.out, v.1, v.2.1, G1.out, G2.out], HF2.out⟩
      · have q2 : (e.ref == t2) = false := by simp [g2]
        have G2 := Lib.hid g2
        clear g2
        go_wp2
        go_ret
        have v := HV.out
        exact ⟨by rw [← HR.out]; simp [rRefs, HH.out, v.1, v.2.1, G1.out, G2.out], HF2.out⟩
    · have q1 : (t1 == 2) = false := by simp [g1]
      have G1 := Lib.hid g1
      clear g1
      go_wp2
      go_ret
      have v := HV.out
      exact ⟨by rw [← HR.out]; simp [rRefs, HH.out, v.1, v.2.1, G1.out], HF2.out⟩
  have r5 : (e.k == 5) = false := by simp [h5]
  by_cases h6 : e.k = 6
  · have HH := Lib.hid h6
    clear h6
    have r6 : (e.k == 6) = true := by rw [HH.out]; rfl
    have r8 : (e.k == 8) = false := by rw [HH.out]; rfl
    have r9 : (e.k == 9) = false := by rw [HH.out]; rfl
    have r10 : (e.k == 10) = false := by rw [HH.out]; rfl
    have r11 : (e.k == 11) = false := by rw [HH.out]; rfl
    have r13 : (e.k == 13) = false := by rw [HH.out]; rfl
    have r14 : (e.k == 14) = false := by rw [HH.out]; rfl
    have r18 : (e.k == 18) = false := by rw [HH.out]; rfl
    by_cases g1 : t1 = 2
    · have q1 : (t1 == 2) = true := by simp [g1]
      have G1 := Lib.hid g1
      clear g1
      by_cases g2 : e.ref = t2
      · have q2 : (e.ref == t2) = true := by simp [g2]
        have G2 := Lib.hid g2
        clear g2
        go_wp2
        go_ret
        have v := HV.out
        exact ⟨by rw [← HR.out]; simp [rRefs, HH.out, v.1, v.2.1, G1.out, G2.out], HF2.out⟩
      · have q2 : (e.ref == t2) = false := by simp [g2]
        have G2 := Lib.hid g2
        clear g2
        go_wp2
        go_ret
        have v := HV.out
        exact ⟨by rw [← HR.out]; simp [rRefs, HH.out, v.1, v.2.1, G1.out, G2.out], HF2.out⟩
    · have q1 : (t1 == 2) = false := by simp [g1]
      have G1 := Lib.hid g1
      clear g1
      go_wp2
      go_ret
      have v := HV.out
      exact ⟨by rw [← HR.out]; simp [rRefs, HH.out, v.1, v.2.1, G1.out], HF2.out⟩
  have r6 : (e.k == 6) = false := by simp [h6]
  by_cases h8 : e.k = 8
  · have HH := Lib.hid h8
    clear h8
    have r8 : (e.k == 8) = true := by rw [HH.out]; rfl
    have r9 : (e.k == 9) = false := by rw [HH.out]; rfl
    have r10 : (e.k == 10) = false := by rw [HH.out]; rfl
    have r11 : (e.k == 11) = false := by rw [HH.out]; rfl
    have r13 : (e.k == 13) = false := by rw [HH.out]; rfl
    have r14 : (e.k == 14) = false := by rw [HH.out]; rfl
    have r18 : (e.k == 18) = false := by rw [HH.out]; rfl
    by_cases g1 : kd = 7
    · have q1 : (kd == 7) = true := by simp [g1]
      have G1 := Lib.hid g1
      clear g1
      go_wp2_with (first | (go_at_call 50; refine (HKD.out _ HF2.out).mono ?_; rintro r3 w3 ⟨rfl, hf3⟩; have HF3 := Lib.hid (HF2.out.trans hf3); have c2' := (HB2.out.fr hf3 id).cell 2; simp only [evc, List.getElem?_toArray, List.getElem?_cons_zero, List.getElem?_cons_succ] at c2'; clear hf3) | (go_at_call 51; refine (HWK.out _ HF3.out).mono ?_; rintro r4 w4 ⟨rfl, hf4⟩) | go_in)
      go_ret
      have v := HV.out
      exact ⟨by rw [← HR.out]; simp [rRefs, HH.out, v.2.2.1, v.2.2.2, G1.out], HF3.out.trans hf4⟩
    · have q1 : (kd == 7) = false := by simp [g1]
      have G1 := Lib.hid g1
      clear g1
      go_wp2_with (first | (go_at_call 50; refine (HKD.out _ HF2.out).mono ?_; rintro r3 w3 ⟨rfl, hf3⟩; have HF3 := Lib.hid (HF2.out.trans hf3); have c2' := (HB2.out.fr hf3 id).cell 2; simp only [evc, List.getElem?_toArray, List.getElem?_cons_zero, List.getElem?_cons_succ] at c2'; clear hf3) | go_in)
      go_ret
      have v := HV.out
      exact ⟨by rw [← HR.out]; simp [rRefs, HH.out, v.2.2.1, G1.out], HF3.out⟩
  have r8 : (e.k == 8) = false := by simp [h8]
  by_cases h9 : e.k = 9
  · have HH := Lib.hid h9
    clear h9
    have r9 : (e.k == 9) = true := by rw [HH.out]; rfl
    have r10 : (e.k == 10) = false := by rw [HH.out]; rfl
    have r11 : (e.k == 11) = false := by rw [HH.out]; rfl
    have r13 : (e.k == 13) = false := by rw [HH.out]; rfl
    have r14 : (e.k == 14) = false := by rw [HH.out]; rfl
    have r18 : (e.k == 18) = false := by rw [HH.out]; rfl
    by_cases g1 : kd = 8
    · have q1 : (kd == 8) = true := by simp [g1]
      have G1 := Lib.hid g1
      clear g1
      have hrg : ¬ (e.ref < 1 ∨ (l.length : Int) < e.ref) := fun h => by
        have h1 := rKind_out h
        rw [HV.out.2.2.1, G1.out] at h1
        cases h1
      have hrg2 : 1 ≤ e.ref ∧ e.ref ≤ n := by have := HNL.out; omega
      obtain ⟨i, hi⟩ : ∃ i : Nat, e.ref = (i : Int) + 1 := ⟨(e.ref - 1).toNat, by omega⟩
      obtain ⟨e', he'⟩ : ∃ e', l[i]? = some e' := ⟨_, List.getElem?_eq_getElem (by have := HNL.out; omega)⟩
      have HE := Lib.hid he'
      have hra : refAt l e.ref = e'.ref := by
        unfold refAt
        rw [hi, show ((i : Int) + 1 - 1).toNat = i by omega, HE.out]
      have HRA := Lib.hid hra
      obtain ⟨b, o, rfl, hc⟩ := (HROW.out W (Fr.refl _ _)).at_ he'
      have HCC := Lib.hid hc
      have HI := Lib.hid hi
      have hin : i < n := by omega
      have hnn := HN.out
      rw [HNL.out] at hnn
      have HF2' := Lib.hid HF2.out
      clear c2
      have c2 := HB2.out.cell 2
      simp only [evc, List.getElem?_toArray, List.getElem?_cons_zero, List.getElem?_cons_succ] at c2
      rw [hi] at c2
      have HKI := Lib.hid (HKD.out w2 HF2.out)
      rw [hi, G1.out] at HKI
      clear hc he' hra hrg hrg2 hi
      go_wp2_with (first | (go_at_call 50; refine HKI.out.mono ?_; rintro r3 w3 ⟨rfl, hf3⟩; have HF3 := Lib.hid (HF2.out.trans hf3); have c2' := (HB2.out.fr hf3 id).cell 2; simp only [evc, List.getElem?_toArray, List.getElem?_cons_zero, List.getElem?_cons_succ] at c2'; rw [HI.out] at c2'; have cr : w3.cell? ⟨b, o + i * 7 + 2, none⟩ = some (.int .i64 e'.ref) := HCC.out w3 HF3.out 2 _ rfl; clear hf3) | (go_at_call 37; refine (HOP.out _ HF3.out e'.ref).mono ?_; rintro r4 w4 ⟨rfl, hf4⟩) | go_in)
      go_ret
      have v := HV.out
      exact ⟨by rw [← HR.out]; simp [rRefs, HH.out, v.2.2.1, G1.out, HRA.out], HF3.out.trans hf4⟩
    · have q1 : (kd == 8) = false := by simp [g1]
      have G1 := Lib.hid g1
      clear g1
      go_wp2_with (first | (go_at_call 50; refine (HKD.out _ HF2.out).mono ?_; rintro r3 w3 ⟨rfl, hf3⟩; have HF3 := Lib.hid (HF2.out.trans hf3); have c2' := (HB2.out.fr hf3 id).cell 2; simp only [evc, List.getElem?_toArray, List.getElem?_cons_zero, List.getElem?_cons_succ] at c2'; clear hf3) | go_in)
      go_ret
      have v := HV.out
      exact ⟨by rw [← HR.out]; simp [rRefs, HH.out, v.2.2.1, G1.out], HF3.out⟩
  have r9 : (e.k == 9) = false := by simp [h9]
  by_cases h10 : e.k = 10
  · have HH := Lib.hid h10
    clear h10
    have r10 : (e.k == 10) = true := by rw [HH.out]; rfl
    have r11 : (e.k == 11) = false := by rw [HH.out]; rfl
    have r13 : (e.k == 13) = false := by rw [HH.out]; rfl
    have r14 : (e.k == 14) = false := by rw [HH.out]; rfl
    have r18 : (e.k == 18) = false := by rw [HH.out]; rfl
    by_cases g1 : kd = 8
    · have q1 : (kd == 8) = true := by simp [g1]
      have G1 := Lib.hid g1
      clear g1
      have hrg : ¬ (e.ref < 1 ∨ (l.length : Int) < e.ref) := fun h => by
        have h1 := rKind_out h
        rw [HV.out.2.2.1, G1.out] at h1
        cases h1
      have hrg2 : 1 ≤ e.ref ∧ e.ref ≤ n := by have := HNL.out; omega
      obtain ⟨i, hi⟩ : ∃ i : Nat, e.ref = (i : Int) + 1 := ⟨(e.ref - 1).toNat, by omega⟩
      obtain ⟨e', he'⟩ : ∃ e', l[i]? = some e' := ⟨_, List.getElem?_eq_getElem (by have := HNL.out; omega)⟩
      have HE := Lib.hid he'
      have hra : refAt l e.ref = e'.ref := by
        unfold refAt
        rw [hi, show ((i : Int) + 1 - 1).toNat = i by omega, HE.out]
      have HRA := Lib.hid hra
      obtain ⟨b, o, rfl, hc⟩ := (HROW.out W (Fr.refl _ _)).at_ he'
      have HCC := Lib.hid hc
      have HI := Lib.hid hi
      have hin : i < n := by omega
      have hnn := HN.out
      rw [HNL.out] at hnn
      have HF2' := Lib.hid HF2.out
      clear c2
      have c2 := HB2.out.cell 2
      simp only [evc, List.getElem?_toArray, List.getElem?_cons_zero, List.getElem?_cons_succ] at c2
      rw [hi] at c2
      have HKI := Lib.hid (HKD.out w2 HF2.out)
      rw [hi, G1.out] at HKI
      clear hc he' hra hrg hrg2 hi
      go_wp2_with (first | (go_at_call 50; refine HKI.out.mono ?_; rintro r3 w3 ⟨rfl, hf3⟩; have HF3 := Lib.hid (HF2.out.trans hf3); have c2' := (HB2.out.fr hf3 id).cell 2; simp only [evc, List.getElem?_toArray, List.getElem?_cons_zero, List.getElem?_cons_succ] at c2'; rw [HI.out] at c2'; have cr : w3.cell? ⟨b, o + i * 7 + 2, none⟩ = some (.int .i64 e'.ref) := HCC.out w3 HF3.out 2 _ rfl; clear hf3) | (go_at_call 37; refine (HOP.out _ HF3.out e'.ref).mono ?_; rintro r4 w4 ⟨rfl, hf4⟩) | go_in)
      go_ret
      have v := HV.out
      exact ⟨by rw [← HR.out]; simp [rRefs, HH.out, v.2.2.1, G1.out, HRA.out], HF3.out.trans hf4⟩
    · have q1 : (kd == 8) = false := by simp [g1]
      have G1 := Lib.hid g1
      clear g1
      go_wp2_with (first | (go_at_call 50; refine (HKD.out _ HF2.out).mono ?_; rintro r3 w3 ⟨rfl, hf3⟩; have HF3 := Lib.hid (HF2.out.trans hf3); have c2' := (HB2.out.fr hf3 id).cell 2; simp only [evc, List.getElem?_toArray, List.getElem?_cons_zero, List.getElem?_cons_succ] at c2'; clear hf3) | go_in)
      go_ret
      have v := HV.out
      exact ⟨by rw [← HR.out]; simp [rRefs, HH.out, v.2.2.1, G1.out], HF3.out⟩
  have r10 : (e.k == 10) = false := by simp [h10]
  by_cases h11 : e.k = 11
  · have HH := Lib.hid h11
    clear h11
    have r11 : (e.k == 11) = true := by rw [HH.out]; rfl
    have r13 : (e.k == 13) = false := by rw [HH.out]; rfl
    have r14 : (e.k == 14) = false := by rw [HH.out]; rfl
    have r18 : (e.k == 18) = false := by rw [HH.out]; rfl
    by_cases g1 : kd = 8
    · have q1 : (kd == 8) = true := by simp [g1]
      have G1 := Lib.hid g1
      clear g1
      have hrg : ¬ (e.ref < 1 ∨ (l.length : Int) < e.ref) := fun h => by
        have h1 := rKind_out h
        rw [HV.out.2.2.1, G1.out] at h1
        cases h1
      have hrg2 : 1 ≤ e.ref ∧ e.ref ≤ n := by have := HNL.out; omega
      obtain ⟨i, hi⟩ : ∃ i : Nat, e.ref = (i : Int) + 1 := ⟨(e.ref - 1).toNat, by omega⟩
      obtain ⟨e', he'⟩ : ∃ e', l[i]? = some e' := ⟨_, List.getElem?_eq_getElem (by have := HNL.out; omega)⟩
      have HE := Lib.hid he'
      have hra : refAt l e.ref = e'.ref := by
        unfold refAt
        rw [hi, show ((i : Int) + 1 - 1).toNat = i by omega, HE.out]
      have HRA := Lib.hid hra
      obtain ⟨b, o, rfl, hc⟩ := (HROW.out W (Fr.refl _ _)).at_ he'
      have HCC := Lib.hid hc
      have HI := Lib.hid hi
      have hin : i < n := by omega
      have hnn := HN.out
      rw [HNL.out] at hnn
      have HF2' := Lib.hid HF2.out
      clear c2
      have c2 := HB2.out.cell 2
      simp only [evc, List.getElem?_toArray, List.getElem?_cons_zero, List.getElem?_cons_succ] at c2
      rw [hi] at c2
      have HKI := Lib.hid (HKD.out w2 HF2.out)
      rw [hi, G1.out] at HKI
      clear hc he' hra hrg hrg2 hi
      go_wp2_with (first | (go_at_call 50; refine HKI.out.mono ?_; rintro r3 w3 ⟨rfl, hf3⟩; have HF3 := Lib.hid (HF2.out.trans hf3); have c2' := (HB2.out.fr hf3 id).cell 2; simp only [evc, List.getElem?_toArray, List.getElem?_cons_zero, List.getElem?_cons_succ] at c2'; rw [HI.out] at c2'; have cr : w3.cell? ⟨b, o + i * 7 + 2, none⟩ = some (.int .i64 e'.ref) := HCC.out w3 HF3.out 2 _ rfl; clear hf3) | (go_at_call 37; refine (HOP.out _ HF3.out e'.ref).mono ?_; rintro r4 w4 ⟨rfl, hf4⟩) | go_in)
      go_ret
      have v := HV.out
      exact ⟨by rw [← HR.out]; simp [rRefs, HH.out, v.2.2.1, G1.out, HRA.out], HF3.out.trans hf4⟩
    · have q1 : (kd == 8) = false := by simp [g1]
      have G1 := Lib.hid g1
      clear g1
      go_wp2_with (first | (go_at_call 50; refine (HKD.out _ HF2.out).mono ?_; rintro r3 w3 ⟨rfl, hf3⟩; have HF3 := Lib.hid (HF2.out.trans hf3); have c2' := (HB2.out.fr hf3 id).cell 2; simp only [evc, List.getElem?_toArray, List.getElem?_cons_zero, List.getElem?_cons_succ] at c2'; clear hf3) | go_in)
      go_ret
      have v := HV.out
      exact ⟨by rw [← HR.out]; simp [rRefs, HH.out, v.2.2.1, G1.out], HF3.out⟩
  have r11 : (e.k == 11) = false := by simp [h11]
  by_cases h13 : e.k = 13
  · have HH := Lib.hid h13
    clear h13
    have r13 : (e.k == 13) = true := by rw [HH.out]; rfl
    have r14 : (e.k == 14) = false := by rw [HH.out]; rfl
    have r18 : (e.k == 18) = false := by rw [HH.out]; rfl
    by_cases g1 : kd = 12
    · have q1 : (kd == 12) = true := by simp [g1]
      have G1 := Lib.hid g1
      clear g1
      go_wp2_with (first | (go_at_call 50; refine (HKD.out _ HF2.out).mono ?_; rintro r3 w3 ⟨rfl, hf3⟩; have HF3 := Lib.hid (HF2.out.trans hf3); have c2' := (HB2.out.fr hf3 id).cell 2; simp only [evc, List.getElem?_toArray, List.getElem?_cons_zero, List.getElem?_cons_succ] at c2'; clear hf3) | (go_at_call 37; refine (HOP.out _ HF3.out e.ref).mono ?_; rintro r4 w4 ⟨rfl, hf4⟩) | go_in)
      go_ret
      have v := HV.out
      exact ⟨by rw [← HR.out]; simp [rRefs, HH.out, v.2.2.1, G1.out], HF3.out.trans hf4⟩
    · have q1 : (kd == 12) = false := by simp [g1]
      have G1 := Lib.hid g1
      clear g1
      go_wp2_with (first | (go_at_call 50; refine (HKD.out _ HF2.out).mono ?_; rintro r3 w3 ⟨rfl, hf3⟩; have HF3 := Lib.hid (HF2.out.trans hf3); have c2' := (HB2.out.fr hf3 id).cell 2; simp only [evc, List.getElem?_toArray, List.getElem?_cons_zero, List.getElem?_cons_succ] at c2'; clear hf3) | go_in)
      go_ret
      have v := HV.out
      exact ⟨by rw [← HR.out]; simp [rRefs, HH.out, v.2.2.1, G1.out], HF3.out⟩
  have r13 : (e.k == 13) = false := by simp [h13]
  by_cases h14 : e.k = 14
  · have HH := Lib.hid h14
    clear h14
    have r14 : (e.k == 14) = true := by rw [HH.out]; rfl
    have r18 : (e.k == 18) = false := by rw [HH.out]; rfl
    by_cases g1 : kd = 12
    · have q1 : (kd == 12) = true := by simp [g1]
      have G1 := Lib.hid g1
      clear g1
      go_wp2_with (first | (go_at_call 50; refine (HKD.out _ HF2.out).mono ?_; rintro r3 w3 ⟨rfl, hf3⟩; have HF3 := Lib.hid (HF2.out.trans hf3); have c2' := (HB2.out.fr hf3 id).cell 2; simp only [evc, List.getElem?_toArray, List.getElem?_cons_zero, List.getElem?_cons_succ] at c2'; clear hf3) | (go_at_call 37; refine (HOP.out _ HF3.out e.ref).mono ?_; rintro r4 w4 ⟨rfl, hf4⟩) | go_in)
      go_ret
      have v := HV.out
      exact ⟨by rw [← HR.out]; simp [rRefs, HH.out, v.2.2.1, G1.out], HF3.out.trans hf4⟩
    · have q1 : (kd == 12) = false := by simp [g1]
      have G1 := Lib.hid g1
      clear g1
      go_wp2_with (first | (go_at_call 50; refine (HKD.out _ HF2.out).mono ?_; rintro r3 w3 ⟨rfl, hf3⟩; have HF3 := Lib.hid (HF2.out.trans hf3); have c2' := (HB2.out.fr hf3 id).cell 2; simp only [evc, List.getElem?_toArray, List.getElem?_cons_zero, List.getElem?_cons_succ] at c2'; clear hf3) | go_in)
      go_ret
      have v := HV.out
      exact ⟨by rw [← HR.out]; simp [rRefs, HH.out, v.2.2.1, G1.out], HF3.out⟩
  have r14 : (e.k == 14) = false := by simp [h14]
  by_cases h18 : e.k = 18
  · have HH := Lib.hid h18
    clear h18
    have r18 : (e.k == 18) = true := by rw [HH.out]; rfl
    by_cases g1 : kd = 17
    · have q1 : (kd == 17) = true := by simp [g1]
      have G1 := Lib.hid g1
      clear g1
      go_wp2_with (first | (go_at_call 50; refine (HKD.out _ HF2.out).mono ?_; rintro r3 w3 ⟨rfl, hf3⟩; have HF3 := Lib.hid (HF2.out.trans hf3); have c2' := (HB2.out.fr hf3 id).cell 2; simp only [evc, List.getElem?_toArray, List.getElem?_cons_zero, List.getElem?_cons_succ] at c2'; clear hf3) | (go_at_call 37; refine (HOP.out _ HF3.out e.ref).mono ?_; rintro r4 w4 ⟨rfl, hf4⟩) | go_in)
      go_ret
      have v := HV.out
      exact ⟨by rw [← HR.out]; simp [rRefs, HH.out, v.2.2.1, G1.out], HF3.out.trans hf4⟩
    · have q1 : (kd == 17) = false := by simp [g1]
      have G1 := Lib.hid g1
      clear g1
      go_wp2_with (first | (go_at_call 50; refine (HKD.out _ HF2.out).mono ?_; rintro r3 w3 ⟨rfl, hf3⟩; have HF3 := Lib.hid (HF2.out.trans hf3); have c2' := (HB2.out.fr hf3 id).cell 2; simp only [evc, List.getElem?_toArray, List.getElem?_cons_zero, List.getElem?_cons_succ] at c2'; clear hf3) | go_in)
      go_ret
      have v := HV.out
      exact ⟨by rw [← HR.out]; simp [rRefs, HH.out, v.2.2.1, G1.out], HF3.out⟩
  have r18 : (e.k == 18) = false := by simp [h18]
  have HK := Lib.hid (show rRefs l e = (e.ref == 0) by simp [rRefs, h3, h4, h5, h6, h8, h9, h10, h11, h13, h14, h18])
  by_cases g0 : e.ref = 0
  · have q0 : (e.ref == 0) = true := by simp [g0]
    have G0 := Lib.hid q0
    clear g0
    go_wp2
    go_ret
    exact ⟨by rw [← HR.out, HK.out, G0.out]; rfl, HF2.out⟩
  · have q0 : (e.ref == 0) = false := by simp [g0]
    have G0 := Lib.hid q0
    clear g0
    go_wp2
    go_ret
    exact ⟨by rw [← HR.out, HK.out, G0.out]; rfl, HF2.out⟩
end Go.Proofs.YtbdjnfkhdphhoaaDoor
