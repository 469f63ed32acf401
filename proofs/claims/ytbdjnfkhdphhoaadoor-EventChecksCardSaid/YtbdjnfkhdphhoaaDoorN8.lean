/- EventChecks: the law. -/
import Derived.Test.YtbdjnfkhdphhoaaDoorN7
import Derived.Test.YtbdjnfkhdphhoaaDoorN6
import Derived.Test.YtbdjnfkhdphhoaaDoorN2
set_option linter.unusedVariables false
set_option linter.unusedSimpArgs false
namespace Go.Proofs.YtbdjnfkhdphhoaaDoor
open Go.RowKit Go.Maps
set_option maxRecDepth 100000 in
set_option maxHeartbeats 8000000 in
theorem checks_law (W : World) (hL : Laid W) (ao : Option Addr) (len cp : Nat) (l : List Ev) (hlen : l.length = len) (hrow : RowV W ao l) (hd : DataOk W l) (hcp : len ≤ cp) (hcm : cp ≤ 9223372036854775807) :
    Calls Tryd.prog 6 #[.slice ao len cp] W fun r W' => r = .returned (.bool true) ∧ Below W.heap.size W W' := by
  have HLEN := Lib.hid hlen
  have HROW := Lib.hid hrow
  have HL := Lib.hid hL
  have HCP := Lib.hid (And.intro hcp hcm)
  clear hlen hrow hd hcp hcm hL
  go_enter Tryd.func6, Tryd.ntmps6
  go_upto_region 3 with (first | (go_at_call 8; refine (known_any _ HL.out).mono ?_; rintro r2 w2 ⟨rfl, hf2⟩) | go_in)
  have HF2 := Lib.hid hf2
  have HR2 := Lib.hid (HROW.out.fr hf2 (fun k e => e.elim))
  have HL2 := Lib.hid (HL.out.fr hf2 id)
  clear hf2
  have HFEW := Lib.hid (few_any w2 ao cp l HR2.out (by have := HCP.out; have := HLEN.out; omega))
  rw [HLEN.out] at HFEW
  have HEND := Lib.hid (HF2.out.below (Nat.le_refl _) (fun k e => e.elim))
  go_wp2_with fail
  refine HFEW.out.mono ?_
  rintro r3 w3 ⟨q, rfl, rfl, hq⟩
  cases q with
  | false =>
    go_wp2
    go_ret
    exact ⟨rfl, HEND.out⟩
  | true =>
  have H120 : Hid (len ≤ 120) := Lib.hid (by have := hq rfl; have := HLEN.out; omega)
  clear hq HFEW HEND
  have HRC := Lib.hid (rcheck_any w2 ao cp len l HR2.out HLEN.out HCP.out.1 (by have := H120.out; omega))
  go_wp2_with fail
  refine HRC.out.mono ?_
  rintro r4 w4 ⟨hf4, ⟨hg, rfl⟩ | ⟨i, e, he, hgi, hfa, rfl⟩⟩
  · have HG := Lib.hid hg
    have HF4 := Lib.hid (HF2.out.trans hf4)
    have HR4 := Lib.hid (HR2.out.fr hf4 (fun k e => e.elim))
    clear hg hf4 HF2 HR2 HRC
    have HCK := Lib.hid (check_good w4 ao cp len l HR4.out HLEN.out (by have := H120.out; omega) HG.out)
    go_upto_region 7 with (first | (go_at_call 16; refine HCK.out.mono ?_; rintro r5 w5 ⟨rfl, hf5⟩) | go_in)
    have HF5 := Lib.hid (HF4.out.trans hf5)
    have HR5 := Lib.hid (HR4.out.fr hf5 (fun k e => e.elim))
    clear hf5 HF4 HR4 HCK
    have hfT : Fr (fun _ => False) w5 (w5.alloc (.cells #[.pointer none] 36)) := Fr.alloc _ _ _
    obtain ⟨w6, hw6⟩ : ∃ w6, w5.alloc (.cells #[.pointer none] 36) = w6 := ⟨_, rfl⟩
    rw [hw6] at hfT
    have HF6 := Lib.hid (HF5.out.trans hfT)
    have HR6 := Lib.hid (HR5.out.fr hfT (fun k e => e.elim))
    clear hfT
    go_upto_region 8 with (fail)
    try rw [hw6]
    clear hw6 HF5 HR5
    have HS1 : Hid (∀ w', Fr (fun _ => False) w6 w' → Calls Tryd.prog 22 #[.slice ao len cp] w' fun r W' => r = .returned (.int .i64 (statL l)) ∧ Fr (fun _ => False) w' W') := Lib.hid (fun w' hf => by
      have := stat_any w' ao cp l (HR6.out.fr hf (fun k e => e.elim)) (by have := H120.out; have := HLEN.out; omega)
      rw [HLEN.out] at this
      exact this)
    have HS2 : Hid (∀ w', Fr (fun _ => False) w6 w' → Calls Tryd.prog 24 #[.slice ao len cp] w' fun r W' => r = .returned (.int .i64 (statL l)) ∧ Fr (fun _ => False) w' W') := Lib.hid (fun w' hf => by
      have := rstat_any w' ao cp l (HR6.out.fr hf (fun k e => e.elim)) (by have := H120.out; have := HLEN.out; omega)
      rw [HLEN.out] at this
      exact this)
    obtain ⟨st, hst⟩ : ∃ z, statL l = z := ⟨_, rfl⟩
    rw [hst] at HS1 HS2
    clear hst
    go_upto_region 11 with (first | (go_at_call 22; refine (HS1.out _ (Fr.refl _ _)).mono ?_; rintro r7 w7 ⟨rfl, hf7⟩) | (go_at_call 24; refine (HS2.out _ hf7).mono ?_; rintro r8 w8 ⟨rfl, hf8⟩) | go_in)
    have HF8 := Lib.hid (HF6.out.trans (hf7.trans hf8))
    have HR8 := Lib.hid (HR6.out.fr (hf7.trans hf8) (fun k e => e.elim))
    clear hf7 hf8 HF6 HR6 HS1 HS2
    have HOPEN := Lib.hid (open_any w8 ao cp len l HR8.out HLEN.out (by have := H120.out; omega) HG.out)
    go_upto_region 12 with (first | (go_at_call 25; refine HOPEN.out.mono ?_; rintro r9 w9 ⟨v0, v1, v2, rfl, ho0, ho1, ho2, hf9⟩) | go_in)
    obtain ⟨a0, k0, rfl, h0n, h0m, h0r, _⟩ := ho0.row
    obtain ⟨a1, k1, rfl, h1n, h1m, h1r, _⟩ := ho1.row
    obtain ⟨a2, k2, rfl, h2n, h2m, h2r, _⟩ := ho2.row
    have HX0 := Lib.hid h0r
    have HX1 := Lib.hid h1r
    have HX2 := Lib.hid h2r
    have HF9 := Lib.hid (HF8.out.trans hf9)
    have HR9 := Lib.hid (HR8.out.fr hf9 (fun k e => e.elim))
    clear ho0 ho1 ho2 hf9 h0r h1r h2r h0n h0m h1n h1m h2n h2m HOPEN HF8 HR8
    have hcnt := tells_count HG.out
    have hle0 : (tells l 0).length ≤ 120 ∧ (tells l 1).length ≤ 120 ∧ (tells l 2).length ≤ 120 := by
      have h1 := (netL_le l l.length (Nat.le_refl _)).2
      rw [List.take_length] at h1
      have := HLEN.out
      have := H120.out
      omega
    clear hcnt
    have HRO := Lib.hid (fun w' (hf : Fr (fun _ => False) w9 w') (k : Int) (c : Nat) h => ropen_tells w' ao cp len l (HR9.out.fr hf (fun k e => e.elim)) HLEN.out HCP.out.1 (by have := H120.out; omega) k c h)
    have HRO0 := Lib.hid (fun w' (hf : Fr (fun _ => False) w9 w') => HRO.out w' hf 7 0 (.inl ⟨rfl, rfl⟩))
    have HRO1 := Lib.hid (fun w' (hf : Fr (fun _ => False) w9 w') => HRO.out w' hf 12 1 (.inr (.inl ⟨rfl, rfl⟩)))
    have HRO2 := Lib.hid (fun w' (hf : Fr (fun _ => False) w9 w') => HRO.out w' hf 17 2 (.inr (.inr ⟨rfl, rfl⟩)))
    obtain ⟨n0, hn0⟩ : ∃ z, (tells l 0).length = z := ⟨_, rfl⟩
    obtain ⟨n1, hn1⟩ : ∃ z, (tells l 1).length = z := ⟨_, rfl⟩
    obtain ⟨n2, hn2⟩ : ∃ z, (tells l 2).length = z := ⟨_, rfl⟩
    rw [hn0, hn1, hn2] at hle0
    have HI0 := Lib.hid (fun w' (hf : Fr (fun _ => False) w9 w') bo cq (hb : RowI w' bo (tells l 0)) => ints_any w' a0 bo k0 cq n0 _ (HX0.out.fr hf (fun _ _ h => h)) hb hn0 (by omega))
    have HI1 := Lib.hid (fun w' (hf : Fr (fun _ => False) w9 w') bo cq (hb : RowI w' bo (tells l 1)) => ints_any w' a1 bo k1 cq n1 _ (HX1.out.fr hf (fun _ _ h => h)) hb hn1 (by omega))
    have HI2 := Lib.hid (fun w' (hf : Fr (fun _ => False) w9 w') bo cq (hb : RowI w' bo (tells l 2)) => ints_any w' a2 bo k2 cq n2 _ (HX2.out.fr hf (fun _ _ h => h)) hb hn2 (by omega))
    rw [hn0] at HRO0
    rw [hn1] at HRO1
    rw [hn2] at HRO2
    simp only [hn0, hn1, hn2]
    clear hle0 hn0 hn1 hn2 HX0 HX1 HX2 HRO
    go_wp2_with fail
    refine (HRO0.out _ (Fr.refl _ _)).mono ?_
    rintro r10 w10 ⟨bo0, cq0, rfl, hb0, hf10⟩
    go_wp2_with fail
    refine (HI0.out _ hf10 _ _ hb0).mono ?_
    rintro r11 w11 ⟨rfl, hf11⟩
    clear hb0
    have HG11 := Lib.hid (hf10.trans hf11)
    clear hf10 hf11
    go_wp2_with fail
    refine (HRO1.out _ HG11.out).mono ?_
    rintro r12 w12 ⟨bo1, cq1, rfl, hb1, hf12⟩
    go_wp2_with fail
    refine (HI1.out _ (HG11.out.trans hf12) _ _ hb1).mono ?_
    rintro r13 w13 ⟨rfl, hf13⟩
    clear hb1
    have HG13 := Lib.hid (HG11.out.trans (hf12.trans hf13))
    clear hf12 hf13
    go_wp2_with fail
    refine (HRO2.out _ HG13.out).mono ?_
    rintro r14 w14 ⟨bo2, cq2, rfl, hb2, hf14⟩
    go_wp2_with fail
    refine (HI2.out _ (HG13.out.trans hf14) _ _ hb2).mono ?_
    rintro r15 w15 ⟨rfl, hf15⟩
    clear hb2
    have HG15 := Lib.hid (HG13.out.trans (hf14.trans hf15))
    clear hf14 hf15
    go_wp2
    go_ret
    exact ⟨rfl, (HF9.out.trans HG15.out).below (Nat.le_refl _) (fun k e => e.elim)⟩
  · obtain ⟨c, hc⟩ : ∃ c, faultC (feed hi0 (l.take i)) e = c := ⟨_, rfl⟩
    have hc7 : c ≤ 7 := by rw [← hc]; exact fault_le _ _
    have hilt : i < l.length := (List.getElem?_eq_some_iff.1 he).1
    have HE := Lib.hid he
    have HGI := Lib.hid hgi
    have HFA := Lib.hid hfa
    have HC := Lib.hid hc
    have HILT : Hid (i < len) := Lib.hid (by have := HLEN.out; omega)
    have HF4 := Lib.hid (HF2.out.trans hf4)
    have HR4 := Lib.hid (HR2.out.fr hf4 (fun k e => e.elim))
    have HL4 := Lib.hid (HL2.out.fr hf4 id)
    obtain ⟨z, hz, hze⟩ := why_cases c hc7
    have HZ := Lib.hid hz
    have HCK := check_any w4 ao cp l HR4.out (by have := H120.out; have := HLEN.out; omega)
    rw [HLEN.out] at HCK
    have HCK := Lib.hid HCK
    rw [hc, hz]
    clear hc hc7 hz hze hilt he hgi hfa hf4 HF2 HR2 HL2 HRC
    go_wp2_with fail
    refine HCK.out.mono ?_
    rintro r5 w5 ⟨hf5, ⟨rfl, hbad⟩ | ⟨i2, e2, pb, he2, hg2, hf2, rfl, hpb, hB⟩⟩
    · exact (HFA.out (hbad i e (by have := HLEN.out; have := HILT.out; omega) HE.out)).elim
    obtain rfl : i2 = i := by
      rcases Nat.lt_trichotomy i i2 with h | h | h
      · exact (HFA.out (hg2 i e h HE.out)).elim
      · exact h.symm
      · exact (hf2 (HGI.out i2 e2 h he2)).elim
    obtain rfl : e2 = e := by
      have := he2.symm.trans HE.out
      exact Option.some.inj this
    rw [HC.out, HZ.out] at hB
    have HF5 := Lib.hid (HF4.out.trans hf5)
    have HR5 := Lib.hid (HR4.out.fr hf5 (fun k e => e.elim))
    have HL5 := Lib.hid (HL4.out.fr hf5 id)
    have HB5 := Lib.hid hB
    clear he2 hg2 hf2 hpb hB hf5 HCK HF4 HR4 HL4
    go_upto_region 7 with (fail)
    have hT := Blk.new w5 36 #[.pointer none]
    have hfT : Fr (fun _ => False) w5 (w5.alloc (.cells #[.pointer none] 36)) := Fr.alloc _ _ _
    obtain ⟨tb, htb⟩ : ∃ b, w5.heap.size = b := ⟨_, rfl⟩
    have HTW : Hid (W.heap.size ≤ tb) := Lib.hid (by have := HF5.out.size; omega)
    have HPT : Hid (pb ≠ tb) := Lib.hid (by have := HB5.out.lt; omega)
    obtain ⟨w7, hw7⟩ : ∃ w7, w5.alloc (.cells #[.pointer none] 36) = w7 := ⟨_, rfl⟩
    rw [hw7] at hT hfT
    rw [htb] at hT
    have HT7 := Lib.hid hT
    have HB7 := Lib.hid (HB5.out.fr hfT id)
    have HF7 := Lib.hid (HF5.out.trans hfT)
    have HL7 := Lib.hid (HL5.out.fr hfT id)
    have HR7 := Lib.hid (HR5.out.fr hfT (fun k e => e.elim))
    clear hT hfT HB5 HF5 HL5 HR5
    go_upto_region 8 with (fail)
    try rw [hw7]
    try rw [htb]
    clear hw7 htb
    have q1 : ((i2 : Int) + 1 == 0) = false := by simp; omega
    have q2 : ((i2 : Int) + 1 == (i2 : Int) + 1) = true := by simp
    go_upto_region 15 with (first
      | (go_at_call 18; refine (as_any _ _ tb _ HL7.out HT7.out).mono ?_; rintro r8 w9 ⟨rfl, hf9, ht9⟩; have d0 := ht9.cell 0; simp only [List.getElem?_toArray, List.getElem?_cons_zero] at d0; have HB9 := Lib.hid (HB7.out.fr hf9 HPT.out); have HF9 := Lib.hid (HF7.out.above hf9 (fun k e => by subst e; exact HTW.out)); have HR9 := Lib.hid (HROW.out.fr HF9.out (fun k e => e.elim)); have d1 := HB9.out.cell 0; have d2 := HB9.out.cell 1; simp only [List.getElem?_toArray, List.getElem?_cons_zero, List.getElem?_cons_succ] at d1 d2; clear hf9 ht9)
      | (go_at_call 28; refine (is_any _ _ _ _ HB9.out).mono ?_; rintro r10 w10 ⟨rfl, rfl⟩)
      | go_in)
    clear d0 d1 d2 q1 q2
    obtain ⟨b, o, rfl, hcc⟩ := HR9.out.at_ HE.out
    have hfd : Fr (fun _ => False) w9 w9.drew := Fr.drewN _ w9 1
    have FACT : Hid (∀ w', Fr (fun _ => False) w9 w' → w'.cell? ⟨b, o + i2 * 7 + 0, none⟩ = some (.int .i64 e2.k) ∧ w'.cell? ⟨b, o + i2 * 7 + 1, none⟩ = some (.int .i64 e2.at_) ∧ w'.cell? ⟨b, o + i2 * 7 + 2, none⟩ = some (.int .i64 e2.ref) ∧ w'.cell? ⟨b, o + i2 * 7 + 3, none⟩ = some (.int .i64 e2.id) ∧ w'.cell? ⟨b, o + i2 * 7 + 4, none⟩ = some (.int .i64 e2.list) ∧ w'.cell? ⟨b, o + i2 * 7 + 5, none⟩ = some (.int .i64 e2.n) ∧ w'.cell? ⟨b, o + i2 * 7 + 6, none⟩ = some (.slice e2.ao e2.dl e2.cp)) := Lib.hid (fun w' hf => by
      have h0 := hcc w' hf
      exact ⟨h0 0 _ rfl, h0 1 _ rfl, h0 2 _ rfl, h0 3 _ rfl, h0 4 _ rfl, h0 5 _ rfl, h0 6 _ rfl⟩)
    have hw1 : IntKind.i64.wrap ((i2 : Int) + 1 - 1) = (i2 : Int) := by have := HILT.out; have := H120.out; simp [IntKind.wrap, IntKind.bits, IntKind.signed]; omega
    have hw4 : IntKind.i64.wrap (i2 : Int) = (i2 : Int) := by have := HILT.out; have := H120.out; simp [IntKind.wrap, IntKind.bits, IntKind.signed]; omega
    have hw2 : wrap64 ((i2 : Int) + 1 - 1) = (i2 : Int) := by have := HILT.out; have := H120.out; rw [wrap64]; omega
    have hw3 : ((i2 : Int) + 1 - 1) = (i2 : Int) := by omega
    have hlt := HILT.out
    refine wp_region_held_drew (S := fun (w' : World) => w'.cell? ⟨b, o + i2 * 7 + 0, none⟩ = some (.int .i64 e2.k) ∧ w'.cell? ⟨b, o + i2 * 7 + 1, none⟩ = some (.int .i64 e2.at_) ∧ w'.cell? ⟨b, o + i2 * 7 + 2, none⟩ = some (.int .i64 e2.ref) ∧ w'.cell? ⟨b, o + i2 * 7 + 3, none⟩ = some (.int .i64 e2.id) ∧ w'.cell? ⟨b, o + i2 * 7 + 4, none⟩ = some (.int .i64 e2.list) ∧ w'.cell? ⟨b, o + i2 * 7 + 5, none⟩ = some (.int .i64 e2.n) ∧ w'.cell? ⟨b, o + i2 * 7 + 6, none⟩ = some (.slice e2.ao e2.dl e2.cp)) (by kernel_rfl) (FACT.out _ hfd) (fun hHeld => ?_)
    have HFD := Lib.hid hfd
    obtain ⟨wd, hwd⟩ : ∃ w, w9.drew = w := ⟨_, rfl⟩
    rw [hwd] at hHeld HFD ⊢
    clear hwd hfd hcc
    refine wpAnyH_take (i := 0) (oi := _) (v := ?va0) rfl (by kernel_rfl) (by kernel_rfl) (by kernel_rfl) (fun _ _ _ h => h) (Or.inl ⟨by rfl, ?ya0⟩) (by assumption) ?ra0
    case ya0 => intro w1 hSw; obtain ⟨s1, s2, s3, s4, s5, s6, s7⟩ := hSw; rw [Nat.add_zero] at s1; go_simp; try with_reducible rfl
    try simp only [List.getElem_toArray, List.getElem_cons_zero, List.getElem_cons_succ, Act.put, List.setIfInBounds_toArray, List.set_cons_zero, List.set_cons_succ]
    refine wpAnyH_take (i := 1) (oi := _) (v := ?va1) rfl (by kernel_rfl) (by kernel_rfl) (by kernel_rfl) (fun _ _ _ h => h) (Or.inl ⟨by rfl, ?ya1⟩) (by assumption) ?ra1
    case ya1 => intro w1 hSw; obtain ⟨s1, s2, s3, s4, s5, s6, s7⟩ := hSw; rw [Nat.add_zero] at s1; go_simp; try with_reducible rfl
    try simp only [List.getElem_toArray, List.getElem_cons_zero, List.getElem_cons_succ, Act.put, List.setIfInBounds_toArray, List.set_cons_zero, List.set_cons_succ]
    refine wpAnyH_take (i := 2) (oi := _) (v := ?va2) rfl (by kernel_rfl) (by kernel_rfl) (by kernel_rfl) (fun _ _ _ h => h) (Or.inl ⟨by rfl, ?ya2⟩) (by assumption) ?ra2
    case ya2 => intro w1 hSw; obtain ⟨s1, s2, s3, s4, s5, s6, s7⟩ := hSw; rw [Nat.add_zero] at s1; go_simp; try with_reducible rfl
    try simp only [List.getElem_toArray, List.getElem_cons_zero, List.getElem_cons_succ, Act.put, List.setIfInBounds_toArray, List.set_cons_zero, List.set_cons_succ]
    refine wpAnyH_take (i := 3) (oi := _) (v := ?va3) rfl (by kernel_rfl) (by kernel_rfl) (by kernel_rfl) (fun _ _ _ h => h) (Or.inl ⟨by rfl, ?ya3⟩) (by assumption) ?ra3
    case ya3 => intro w1 hSw; obtain ⟨s1, s2, s3, s4, s5, s6, s7⟩ := hSw; rw [Nat.add_zero] at s1; go_simp; try with_reducible rfl
    try simp only [List.getElem_toArray, List.getElem_cons_zero, List.getElem_cons_succ, Act.put, List.setIfInBounds_toArray, List.set_cons_zero, List.set_cons_succ]
    refine wpAnyH_take (i := 4) (oi := _) (v := ?va4) rfl (by kernel_rfl) (by kernel_rfl) (by kernel_rfl) (fun _ _ _ h => h) (Or.inl ⟨by rfl, ?ya4⟩) (by assumption) ?ra4
    case ya4 => intro w1 hSw; obtain ⟨s1, s2, s3, s4, s5, s6, s7⟩ := hSw; rw [Nat.add_zero] at s1; go_simp; try with_reducible rfl
    try simp only [List.getElem_toArray, List.getElem_cons_zero, List.getElem_cons_succ, Act.put, List.setIfInBounds_toArray, List.set_cons_zero, List.set_cons_succ]
    refine wpAnyH_take (i := 6) (oi := _) (v := ?va6) rfl (by kernel_rfl) (by kernel_rfl) (by kernel_rfl) (fun _ _ _ h => h) (Or.inl ⟨by rfl, ?ya6⟩) (by assumption) ?ra6
    case ya6 => intro w1 hSw; obtain ⟨s1, s2, s3, s4, s5, s6, s7⟩ := hSw; rw [Nat.add_zero] at s1; go_simp; try with_reducible rfl
    try simp only [List.getElem_toArray, List.getElem_cons_zero, List.getElem_cons_succ, Act.put, List.setIfInBounds_toArray, List.set_cons_zero, List.set_cons_succ]
    refine wpAnyH_take (i := 7) (oi := _) (v := ?va7) rfl (by kernel_rfl) (by kernel_rfl) (by kernel_rfl) (fun _ _ _ h => h) (Or.inl ⟨by rfl, ?ya7⟩) (by assumption) ?ra7
    case ya7 => intro w1 hSw; obtain ⟨s1, s2, s3, s4, s5, s6, s7⟩ := hSw; rw [Nat.add_zero] at s1; go_simp; try with_reducible rfl
    try simp only [List.getElem_toArray, List.getElem_cons_zero, List.getElem_cons_succ, Act.put, List.setIfInBounds_toArray, List.set_cons_zero, List.set_cons_succ]
    refine wpAnyH_take (i := 8) (oi := _) (v := ?va8) rfl (by kernel_rfl) (by kernel_rfl) (by kernel_rfl) (fun _ _ _ h => h) (Or.inl ⟨by rfl, ?ya8⟩) (by assumption) ?ra8
    case ya8 => intro w1 hSw; obtain ⟨s1, s2, s3, s4, s5, s6, s7⟩ := hSw; rw [Nat.add_zero] at s1; go_simp; try with_reducible rfl
    try simp only [List.getElem_toArray, List.getElem_cons_zero, List.getElem_cons_succ, Act.put, List.setIfInBounds_toArray, List.set_cons_zero, List.set_cons_succ]
    refine wpAnyH_take (i := 9) (oi := _) (v := ?va9) rfl (by kernel_rfl) (by kernel_rfl) (by kernel_rfl) (fun _ _ _ h => h) (Or.inl ⟨by rfl, ?ya9⟩) (by assumption) ?ra9
    case ya9 => intro w1 hSw; obtain ⟨s1, s2, s3, s4, s5, s6, s7⟩ := hSw; rw [Nat.add_zero] at s1; go_simp; try with_reducible rfl
    try simp only [List.getElem_toArray, List.getElem_cons_zero, List.getElem_cons_succ, Act.put, List.setIfInBounds_toArray, List.set_cons_zero, List.set_cons_succ]
    refine wpAnyH_take (i := 10) (oi := _) (v := ?va10) rfl (by kernel_rfl) (by kernel_rfl) (by kernel_rfl) (fun _ _ _ h => h) (Or.inl ⟨by rfl, ?ya10⟩) (by assumption) ?ra10
    case ya10 => intro w1 hSw; obtain ⟨s1, s2, s3, s4, s5, s6, s7⟩ := hSw; rw [Nat.add_zero] at s1; go_simp; try with_reducible rfl
    try simp only [List.getElem_toArray, List.getElem_cons_zero, List.getElem_cons_succ, Act.put, List.setIfInBounds_toArray, List.set_cons_zero, List.set_cons_succ]
    refine wpAnyH_ready (rs := [5]) (by kernel_rfl) (by simp) ?_
    refine AllReadyH.cons (o := _) rfl (fun K hK => ?_) AllReadyH.nil
    rw [if_pos (by rfl)]
    try simp only [List.getElem_toArray, List.getElem_cons_zero, List.getElem_cons_succ]
    go_simp
    refine (right_any _ e2).mono ?_
    rintro r11 w11 ⟨rfl, hf11⟩
    have HF11 := Lib.hid (HFD.out.trans hf11)
    clear hf11 HFD
    refine hK.out _ _ (FACT.out _ HF11.out) (fun hHeld2 => ?_)
    clear hK K
    try simp only [List.getElem_toArray, List.getElem_cons_zero, List.getElem_cons_succ, Act.put, List.setIfInBounds_toArray, List.set_cons_zero, List.set_cons_succ]
    refine wpAnyH_ready (rs := [11]) (by kernel_rfl) (by simp) ?_
    refine AllReadyH.cons (o := _) rfl (fun K hK => ?_) AllReadyH.nil
    rw [if_pos (by rfl)]
    try simp only [List.getElem_toArray, List.getElem_cons_zero, List.getElem_cons_succ]
    go_simp
    refine (rright_any _ e2).mono ?_
    rintro r12 w12 ⟨rfl, hf12⟩
    have HF12 := Lib.hid (HF11.out.trans hf12)
    clear hf12 HF11
    refine hK.out _ _ (FACT.out _ HF12.out) (fun hHeld3 => ?_)
    clear hK K
    try simp only [List.getElem_toArray, List.getElem_cons_zero, List.getElem_cons_succ, Act.put, List.setIfInBounds_toArray, List.set_cons_zero, List.set_cons_succ]
    refine wpAnyH_take (i := 12) (oi := _) (v := ?vb12) rfl (by kernel_rfl) (by kernel_rfl) (by kernel_rfl) (fun _ _ _ h => h) (Or.inl ⟨by rfl, ?yb12⟩) (by assumption) ?rb12
    case yb12 => intro w1 hSw; obtain ⟨s1, s2, s3, s4, s5, s6, s7⟩ := hSw; rw [Nat.add_zero] at s1; go_simp; try with_reducible rfl
    try simp only [List.getElem_toArray, List.getElem_cons_zero, List.getElem_cons_succ, Act.put, List.setIfInBounds_toArray, List.set_cons_zero, List.set_cons_succ]
    refine wpAnyH_take (i := 13) (oi := _) (v := ?vb13) rfl (by kernel_rfl) (by kernel_rfl) (by kernel_rfl) (fun _ _ _ h => h) (Or.inl ⟨by rfl, ?yb13⟩) (by assumption) ?rb13
    case yb13 => intro w1 hSw; obtain ⟨s1, s2, s3, s4, s5, s6, s7⟩ := hSw; rw [Nat.add_zero] at s1; go_simp; try with_reducible rfl
    try simp only [List.getElem_toArray, List.getElem_cons_zero, List.getElem_cons_succ, Act.put, List.setIfInBounds_toArray, List.set_cons_zero, List.set_cons_succ]
    refine wpAnyH_done (by kernel_rfl) ?_ _
    go_wp2
    go_ret
    exact ⟨by simp, (HF9.out.trans HF12.out).below (Nat.le_refl _) (fun k e => e.elim)⟩
end Go.Proofs.YtbdjnfkhdphhoaaDoor
