/- EventOpens: the law. -/
import Derived.Test.YtbdjnfkhdphhoaaDoorN5
import Derived.Test.YtbdjnfkhdphhoaaDoorN2
set_option linter.unusedVariables false
set_option linter.unusedSimpArgs false
namespace Go.Proofs.YtbdjnfkhdphhoaaDoor
open Go.RowKit Go.Maps
theorem netL_succ {l : List Ev} {i : Nat} {e : Ev} (h : l[i]? = some e) : netL (l.take (i + 1)) = netL (l.take i) + moreE e := by
  obtain ⟨hi, he⟩ := List.getElem?_eq_some_iff.1 h
  unfold netL
  rw [← List.take_append_getElem hi, he]
  simp
theorem moreE_le (e : Ev) : -1 ≤ moreE e ∧ moreE e ≤ 1 := by unfold moreE; split <;> (try split) <;> omega
theorem netL_le : ∀ (l : List Ev) (i : Nat), i ≤ l.length → -(i : Int) ≤ netL (l.take i) ∧ netL (l.take i) ≤ i
  | l, 0, _ => by simp [netL]
  | l, i + 1, h => by
    obtain ⟨e, he⟩ : ∃ e, l[i]? = some e := ⟨_, List.getElem?_eq_getElem (by omega)⟩
    rw [netL_succ he]
    have := netL_le l i (by omega)
    have := moreE_le e
    omega
set_option maxRecDepth 100000 in
set_option maxHeartbeats 8000000 in
theorem opens_law (W : World) (hL : Laid W) (ao : Option Addr) (len cp : Nat) (l : List Ev) (hlen : l.length = len) (hrow : RowV W ao l) (hd : DataOk W l) (hcp : len ≤ cp) (hcm : cp ≤ 9223372036854775807) :
    Calls Tryd.prog 7 #[.slice ao len cp] W fun r W' => r = .returned (.bool true) ∧ Below W.heap.size W W' := by
  have HLEN := Lib.hid hlen
  have HROW := Lib.hid hrow
  have HL := Lib.hid hL
  have HCP := Lib.hid (And.intro hcp hcm)
  clear hlen hrow hd hcp hcm hL
  go_enter Tryd.func7, Tryd.ntmps7
  go_upto_region 3 with (first | (go_at_call 8; refine (known_any _ HL.out).mono ?_; rintro r2 w2 ⟨rfl, hf2⟩) | go_in)
  have HF2 := Lib.hid hf2
  have HR2 := Lib.hid (HROW.out.fr hf2 (fun k e => e.elim))
  clear hf2
  have HFEW := Lib.hid (few_any w2 ao cp l HR2.out (by have := HCP.out; have := HLEN.out; omega))
  rw [HLEN.out] at HFEW
  have HEND := Lib.hid (HF2.out.below (Nat.le_refl _) (fun k e => e.elim))
  by_cases h120 : 120 < len
  · go_wp2_with fail
    refine HFEW.out.mono ?_
    rintro r3 w3 ⟨q, rfl, rfl, hq⟩
    cases q with
    | true =>
      have := hq rfl
      have := HLEN.out
      exact absurd h120 (by omega)
    | false =>
      go_wp2
      go_ret
      exact ⟨rfl, HEND.out⟩
  have H120 : Hid (len ≤ 120) := Lib.hid (by omega)
  clear h120
  by_cases hg : Good l l.length
  case neg =>
    have HCK := Lib.hid (check_bad w2 ao cp len l HR2.out HLEN.out (by have := H120.out; omega) hg)
    go_wp2_with fail
    refine HFEW.out.mono ?_
    rintro r3 w3 ⟨q, rfl, rfl, hq⟩
    clear hq
    cases q with
    | false =>
      go_wp2
      go_ret
      exact ⟨rfl, HEND.out⟩
    | true =>
      go_wp2_with (first | (go_at_call 16; refine HCK.out.mono ?_; rintro r4 w4 ⟨p, rfl, hf4⟩) | go_in)
      go_ret
      exact ⟨rfl, (HF2.out.trans hf4).below (Nat.le_refl _) (fun k e => e.elim)⟩
  have HG := Lib.hid hg
  have HCK := Lib.hid (check_good w2 ao cp len l HR2.out HLEN.out (by have := H120.out; omega) hg)
  go_wp2_with fail
  refine HFEW.out.mono ?_
  rintro r3 w3 ⟨q, rfl, rfl, hq⟩
  clear hq hg
  cases q with
  | false =>
    go_wp2
    go_ret
    exact ⟨rfl, HEND.out⟩
  | true =>
  clear HFEW HEND
  go_upto_region 5 with (first | (go_at_call 16; refine HCK.out.mono ?_; rintro r4 w4 ⟨rfl, hf4⟩) | go_in)
  have HF4 := Lib.hid (HF2.out.trans hf4)
  have HR4 := Lib.hid (HR2.out.fr hf4 (fun k e => e.elim))
  clear hf4 HF2 HR2 HCK
  have HOPEN := Lib.hid (open_any w4 ao cp len l HR4.out HLEN.out (by have := H120.out; omega) HG.out)
  go_upto_region 6 with (first | (go_at_call 25; refine HOPEN.out.mono ?_; rintro r5 w5 ⟨v0, v1, v2, rfl, ho0, ho1, ho2, hf5⟩) | go_in)
  obtain ⟨a0, k0, rfl, h0n, h0m, h0r, _⟩ := ho0.row
  obtain ⟨a1, k1, rfl, h1n, h1m, h1r, _⟩ := ho1.row
  obtain ⟨a2, k2, rfl, h2n, h2m, h2r, _⟩ := ho2.row
  have HX0 := Lib.hid h0r
  have HX1 := Lib.hid h1r
  have HX2 := Lib.hid h2r
  have HF5 := Lib.hid (HF4.out.trans hf5)
  have HR5 := Lib.hid (HR4.out.fr hf5 (fun k e => e.elim))
  clear ho0 ho1 ho2 hf5 h0r h1r h2r h0n h0m h1n h1m h2n h2m HOPEN HF4 HR4
  have hcnt := tells_count HG.out
  have hle0 : (tells l 0).length + (tells l 1).length + (tells l 2).length ≤ 120 := by
    have h1 := (netL_le l l.length (Nat.le_refl _)).2
    rw [List.take_length] at h1
    have := HLEN.out
    have := H120.out
    omega
  obtain ⟨n0, hn0⟩ : ∃ z, (tells l 0).length = z := ⟨_, rfl⟩
  obtain ⟨n1, hn1⟩ : ∃ z, (tells l 1).length = z := ⟨_, rfl⟩
  obtain ⟨n2, hn2⟩ : ∃ z, (tells l 2).length = z := ⟨_, rfl⟩
  have HRI0 := Lib.hid (fun w' (hf : Fr (fun _ => False) w5 w') => rises_any w' a0 k0 n0 _ (HX0.out.fr hf (fun _ _ h => h)) hn0 (by omega) (tells_rise HG.out 0 (by decide)))
  have HRI1 := Lib.hid (fun w' (hf : Fr (fun _ => False) w5 w') => rises_any w' a1 k1 n1 _ (HX1.out.fr hf (fun _ _ h => h)) hn1 (by omega) (tells_rise HG.out 1 (by decide)))
  have HRI2 := Lib.hid (fun w' (hf : Fr (fun _ => False) w5 w') => rises_any w' a2 k2 n2 _ (HX2.out.fr hf (fun _ _ h => h)) hn2 (by omega) (tells_rise HG.out 2 (by decide)))
  rw [hn0, hn1, hn2] at hcnt hle0
  simp only [hn0, hn1, hn2]
  have HCNT := Lib.hid hcnt
  have HLE0 := Lib.hid hle0
  clear hcnt hle0 hn0 hn1 hn2 HX0 HX1 HX2
  go_wp2_with fail
  go_loopw [6, 7] (fun nv iv wr => ∃ i : Nat, i ≤ len ∧ iv = .int .i64 i ∧ nv = .int .i64 (netL (l.take i)) ∧ wr = w5) (fun _ iv _ => len - (intOf iv).toNat)
  case atStart => exact ⟨0, Nat.zero_le _, rfl, rfl, rfl⟩
  case round =>
    obtain ⟨i, hi, rfl, rfl, rfl⟩ := hrel
    have hnn := H120.out
    by_cases hlt : i < len
    · have p0 : decide ((i : Int) < len) = true := decide_eq_true (by omega)
      have p0' : decide (i < len) = true := decide_eq_true hlt
      obtain ⟨e, he⟩ : ∃ e, l[i]? = some e := ⟨_, List.getElem?_eq_getElem (by rw [HLEN.out]; exact hlt)⟩
      obtain ⟨b, o, rfl, hc⟩ := HR5.out.at_ he
      have c0 : wr.cell? ⟨b, o + i * 7 + 0, none⟩ = some (.int .i64 e.k) := hc _ (Fr.refl _ _) 0 _ rfl
      rw [Nat.add_zero] at c0
      have hbd := netL_le l i (by rw [HLEN.out]; omega)
      have HNX := Lib.hid (netL_succ he)
      obtain ⟨m, hm⟩ : ∃ z, netL (l.take i) = z := ⟨_, rfl⟩
      rw [hm] at hbd HNX ⊢
      obtain ⟨k, hk⟩ : ∃ z, e.k = z := ⟨_, rfl⟩
      have HK := Lib.hid hk
      rw [hk] at c0
      clear hk hm hc he
      have w1 : wrap64 (m + 1) = m + 1 := by rw [wrap64]; omega
      have w2 : wrap64 (m - 1) = m - 1 := by rw [wrap64]; omega
      have w3 : wrap64 ((i : Int) + 1) = ((i + 1 : Nat) : Int) := by rw [wrap64]; omega
      have HW1 := Lib.hid w1
      have HW2 := Lib.hid w2
      have HW3 := Lib.hid w3
      have HBD := Lib.hid (And.intro hbd (And.intro hi hlt))
      clear w1 w2 w3 hbd hi hnn
      by_cases h7 : k = 7
      · subst h7
        go_wp2
        go_roundw
        case rel => exact ⟨i + 1, by have := HBD.out; omega, by rw [HW3.out], by rw [HNX.out]; rw [HW1.out]; unfold moreE; rw [HK.out]; rw [if_pos (by decide)], by first | rfl | trivial⟩
        case measure => rw [HW3.out]; have := HBD.out; clear HW1 HW2 HW3; simp [intOf]; omega
      have r7 : (k == 7) = false := by simp [h7]
      by_cases h12 : k = 12
      · subst h12
        go_wp2
        go_roundw
        case rel => exact ⟨i + 1, by have := HBD.out; omega, by rw [HW3.out], by rw [HNX.out]; rw [HW1.out]; unfold moreE; rw [HK.out]; rw [if_pos (by decide)], by first | rfl | trivial⟩
        case measure => rw [HW3.out]; have := HBD.out; clear HW1 HW2 HW3; simp [intOf]; omega
      have r12 : (k == 12) = false := by simp [h12]
      by_cases h17 : k = 17
      · subst h17
        go_wp2
        go_roundw
        case rel => exact ⟨i + 1, by have := HBD.out; omega, by rw [HW3.out], by rw [HNX.out]; rw [HW1.out]; unfold moreE; rw [HK.out]; rw [if_pos (by decide)], by first | rfl | trivial⟩
        case measure => rw [HW3.out]; have := HBD.out; clear HW1 HW2 HW3; simp [intOf]; omega
      have r17 : (k == 17) = false := by simp [h17]
      by_cases h9 : k = 9
      · subst h9
        go_wp2
        go_roundw
        case rel => exact ⟨i + 1, by have := HBD.out; omega, by rw [HW3.out], by rw [HNX.out]; rw [HW2.out]; unfold moreE; rw [HK.out]; rw [if_neg (by decide), if_pos (by decide)]; rfl, by first | rfl | trivial⟩
        case measure => rw [HW3.out]; have := HBD.out; clear HW1 HW2 HW3; simp [intOf]; omega
      have r9 : (k == 9) = false := by simp [h9]
      by_cases h10 : k = 10
      · subst h10
        go_wp2
        go_roundw
        case rel => exact ⟨i + 1, by have := HBD.out; omega, by rw [HW3.out], by rw [HNX.out]; rw [HW2.out]; unfold moreE; rw [HK.out]; rw [if_neg (by decide), if_pos (by decide)]; rfl, by first | rfl | trivial⟩
        case measure => rw [HW3.out]; have := HBD.out; clear HW1 HW2 HW3; simp [intOf]; omega
      have r10 : (k == 10) = false := by simp [h10]
      by_cases h11 : k = 11
      · subst h11
        go_wp2
        go_roundw
        case rel => exact ⟨i + 1, by have := HBD.out; omega, by rw [HW3.out], by rw [HNX.out]; rw [HW2.out]; unfold moreE; rw [HK.out]; rw [if_neg (by decide), if_pos (by decide)]; rfl, by first | rfl | trivial⟩
        case measure => rw [HW3.out]; have := HBD.out; clear HW1 HW2 HW3; simp [intOf]; omega
      have r11 : (k == 11) = false := by simp [h11]
      by_cases h13 : k = 13
      · subst h13
        go_wp2
        go_roundw
        case rel => exact ⟨i + 1, by have := HBD.out; omega, by rw [HW3.out], by rw [HNX.out]; rw [HW2.out]; unfold moreE; rw [HK.out]; rw [if_neg (by decide), if_pos (by decide)]; rfl, by first | rfl | trivial⟩
        case measure => rw [HW3.out]; have := HBD.out; clear HW1 HW2 HW3; simp [intOf]; omega
      have r13 : (k == 13) = false := by simp [h13]
      by_cases h14 : k = 14
      · subst h14
        go_wp2
        go_roundw
        case rel => exact ⟨i + 1, by have := HBD.out; omega, by rw [HW3.out], by rw [HNX.out]; rw [HW2.out]; unfold moreE; rw [HK.out]; rw [if_neg (by decide), if_pos (by decide)]; rfl, by first | rfl | trivial⟩
        case measure => rw [HW3.out]; have := HBD.out; clear HW1 HW2 HW3; simp [intOf]; omega
      have r14 : (k == 14) = false := by simp [h14]
      by_cases h18 : k = 18
      · subst h18
        go_wp2
        go_roundw
        case rel => exact ⟨i + 1, by have := HBD.out; omega, by rw [HW3.out], by rw [HNX.out]; rw [HW2.out]; unfold moreE; rw [HK.out]; rw [if_neg (by decide), if_pos (by decide)]; rfl, by first | rfl | trivial⟩
        case measure => rw [HW3.out]; have := HBD.out; clear HW1 HW2 HW3; simp [intOf]; omega
      have r18 : (k == 18) = false := by simp [h18]
      go_wp2
      go_roundw
      case rel => exact ⟨i + 1, by have := HBD.out; omega, by rw [HW3.out], by rw [HNX.out]; unfold moreE; rw [HK.out]; rw [if_neg (by omega), if_neg (by omega), Int.add_zero], by first | rfl | trivial⟩
      case measure => rw [HW3.out]; have := HBD.out; clear HW1 HW2 HW3; simp [intOf]; omega
    · obtain rfl : i = len := by omega
      have p0 : decide ((i : Int) < i) = false := decide_eq_false (by omega)
      have p0' : decide (i < i) = false := decide_eq_false (by omega)
      have hnet : netL (l.take i) = ((n0 + n1 + n2 : Nat) : Int) := by rw [HCNT.out, ← HLEN.out, List.take_length]
      rw [hnet]
      have hle := HLE0.out
      obtain ⟨x0, hx0⟩ : ∃ z, (n0 : Int) = z := ⟨_, rfl⟩
      obtain ⟨x1, hx1⟩ : ∃ z, (n1 : Int) = z := ⟨_, rfl⟩
      obtain ⟨x2, hx2⟩ : ∃ z, (n2 : Int) = z := ⟨_, rfl⟩
      obtain ⟨a, ha⟩ : ∃ z, x0 + x1 = z := ⟨_, rfl⟩
      obtain ⟨t, ht⟩ : ∃ z, a + x2 = z := ⟨_, rfl⟩
      have w1 : wrap64 (x0 + x1) = a := by rw [wrap64]; omega
      have w2 : wrap64 (a + x2) = t := by rw [wrap64]; omega
      have HT : ((n0 + n1 + n2 : Nat) : Int) = t := by omega
      rw [HT]
      have q1 : (t == t) = true := by simp
      clear hnet ha ht HT hle
      go_upto_region 22 with (fail)
      go_wp2_with fail
      refine (HRI0.out _ (Fr.refl _ _)).mono ?_
      rintro r6 w6 ⟨rfl, hf6⟩
      go_wp2_with fail
      refine (HRI1.out _ hf6).mono ?_
      rintro r7 w7 ⟨rfl, hf7⟩
      go_wp2_with fail
      refine (HRI2.out _ (hf6.trans hf7)).mono ?_
      rintro r8 w8 ⟨rfl, hf8⟩
      go_wp2
      go_ret
      exact ⟨rfl, (((HF5.out.trans hf6).trans hf7).trans hf8).below (Nat.le_refl _) (fun k e => e.elim)⟩
end Go.Proofs.YtbdjnfkhdphhoaaDoor
