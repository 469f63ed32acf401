/- The law ChunkCuts. -/
import Derived.Test.YtookojfigjdgcaaDoorZ
import Derived.Test.YtookojfigjdgcaaDoorR
set_option linter.unusedVariables false
set_option linter.unusedSimpArgs false
namespace Go.Proofs.YtookojfigjdgcaaDoor
open Go.RowKit
theorem cuts_len {n a b sz : Nat} (ha1 : 1 ≤ a) (hb1 : 1 ≤ b) (ha : n ≤ a * sz) (hb : n ≤ b * sz) (ha2 : ∀ j, 1 ≤ j → j < a → j * sz < n) (hb2 : ∀ j, 1 ≤ j → j < b → j * sz < n) : a = b := by
  rcases Nat.lt_trichotomy a b with h | h | h
  · have := hb2 a ha1 h
    omega
  · exact h
  · have := ha2 b hb1 h
    omega
set_option maxRecDepth 100000 in
set_option maxHeartbeats 8000000 in
theorem cuts_any (W : World) (hL : Laid W) (id : Int) (hid : In64 id) (ao : Option Addr) (n cp : Nat) (l : List UInt8) (hl : RowY W ao l) (hn : l.length = n) (hcp : n ≤ cp) (hcm : cp ≤ maxLen) (h0 : ao = none → n = 0 ∧ cp = 0) (sz : Int) :
    Calls Tryd.prog 3 #[.int .i64 id, .slice ao n cp, .int .i64 sz] W fun e W' => e = .returned (.bool true) ∧ Fr (fun _ => False) W W' := by
  have HK := Lib.hid (known_any W hL)
  have HL := Lib.hid hL
  have HR := Lib.hid (And.intro hl (And.intro hn (And.intro hcp (And.intro hcm h0))))
  have HID := Lib.hid hid
  by_cases hbig : 4096 < n
  · have p1 : decide (4096 < (n : Int)) = true := decide_eq_true (by omega)
    have p1' : decide (4096 < n) = true := decide_eq_true (by omega)
    clear hL hl hn hcp hcm h0 hid
    go_enter Tryd.func3, Tryd.ntmps3
    go_wp2_with (first | (go_at_call 7; refine HK.out.mono ?_; rintro r1 w1 ⟨rfl, hf1⟩) | go_in)
    go_ret
    exact ⟨rfl, hf1⟩
  have p1 : decide (4096 < (n : Int)) = false := decide_eq_false (by omega)
  have p1' : decide (4096 < n) = false := decide_eq_false (by omega)
  by_cases hbad : id < 0 ∨ sz < 1 ∨ 65536 < sz
  · have HBAD := Lib.hid hbad
    clear hL hl hn hcp hcm h0 hid hbad
    go_enter Tryd.func3, Tryd.ntmps3
    go_upto_region 5 with (first | (go_at_call 7; refine HK.out.mono ?_; rintro r1 w1 ⟨rfl, hf1⟩) | go_in)
    have HF1 := Lib.hid hf1
    clear hf1 HK
    go_upto_region 6 with (first | (go_at_call 8; refine (cut_bad w1 id ao cp n sz HBAD.out).mono ?_; rintro r2 w2 ⟨pb, rfl, hpb, hblk, hf2⟩) | go_in)
    have HBR := Lib.hid (broken_any w2 (HL.out.fr0 (HF1.out.trans hf2)) pb id 1 HID.out (.inl rfl) hblk)
    have HF2 := Lib.hid (HF1.out.trans hf2)
    clear hpb hblk hf2 HF1
    go_upto_region 7 with (first | (go_at_call 9; refine (rcut_bad w2 id ao cp n sz HBAD.out).mono ?_; rintro r3 w3 ⟨rfl, rfl⟩) | go_in)
    go_upto_region 9 with (first | (go_at_call 10; refine HBR.out.mono ?_; rintro r4 w4 ⟨rfl, hf4⟩) | go_in)
    go_wp2_with fail
    refine wp_loop_rounds 1 ?_
    rw [rounds_succ]
    go_wp2_with fail
    go_ret
    exact ⟨rfl, HF2.out.trans hf4⟩
  obtain ⟨s, rfl⟩ : ∃ s : Nat, sz = (s : Int) := ⟨sz.toNat, by omega⟩
  have HNB : Hid (0 ≤ id ∧ 1 ≤ s ∧ s ≤ 65536 ∧ n ≤ 4096) := Lib.hid (by omega)
  clear hL hl hn hcp hcm h0 hid hbad hbig
  go_enter Tryd.func3, Tryd.ntmps3
  go_upto_region 5 with (first | (go_at_call 7; refine HK.out.mono ?_; rintro r1 w1 ⟨rfl, hf1⟩) | go_in)
  have hc1 : cp ≤ 9223372036854775807 := by have := HR.out.2.2.2.1; unfold maxLen at this; omega
  have HCUT := Lib.hid (cut_good w1 id ao cp n l (HR.out.1.fr0 hf1) HR.out.2.1 (by have := HNB.out; omega) HR.out.2.2.1 hc1 HR.out.2.2.2.2 s HNB.out.1 HNB.out.2.1 HNB.out.2.2.1)
  have HF1 := Lib.hid hf1
  clear hf1 HK
  go_upto_region 6 with (first | (go_at_call 8; refine HCUT.out.mono ?_; rintro r2 w2 ⟨v, ps, rfl, hc, h1, h2, h3, hf2⟩) | go_in)
  have HF2 := Lib.hid (HF1.out.trans hf2)
  have HRC := Lib.hid (rcut_good w2 id ao cp n l (HR.out.1.fr0 HF2.out) HR.out.2.1 (by have := HNB.out; omega) HR.out.2.2.1 hc1 s HNB.out.1 HNB.out.2.1 HNB.out.2.2.1)
  clear HCUT hf2 hc1
  go_upto_region 7 with (first | (go_at_call 9; refine HRC.out.mono ?_; rintro r3 w3 ⟨v', qs, rfl, hd, k1, k2, k3, hf3⟩) | go_in)
  have hlen := cuts_len h1 k1 h2 k2 h3 k3
  have hc := hc.keep hf3 (fun _ _ e => e)
  obtain ⟨gp, cap, rfl, _, _, e1, e2, _⟩ := hc.row h1
  obtain ⟨gq, cap', rfl, _, _, e3, e4, _⟩ := hd.row k1
  rw [← hlen] at hd ⊢
  obtain ⟨N, hN⟩ : ∃ N, ps.length = N := ⟨_, rfl⟩
  rw [hN] at hc hd hlen ⊢
  have HC := Lib.hid hc
  have HD := Lib.hid hd
  have HN := Lib.hid (And.intro hN hlen)
  have HF3 := Lib.hid (HF2.out.trans hf3)
  have HNm : Hid (N ≤ 4096 ∧ N ≤ cap ∧ N ≤ cap') := Lib.hid (by
    have h7 := HNB.out
    refine ⟨?_, by omega, by omega⟩
    rcases Nat.lt_or_ge 1 N with h | h
    · have h8 := h3 (N - 1) (by omega) (by omega)
      have h9 : N - 1 ≤ (N - 1) * s := Nat.le_mul_of_pos_right _ (by omega)
      omega
    · omega)
  clear hc hd hN hlen hf3 h1 h2 h3 k1 k2 k3 e1 e2 e3 e4 HRC HF1 HF2
  go_upto_region 9 with (first | (go_at_call 10; refine (broken_nil w3 id).mono ?_; rintro r4 w4 ⟨rfl, rfl⟩) | go_in)
  go_wp2_with fail
  go_loopw [11] (fun iv wr => ∃ k : Nat, k ≤ N ∧ iv = .int .i64 (k : Int) ∧ Fr (fun _ => False) w3 wr) (fun iv _ => N - (intOf iv).toNat)
  case atStart => exact ⟨0, Nat.zero_le _, rfl, Fr.refl _ _⟩
  case round =>
    obtain ⟨k, hk, rfl, hf⟩ := hrel
    have HFR := Lib.hid hf
    clear hf
    by_cases hlt : k < N
    · have p0 : decide ((k : Int) < (N : Int)) = true := decide_eq_true (by omega)
      have p0' : decide (k < N) = true := decide_eq_true hlt
      have w3' : wrap64 ((k : Int) + 1) = ((k + 1 : Nat) : Int) := by have := HNm.out; rw [wrap64]; omega
      have hcap := HNm.out
      obtain ⟨p, hp⟩ : ∃ p, ps[k]? = some p := ⟨_, List.getElem?_eq_getElem (by have := HN.out.1; omega)⟩
      obtain ⟨q, hq⟩ : ∃ q, qs[k]? = some q := ⟨_, List.getElem?_eq_getElem (by have := HN.out; omega)⟩
      obtain ⟨x1, x2, x3, x4, _⟩ := HC.out.p k p hp
      obtain ⟨y1, y2, y3, y4, _⟩ := HD.out.p k q hq
      obtain ⟨r1, r2, r3, r4, r5⟩ := HC.out.piece hp
      obtain ⟨u1, u2, u3, u4, u5⟩ := HD.out.piece hq
      have HCC := Lib.hid (fun (w : World) (hf : Fr (fun _ => False) w3 w) (j : Nat) (u : Value) (hj : (pcv p)[j]? = some u) => (HC.out.keep hf (fun _ _ e => e)).cell hp hj)
      have HDD := Lib.hid (fun (w : World) (hf : Fr (fun _ => False) w3 w) (j : Nat) (u : Value) (hj : (pcv q)[j]? = some u) => (HD.out.keep hf (fun _ _ e => e)).cell hq hj)
      obtain ⟨i1, x, t, m, a1, d, c1⟩ := p
      obtain ⟨i2, x', t', m', a2, d', c2⟩ := q
      dsimp only at x1 x2 x3 x4 y1 y2 y3 y4 r1 r2 r3 r4 r5 u1 u2 u3 u4 u5
      obtain rfl : x' = x := y2.trans x2.symm
      obtain rfl : t' = t := y3.trans x3.symm
      obtain rfl : m' = m := y4.trans x4.symm
      obtain rfl : d' = d := u2.symm.trans r2
      subst x1 y1
      have HSAME := Lib.hid (fun (w : World) (hf : Fr (fun _ => False) w3 w) => same_any w i2 x' t' m' a1 a2 d' c1 c2 (pcL l s k) (r1.fr0 hf) (u1.fr0 hf) r2 r3 u3 r5 u5)
      have FACT : Hid (∀ w', Fr (fun _ => False) w3 w' → w'.cell? ⟨gp, k * 5, none⟩ = some (.int .i64 i2) ∧ w'.cell? ⟨gp, k * 5 + 1, none⟩ = some (.int .i64 x') ∧ w'.cell? ⟨gp, k * 5 + 2, none⟩ = some (.int .i64 t') ∧ w'.cell? ⟨gp, k * 5 + 3, none⟩ = some (.int .u32 m') ∧ w'.cell? ⟨gp, k * 5 + 4, none⟩ = some (.slice a1 d' c1) ∧ w'.cell? ⟨gq, k * 5, none⟩ = some (.int .i64 i2) ∧ w'.cell? ⟨gq, k * 5 + 1, none⟩ = some (.int .i64 x') ∧ w'.cell? ⟨gq, k * 5 + 2, none⟩ = some (.int .i64 t') ∧ w'.cell? ⟨gq, k * 5 + 3, none⟩ = some (.int .u32 m') ∧ w'.cell? ⟨gq, k * 5 + 4, none⟩ = some (.slice a2 d' c2)) := Lib.hid (fun w' hf =>
        ⟨HCC.out w' hf 0 _ rfl, HCC.out w' hf 1 _ rfl, HCC.out w' hf 2 _ rfl, HCC.out w' hf 3 _ rfl, HCC.out w' hf 4 _ rfl, HDD.out w' hf 0 _ rfl, HDD.out w' hf 1 _ rfl, HDD.out w' hf 2 _ rfl, HDD.out w' hf 3 _ rfl, HDD.out w' hf 4 _ rfl⟩)
      clear x2 x3 x4 y2 y3 y4 r1 r2 r3 r4 r5 u1 u3 u4 u5 hp hq HCC HDD
      go_upto_region 12 with (fail)
      simp only [pcv] at HSAME
      refine wp_region_held_drew (S := fun (w' : World) => w'.cell? ⟨gp, k * 5, none⟩ = some (.int .i64 i2) ∧ w'.cell? ⟨gp, k * 5 + 1, none⟩ = some (.int .i64 x') ∧ w'.cell? ⟨gp, k * 5 + 2, none⟩ = some (.int .i64 t') ∧ w'.cell? ⟨gp, k * 5 + 3, none⟩ = some (.int .u32 m') ∧ w'.cell? ⟨gp, k * 5 + 4, none⟩ = some (.slice a1 d' c1) ∧ w'.cell? ⟨gq, k * 5, none⟩ = some (.int .i64 i2) ∧ w'.cell? ⟨gq, k * 5 + 1, none⟩ = some (.int .i64 x') ∧ w'.cell? ⟨gq, k * 5 + 2, none⟩ = some (.int .i64 t') ∧ w'.cell? ⟨gq, k * 5 + 3, none⟩ = some (.int .u32 m') ∧ w'.cell? ⟨gq, k * 5 + 4, none⟩ = some (.slice a2 d' c2)) (by kernel_rfl) (FACT.out _ (HFR.out.trans (Fr.drewN _ wr 1))) (fun hHeld => ?_)
      have hfd : Fr (fun _ => False) w3 wr.drew := HFR.out.trans (Fr.drewN _ wr 1)
      obtain ⟨wd, hwd⟩ : ∃ w, wr.drew = w := ⟨_, rfl⟩
      rw [hwd] at hHeld hfd ⊢
      have HFDD := Lib.hid hfd
      clear hwd hfd
      refine wpAnyH_take (i := 0) (oi := _) (v := ?vca0) rfl (by kernel_rfl) (by kernel_rfl) (by kernel_rfl) (fun _ _ _ h => h) (Or.inl ⟨by rfl, ?yca0⟩) (by assumption) ?rca0
      case yca0 => intro w1 hSw; obtain ⟨y0, y1, y2, y3, y4, z0, z1, z2, z3, z4⟩ := hSw; go_simp; try with_reducible rfl
      try simp only [List.getElem_toArray, List.getElem_cons_zero, List.getElem_cons_succ, Act.put, List.setIfInBounds_toArray, List.set_cons_zero, List.set_cons_succ]
      refine wpAnyH_take (i := 1) (oi := _) (v := ?vca1) rfl (by kernel_rfl) (by kernel_rfl) (by kernel_rfl) (fun _ _ _ h => h) (Or.inl ⟨by rfl, ?yca1⟩) (by assumption) ?rca1
      case yca1 => intro w1 hSw; obtain ⟨y0, y1, y2, y3, y4, z0, z1, z2, z3, z4⟩ := hSw; go_simp; try with_reducible rfl
      try simp only [List.getElem_toArray, List.getElem_cons_zero, List.getElem_cons_succ, Act.put, List.setIfInBounds_toArray, List.set_cons_zero, List.set_cons_succ]
      refine wpAnyH_take (i := 2) (oi := _) (v := ?vca2) rfl (by kernel_rfl) (by kernel_rfl) (by kernel_rfl) (fun _ _ _ h => h) (Or.inl ⟨by rfl, ?yca2⟩) (by assumption) ?rca2
      case yca2 => intro w1 hSw; obtain ⟨y0, y1, y2, y3, y4, z0, z1, z2, z3, z4⟩ := hSw; go_simp; try with_reducible rfl
      try simp only [List.getElem_toArray, List.getElem_cons_zero, List.getElem_cons_succ, Act.put, List.setIfInBounds_toArray, List.set_cons_zero, List.set_cons_succ]
      refine wpAnyH_take (i := 3) (oi := _) (v := ?vca3) rfl (by kernel_rfl) (by kernel_rfl) (by kernel_rfl) (fun _ _ _ h => h) (Or.inl ⟨by rfl, ?yca3⟩) (by assumption) ?rca3
      case yca3 => intro w1 hSw; obtain ⟨y0, y1, y2, y3, y4, z0, z1, z2, z3, z4⟩ := hSw; go_simp; try with_reducible rfl
      try simp only [List.getElem_toArray, List.getElem_cons_zero, List.getElem_cons_succ, Act.put, List.setIfInBounds_toArray, List.set_cons_zero, List.set_cons_succ]
      refine wpAnyH_take (i := 4) (oi := _) (v := ?vca4) rfl (by kernel_rfl) (by kernel_rfl) (by kernel_rfl) (fun _ _ _ h => h) (Or.inl ⟨by rfl, ?yca4⟩) (by assumption) ?rca4
      case yca4 => intro w1 hSw; obtain ⟨y0, y1, y2, y3, y4, z0, z1, z2, z3, z4⟩ := hSw; go_simp; try with_reducible rfl
      try simp only [List.getElem_toArray, List.getElem_cons_zero, List.getElem_cons_succ, Act.put, List.setIfInBounds_toArray, List.set_cons_zero, List.set_cons_succ]
      refine wpAnyH_take (i := 5) (oi := _) (v := ?vca5) rfl (by kernel_rfl) (by kernel_rfl) (by kernel_rfl) (fun _ _ _ h => h) (Or.inl ⟨by rfl, ?yca5⟩) (by assumption) ?rca5
      case yca5 => intro w1 hSw; obtain ⟨y0, y1, y2, y3, y4, z0, z1, z2, z3, z4⟩ := hSw; go_simp; try with_reducible rfl
      try simp only [List.getElem_toArray, List.getElem_cons_zero, List.getElem_cons_succ, Act.put, List.setIfInBounds_toArray, List.set_cons_zero, List.set_cons_succ]
      refine wpAnyH_take (i := 6) (oi := _) (v := ?vca6) rfl (by kernel_rfl) (by kernel_rfl) (by kernel_rfl) (fun _ _ _ h => h) (Or.inl ⟨by rfl, ?yca6⟩) (by assumption) ?rca6
      case yca6 => intro w1 hSw; obtain ⟨y0, y1, y2, y3, y4, z0, z1, z2, z3, z4⟩ := hSw; go_simp; try with_reducible rfl
      try simp only [List.getElem_toArray, List.getElem_cons_zero, List.getElem_cons_succ, Act.put, List.setIfInBounds_toArray, List.set_cons_zero, List.set_cons_succ]
      refine wpAnyH_take (i := 7) (oi := _) (v := ?vca7) rfl (by kernel_rfl) (by kernel_rfl) (by kernel_rfl) (fun _ _ _ h => h) (Or.inl ⟨by rfl, ?yca7⟩) (by assumption) ?rca7
      case yca7 => intro w1 hSw; obtain ⟨y0, y1, y2, y3, y4, z0, z1, z2, z3, z4⟩ := hSw; go_simp; try with_reducible rfl
      try simp only [List.getElem_toArray, List.getElem_cons_zero, List.getElem_cons_succ, Act.put, List.setIfInBounds_toArray, List.set_cons_zero, List.set_cons_succ]
      refine wpAnyH_ready (rs := [8]) (by kernel_rfl) (by simp) ?_
      refine AllReadyH.cons (o := _) rfl (fun K hK => ?_) AllReadyH.nil
      rw [if_pos (by rfl)]
      try simp only [List.getElem_toArray, List.getElem_cons_zero, List.getElem_cons_succ]
      go_simp
      go_at_call 11
      refine (HSAME.out wd HFDD.out).mono ?_
      rintro r8 w8 ⟨rfl, hf8⟩
      have HF8 := Lib.hid (HFDD.out.trans hf8)
      clear hf8
      refine hK.out _ _ (FACT.out _ HF8.out) (fun hH8 => ?_)
      clear hK K hHeld
      try simp only [List.getElem_toArray, List.getElem_cons_zero, List.getElem_cons_succ, Act.put, List.setIfInBounds_toArray, List.set_cons_zero, List.set_cons_succ]
      refine wpAnyH_take (i := 9) (oi := _) (v := ?vcb9) rfl (by kernel_rfl) (by kernel_rfl) (by kernel_rfl) (fun _ _ _ h => h) (Or.inl ⟨by rfl, ?ycb9⟩) (by assumption) ?rcb9
      case ycb9 => intro w1 hSw; obtain ⟨y0, y1, y2, y3, y4, z0, z1, z2, z3, z4⟩ := hSw; go_simp; try with_reducible rfl
      try simp only [List.getElem_toArray, List.getElem_cons_zero, List.getElem_cons_succ, Act.put, List.setIfInBounds_toArray, List.set_cons_zero, List.set_cons_succ]
      refine wpAnyH_done (by kernel_rfl) ?_ _
      clear FACT hH8 HSAME HFDD
      have HW3 := Lib.hid w3'
      clear w3'
      go_wp2
      go_roundw
      case rel => exact ⟨k + 1, hlt, by simp, HF8.out⟩
      case measure => clear HW3; simp [intOf]; omega
    · have hik : k = N := by omega
      subst hik
      have p0 : decide ((k : Int) < (k : Int)) = false := by simp
      go_wp2
      go_ret
      exact ⟨rfl, HF3.out.trans HFR.out⟩
end Go.Proofs.YtookojfigjdgcaaDoor
