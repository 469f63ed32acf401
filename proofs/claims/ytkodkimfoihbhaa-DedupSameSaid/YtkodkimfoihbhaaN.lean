/- The walk of DedupSame. -/
import Derived.Test.YtkodkimfoihbhaaS
set_option linter.unusedVariables false
set_option linter.unusedSimpArgs false
namespace Go.Proofs.Ytkodkimfoihbhaa
open Go.RowKit Go.Maps
set_option maxRecDepth 100000 in
set_option maxHeartbeats 4000000 in
theorem same_law (w : World) (wi : Int) (hwi : (Lit.int .i64 wi).wf = true) (a : Option Addr) (n cap : Nat) (p : Play) (hA : Acts w w.heap.size a n p) (hP : PlayOk n p) (hn : n ≤ 9223372036854775807) (hby : ∀ j, j < n → ∃ bs, p.by_ j = zb bs)
    (tu : Int) (htw : (Lit.int .i64 tu).wf = true) :
    Calls Try.prog 5 #[.int .i64 wi, .slice a n cap, .int .i64 tu] w fun e W' => e = .returned (.bool true) ∧ Below w.heap.size w W' := by
  go_enter Try.func5, Try.ntmps5
  go_wp2_with fail
  refine (known_any _).mono ?_
  rintro e w1 ⟨rfl, b1⟩
  have hs1 := b1.size
  have HA := Lib.hid hA
  have hA1 : Acts w1 w.heap.size a n p := hA.fr ⟨b1.os, b1.tape, b1.output, b1.size, fun k hk hn => b1.block k (by unfold From at hn; omega)⟩
  have HA1 := Lib.hid hA1
  clear hA hA1
  have HP := Lib.hid hP
  have HBY := Lib.hid hby
  clear hP hby
  go_wp2_with fail
  refine (few_any w1 w.heap.size a n cap p HA1.out HP.out hn).mono ?_
  rintro e w2 ⟨q, rfl, rfl, hq⟩
  cases q with
  | false =>
    go_wp2
    go_ret
    exact ⟨rfl, b1⟩
  | true =>
  obtain ⟨hn200, htot⟩ := hq rfl
  clear hq
  by_cases h1 : wi < 1
  · have p1 : decide (wi < 1) = true := decide_eq_true h1
    go_wp2
    go_ret
    exact ⟨rfl, b1⟩
  have p1 : decide (wi < 1) = false := decide_eq_false h1
  by_cases h2 : 4096 < wi
  · have p2 : decide (4096 < wi) = true := decide_eq_true h2
    go_wp2
    go_ret
    exact ⟨rfl, b1⟩
  have p2 : decide (4096 < wi) = false := decide_eq_false h2
  go_wp2_with fail
  refine (new_yes _ wi (by omega) (by omega)).mono ?_
  rintro e w3 ⟨rfl, hB3, hf3⟩
  have hs3 := hf3.size
  have hl3 := hB3.s.lt
  have HB3 := Lib.hid hB3
  have HF3 := Lib.hid hf3
  clear hB3 hf3
  go_wp2_with fail
  refine (new_yes _ wi (by omega) (by omega)).mono ?_
  rintro e w4 ⟨rfl, hB4, hf4⟩
  have hF1 : Fr (From w.heap.size) w w1 := ⟨b1.os, b1.tape, b1.output, b1.size, fun k hk hn => b1.block k (by unfold From at hn; omega)⟩
  have hTT : TT w w4 (w1.heap.size + 2, w1.heap.size, w1.heap.size + 1) (w3.heap.size + 2, w3.heap.size, w3.heap.size + 1) wi 0 S0 S0 := by
    refine ⟨⟨0, 0, Nat.le_refl _, Nat.le_refl _, HB3.out.fr hf4⟩, ⟨0, 0, Nat.le_refl _, Nat.le_refl _, hB4⟩, hF1.trans ((HF3.out.mono fun _ e => e.elim).trans (hf4.mono fun _ e => e.elim)), fun x hx => ?_, fun x hx => ?_⟩
    · dsimp only at hx ⊢; omega
    · dsimp only at hx; omega
  have HTT4 := Lib.hid hTT
  obtain ⟨sa, hsa⟩ : ∃ q, w1.heap.size + 2 = q := ⟨_, rfl⟩
  obtain ⟨sb, hsb⟩ : ∃ q, w3.heap.size + 2 = q := ⟨_, rfl⟩
  rw [hsa, hsb] at HTT4
  rw [hsa, hsb]
  obtain ⟨ma, hma⟩ : ∃ q, (w1.heap.size, w1.heap.size + 1) = q := ⟨_, rfl⟩
  obtain ⟨mb, hmb⟩ : ∃ q, (w3.heap.size, w3.heap.size + 1) = q := ⟨_, rfl⟩
  rw [hma, hmb] at HTT4
  clear HB3 HF3 hB4 hf4 hF1 hTT hsa hsb hma hmb hs3 hl3 b1 hs1 HA1
  obtain ⟨t, ht⟩ : ∃ t, bits .and .i64 tu 3 = t := ⟨_, rfl⟩
  have htr := and3 tu
  rw [ht] at htr
  have hok0 := Ok.start
  have HOKL : Hid (∀ l : List Ac, (∀ x ∈ l, x ∈ actL p n) → Ok (runs wi S0 l)) := Lib.hid fun l hl => Ok.runs l Ok.start (fun x hx => by
    obtain ⟨j, hj, e⟩ := List.mem_map.1 (hl x hx)
    rw [← e]
    exact HBY.out j (List.mem_range.1 hj))
  have HTU := Lib.hid ht
  clear ht hok0
  go_wp2
  go_loopw [11] (fun iv wr => ∃ i : Nat, i ≤ n ∧ iv = .int .i64 i ∧ TT w wr (sa, ma) (sb, mb) wi i (runs wi S0 ((actL p n).take i)) S0) (fun iv _ => n - (intOf iv).toNat)
  case atStart => exact ⟨0, Nat.zero_le _, rfl, HTT4.out⟩
  case round =>
    obtain ⟨i, hi, rfl, hT⟩ := hrel
    have HTT := Lib.hid hT
    clear hT HTT4
    by_cases hlt : i < n
    · have p0 : decide ((i : Int) < n) = true := decide_eq_true (by omega)
      have hsz := HP.out.sz i hlt
      have htl := total_le p n i hlt
      have hbl : (p.by_ i).length ≤ 8192 := by omega
      have hA5 := HA.out.fr HTT.out.f
      rcases hA5 with h0 | ⟨B, o, rfl, hb, hcs⟩
      · omega
      obtain ⟨c0, c1, c2, c3, hr⟩ := hcs i hlt
      clear hcs c0
      have HR := Lib.hid hr
      have HSN := Lib.hid (take_snoc (actL_at p hlt))
      clear hr
      go_upto_region 12 with (fail)
      refine wp_region_held_drew (S := fun (w' : World) => w'.cell? ⟨B, o + i * 4 + 1, none⟩ = some (.int .i64 (p.cl i)) ∧ w'.cell? ⟨B, o + i * 4 + 2, none⟩ = some (.int .i64 (p.sq i)) ∧ w'.cell? ⟨B, o + i * 4 + 3, none⟩ = some (p.an i)) (by kernel_rfl) ⟨c1, c2, c3⟩ (fun hHeld => ?_)
      refine wpAnyH_take (i := 0) (oi := _) (v := ?va0) rfl (by kernel_rfl) (by kernel_rfl) (by kernel_rfl) (fun _ _ _ h => h) (Or.inl ⟨by rfl, ?ya0⟩) (by assumption) ?ra0
      case ya0 => intro w1 hSw; obtain ⟨s1, s2, s3⟩ := hSw; go_simp; try with_reducible rfl
      try simp only [List.getElem_toArray, List.getElem_cons_zero, List.getElem_cons_succ, Act.put, List.setIfInBounds_toArray, List.set_cons_zero, List.set_cons_succ]
      refine wpAnyH_take (i := 1) (oi := _) (v := ?va1) rfl (by kernel_rfl) (by kernel_rfl) (by kernel_rfl) (fun _ _ _ h => h) (Or.inl ⟨by rfl, ?ya1⟩) (by assumption) ?ra1
      case ya1 => intro w1 hSw; obtain ⟨s1, s2, s3⟩ := hSw; go_simp; try with_reducible rfl
      try simp only [List.getElem_toArray, List.getElem_cons_zero, List.getElem_cons_succ, Act.put, List.setIfInBounds_toArray, List.set_cons_zero, List.set_cons_succ]
      refine wpAnyH_take (i := 2) (oi := _) (v := ?va2) rfl (by kernel_rfl) (by kernel_rfl) (by kernel_rfl) (fun _ _ _ h => h) (Or.inl ⟨by rfl, ?ya2⟩) (by assumption) ?ra2
      case ya2 => intro w1 hSw; obtain ⟨s1, s2, s3⟩ := hSw; go_simp; try with_reducible rfl
      try simp only [List.getElem_toArray, List.getElem_cons_zero, List.getElem_cons_succ, Act.put, List.setIfInBounds_toArray, List.set_cons_zero, List.set_cons_succ]
      refine wpAnyH_take (i := 3) (oi := _) (v := ?va3) rfl (by kernel_rfl) (by kernel_rfl) (by kernel_rfl) (fun _ _ _ h => h) (Or.inl ⟨by rfl, ?ya3⟩) (by assumption) ?ra3
      case ya3 => intro w1 hSw; obtain ⟨s1, s2, s3⟩ := hSw; go_simp; try with_reducible rfl
      try simp only [List.getElem_toArray, List.getElem_cons_zero, List.getElem_cons_succ, Act.put, List.setIfInBounds_toArray, List.set_cons_zero, List.set_cons_succ]
      refine wpAnyH_take (i := 4) (oi := _) (v := ?va4) rfl (by kernel_rfl) (by kernel_rfl) (by kernel_rfl) (fun _ _ _ h => h) (Or.inl ⟨by rfl, ?ya4⟩) (by assumption) ?ra4
      case ya4 => intro w1 hSw; obtain ⟨s1, s2, s3⟩ := hSw; go_simp; try with_reducible rfl
      try simp only [List.getElem_toArray, List.getElem_cons_zero, List.getElem_cons_succ, Act.put, List.setIfInBounds_toArray, List.set_cons_zero, List.set_cons_succ]
      refine wpAnyH_take (i := 5) (oi := _) (v := ?va5) rfl (by kernel_rfl) (by kernel_rfl) (by kernel_rfl) (fun _ _ _ h => h) (Or.inl ⟨by rfl, ?ya5⟩) (by assumption) ?ra5
      case ya5 => intro w1 hSw; obtain ⟨s1, s2, s3⟩ := hSw; go_simp; try with_reducible rfl
      try simp only [List.getElem_toArray, List.getElem_cons_zero, List.getElem_cons_succ, Act.put, List.setIfInBounds_toArray, List.set_cons_zero, List.set_cons_succ]
      refine wpAnyH_take (i := 6) (oi := _) (v := ?va6) rfl (by kernel_rfl) (by kernel_rfl) (by kernel_rfl) (fun _ _ _ h => h) (Or.inl ⟨by rfl, ?ya6⟩) (by assumption) ?ra6
      case ya6 => intro w1 hSw; obtain ⟨s1, s2, s3⟩ := hSw; go_simp; try with_reducible rfl
      try simp only [List.getElem_toArray, List.getElem_cons_zero, List.getElem_cons_succ, Act.put, List.setIfInBounds_toArray, List.set_cons_zero, List.set_cons_succ]
      refine wpAnyH_take (i := 7) (oi := _) (v := ?va7) rfl (by kernel_rfl) (by kernel_rfl) (by kernel_rfl) (fun _ _ _ h => h) (Or.inl ⟨by rfl, ?ya7⟩) (by assumption) ?ra7
      case ya7 => intro w1 hSw; obtain ⟨s1, s2, s3⟩ := hSw; go_simp; try with_reducible rfl
      try simp only [List.getElem_toArray, List.getElem_cons_zero, List.getElem_cons_succ, Act.put, List.setIfInBounds_toArray, List.set_cons_zero, List.set_cons_succ]
      refine wpAnyH_take (i := 8) (oi := _) (v := ?va8) rfl (by kernel_rfl) (by kernel_rfl) (by kernel_rfl) (fun _ _ _ h => h) (Or.inl ⟨by rfl, ?ya8⟩) (by assumption) ?ra8
      case ya8 => intro w1 hSw; obtain ⟨s1, s2, s3⟩ := hSw; go_simp; try with_reducible rfl
      try simp only [List.getElem_toArray, List.getElem_cons_zero, List.getElem_cons_succ, Act.put, List.setIfInBounds_toArray, List.set_cons_zero, List.set_cons_succ]
      refine wpAnyH_take (i := 9) (oi := _) (v := ?va9) rfl (by kernel_rfl) (by kernel_rfl) (by kernel_rfl) (fun _ _ _ h => h) (Or.inl ⟨by rfl, ?ya9⟩) (by assumption) ?ra9
      case ya9 => intro w1 hSw; obtain ⟨s1, s2, s3⟩ := hSw; go_simp; try with_reducible rfl
      try simp only [List.getElem_toArray, List.getElem_cons_zero, List.getElem_cons_succ, Act.put, List.setIfInBounds_toArray, List.set_cons_zero, List.set_cons_succ]
      refine wpAnyH_take (i := 10) (oi := _) (v := ?va10) rfl (by kernel_rfl) (by kernel_rfl) (by kernel_rfl) (fun _ _ _ h => h) (Or.inl ⟨by rfl, ?ya10⟩) (by assumption) ?ra10
      case ya10 => intro w1 hSw; obtain ⟨s1, s2, s3⟩ := hSw; go_simp; try with_reducible rfl
      try simp only [List.getElem_toArray, List.getElem_cons_zero, List.getElem_cons_succ, Act.put, List.setIfInBounds_toArray, List.set_cons_zero, List.set_cons_succ]
      refine wpAnyH_take (i := 11) (oi := _) (v := ?va11) rfl (by kernel_rfl) (by kernel_rfl) (by kernel_rfl) (fun _ _ _ h => h) (Or.inl ⟨by rfl, ?ya11⟩) (by assumption) ?ra11
      case ya11 => intro w1 hSw; obtain ⟨s1, s2, s3⟩ := hSw; go_simp; try with_reducible rfl
      try simp only [List.getElem_toArray, List.getElem_cons_zero, List.getElem_cons_succ, Act.put, List.setIfInBounds_toArray, List.set_cons_zero, List.set_cons_succ]
      refine wpAnyH_take (i := 12) (oi := _) (v := ?va12) rfl (by kernel_rfl) (by kernel_rfl) (by kernel_rfl) (fun _ _ _ h => h) (Or.inl ⟨by rfl, ?ya12⟩) (by assumption) ?ra12
      case ya12 => intro w1 hSw; obtain ⟨s1, s2, s3⟩ := hSw; go_simp; try with_reducible rfl
      try simp only [List.getElem_toArray, List.getElem_cons_zero, List.getElem_cons_succ, Act.put, List.setIfInBounds_toArray, List.set_cons_zero, List.set_cons_succ]
      refine wpAnyH_take (i := 13) (oi := _) (v := ?va13) rfl (by kernel_rfl) (by kernel_rfl) (by kernel_rfl) (fun _ _ _ h => h) (Or.inl ⟨by rfl, ?ya13⟩) (by assumption) ?ra13
      case ya13 => intro w1 hSw; obtain ⟨s1, s2, s3⟩ := hSw; go_simp; try with_reducible rfl
      try simp only [List.getElem_toArray, List.getElem_cons_zero, List.getElem_cons_succ, Act.put, List.setIfInBounds_toArray, List.set_cons_zero, List.set_cons_succ]
      refine wpAnyH_take (i := 14) (oi := _) (v := ?va14) rfl (by kernel_rfl) (by kernel_rfl) (by kernel_rfl) (fun _ _ _ h => h) (Or.inl ⟨by rfl, ?ya14⟩) (by assumption) ?ra14
      case ya14 => intro w1 hSw; obtain ⟨s1, s2, s3⟩ := hSw; go_simp; try with_reducible rfl
      try simp only [List.getElem_toArray, List.getElem_cons_zero, List.getElem_cons_succ, Act.put, List.setIfInBounds_toArray, List.set_cons_zero, List.set_cons_succ]
      refine wpAnyH_take (i := 15) (oi := _) (v := ?va15) rfl (by kernel_rfl) (by kernel_rfl) (by kernel_rfl) (fun _ _ _ h => h) (Or.inl ⟨by rfl, ?ya15⟩) (by assumption) ?ra15
      case ya15 => intro w1 hSw; obtain ⟨s1, s2, s3⟩ := hSw; go_simp; try with_reducible rfl
      try simp only [List.getElem_toArray, List.getElem_cons_zero, List.getElem_cons_succ, Act.put, List.setIfInBounds_toArray, List.set_cons_zero, List.set_cons_succ]
      refine wpAnyH_ready (rs := [16]) (by kernel_rfl) (by simp) ?_
      refine AllReadyH.cons (o := _) rfl (fun K hK => ?_) AllReadyH.nil
      rw [if_pos (by rfl)]
      try simp only [List.getElem_toArray, List.getElem_cons_zero, List.getElem_cons_succ]
      go_simp
      have hfd : Fr (fun _ => False) wr wr.drew := Fr.drewN _ wr 1
      refine ((TT.putA (HTT.out.fr0 hfd) (by omega) (p.cl i) (p.sq i) _ _ (RowB.fr (S := From w.heap.size) HR.out (hfd.mono fun _ e => e.elim)) ⟨hbl, HP.out.one i hlt⟩)).mono ?_
      rintro e w5 ⟨u, rfl, hT5⟩
      have hf5 : Fr (From w.heap.size) w w5 := hT5.f
      have hcs5 := HA.out.fr hf5
      rcases hcs5 with h0 | ⟨B2, o2, he2, _, hc5⟩
      · omega
      cases he2
      obtain ⟨_, k1, k2, k3, _⟩ := hc5 i hlt
      refine hK.out _ _ ⟨k1, k2, k3⟩ (fun hHeld2 => ?_)
      have HT5 := Lib.hid hT5
      clear hK K hHeld hHeld2 hc5 k1 k2 k3 hT5 hf5 hfd c1 c2 c3 HR
      try simp only [List.getElem_toArray, List.getElem_cons_zero, List.getElem_cons_succ, Act.put, List.setIfInBounds_toArray, List.set_cons_zero, List.set_cons_succ]
      refine wpAnyH_done (by kernel_rfl) ?_ _
      go_wp2
      go_roundw
      case rel => exact ⟨i + 1, by omega, by go_num, by rw [HSN.out, runs_snoc]; exact HT5.out⟩
      case measure => simp [intOf]; omega
    · obtain rfl : i = n := by omega
      have p0 : decide ((i : Int) < i) = false := decide_eq_false (by omega)
      have htk : (actL p i).take i = actL p i := List.take_of_length_le (by rw [actL_len]; exact Nat.le_refl _)
      rw [htk] at HTT
      clear htk
      obtain ⟨l, hl⟩ : ∃ l, actL p i = l := ⟨_, rfl⟩
      rw [hl] at HTT HOKL
      have hlen : l.length = i := by rw [← hl]; exact actL_len p i
      have hat : ∀ j, j < i → l[j]? = some (p.cl j, p.sq j, p.by_ j) := fun j hj => by rw [← hl]; exact actL_at p hj
      obtain ⟨n, hnn⟩ : ∃ n, i = n := ⟨_, rfl⟩
      subst hnn
      have HLEN := Lib.hid hlen
      have HAT := Lib.hid hat
      have HTE := Lib.hid (HTT.out.more (n' := 200) (by omega))
      clear hl hlen hat HTT hlt
      go_wp2
      go_loopw [12] (fun kv wr => ∃ k : Nat, k ≤ 3 ∧ kv = .int .i64 k ∧ TT w wr (sa, ma) (sb, mb) wi (200 + k * 200) (runs wi S0 l) (runs wi S0 (gl t l k))) (fun kv _ => 3 - (intOf kv).toNat)
      case atStart => exact ⟨0, by omega, rfl, HTE.out⟩
      case round =>
        obtain ⟨k, hk, rfl, hT⟩ := hrel
        have HTK := Lib.hid hT
        clear hT HTE
        by_cases hk3 : k < 3
        · have p3 : decide ((k : Int) < 3) = true := decide_eq_true (by omega)
          go_wp2
          go_loopw [13] (fun iv wr => ∃ j : Nat, j ≤ i ∧ iv = .int .i64 j ∧ TT w wr (sa, ma) (sb, mb) wi (200 + k * 200 + j) (runs wi S0 l) (runs wi S0 (gl t l k ++ (l.take j).filter (grp t (k : Int))))) (fun iv _ => i - (intOf iv).toNat)
          case atStart => exact ⟨0, Nat.zero_le _, rfl, by simpa using HTK.out⟩
          case round =>
            obtain ⟨j, hj, rfl, hT⟩ := hrel
            have HTT := Lib.hid hT
            clear hT HTK
            by_cases hlt : j < i
            · have p0 : decide ((j : Int) < i) = true := decide_eq_true (by omega)
              have hsz := HP.out.sz j hlt
              have htl := total_le p i j hlt
              have hbl : (p.by_ j).length ≤ 8192 := by omega
              have hA5 := HA.out.fr HTT.out.f
              rcases hA5 with h0 | ⟨B, o, rfl, hb, hcs⟩
              · omega
              obtain ⟨c0, c1, c2, c3, hr⟩ := hcs j hlt
              clear hcs c0
              have HR := Lib.hid hr
              have HSN := Lib.hid (filter_snoc (grp t (k : Int)) (HAT.out j hlt))
              clear hr
              have hbits := HTU.out
              have hkt : IntKind.i64.wrap ((k : Int) + t) = (k : Int) + t := IntWalk.i64_in _ (by omega)
              by_cases hc0 : 0 ≤ p.cl j
              case neg =>
                have r1 : decide (0 ≤ p.cl j) = false := decide_eq_false hc0
                have HG : Hid (grp t (k : Int) (p.cl j, p.sq j, p.by_ j) = false) := Lib.hid (by simp [grp]; omega)
                clear hc0
                go_wp2
                go_roundw
                case rel => exact ⟨j + 1, by omega, by go_num, by rw [HSN.out, HG.out, if_neg Bool.false_ne_true, List.append_nil]; exact HTT.out.more (by omega)⟩
                case measure => simp [intOf]; omega
              have r1 : decide (0 ≤ p.cl j) = true := decide_eq_true hc0
              have e1 : (p.cl j).tmod 3 = p.cl j % 3 := Int.tmod_eq_emod_of_nonneg hc0
              have e2 : ((k : Int) + t).tmod 3 = ((k : Int) + t) % 3 := Int.tmod_eq_emod_of_nonneg (by omega)
              have E1 := Lib.hid e1
              have E2 := Lib.hid e2
              clear e1 e2
              by_cases hmm : p.cl j % 3 = ((k : Int) + t) % 3
              · have r2 : (p.cl j % 3 == ((k : Int) + t) % 3) = true := beq_iff_eq.2 hmm
                have HG : Hid (grp t (k : Int) (p.cl j, p.sq j, p.by_ j) = true) := Lib.hid (by simp only [grp, E1.out, E2.out, hmm, hc0, decide_true, Bool.and_self])
                clear hmm
                go_upto_region 20 with (fail)
                refine wp_region_held_drew (S := fun (w' : World) => w'.cell? ⟨B, o + j * 4 + 1, none⟩ = some (.int .i64 (p.cl j)) ∧ w'.cell? ⟨B, o + j * 4 + 2, none⟩ = some (.int .i64 (p.sq j)) ∧ w'.cell? ⟨B, o + j * 4 + 3, none⟩ = some (p.an j)) (by kernel_rfl) ⟨c1, c2, c3⟩ (fun hHeld => ?_)
                refine wpAnyH_take (i := 0) (oi := _) (v := ?vb0) rfl (by kernel_rfl) (by kernel_rfl) (by kernel_rfl) (fun _ _ _ h => h) (Or.inl ⟨by rfl, ?yb0⟩) (by assumption) ?rb0
                case yb0 => intro w1 hSw; obtain ⟨s1, s2, s3⟩ := hSw; go_simp; try with_reducible rfl
                try simp only [List.getElem_toArray, List.getElem_cons_zero, List.getElem_cons_succ, Act.put, List.setIfInBounds_toArray, List.set_cons_zero, List.set_cons_succ]
                refine wpAnyH_take (i := 1) (oi := _) (v := ?vb1) rfl (by kernel_rfl) (by kernel_rfl) (by kernel_rfl) (fun _ _ _ h => h) (Or.inl ⟨by rfl, ?yb1⟩) (by assumption) ?rb1
                case yb1 => intro w1 hSw; obtain ⟨s1, s2, s3⟩ := hSw; go_simp; try with_reducible rfl
                try simp only [List.getElem_toArray, List.getElem_cons_zero, List.getElem_cons_succ, Act.put, List.setIfInBounds_toArray, List.set_cons_zero, List.set_cons_succ]
                refine wpAnyH_take (i := 2) (oi := _) (v := ?vb2) rfl (by kernel_rfl) (by kernel_rfl) (by kernel_rfl) (fun _ _ _ h => h) (Or.inl ⟨by rfl, ?yb2⟩) (by assumption) ?rb2
                case yb2 => intro w1 hSw; obtain ⟨s1, s2, s3⟩ := hSw; go_simp; try with_reducible rfl
                try simp only [List.getElem_toArray, List.getElem_cons_zero, List.getElem_cons_succ, Act.put, List.setIfInBounds_toArray, List.set_cons_zero, List.set_cons_succ]
                refine wpAnyH_take (i := 3) (oi := _) (v := ?vb3) rfl (by kernel_rfl) (by kernel_rfl) (by kernel_rfl) (fun _ _ _ h => h) (Or.inl ⟨by rfl, ?yb3⟩) (by assumption) ?rb3
                case yb3 => intro w1 hSw; obtain ⟨s1, s2, s3⟩ := hSw; go_simp; try with_reducible rfl
                try simp only [List.getElem_toArray, List.getElem_cons_zero, List.getElem_cons_succ, Act.put, List.setIfInBounds_toArray, List.set_cons_zero, List.set_cons_succ]
                refine wpAnyH_take (i := 4) (oi := _) (v := ?vb4) rfl (by kernel_rfl) (by kernel_rfl) (by kernel_rfl) (fun _ _ _ h => h) (Or.inl ⟨by rfl, ?yb4⟩) (by assumption) ?rb4
                case yb4 => intro w1 hSw; obtain ⟨s1, s2, s3⟩ := hSw; go_simp; try with_reducible rfl
                try simp only [List.getElem_toArray, List.getElem_cons_zero, List.getElem_cons_succ, Act.put, List.setIfInBounds_toArray, List.set_cons_zero, List.set_cons_succ]
                refine wpAnyH_take (i := 5) (oi := _) (v := ?vb5) rfl (by kernel_rfl) (by kernel_rfl) (by kernel_rfl) (fun _ _ _ h => h) (Or.inl ⟨by rfl, ?yb5⟩) (by assumption) ?rb5
                case yb5 => intro w1 hSw; obtain ⟨s1, s2, s3⟩ := hSw; go_simp; try with_reducible rfl
                try simp only [List.getElem_toArray, List.getElem_cons_zero, List.getElem_cons_succ, Act.put, List.setIfInBounds_toArray, List.set_cons_zero, List.set_cons_succ]
                refine wpAnyH_take (i := 6) (oi := _) (v := ?vb6) rfl (by kernel_rfl) (by kernel_rfl) (by kernel_rfl) (fun _ _ _ h => h) (Or.inl ⟨by rfl, ?yb6⟩) (by assumption) ?rb6
                case yb6 => intro w1 hSw; obtain ⟨s1, s2, s3⟩ := hSw; go_simp; try with_reducible rfl
                try simp only [List.getElem_toArray, List.getElem_cons_zero, List.getElem_cons_succ, Act.put, List.setIfInBounds_toArray, List.set_cons_zero, List.set_cons_succ]
                refine wpAnyH_take (i := 7) (oi := _) (v := ?vb7) rfl (by kernel_rfl) (by kernel_rfl) (by kernel_rfl) (fun _ _ _ h => h) (Or.inl ⟨by rfl, ?yb7⟩) (by assumption) ?rb7
                case yb7 => intro w1 hSw; obtain ⟨s1, s2, s3⟩ := hSw; go_simp; try with_reducible rfl
                try simp only [List.getElem_toArray, List.getElem_cons_zero, List.getElem_cons_succ, Act.put, List.setIfInBounds_toArray, List.set_cons_zero, List.set_cons_succ]
                refine wpAnyH_take (i := 8) (oi := _) (v := ?vb8) rfl (by kernel_rfl) (by kernel_rfl) (by kernel_rfl) (fun _ _ _ h => h) (Or.inl ⟨by rfl, ?yb8⟩) (by assumption) ?rb8
                case yb8 => intro w1 hSw; obtain ⟨s1, s2, s3⟩ := hSw; go_simp; try with_reducible rfl
                try simp only [List.getElem_toArray, List.getElem_cons_zero, List.getElem_cons_succ, Act.put, List.setIfInBounds_toArray, List.set_cons_zero, List.set_cons_succ]
                refine wpAnyH_take (i := 9) (oi := _) (v := ?vb9) rfl (by kernel_rfl) (by kernel_rfl) (by kernel_rfl) (fun _ _ _ h => h) (Or.inl ⟨by rfl, ?yb9⟩) (by assumption) ?rb9
                case yb9 => intro w1 hSw; obtain ⟨s1, s2, s3⟩ := hSw; go_simp; try with_reducible rfl
                try simp only [List.getElem_toArray, List.getElem_cons_zero, List.getElem_cons_succ, Act.put, List.setIfInBounds_toArray, List.set_cons_zero, List.set_cons_succ]
                refine wpAnyH_take (i := 10) (oi := _) (v := ?vb10) rfl (by kernel_rfl) (by kernel_rfl) (by kernel_rfl) (fun _ _ _ h => h) (Or.inl ⟨by rfl, ?yb10⟩) (by assumption) ?rb10
                case yb10 => intro w1 hSw; obtain ⟨s1, s2, s3⟩ := hSw; go_simp; try with_reducible rfl
                try simp only [List.getElem_toArray, List.getElem_cons_zero, List.getElem_cons_succ, Act.put, List.setIfInBounds_toArray, List.set_cons_zero, List.set_cons_succ]
                refine wpAnyH_take (i := 11) (oi := _) (v := ?vb11) rfl (by kernel_rfl) (by kernel_rfl) (by kernel_rfl) (fun _ _ _ h => h) (Or.inl ⟨by rfl, ?yb11⟩) (by assumption) ?rb11
                case yb11 => intro w1 hSw; obtain ⟨s1, s2, s3⟩ := hSw; go_simp; try with_reducible rfl
                try simp only [List.getElem_toArray, List.getElem_cons_zero, List.getElem_cons_succ, Act.put, List.setIfInBounds_toArray, List.set_cons_zero, List.set_cons_succ]
                refine wpAnyH_take (i := 12) (oi := _) (v := ?vb12) rfl (by kernel_rfl) (by kernel_rfl) (by kernel_rfl) (fun _ _ _ h => h) (Or.inl ⟨by rfl, ?yb12⟩) (by assumption) ?rb12
                case yb12 => intro w1 hSw; obtain ⟨s1, s2, s3⟩ := hSw; go_simp; try with_reducible rfl
                try simp only [List.getElem_toArray, List.getElem_cons_zero, List.getElem_cons_succ, Act.put, List.setIfInBounds_toArray, List.set_cons_zero, List.set_cons_succ]
                refine wpAnyH_take (i := 13) (oi := _) (v := ?vb13) rfl (by kernel_rfl) (by kernel_rfl) (by kernel_rfl) (fun _ _ _ h => h) (Or.inl ⟨by rfl, ?yb13⟩) (by assumption) ?rb13
                case yb13 => intro w1 hSw; obtain ⟨s1, s2, s3⟩ := hSw; go_simp; try with_reducible rfl
                try simp only [List.getElem_toArray, List.getElem_cons_zero, List.getElem_cons_succ, Act.put, List.setIfInBounds_toArray, List.set_cons_zero, List.set_cons_succ]
                refine wpAnyH_take (i := 14) (oi := _) (v := ?vb14) rfl (by kernel_rfl) (by kernel_rfl) (by kernel_rfl) (fun _ _ _ h => h) (Or.inl ⟨by rfl, ?yb14⟩) (by assumption) ?rb14
                case yb14 => intro w1 hSw; obtain ⟨s1, s2, s3⟩ := hSw; go_simp; try with_reducible rfl
                try simp only [List.getElem_toArray, List.getElem_cons_zero, List.getElem_cons_succ, Act.put, List.setIfInBounds_toArray, List.set_cons_zero, List.set_cons_succ]
                refine wpAnyH_take (i := 15) (oi := _) (v := ?vb15) rfl (by kernel_rfl) (by kernel_rfl) (by kernel_rfl) (fun _ _ _ h => h) (Or.inl ⟨by rfl, ?yb15⟩) (by assumption) ?rb15
                case yb15 => intro w1 hSw; obtain ⟨s1, s2, s3⟩ := hSw; go_simp; try with_reducible rfl
                try simp only [List.getElem_toArray, List.getElem_cons_zero, List.getElem_cons_succ, Act.put, List.setIfInBounds_toArray, List.set_cons_zero, List.set_cons_succ]
                refine wpAnyH_ready (rs := [16]) (by kernel_rfl) (by simp) ?_
                refine AllReadyH.cons (o := _) rfl (fun K hK => ?_) AllReadyH.nil
                rw [if_pos (by rfl)]
                try simp only [List.getElem_toArray, List.getElem_cons_zero, List.getElem_cons_succ]
                go_simp
                have hfd : Fr (fun _ => False) wr wr.drew := Fr.drewN _ wr 1
                refine ((TT.putB (HTT.out.fr0 hfd) (by omega) (p.cl j) (p.sq j) _ _ (RowB.fr (S := From w.heap.size) HR.out (hfd.mono fun _ e => e.elim)) ⟨hbl, HP.out.one j hlt⟩)).mono ?_
                rintro e w5 ⟨u, rfl, hT5⟩
                have hf5 : Fr (From w.heap.size) w w5 := hT5.f
                have hcs5 := HA.out.fr hf5
                rcases hcs5 with h0 | ⟨B2, o2, he2, _, hc5⟩
                · omega
                cases he2
                obtain ⟨_, k1, k2, k3, _⟩ := hc5 j hlt
                refine hK.out _ _ ⟨k1, k2, k3⟩ (fun hHeld2 => ?_)
                have HT5 := Lib.hid hT5
                clear hK K hHeld hHeld2 hc5 k1 k2 k3 hT5 hf5 hfd c1 c2 c3 HR
                try simp only [List.getElem_toArray, List.getElem_cons_zero, List.getElem_cons_succ, Act.put, List.setIfInBounds_toArray, List.set_cons_zero, List.set_cons_succ]
                refine wpAnyH_done (by kernel_rfl) ?_ _
                go_wp2
                go_roundw
                case rel => exact ⟨j + 1, by omega, by go_num, by rw [HSN.out, HG.out, if_pos rfl, ← List.append_assoc, runs_snoc]; exact HT5.out⟩
                case measure => simp [intOf]; omega
              · have r2 : (p.cl j % 3 == ((k : Int) + t) % 3) = false := beq_eq_false_iff_ne.2 hmm
                have HG : Hid (grp t (k : Int) (p.cl j, p.sq j, p.by_ j) = false) := Lib.hid (by simp only [grp, E1.out, E2.out, hmm, decide_false, Bool.and_false])
                clear hmm
                go_wp2
                go_roundw
                case rel => exact ⟨j + 1, by omega, by go_num, by rw [HSN.out, HG.out, if_neg Bool.false_ne_true, List.append_nil]; exact HTT.out.more (by omega)⟩
                case measure => simp [intOf]; omega
            · obtain rfl : j = i := by omega
              have p0 : decide ((j : Int) < j) = false := decide_eq_false (by omega)
              have hTe : TT w wr (sa, ma) (sb, mb) wi (200 + (k + 1) * 200) (runs wi S0 l) (runs wi S0 (gl t l (k + 1))) := by
                have h1 := HTT.out.more (n' := 200 + (k + 1) * 200) (by omega)
                rw [List.take_of_length_le (by rw [HLEN.out]; exact Nat.le_refl _)] at h1
                exact h1
              have HTE := Lib.hid hTe
              clear hTe HTT
              go_wp2
              go_roundw
              case rel => exact ⟨k + 1, by omega, by go_num, HTE.out⟩
              case measure => simp [intOf]; omega
        · obtain rfl : k = 3 := by omega
          have p3 : decide (3 < (3 : Int)) = false := by decide
          have HEQ : Hid (runs wi S0 (gl t l 3) = runs wi S0 l) := Lib.hid (by rw [gl_three, ← same_runs wi S0 l t htr])
          have hT := HTK.out
          rw [HEQ.out] at hT
          have HTF := Lib.hid hT
          clear hT HTK
          have HOK : Hid (Ok (runs wi S0 l)) := Lib.hid (HOKL.out l (fun _ h => h))
          obtain ⟨SF, hSF⟩ : ∃ SF, runs wi S0 l = SF := ⟨_, rfl⟩
          rw [hSF] at HTF HOK
          obtain ⟨ca, Na, hca, hNa, hTA⟩ := HTF.out.a
          obtain ⟨cb, Nb, hcb, hNb, hTB⟩ := HTF.out.b
          dsimp only at hTA hTB
          have HTA : Hid (∀ w', Fr (fun _ => False) wr w' → TB w' sa ma.1 ma.2 wi ca Na SF.1 SF.2) := Lib.hid (fun w' hf => hTA.fr hf)
          have HTB : Hid (∀ w', Fr (fun _ => False) wr w' → TB w' sb mb.1 mb.2 wi cb Nb SF.1 SF.2) := Lib.hid (fun w' hf => hTB.fr hf)
          have HBEL : Hid (∀ w', Fr (fun _ => False) wr w' → Below w.heap.size w w') := Lib.hid (fun w' hf => (HTF.out.f.trans (hf.mono fun _ e => e.elim)).below (Nat.le_refl _) (fun k hk => hk))
          clear hTA hTB hSF HEQ
          go_upto_region 21 with (fail)
          refine wp_region_held_drew (S := fun (w' : World) => Fr (fun _ => False) wr w') (by kernel_rfl) (Fr.drewN _ wr 1) (fun hHeld => ?_)
          refine wpAnyH_take (i := 0) (oi := _) (v := ?vz0) rfl (by kernel_rfl) (by kernel_rfl) (by kernel_rfl) (fun _ _ _ h => h) (Or.inl ⟨by rfl, ?yz0⟩) (by assumption) ?rz0
          case yz0 => intro w1 hSw; go_simp; try with_reducible rfl
          try simp only [List.getElem_toArray, List.getElem_cons_zero, List.getElem_cons_succ, Act.put, List.setIfInBounds_toArray, List.set_cons_zero, List.set_cons_succ]
          refine wpAnyH_take (i := 3) (oi := _) (v := ?vz3) rfl (by kernel_rfl) (by kernel_rfl) (by kernel_rfl) (fun _ _ _ h => h) (Or.inl ⟨by rfl, ?yz3⟩) (by assumption) ?rz3
          case yz3 => intro w1 hSw; go_simp; try with_reducible rfl
          try simp only [List.getElem_toArray, List.getElem_cons_zero, List.getElem_cons_succ, Act.put, List.setIfInBounds_toArray, List.set_cons_zero, List.set_cons_succ]
          refine wpAnyH_ready (rs := [1]) (by kernel_rfl) (by simp) ?_
          refine AllReadyH.cons (o := _) rfl (fun K hK => ?_) AllReadyH.nil
          rw [if_pos (by rfl)]
          try simp only [List.getElem_toArray, List.getElem_cons_zero, List.getElem_cons_succ]
          go_simp
          refine (encode_any wr.drew (HTA.out wr.drew hHeld) (by omega) HOK.out.byt HOK.out.cli).mono ?_
          rintro e w5 ⟨v1, ks1, rfl, hc1, hr1, hf1⟩
          have hg1 : Fr (fun _ => False) wr w5 := hHeld.trans hf1
          have hcv1 := str_run hr1
          refine hK.out _ _ hg1 (fun hHeld2 => ?_)
          clear hK K
          try simp only [List.getElem_toArray, List.getElem_cons_zero, List.getElem_cons_succ, Act.put, List.setIfInBounds_toArray, List.set_cons_zero, List.set_cons_succ]
          refine wpAnyH_ready (rs := [2, 4]) (by kernel_rfl) (by simp) ?_
          refine AllReadyH.cons (o := _) rfl (fun K hK => ?_) (AllReadyH.cons (o := _) rfl (fun K hK => ?_) AllReadyH.nil)
          · rw [if_pos (by rfl)]
            try simp only [List.getElem_toArray, List.getElem_cons_zero, List.getElem_cons_succ]
            go_simp
            refine hK.out _ _ hg1 (fun hHeld3 => ?_)
            clear hK K
            try simp only [List.getElem_toArray, List.getElem_cons_zero, List.getElem_cons_succ, Act.put, List.setIfInBounds_toArray, List.set_cons_zero, List.set_cons_succ]
            refine wpAnyH_ready (rs := [4]) (by kernel_rfl) (by simp) ?_
            refine AllReadyH.cons (o := _) rfl (fun K hK => ?_) AllReadyH.nil
            rw [if_pos (by rfl)]
            try simp only [List.getElem_toArray, List.getElem_cons_zero, List.getElem_cons_succ]
            go_simp
            refine (encode_any w5 (HTB.out w5 hg1) (by omega) HOK.out.byt HOK.out.cli).mono ?_
            rintro e w6 ⟨v2, ks2, rfl, hc2, hr2, hf2⟩
            obtain rfl : ks1 = ks2 := hc1.eq hc2
            have hg2 : Fr (fun _ => False) wr w6 := hg1.trans hf2
            have hcv2 := str_run hr2
            have hcv3 := str_run (hr1.fr hf2)
            refine hK.out _ _ hg2 (fun hHeld4 => ?_)
            clear hK K
            try simp only [List.getElem_toArray, List.getElem_cons_zero, List.getElem_cons_succ, Act.put, List.setIfInBounds_toArray, List.set_cons_zero, List.set_cons_succ]
            refine wpAnyH_ready (rs := [5]) (by kernel_rfl) (by simp) ?_
            refine AllReadyH.cons (o := _) rfl (fun K hK => ?_) AllReadyH.nil
            rw [if_pos (by rfl)]
            try simp only [List.getElem_toArray, List.getElem_cons_zero, List.getElem_cons_succ]
            go_simp
            refine hK.out _ _ hg2 (fun hHeld5 => ?_)
            clear hK K
            try simp only [List.getElem_toArray, List.getElem_cons_zero, List.getElem_cons_succ, Act.put, List.setIfInBounds_toArray, List.set_cons_zero, List.set_cons_succ]
            have hcvs := hcv1
            refine wpAnyH_take (i := 6) (oi := _) (v := ?vzA6) rfl (by kernel_rfl) (by kernel_rfl) (by kernel_rfl) (fun _ _ _ h => h) (Or.inl ⟨by rfl, ?yzA6⟩) (by assumption) ?rzA6
            case yzA6 => intro w1 hSw; go_simp; try with_reducible rfl
            try simp only [List.getElem_toArray, List.getElem_cons_zero, List.getElem_cons_succ, Act.put, List.setIfInBounds_toArray, List.set_cons_zero, List.set_cons_succ]
            refine wpAnyH_take (i := 7) (oi := _) (v := ?vzA7) rfl (by kernel_rfl) (by kernel_rfl) (by kernel_rfl) (fun _ _ _ h => h) (Or.inl ⟨by rfl, ?yzA7⟩) (by assumption) ?rzA7
            case yzA7 => intro w1 hSw; go_simp; try with_reducible rfl
            try simp only [List.getElem_toArray, List.getElem_cons_zero, List.getElem_cons_succ, Act.put, List.setIfInBounds_toArray, List.set_cons_zero, List.set_cons_succ]
            refine wpAnyH_done (by kernel_rfl) ?_ _
            clear hcvs
            go_wp2
            go_ret
            exact ⟨rfl, HBEL.out _ (by assumption)⟩
          · rw [if_pos (by rfl)]
            try simp only [List.getElem_toArray, List.getElem_cons_zero, List.getElem_cons_succ]
            go_simp
            refine (encode_any w5 (HTB.out w5 hg1) (by omega) HOK.out.byt HOK.out.cli).mono ?_
            rintro e w6 ⟨v2, ks2, rfl, hc2, hr2, hf2⟩
            obtain rfl : ks1 = ks2 := hc1.eq hc2
            have hg2 : Fr (fun _ => False) wr w6 := hg1.trans hf2
            have hcv2 := str_run hr2
            have hcv3 := str_run (hr1.fr hf2)
            clear hcv1
            refine hK.out _ _ hg2 (fun hHeld4 => ?_)
            clear hK K
            try simp only [List.getElem_toArray, List.getElem_cons_zero, List.getElem_cons_succ, Act.put, List.setIfInBounds_toArray, List.set_cons_zero, List.set_cons_succ]
            refine wpAnyH_ready (rs := [2, 5]) (by kernel_rfl) (by simp) ?_
            refine AllReadyH.cons (o := _) rfl (fun K hK => ?_) (AllReadyH.cons (o := _) rfl (fun K hK => ?_) AllReadyH.nil)
            · rw [if_pos (by rfl)]
              try simp only [List.getElem_toArray, List.getElem_cons_zero, List.getElem_cons_succ]
              go_simp
              refine hK.out _ _ hg2 (fun hHeld5 => ?_)
              clear hK K
              try simp only [List.getElem_toArray, List.getElem_cons_zero, List.getElem_cons_succ, Act.put, List.setIfInBounds_toArray, List.set_cons_zero, List.set_cons_succ]
              refine wpAnyH_ready (rs := [5]) (by kernel_rfl) (by simp) ?_
              refine AllReadyH.cons (o := _) rfl (fun K hK => ?_) AllReadyH.nil
              rw [if_pos (by rfl)]
              try simp only [List.getElem_toArray, List.getElem_cons_zero, List.getElem_cons_succ]
              go_simp
              refine hK.out _ _ hg2 (fun hHeld6 => ?_)
              clear hK K
              try simp only [List.getElem_toArray, List.getElem_cons_zero, List.getElem_cons_succ, Act.put, List.setIfInBounds_toArray, List.set_cons_zero, List.set_cons_succ]
              have hcvs := hcv3
              refine wpAnyH_take (i := 6) (oi := _) (v := ?vzB6) rfl (by kernel_rfl) (by kernel_rfl) (by kernel_rfl) (fun _ _ _ h => h) (Or.inl ⟨by rfl, ?yzB6⟩) (by assumption) ?rzB6
              case yzB6 => intro w1 hSw; go_simp; try with_reducible rfl
              try simp only [List.getElem_toArray, List.getElem_cons_zero, List.getElem_cons_succ, Act.put, List.setIfInBounds_toArray, List.set_cons_zero, List.set_cons_succ]
              refine wpAnyH_take (i := 7) (oi := _) (v := ?vzB7) rfl (by kernel_rfl) (by kernel_rfl) (by kernel_rfl) (fun _ _ _ h => h) (Or.inl ⟨by rfl, ?yzB7⟩) (by assumption) ?rzB7
              case yzB7 => intro w1 hSw; go_simp; try with_reducible rfl
              try simp only [List.getElem_toArray, List.getElem_cons_zero, List.getElem_cons_succ, Act.put, List.setIfInBounds_toArray, List.set_cons_zero, List.set_cons_succ]
              refine wpAnyH_done (by kernel_rfl) ?_ _
              clear hcvs
              go_wp2
              go_ret
              exact ⟨rfl, HBEL.out _ (by assumption)⟩
            · rw [if_pos (by rfl)]
              try simp only [List.getElem_toArray, List.getElem_cons_zero, List.getElem_cons_succ]
              go_simp
              refine hK.out _ _ hg2 (fun hHeld5 => ?_)
              clear hK K
              try simp only [List.getElem_toArray, List.getElem_cons_zero, List.getElem_cons_succ, Act.put, List.setIfInBounds_toArray, List.set_cons_zero, List.set_cons_succ]
              refine wpAnyH_ready (rs := [2]) (by kernel_rfl) (by simp) ?_
              refine AllReadyH.cons (o := _) rfl (fun K hK => ?_) AllReadyH.nil
              rw [if_pos (by rfl)]
              try simp only [List.getElem_toArray, List.getElem_cons_zero, List.getElem_cons_succ]
              go_simp
              refine hK.out _ _ hg2 (fun hHeld6 => ?_)
              clear hK K
              try simp only [List.getElem_toArray, List.getElem_cons_zero, List.getElem_cons_succ, Act.put, List.setIfInBounds_toArray, List.set_cons_zero, List.set_cons_succ]
              have hcvs := hcv3
              refine wpAnyH_take (i := 6) (oi := _) (v := ?vzC6) rfl (by kernel_rfl) (by kernel_rfl) (by kernel_rfl) (fun _ _ _ h => h) (Or.inl ⟨by rfl, ?yzC6⟩) (by assumption) ?rzC6
              case yzC6 => intro w1 hSw; go_simp; try with_reducible rfl
              try simp only [List.getElem_toArray, List.getElem_cons_zero, List.getElem_cons_succ, Act.put, List.setIfInBounds_toArray, List.set_cons_zero, List.set_cons_succ]
              refine wpAnyH_take (i := 7) (oi := _) (v := ?vzC7) rfl (by kernel_rfl) (by kernel_rfl) (by kernel_rfl) (fun _ _ _ h => h) (Or.inl ⟨by rfl, ?yzC7⟩) (by assumption) ?rzC7
              case yzC7 => intro w1 hSw; go_simp; try with_reducible rfl
              try simp only [List.getElem_toArray, List.getElem_cons_zero, List.getElem_cons_succ, Act.put, List.setIfInBounds_toArray, List.set_cons_zero, List.set_cons_succ]
              refine wpAnyH_done (by kernel_rfl) ?_ _
              clear hcvs
              go_wp2
              go_ret
              exact ⟨rfl, HBEL.out _ (by assumption)⟩
end Go.Proofs.Ytkodkimfoihbhaa
