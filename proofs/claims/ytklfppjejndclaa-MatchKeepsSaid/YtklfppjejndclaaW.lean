/- The law of MatchKeeps, walked. -/
import Derived.Test.YtklfppjejndclaaV
import Derived.Deep.DeepCutAuto
set_option linter.unusedVariables false
set_option linter.unusedSimpArgs false
namespace Go.Proofs.Ytklfppjejndclaa
open Go.RowKit Go.Maps
/-- the names' cells -/
def RK (W : World) (mb : Nat) (ao : Option Addr) (ks : List Int) : Prop := ks.length = 0 ∨ ∃ g, ao = some ⟨g, 0, none⟩ ∧ mb < g ∧ ∀ j x, ks[j]? = some x → W.cell? ⟨g, j, none⟩ = some (.int .i64 x)
theorem RK.kept {W W' : World} {mb : Nat} {ao : Option Addr} {ks : List Int} (h : RK W mb ao ks) (hg : W.grownBy W' (some mb)) : RK W' mb ao ks := by
  rcases h with h | ⟨g, h1, h2, h3⟩
  · exact .inl h
  · exact .inr ⟨g, h1, h2, fun j x hj => hg.cell (h3 j x hj) (fun e => by have := Option.some.inj e; simp at this; omega)⟩
theorem LS.below {TS : TypeId} {W W' : World} {sb mb : Nat} {most : Int} {N : Nat} {L : Int → List Value} (h : LS TS W sb mb most N L) (hb : Below W.heap.size W W') : LS TS W' sb mb most N L := by
  obtain ⟨c, F, hc, hM, hr⟩ := h.m
  refine ⟨(hb.block sb h.s.lt).trans h.s, ⟨c, F, hc, hM.below hb, fun x hx => ?_⟩, h.one⟩
  rcases hr x hx with h | ⟨b, o, cap, h1, h2, h3, h4, h5, h6⟩
  · exact .inl h
  · exact .inr ⟨b, o, cap, h1, h2, h3, h4, h5, fun j v hj => (hb.cell (p := ⟨b, o + j, none⟩) (lt_of_cell (h6 j v hj))).trans (h6 j v hj)⟩
theorem names_form (W : World) (sb mb : Nat) (most : Int) (N : Nat) (L : Int → List Value) (h : LS 55 W sb mb most N L) (hN : N ≤ 1000000) :
    Calls Try.prog 13 #[.pointer (some ⟨sb, 0, none⟩)] W fun e W' => ∃ (ao : Option Addr) (cp : Nat) (ks : List Int), e = .returned (.slice ao ks.length cp) ∧ RK W' mb ao ks ∧ ks.Pairwise (· < ·) ∧ (∀ x, x ∈ ks ↔ iKE.ok x ∧ L x ≠ []) ∧ ks.length ≤ N ∧ Below W.heap.size W W' := by
  refine (names_any W sb mb most N L h hN).mono ?_
  rintro e W' ⟨v, ks, rfl, hrow, h1, h2, h3, h4⟩
  have hml : mb < W.heap.size := by obtain ⟨c, F, hc, hM, hr⟩ := h.m; exact hM.lt
  have hcs := hrow
  obtain ⟨_, hc⟩ := hrow
  rcases hc with ⟨rfl, h0⟩ | ⟨g, cp, cur, rfl, hb, hgb, hnc, hcm, _, _⟩
  · exact ⟨none, 0, ks, by rw [h0], .inl h0, h1, h2, h3, h4⟩
  · refine ⟨some ⟨g, 0, none⟩, cp, ks, rfl, .inr ⟨g, rfl, by omega, fun j x hj => ?_⟩, h1, h2, h3, h4⟩
    have hjl := (List.getElem?_eq_some_iff.1 hj).1
    rw [hcs.cellAt j (by omega)]
    simp [zv, hj]
theorem names_zero (W : World) (sb mb : Nat) (most : Int) (N : Nat) (L : Int → List Value) (h : LS 55 W sb mb most N L) (hN : N ≤ 1000000) (h0 : ∀ x, L x = []) :
    Calls Try.prog 13 #[.pointer (some ⟨sb, 0, none⟩)] W fun e W' => ∃ (ao : Option Addr) (cp : Nat), e = .returned (.slice ao 0 cp) ∧ Below W.heap.size W W' := by
  refine (names_form W sb mb most N L h hN).mono ?_
  rintro e W' ⟨ao, cp, ks, rfl, _, _, h2, _, h4⟩
  have : ks = [] := List.eq_nil_iff_forall_not_mem.2 (fun x hx => ((h2 x).1 hx).2 (h0 x))
  subst this
  exact ⟨ao, cp, rfl, h4⟩
set_option maxRecDepth 100000 in
set_option maxHeartbeats 4000000 in
theorem keeps_law (w : World) (a : Option Addr) (n cap : Nat) (hl : n ≤ 9223372036854775807) (d b : Int) :
    Calls Try.prog 4 #[.slice a n cap, .int .i64 d, .int .i64 b] w fun e W' => e = .returned (.bool true) ∧ Below w.heap.size w W' := by
  go_enter Try.func4, Try.ntmps4
  go_wp2_with fail
  refine (known_any _).mono ?_
  rintro e w1 ⟨rfl, b1⟩
  have b0 : Below w.heap.size w w1 := ((Below.refl _ w).alloc (Nat.le_refl _) _).trans (b1.mono (by simp))
  have cb1 : w1.cell? ⟨w.heap.size, 0, none⟩ = some (.int .i64 b) := (b1.cell (p := ⟨w.heap.size, 0, none⟩) (by simp)).trans (by simp)
  have hs1 : w.heap.size < w1.heap.size := lt_of_cell cb1
  clear b1
  by_cases h1 : 300 < n
  · have p1 : decide (300 < (n : Int)) = true := decide_eq_true (by omega)
    go_wp2
    go_ret
    exact ⟨rfl, b0⟩
  have p1 : decide (300 < (n : Int)) = false := decide_eq_false (by omega)
  by_cases h2 : d < 1
  · have p2 : decide (d < 1) = true := decide_eq_true h2
    go_wp2
    go_ret
    exact ⟨rfl, b0⟩
  have p2 : decide (d < 1) = false := decide_eq_false h2
  by_cases h3 : 10 < d
  · have p3 : decide (10 < d) = true := decide_eq_true h3
    go_wp2
    go_ret
    exact ⟨rfl, b0⟩
  have p3 : decide (10 < d) = false := decide_eq_false h3
  by_cases h4 : b < 1
  · have p4 : decide (b < 1) = true := decide_eq_true h4
    go_wp2
    go_ret
    exact ⟨rfl, b0⟩
  have p4 : decide (b < 1) = false := decide_eq_false h4
  by_cases h5 : 10 < b
  · have p5 : decide (10 < b) = true := decide_eq_true h5
    go_wp2
    go_ret
    exact ⟨rfl, b0⟩
  have p5 : decide (10 < b) = false := decide_eq_false h5
  have hd0 : 0 < d := by omega
  have hd10 : d ≤ 10 := by omega
  go_wp2_with fail
  refine (newI_yes _ 300 (by omega) (by omega)).mono ?_
  rintro e w2 ⟨rfl, hls, hw2⟩
  have b2 : Below w.heap.size w w2 := by rw [hw2]; exact (b0.alloc b0.size _).alloc (by have := b0.size; simp; omega) _
  have cb2 : w2.cell? ⟨w.heap.size, 0, none⟩ = some (.int .i64 b) := by rw [hw2]; exact (((Below.refl _ w1).alloc (Nat.le_refl _) _).alloc (by simp) _ |>.cell (p := ⟨w.heap.size, 0, none⟩) hs1).trans cb1
  clear hw2 cb1
  go_wp2
  go_loopw [9] (fun i wr => ∃ i' : Nat, i' ≤ n ∧ i = .int .i64 i' ∧ LS 55 wr (w1.heap.size + 1) w1.heap.size 300 i' (fun x => (Lr jf d i' x).map vi) ∧ Below w.heap.size w wr ∧ wr.cell? ⟨w.heap.size, 0, none⟩ = some (.int .i64 b)) (fun i _ => n - (intOf i).toNat)
  case atStart => exact ⟨0, by omega, rfl, hls.congr (fun x => rfl), b2, cb2⟩
  case round =>
    obtain ⟨i, hi, rfl, hI, hb, hcb⟩ := hrel
    clear hls b2 cb2
    by_cases hlt : i < n
    · have p0 : decide ((i : Int) < n) = true := decide_eq_true (by omega)
      have hbd := tmod_bd (i : Int) d hd0
      have hem : (i : Int).tmod d = (i : Int) % d := Int.tmod_eq_emod_of_nonneg (by omega)
      rw [hem] at hbd
      have hxok : iKE.ok ((i : Int) % d) := wf_of (by omega) (by omega)
      have hlen := Lr_len jf d i ((i : Int) % d)
      have hpush := Lib.hid (pushI_room wr _ _ _ _ _ hI (by unfold maxLen; omega) (by omega) ((i : Int) % d) hxok (i : Int) (by rw [List.length_map]; omega))
      have hnext : ∀ x, (if x = (i : Int) % d then (Lr jf d i ((i : Int) % d)).map vi ++ [.int .i64 (i : Int)] else (Lr jf d i x).map vi) = (Lr jf d (i + 1) x).map vi := fun x => by
        rw [Lr_succ, ← hem]
        by_cases e : x = (i : Int).tmod d
        · rw [if_pos e, if_pos e, e, List.map_append]; rfl
        · rw [if_neg e, if_neg e]
      have HNX := Lib.hid hnext
      have hdn : d ≠ 0 := by omega
      clear hnext hlen hem
      go_wp2_with (go_at_call 8; refine hpush.out.mono ?_; rintro e w3 ⟨rfl, hI3, hg3⟩; have HI3 := Lib.hid hI3; have HG3 := Lib.hid hg3; clear hI3 hg3)
      go_roundw
      case rel => exact ⟨i + 1, by omega, by go_num, HI3.out.congr HNX.out, hb.grown HG3.out hb.size (fun j e => by have := Option.some.inj e; omega), HG3.out.cell hcb (fun e => by have := Option.some.inj e; simp at this; omega)⟩
      case measure => simp [intOf]; omega
    · obtain rfl : i = n := by omega
      have p0 : decide ((i : Int) < i) = false := decide_eq_false (by omega)
      have hI0 := Lib.hid (hI.congr (Lk_start i d b hd0))
      have hbz := Lib.hid (below_zero i d hd0)
      clear hI
      go_wp2
      obtain ⟨wo, rfl⟩ : ∃ wo : World, wo = wr := ⟨_, rfl⟩
      go_loopw [10, 11] (fun c kv wr => ∃ k : Nat, (k : Int) ≤ d ∧ kv = .int .i64 k ∧ c = .int .i64 ((below jf d i k : Int) - (sumK i d b k : Int)) ∧ LS 55 wr (w1.heap.size + 1) w1.heap.size 300 (i + k) (Lk i d b k) ∧ Below w.heap.size w wr ∧ wr.cell? ⟨w.heap.size, 0, none⟩ = some (.int .i64 b)) (fun _ kv _ => (d - intOf kv).toNat)
      case atStart => exact ⟨0, by omega, rfl, by rw [show ((0 : Nat) : Int) = 0 from rfl, hbz.out]; rfl, hI0.out, hb, hcb⟩
      case round =>
        obtain ⟨k, hk2, rfl, rfl, hI, hb1, hcb1⟩ := hrel
        have hle1 := sumK_le i d b hd0 k
        have hble := below_le jf d i k
        by_cases hkd : (k : Int) < d
        · have pk : decide ((k : Int) < d) = true := decide_eq_true hkd
          have hokk : iKE.ok (k : Int) := wf_of (by omega) (by omega)
          have hlr := Lr_len jf d i k
          have hkp := Lib.hid (keep_any wr _ _ _ _ _ hI (by unfold maxLen; omega) k hokk (Rz i d k) (Lk_at i d b k) (by rw [Rz_len]; omega) w.heap.size b hcb1 (by omega) (by omega))
          have hbs := below_succ jf d i k
          have hle2 := sumK_le i d b hd0 (k + 1)
          have hble2 := below_le jf d i ((k : Int) + 1)
          have hG : ∃ g g' : Int, (below jf d i k : Int) - (sumK i d b k : Int) = g ∧ (below jf d i ((k + 1 : Nat) : Int) : Int) - (sumK i d b (k + 1) : Int) = g' ∧ ((Rz i d k).length : Int) - ((Rz i d k).filter (fun t => t.tmod b != 0)).length = g' - g ∧ 0 ≤ g ∧ g ≤ 300 ∧ 0 ≤ g' ∧ g' ≤ 300 := by
            refine ⟨_, _, rfl, rfl, ?_, by omega, by omega, ?_, ?_⟩
            · rw [Rz_len]
              show _ - ((Kz i d b k).length : Int) = _
              have : sumK i d b (k + 1) = sumK i d b k + (Kz i d b k).length := rfl
              push_cast at *
              omega
            · push_cast at *; omega
            · push_cast at *; omega
          obtain ⟨g, g', hg1, hg2, hg3, hg4, hg5, hg6, hg7⟩ := hG
          rw [hg1]
          rw [hg3] at hkp
          have HG2 := Lib.hid hg2
          have HLN := Lib.hid (Lk_next i d b k)
          clear hle1 hble hlr hbs hle2 hble2 hg1 hg2 hg3 hI
          go_wp2_with (go_at_call 11; refine hkp.out.mono ?_; rintro e w3 ⟨rfl, hI3, hg3⟩; have HI3 := Lib.hid hI3; have HG3 := Lib.hid hg3; clear hI3 hg3)
          go_roundw
          case rel =>
            refine ⟨k + 1, by omega, by go_num, ?_, HI3.out.congr HLN.out, hb1.grown HG3.out hb1.size (fun j e => by have := Option.some.inj e; omega), HG3.out.cell hcb1 (fun e => by have := Option.some.inj e; simp at this; omega)⟩
            rw [HG2.out]
            congr 1
            omega
          case measure => simp [intOf]; omega
        · obtain rfl : (k : Int) = d := by omega
          have pk : decide ((k : Int) < k) = false := decide_eq_false (by omega)
          have hend := below_end jf k i hd0
          have hsk := sumK_le i k b hd0 k
          rw [hend] at hsk
          rw [hend]
          have hI1 := hI.congr (Lk_end i k b hd0)
          have hnm := Lib.hid (names_form wr _ _ _ _ _ hI1 (by omega))
          have hI2 := Lib.hid hI
          obtain ⟨S, hS⟩ : ∃ S, sumK i k b k = S := ⟨_, rfl⟩
          rw [hS] at hsk ⊢
          have HS := Lib.hid hS
          have hmw : w1.heap.size < wr.heap.size := hI.s.lt |> (fun h => by omega)
          have hbk : b ≠ 0 := by omega
          have hkn : (k : Int) ≠ 0 := by omega
          have hkn2 : k ≠ 0 := by omega
          clear hend hI hI1 hS
          go_wp2_with (go_at_call 13; refine hnm.out.mono ?_; rintro e w4 ⟨ao, cp, ks, rfl, hrk, hrise, hmem, hln, hbel⟩)
          have HM := Lib.hid (And.intro hrise hmem)
          have hI4 := (hI2.out.below hbel).congr (Lp_start hd0 hd10 hrise hmem)
          have hs0 := sum_start hd0 hd10 hrise hmem
          have hb4 : Below w.heap.size w w4 := hb1.trans (hbel.mono hb1.size)
          have hc4 : w4.cell? ⟨w.heap.size, 0, none⟩ = some (.int .i64 b) := (hbel.cell (p := ⟨w.heap.size, 0, none⟩) (lt_of_cell hcb1)).trans hcb1
          obtain ⟨m, hm⟩ : ∃ m, ks.length = m := ⟨_, rfl⟩
          rw [hm] at hln ⊢
          have HML := Lib.hid hm
          have HS0 := Lib.hid hs0
          clear hm hs0 hrise hmem hbel
          go_loopw [13, 14] (fun c iv wr => ∃ p : Nat, p ≤ m ∧ iv = .int .i64 p ∧ c = .int .i64 (sumK i k b (pos ks k p) : Nat) ∧ LS 55 wr (w1.heap.size + 1) w1.heap.size 300 (i + k + sumK i k b (pos ks k p)) (Lp i k b (pos ks k p : Nat)) ∧ Below w.heap.size w wr ∧ wr.cell? ⟨w.heap.size, 0, none⟩ = some (.int .i64 b) ∧ RK wr w1.heap.size ao ks) (fun _ iv _ => m - (intOf iv).toNat)
          case atStart => exact ⟨0, by omega, rfl, by rw [HS0.out]; rfl, by rw [HS0.out]; exact hI4, hb4, hc4, hrk⟩
          case round =>
            obtain ⟨p, hp, rfl, rfl, hI5, hb5, hc5, hrk5⟩ := hrel
            clear hI4 hb4 hc4 hrk hb hcb hb1 hcb1
            by_cases hpm : p < m
            · have q0 : decide ((p : Int) < m) = true := decide_eq_true (by omega)
              obtain ⟨x, hx⟩ : ∃ x, ks[p]? = some x := ⟨_, List.getElem?_eq_getElem (by rw [HML.out]; exact hpm)⟩
              obtain ⟨x1, x2, x3, x4⟩ := ks_at hd0 HM.out.2 hx
              rcases hrk5 with h0 | ⟨g, rfl, hmg, hcell⟩
              · have := HML.out; omega
              have hpx : ((pos ks k p : Nat) : Int) = x := by rw [pos_int hd0 HM.out.2, hx]; rfl
              have hsn := sum_next hd0 hd10 HM.out.1 HM.out.2 hx
              have hsle := sumK_le i k b hd0 (pos ks k (p + 1))
              have hble := below_le jf k i (pos ks k (p + 1) : Nat)
              have hI6 := hI5
              rw [hpx] at hI6
              replace hI6 := hI6.congr (Lq_start i k b x)
              have HEND := Lib.hid (Lq_end hd0 hd10 HM.out.1 HM.out.2 hx)
              obtain ⟨ln, hln2⟩ : ∃ ln, (Kz i k b x).length = ln := ⟨_, rfl⟩
              have hln0 : 0 < ln := by rw [← hln2]; exact List.length_pos_iff.2 x4
              obtain ⟨s, hs⟩ : ∃ s, sumK i k b (pos ks k p) = s := ⟨_, rfl⟩
              rw [hs] at hI6 hsn ⊢
              rw [hln2] at hsn HEND
              have hsl : s + ln ≤ i := by omega
              have HSN := Lib.hid hsn
              have HX := Lib.hid hx
              have HL2 := Lib.hid hln2
              have hcx : wr.cell? ⟨g, p, none⟩ = some (.int .i64 x) := hcell p x hx
              have hprev : 0 < p → ∃ y, y < x ∧ wr.cell? ⟨g, p - 1, none⟩ = some (.int .i64 y) := fun hp0 => by
                obtain ⟨h1, h2⟩ := List.getElem?_eq_some_iff.1 hx
                exact ⟨ks[p - 1], by rw [← h2]; exact List.pairwise_iff_getElem.1 HM.out.1 (p - 1) p (by omega) h1 (by omega), hcell (p - 1) _ (List.getElem?_eq_getElem (by omega))⟩
              have HC := Lib.hid hcell
              have HPV := Lib.hid hprev
              have HI6 := Lib.hid hI6
              have hlz : (Lq i k b x 0 x).length = ln := by rw [Lq_at, zv_len, List.length_drop, HL2.out]; rfl
              have hlenq : Hid (∀ n, Calls Try.prog 9 #[.pointer (some ⟨w1.heap.size + 1, 0, none⟩), .int .i64 x] (wr.drewN n) fun e W' => e = .returned (.int .i64 (ln : Int)) ∧ W' = wr.drewN n) := Lib.hid fun n => by
                rw [← hlz]
                exact (lenI_any (wr.drewN n) _ _ _ _ _ (HI6.out.drewN n) x x3).mono fun _ _ h => ⟨h.1, h.2.symm⟩
              have q1 : ((ln : Int) == 0) = false := by rw [beq_eq_false_iff_ne]; omega
              clear hI5 hI6 hpx hsn hsle hble hln2 hs hx hcell hprev hlz
              go_upto_region 22 with (fail)
              go_cut [102] (fun s102 wx => s102 = .bool false ∧ ∃ nd, wx = wr.drewN nd)
              case first =>
                by_cases hp0 : 0 < p
                · obtain ⟨y, hyx, hcy⟩ := HPV.out hp0
                  have q2 : decide (0 < (p : Int)) = true := decide_eq_true (by omega)
                  have q3 : decide (x ≤ y) = false := decide_eq_false (by omega)
                  obtain ⟨q, rfl⟩ : ∃ q, p = q + 1 := ⟨p - 1, by omega⟩
                  rw [Nat.add_sub_cancel] at hcy
                  have i1 : (q : Int) + 1 < (m : Int) := by omega
                  have i2 : (q : Int) < (m : Int) := by omega
                  have i3 : (0 : Int) ≤ (q : Int) + 1 := by omega
                  have i4 : ((q : Int) + 1).toNat = q + 1 := by omega
                  have i5 : IntKind.i64.wrap (q : Int) = q := IntWalk.i64_in _ (by omega)
                  have i6 : (0 : Int) ≤ (q : Int) := by omega
                  go_quiet ((go_at_call 9; exact Calls.quiet_of_same (hlenq.out _)))
                  go_wp2
                  go_meet
                  exact ⟨rfl, _, rfl⟩
                · have q2 : decide (0 < (p : Int)) = false := decide_eq_false (by omega)
                  go_quiet ((go_at_call 9; exact Calls.quiet_of_same (hlenq.out _)))
                  go_wp2
                  go_meet
                  exact ⟨rfl, _, rfl⟩
              case rest =>
                obtain ⟨rfl, nd, rfl⟩ := hcut
                have hb6 := drewN_below hb5 nd
                have hc6 : (wr.drewN nd).cell? ⟨w.heap.size, 0, none⟩ = some (.int .i64 b) := hc5
                have HC6 : Hid (∀ j x, ks[j]? = some x → (wr.drewN nd).cell? ⟨g, j, none⟩ = some (.int .i64 x)) := Lib.hid (fun j x h => HC.out j x h)
                have hI7 := HI6.out.drewN nd
                obtain ⟨wo3, hwo⟩ : ∃ wo3, wr.drewN nd = wo3 := ⟨_, rfl⟩
                rw [hwo] at hb6 hc6 HC6 hI7 ⊢
                clear hwo hb5 hc5 HC HPV HI6 hlenq hcx
                go_wp2
                go_loopw [13, 15] (fun c lv wr => ∃ j : Nat, j ≤ ln ∧ lv = .int .i64 (lastK (Kz i k b x) j) ∧ c = .int .i64 ((s + j : Nat) : Int) ∧ LS 55 wr (w1.heap.size + 1) w1.heap.size 300 (i + k + s + j) (Lq i k b x j) ∧ Below w.heap.size w wr ∧ wr.cell? ⟨w.heap.size, 0, none⟩ = some (.int .i64 b) ∧ RK wr w1.heap.size (some ⟨g, 0, none⟩) ks) (fun c _ _ => s + ln - (intOf c).toNat)
                case atStart => exact ⟨0, by omega, rfl, rfl, hI7, hb6, hc6, .inr ⟨g, rfl, hmg, HC6.out⟩⟩
                case round =>
                  obtain ⟨j, hj, rfl, rfl, hI8, hb8, hc8, hrk8⟩ := hrel
                  clear hI7 hb6 hc6 HC6
                  rcases hrk8 with h0 | ⟨g', hgg, hmg', hcell⟩
                  · have := HML.out; omega
                  obtain rfl : g = g' := by simpa using hgg
                  have hxp : ks[p]? = some x := HX.out
                  have hcx : wr.cell? ⟨g, p, none⟩ = some (.int .i64 x) := hcell p x hxp
                  have hLat := Lq_at i k b x j
                  have hlen := Lib.hid (lenI_any wr _ _ _ _ _ hI8 x x3)
                  have hLen : (Lq i k b x j x).length = ln - j := by rw [hLat, zv_len, List.length_drop, HL2.out]
                  rw [hLen] at hlen
                  by_cases hjl : j < ln
                  · obtain ⟨t, ht⟩ : ∃ t, (Kz i k b x)[j]? = some t := ⟨_, List.getElem?_eq_getElem (by rw [HL2.out]; exact hjl)⟩
                    obtain ⟨t1, t2, t3, t4⟩ := Kz_mem (List.mem_of_getElem? ht)
                    have hpop := Lib.hid (popI_some wr _ _ _ _ _ hI8 (by unfold maxLen; omega) x x3 (.int .i64 t) (zv ((Kz i k b x).drop (j + 1))) (by
                      rw [hLat, List.drop_eq_getElem?_toList_append, ht]; rfl) (by rw [zv_len, List.length_drop, HL2.out]; omega))
                    have hlast : lastK (Kz i k b x) j < t := lastK_lt ht
                    have hlast2 : lastK (Kz i k b x) (j + 1) = t := by
                      show ((Kz i k b x)[j]?).getD 0 = t
                      rw [ht]; rfl
                    have HL3 := Lib.hid hlast2
                    obtain ⟨la, hla⟩ : ∃ la, lastK (Kz i k b x) j = la := ⟨_, rfl⟩
                    rw [hla] at hlast ⊢
                    have r4 : decide (t ≤ la) = false := decide_eq_false (by omega)
                    have r5 : decide (0 < ((ln - j : Nat) : Int)) = true := decide_eq_true (by omega)
                    have r6 : (t.tmod b == 0) = false := by simpa using t4
                    have r7 : (t.tmod k != x) = false := by rw [t3]; simp
                    have hsum2 : ((s + j : Nat) : Int) ≤ 1000 := by omega
                    have HNX := Lib.hid (Lq_next i k b x j)
                    have HRK : Hid (RK wr w1.heap.size (some ⟨g, 0, none⟩) ks) := Lib.hid (.inr ⟨g, rfl, hmg, hcell⟩)
                    clear hI8 hLat hLen ht hla hlast hlast2 hcell t3 t4
                    go_wp2_with (first | (go_at_call 9; refine hlen.out.mono ?_; rintro e w' ⟨rfl, rfl⟩) | (go_at_call 10; refine hpop.out.mono ?_; rintro e w4 ⟨rfl, hI4, hg4⟩; have HI4 := Lib.hid hI4; have hb4 := hb8.grown hg4 hb8.size (fun j e => Nat.le_trans (Nat.le_of_lt hs1) (Nat.le_of_eq (Option.some.inj e))); have HRK4 := Lib.hid (HRK.out.kept hg4); have c4 := hg4.cell hcx (fun e => by have := Option.some.inj e; simp at this; omega); have c5 := hg4.cell hc8 (fun e => by have := Option.some.inj e; simp at this; omega); clear hI4 hg4))
                    go_quiet (fail)
                    have hb4' := fun n => drewN_below hb4 n
                    go_wp2
                    go_roundw
                    case rel => exact ⟨j + 1, by omega, by rw [HL3.out], by go_num, (HI4.out.congr HNX.out).drewN _, drewN_below hb4 _, c5, HRK4.out⟩
                    case measure => simp [intOf]; omega
                  · obtain rfl : j = ln := by omega
                    have r5 : decide (0 < ((j - j : Nat) : Int)) = false := decide_eq_false (by omega)
                    have HOV := Lib.hid (hI8.congr HEND.out)
                    have HRK : Hid (RK wr w1.heap.size (some ⟨g, 0, none⟩) ks) := Lib.hid (.inr ⟨g, rfl, hmg, hcell⟩)
                    clear hI8 hLat hLen hcell
                    go_wp2_with (go_at_call 9; refine hlen.out.mono ?_; rintro e w' ⟨rfl, rfl⟩)
                    go_roundw
                    case rel => exact ⟨p + 1, by omega, by go_num, by rw [← HSN.out]; push_cast; rfl, by rw [← HSN.out, ← Nat.add_assoc]; exact HOV.out, hb8, hc8, HRK.out⟩
                    case measure => simp [intOf]; omega
            · obtain rfl : p = m := by omega
              have q0 : decide ((p : Int) < p) = false := decide_eq_false (by omega)
              have hse := sum_end i k b (ks := ks)
              rw [HML.out, Int.toNat_natCast, HS.out] at hse
              rw [hse]
              rw [hse] at hI5
              have hIE := hI5.congr (L' := fun _ => []) (fun y => by have := Lp_end (n := i) (b := b) (ks := ks) hd0 y; rw [HML.out] at this; exact this)
              have hnz := Lib.hid (names_zero wr _ _ _ _ _ hIE (by omega) (fun _ => rfl))
              have pe : ((i : Int) - (S : Int) + S == (i : Int)) = true := by rw [beq_iff_eq]; omega
              have pe2 : (i : Int) - (S : Int) + S = i := by omega
              have hlast := hb5
              clear hI5 hIE hse
              go_wp2_with (go_at_call 13; refine hnz.out.mono ?_; rintro e w5 ⟨ao5, cp5, rfl, hb9⟩)
              go_ret
              exact ⟨rfl, hlast.trans (hb9.mono hlast.size)⟩
end Go.Proofs.Ytklfppjejndclaa
