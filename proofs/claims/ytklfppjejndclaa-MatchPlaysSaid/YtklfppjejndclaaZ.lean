/- The walk of MatchPlays. -/
import Derived.Test.YtklfppjejndclaaX
import Derived.Deep.RegionHeld3
import Derived.Deep.MidRow
import Derived.Deep.Cut
import Derived.Deep.CutBlock
import Derived.Deep.DeepCutAuto
set_option linter.unusedVariables false
set_option linter.unusedSimpArgs false
namespace Go.Proofs.Ytklfppjejndclaa.P2
open Go.RowKit Go.Maps
theorem Two.fresh {W0 W W' : World} {sb mb rb B0 i : Nat} {most : Int} (h : Two W0 W sb mb rb B0 most i) (hf : Fr (fun _ => False) W W') (k : Nat) (hk : W.heap.size ≤ k) : ¬ SB W' rb k := by
  obtain ⟨L, R, N, h1, h2, _⟩ := h.c
  rw [h2.sb_fr hf id]
  intro e
  have := (h2.sb_lt e).1
  omega
set_option maxRecDepth 100000 in
set_option maxHeartbeats 4000000 in
theorem plays_law (most : Int) (W : World) (a : Option Addr) (len cap : Nat) (f : Nat → Nat → Int) (hl : len ≤ 9223372036854775807) (hrow : Rows5 W a len f) (hwf : ∀ i, i < len → iKE.ok (f 1 i)) :
    Calls Try.prog 5 #[.int .i64 most, .slice a len cap] W fun e W' => e = .returned (.bool true) ∧ Below W.heap.size W W' := by
  go_enter Try.func5, Try.ntmps5
  go_wp2_with fail
  refine (known_any _).mono ?_
  rintro e w1 ⟨rfl, b1⟩
  by_cases h1 : 300 < len
  · have p1 : decide (300 < (len : Int)) = true := decide_eq_true (by omega)
    go_wp2
    go_ret
    exact ⟨rfl, b1⟩
  have p1 : decide (300 < (len : Int)) = false := decide_eq_false (by omega)
  have hs1 := b1.size
  by_cases hm : 1 ≤ most ∧ most ≤ 65536
  case neg =>
    have H1 := Lib.hid (newI_no w1 most hm)
    have H2 := Lib.hid (newR_no w1 most hm)
    clear hm hrow hwf
    go_wp2_with fail
    refine H1.out.mono ?_
    rintro e w2 ⟨rfl, rfl⟩
    go_wp2_with fail
    refine H2.out.mono ?_
    rintro e w2 ⟨rfl, rfl⟩
    go_wp2
    go_ret
    exact ⟨rfl, b1⟩
  obtain ⟨hm1, hm2⟩ := hm
  have H1 := Lib.hid (newI_yes (S := fun _ => False) w1 most hm1 hm2)
  go_wp2_with fail
  refine H1.out.mono ?_
  rintro e w2 ⟨rfl, k2, hw2⟩
  have hz2 : w2.heap.size = w1.heap.size + 2 := by rw [hw2]; simp
  have b2 : Below W.heap.size W w2 := by rw [hw2]; exact (b1.alloc hs1 _).alloc (by simp; omega) _
  have H2 := Lib.hid (newR_yes w2 most hm1 hm2)
  clear hw2 H1
  go_wp2_with fail
  refine H2.out.mono ?_
  rintro e w3 ⟨rfl, rfl⟩
  have hfa : Fr (fun _ => False) w2 (w2.alloc (.cells #[.int .i64 most, .slice none 0 0] 64)) := Fr.alloc _ _ _
  have hBR := Blk.new w2 64 #[.int .i64 most, .slice none 0 0]
  have hT3 : Two W (w2.alloc (.cells #[.int .i64 most, .slice none 0 0] 64)) (w1.heap.size + 1) w1.heap.size w2.heap.size (w2.heap.size + 1) most 0 := by
    refine ⟨⟨_, [], 0, k2.turn0 (S' := SB _ w2.heap.size) hfa (fun k e => e.elim) id id (fun k e => ?_), ⟨⟨_, hBR, World.ownsRow_nil _ _ _ _⟩, by omega, by simp⟩, fun x _ => rfl, fun p hp => (by cases hp), by simp, Nat.le_refl _⟩, b2.alloc b2.size _, by omega, by omega, by omega, by omega, by omega⟩
    rcases e with e | e
    · right; omega
    · rw [rowB_of hBR] at e; cases e
  have HROW := Lib.hid hrow
  have HWF := Lib.hid hwf
  have HT := Lib.hid hT3
  obtain ⟨rb, hR⟩ : ∃ R, w2.heap.size = R := ⟨_, rfl⟩
  obtain ⟨sb, hC⟩ : ∃ R, w1.heap.size + 1 = R := ⟨_, rfl⟩
  obtain ⟨mb, hM⟩ : ∃ R, w1.heap.size = R := ⟨_, rfl⟩
  obtain ⟨B0, hB0⟩ : ∃ R, rb + 1 = R := ⟨_, rfl⟩
  rw [hR, hC, hM, hB0] at HT
  rw [hR, hC]
  obtain ⟨w4, hw4⟩ : ∃ w, w2.alloc (.cells #[.int .i64 most, .slice none 0 0] 64) = w := ⟨_, rfl⟩
  rw [hw4] at HT ⊢
  clear b1 k2 b2 hrow hwf hfa hT3 hBR H2 hz2 hR hC hM hB0 hw4 hs1
  go_wp2
  go_loopw [9] (fun kv wr => ∃ i : Nat, i ≤ len ∧ kv = .int .i64 i ∧ Two W wr sb mb rb B0 most i) (fun kv _ => len - (intOf kv).toNat)
  case atStart => exact ⟨0, by omega, rfl, HT.out⟩
  case round =>
    obtain ⟨i, hi, rfl, hT⟩ := hrel
    clear HT
    by_cases hlt : i < len
    · have p0 : decide ((i : Int) < len) = true := decide_eq_true (by omega)
      rcases HROW.out with h0 | ⟨b, o, rfl, hbl, hcc⟩
      · omega
      have hcc' := hcc i hlt
      have c0 := hcc' 0 (by decide)
      have c1 := hcc' 1 (by decide)
      have c2 := hcc' 2 (by decide)
      have c3 := hcc' 3 (by decide)
      have c4 := hcc' 4 (by decide)
      rw [Nat.add_zero] at c0
      have hok := HWF.out i hlt
      have hb := hT.b
      obtain ⟨g0, hg0⟩ : ∃ z, f 0 i = z := ⟨_, rfl⟩
      obtain ⟨g1, hg1⟩ : ∃ z, f 1 i = z := ⟨_, rfl⟩
      obtain ⟨g2, hg2⟩ : ∃ z, f 2 i = z := ⟨_, rfl⟩
      obtain ⟨g3, hg3⟩ : ∃ z, f 3 i = z := ⟨_, rfl⟩
      obtain ⟨g4, hg4⟩ : ∃ z, f 4 i = z := ⟨_, rfl⟩
      rw [hg0] at c0
      rw [hg1] at c1 hok
      rw [hg2] at c2
      rw [hg3] at c3
      rw [hg4] at c4
      have d0 := (hb.cell (p := ⟨b, o + i * 5, none⟩) hbl).trans c0
      have d1 := (hb.cell (p := ⟨b, o + i * 5 + 1, none⟩) hbl).trans c1
      have d2 := (hb.cell (p := ⟨b, o + i * 5 + 2, none⟩) hbl).trans c2
      have d3 := (hb.cell (p := ⟨b, o + i * 5 + 3, none⟩) hbl).trans c3
      have d4 := (hb.cell (p := ⟨b, o + i * 5 + 4, none⟩) hbl).trans c4
      have i1 : (i : Int) < (len : Int) := by omega
      have h4 : i ≤ 300 := by omega
      have hrl := hT.lt
      have HW := Lib.hid hT
      have HOK := Lib.hid hok
      clear hcc hcc' c0 c1 c2 c3 c4 hg0 hg1 hg2 hg3 hg4 hT hok hb
      go_upto_block 2 with (fail)
      have hfX : Fr (fun _ => False) wr (wr.alloc (.cells #[.int .i64 g0, .int .i64 g1, .int .i64 g2, .int .i64 g3, .int .i64 g4] 42)) := Fr.alloc _ _ _
      have hXb : Blk (wr.alloc (.cells #[.int .i64 g0, .int .i64 g1, .int .i64 g2, .int .i64 g3, .int .i64 g4] 42)) wr.heap.size 42 #[.int .i64 g0, .int .i64 g1, .int .i64 g2, .int .i64 g3, .int .i64 g4] := Blk.new _ _ _
      have hnS := HW.out.fresh hfX wr.heap.size (Nat.le_refl _)
      have HW5 := Lib.hid (HW.out.fr0 hfX)
      have e0 := hXb.cell 0
      have e1 := hXb.cell 1
      have e2 := hXb.cell 2
      have e3 := hXb.cell 3
      have e4 := hXb.cell 4
      simp only [List.getElem?_toArray, List.getElem?_cons_zero, List.getElem?_cons_succ] at e0 e1 e2 e3 e4
      obtain ⟨w5, hw5⟩ : ∃ w, wr.alloc (.cells #[.int .i64 g0, .int .i64 g1, .int .i64 g2, .int .i64 g3, .int .i64 g4] 42) = w := ⟨_, rfl⟩
      rw [hw5] at e0 e1 e2 e3 e4 HW5 hXb hnS
      rw [hw5]
      obtain ⟨X, hXX⟩ : ∃ w, wr.heap.size = w := ⟨_, rfl⟩
      rw [hXX] at e0 e1 e2 e3 e4 hXb hrl hnS
      rw [hXX]
      have hXlt := hXb.lt
      have hd5 := HW5.out.d
      have HB := Lib.hid hXb
      have HNS := Lib.hid hnS
      clear hw5 hXX hfX d0 d1 d2 d3 d4 HW hXb hnS
      go_cut [56] (fun _ wx => Two W wx sb mb rb B0 most (i + 1) ∧ wx.cell? ⟨X, 1, none⟩ = some (.int .i64 g1))
      case first =>
        by_cases k1 : g0 = 1
        · have q1 : (g0 == 1) = true := by simp [k1]
          have HD5 : Hid (Two W w5.drew sb mb rb B0 most i) := Lib.hid (HW5.out.fr0 (Fr.drewN _ w5 1))
          obtain ⟨v, HN0⟩ := two_push HD5.out h4 hm2 g1 g2 HOK.out
          have HN := Lib.hid HN0
          have HK1 : Hid (∀ w3 : World, Fr (fun k => k = mb) w5.drew w3 → w3.cell? ⟨X, 1, none⟩ = some (.int .i64 g1) ∧ w3.cell? ⟨X, 2, none⟩ = some (.int .i64 g2)) := Lib.hid (fun w3 hf => by
            have := hf.block X hXlt (by omega)
            exact ⟨(World.cell?_of_block this).trans e1, (World.cell?_of_block this).trans e2⟩)
          have HK2 : Hid (∀ w3 w4 : World, Fr (fun k => k = mb) w5.drew w3 → Fr (SB w5.drew rb) w3 w4 → w4.cell? ⟨X, 1, none⟩ = some (.int .i64 g1) ∧ w4.cell? ⟨X, 2, none⟩ = some (.int .i64 g2)) := Lib.hid (fun w3 w4 hf hf2 => by
            have h1 := HK1.out w3 hf
            have := hf2.block X (lt_of_cell h1.1) HNS.out
            exact ⟨(World.cell?_of_block this).trans h1.1, (World.cell?_of_block this).trans h1.2⟩)
          clear k1 HN0
          go_upto_region 17 with (fail)
          refine wp_region_held_drew (S := fun (w' : World) => w'.cell? ⟨X, 1, none⟩ = some (.int .i64 g1) ∧ w'.cell? ⟨X, 2, none⟩ = some (.int .i64 g2)) (by kernel_rfl) ⟨e1, e2⟩ (fun hHeld => ?_)
          refine wpAnyH_take (i := 0) (oi := _) (v := ?va0) rfl (by kernel_rfl) (by kernel_rfl) (by kernel_rfl) (fun _ _ _ h => h) (Or.inl ⟨by rfl, ?ya0⟩) (by assumption) ?ra0
          case ya0 => intro w1 hSw; obtain ⟨s1, s2⟩ := hSw; go_simp; try with_reducible rfl
          try simp only [List.getElem_toArray, List.getElem_cons_zero, List.getElem_cons_succ, Act.put, List.setIfInBounds_toArray, List.set_cons_zero, List.set_cons_succ]
          refine wpAnyH_take (i := 1) (oi := _) (v := ?va1) rfl (by kernel_rfl) (by kernel_rfl) (by kernel_rfl) (fun _ _ _ h => h) (Or.inl ⟨by rfl, ?ya1⟩) (by assumption) ?ra1
          case ya1 => intro w1 hSw; obtain ⟨s1, s2⟩ := hSw; go_simp; try with_reducible rfl
          try simp only [List.getElem_toArray, List.getElem_cons_zero, List.getElem_cons_succ, Act.put, List.setIfInBounds_toArray, List.set_cons_zero, List.set_cons_succ]
          refine wpAnyH_take (i := 2) (oi := _) (v := ?va2) rfl (by kernel_rfl) (by kernel_rfl) (by kernel_rfl) (fun _ _ _ h => h) (Or.inl ⟨by rfl, ?ya2⟩) (by assumption) ?ra2
          case ya2 => intro w1 hSw; obtain ⟨s1, s2⟩ := hSw; go_simp; try with_reducible rfl
          try simp only [List.getElem_toArray, List.getElem_cons_zero, List.getElem_cons_succ, Act.put, List.setIfInBounds_toArray, List.set_cons_zero, List.set_cons_succ]
          refine wpAnyH_take (i := 3) (oi := _) (v := ?va3) rfl (by kernel_rfl) (by kernel_rfl) (by kernel_rfl) (fun _ _ _ h => h) (Or.inl ⟨by rfl, ?ya3⟩) (by assumption) ?ra3
          case ya3 => intro w1 hSw; obtain ⟨s1, s2⟩ := hSw; go_simp; try with_reducible rfl
          try simp only [List.getElem_toArray, List.getElem_cons_zero, List.getElem_cons_succ, Act.put, List.setIfInBounds_toArray, List.set_cons_zero, List.set_cons_succ]
          refine wpAnyH_take (i := 4) (oi := _) (v := ?va4) rfl (by kernel_rfl) (by kernel_rfl) (by kernel_rfl) (fun _ _ _ h => h) (Or.inl ⟨by rfl, ?ya4⟩) (by assumption) ?ra4
          case ya4 => intro w1 hSw; obtain ⟨s1, s2⟩ := hSw; go_simp; try with_reducible rfl
          try simp only [List.getElem_toArray, List.getElem_cons_zero, List.getElem_cons_succ, Act.put, List.setIfInBounds_toArray, List.set_cons_zero, List.set_cons_succ]
          refine wpAnyH_take (i := 6) (oi := _) (v := ?va6) rfl (by kernel_rfl) (by kernel_rfl) (by kernel_rfl) (fun _ _ _ h => h) (Or.inl ⟨by rfl, ?ya6⟩) (by assumption) ?ra6
          case ya6 => intro w1 hSw; obtain ⟨s1, s2⟩ := hSw; go_simp; try with_reducible rfl
          try simp only [List.getElem_toArray, List.getElem_cons_zero, List.getElem_cons_succ, Act.put, List.setIfInBounds_toArray, List.set_cons_zero, List.set_cons_succ]
          refine wpAnyH_take (i := 7) (oi := _) (v := ?va7) rfl (by kernel_rfl) (by kernel_rfl) (by kernel_rfl) (fun _ _ _ h => h) (Or.inl ⟨by rfl, ?ya7⟩) (by assumption) ?ra7
          case ya7 => intro w1 hSw; obtain ⟨s1, s2⟩ := hSw; go_simp; try with_reducible rfl
          try simp only [List.getElem_toArray, List.getElem_cons_zero, List.getElem_cons_succ, Act.put, List.setIfInBounds_toArray, List.set_cons_zero, List.set_cons_succ]
          refine wpAnyH_take (i := 8) (oi := _) (v := ?va8) rfl (by kernel_rfl) (by kernel_rfl) (by kernel_rfl) (fun _ _ _ h => h) (Or.inl ⟨by rfl, ?ya8⟩) (by assumption) ?ra8
          case ya8 => intro w1 hSw; obtain ⟨s1, s2⟩ := hSw; go_simp; try with_reducible rfl
          try simp only [List.getElem_toArray, List.getElem_cons_zero, List.getElem_cons_succ, Act.put, List.setIfInBounds_toArray, List.set_cons_zero, List.set_cons_succ]
          refine wpAnyH_take (i := 9) (oi := _) (v := ?va9) rfl (by kernel_rfl) (by kernel_rfl) (by kernel_rfl) (fun _ _ _ h => h) (Or.inl ⟨by rfl, ?ya9⟩) (by assumption) ?ra9
          case ya9 => intro w1 hSw; obtain ⟨s1, s2⟩ := hSw; go_simp; try with_reducible rfl
          try simp only [List.getElem_toArray, List.getElem_cons_zero, List.getElem_cons_succ, Act.put, List.setIfInBounds_toArray, List.set_cons_zero, List.set_cons_succ]
          refine wpAnyH_take (i := 10) (oi := _) (v := ?va10) rfl (by kernel_rfl) (by kernel_rfl) (by kernel_rfl) (fun _ _ _ h => h) (Or.inl ⟨by rfl, ?ya10⟩) (by assumption) ?ra10
          case ya10 => intro w1 hSw; obtain ⟨s1, s2⟩ := hSw; go_simp; try with_reducible rfl
          try simp only [List.getElem_toArray, List.getElem_cons_zero, List.getElem_cons_succ, Act.put, List.setIfInBounds_toArray, List.set_cons_zero, List.set_cons_succ]
          refine wpAnyH_ready (rs := [5]) (by kernel_rfl) (by simp) ?_
          refine AllReadyH.cons (o := _) rfl (fun K hK => ?_) AllReadyH.nil
          rw [if_pos (by rfl)]
          try simp only [List.getElem_toArray, List.getElem_cons_zero, List.getElem_cons_succ]
          go_simp
          refine HN.out.mono ?_
          rintro e w3 ⟨rfl, hf3, HR0⟩
          have HR := Lib.hid HR0
          clear HR0
          refine hK.out _ _ (HK1.out w3 hf3) (fun hHeld2 => ?_)
          clear hK K
          try simp only [List.getElem_toArray, List.getElem_cons_zero, List.getElem_cons_succ, Act.put, List.setIfInBounds_toArray, List.set_cons_zero, List.set_cons_succ]
          refine wpAnyH_ready (rs := [11]) (by kernel_rfl) (by simp) ?_
          refine AllReadyH.cons (o := _) rfl (fun K hK => ?_) AllReadyH.nil
          rw [if_pos (by rfl)]
          try simp only [List.getElem_toArray, List.getElem_cons_zero, List.getElem_cons_succ]
          go_simp
          refine HR.out.mono ?_
          rintro e w4 ⟨rfl, hf4, hT4⟩
          refine hK.out _ _ (HK2.out w3 w4 hf3 hf4) (fun hHeld3 => ?_)
          clear hK K
          try simp only [List.getElem_toArray, List.getElem_cons_zero, List.getElem_cons_succ, Act.put, List.setIfInBounds_toArray, List.set_cons_zero, List.set_cons_succ]
          have pv : (v != v) = false := by simp
          refine wpAnyH_take (i := 12) (oi := _) (v := ?va12) rfl (by kernel_rfl) (by kernel_rfl) (by kernel_rfl) (fun _ _ _ h => h) (Or.inl ⟨by rfl, ?ya12⟩) (by assumption) ?ra12
          case ya12 => intro w1 hSw; go_simp; try with_reducible rfl
          try simp only [List.getElem_toArray, List.getElem_cons_zero, List.getElem_cons_succ, Act.put, List.setIfInBounds_toArray, List.set_cons_zero, List.set_cons_succ]
          refine wpAnyH_done (by kernel_rfl) ?_ _
          have HT4 := Lib.hid hT4
          have HE4 := Lib.hid (HK2.out w3 w4 hf3 hf4)
          clear hT4 hf4 hf3 HN HR hHeld hHeld2 hHeld3
          go_wp2
          go_meet
          exact ⟨HT4.out, HE4.out.1⟩
        have q1 : (g0 == 1) = false := by simp [k1]
        by_cases k2 : g0 = 2
        · have q2 : (g0 == 2) = true := by simp [k2]
          obtain ⟨v, q, HN0⟩ := two_pop HW5.out h4 g1 HOK.out
          have HN := Lib.hid HN0
          clear k1 k2 HN0
          go_wp2_with fail
          refine HN.out.mono ?_
          rintro e w6 ⟨rfl, hf6, HR0⟩
          have HR := Lib.hid HR0
          have e5 := (World.cell?_of_block (hf6.block X hXlt (by omega))).trans e1
          have hxl6 := hf6.size
          clear HR0 hf6 HN
          go_wp2_with fail
          refine HR.out.mono ?_
          rintro e w7 ⟨rfl, hf7, hT7⟩
          have HT7 := Lib.hid hT7
          have e6 := (World.cell?_of_block (hf7.block X (by omega) HNS.out)).trans e5
          have pv : (v != v) = false := by simp
          have pq : (q != q) = false := by simp
          clear hT7 hf7 HR
          go_wp2
          go_meet
          exact ⟨HT7.out, e6⟩
        have q2 : (g0 == 2) = false := by simp [k2]
        by_cases k3 : g0 = 3
        · have q3 : (g0 == 3) = true := by simp [k3]
          clear k1 k2 k3
          have HNP : Hid (∀ w : World, Fr (fun _ => False) w5 w → ¬ SB w rb w5.heap.size) := Lib.hid (fun w hf => HW5.out.fresh hf _ (Nat.le_refl _))
          by_cases hg3 : g3 < 1
          · have p3 : decide (g3 < 1) = true := decide_eq_true hg3
            clear hg3
            go_upto_region 28 with (fail)
            have hfP : Fr (fun _ => False) w5 (w5.alloc (.cells #[.int .i64 1] 3)) := Fr.alloc _ _ _
            have hP := Blk.new w5 3 #[.int .i64 1]
            have hT6 := HW5.out.fr0 hfP
            have hX6 := HB.out.fr hfP id
            have hns6 : ¬ SB (w5.alloc (.cells #[.int .i64 1] 3)) rb X := fun e => by
              have hh := HW5.out.c
              obtain ⟨L, R, N, h1, h2, _⟩ := hh
              rw [h2.sb_fr hfP id] at e
              exact HNS.out e
            have hp0 := hP.cell 0
            have hx1 := hX6.cell 1
            have hx4 := hX6.cell 4
            simp only [List.getElem?_toArray, List.getElem?_cons_zero, List.getElem?_cons_succ] at hp0 hx1 hx4
            obtain ⟨w6, hw6⟩ : ∃ w, w5.alloc (.cells #[.int .i64 1] 3) = w := ⟨_, rfl⟩
            rw [hw6] at hT6 hX6 hns6 hp0 hx1 hx4 hP
            rw [hw6]
            obtain ⟨pb, hpb⟩ : ∃ p, w5.heap.size = p := ⟨_, rfl⟩
            rw [hpb] at hp0 hXlt hP
            rw [hpb]
            have hpl := hP.lt
            have hxl6 := hX6.lt
            have hnp : ¬ SB w6 rb pb := fun e => HNP.out w6 (by rw [← hw6]; exact Fr.alloc _ _ _) (by rw [hpb]; exact e)
            obtain ⟨v, HN0⟩ := two_keep hT6 h4 g1 1 g4 HOK.out pb X hp0 hx4 (by decide)
            have HN := Lib.hid HN0
            have HNS6 := Lib.hid hns6
            have HNP6 := Lib.hid hnp
            clear hw6 hT6 hX6 hns6 hP HN0 hpb hfP hnp
            go_wp2_with fail
            refine HN.out.mono ?_
            rintro e w7 ⟨rfl, hf7, HR0⟩
            have HR := Lib.hid HR0
            have i1 := (World.cell?_of_block (hf7.block X hxl6 (by omega))).trans hx1
            have i4 := (World.cell?_of_block (hf7.block X hxl6 (by omega))).trans hx4
            have i0 := (World.cell?_of_block (hf7.block pb hpl (by omega))).trans hp0
            have hs7 := hf7.size
            clear HR0 hf7 HN
            go_wp2_with fail
            refine HR.out.mono ?_
            rintro e w8 ⟨rfl, hf8, hT8⟩
            have HT8 := Lib.hid hT8
            have j1 := (World.cell?_of_block (hf8.block X (by omega) HNS6.out)).trans i1
            have pv : (v != v) = false := by simp
            clear hT8 hf8 HR
            go_wp2
            go_meet
            exact ⟨HT8.out, j1⟩
          · have p3 : decide (g3 < 1) = false := decide_eq_false hg3
            have hg4 : 1 ≤ g3 := by omega
            clear hg3
            go_upto_region 28 with (fail)
            have hfP : Fr (fun _ => False) w5 (w5.alloc (.cells #[.int .i64 g3] 3)) := Fr.alloc _ _ _
            have hP := Blk.new w5 3 #[.int .i64 g3]
            have hT6 := HW5.out.fr0 hfP
            have hX6 := HB.out.fr hfP id
            have hns6 : ¬ SB (w5.alloc (.cells #[.int .i64 g3] 3)) rb X := fun e => by
              have hh := HW5.out.c
              obtain ⟨L, R, N, h1, h2, _⟩ := hh
              rw [h2.sb_fr hfP id] at e
              exact HNS.out e
            have hp0 := hP.cell 0
            have hx1 := hX6.cell 1
            have hx4 := hX6.cell 4
            simp only [List.getElem?_toArray, List.getElem?_cons_zero, List.getElem?_cons_succ] at hp0 hx1 hx4
            obtain ⟨w6, hw6⟩ : ∃ w, w5.alloc (.cells #[.int .i64 g3] 3) = w := ⟨_, rfl⟩
            rw [hw6] at hT6 hX6 hns6 hp0 hx1 hx4 hP
            rw [hw6]
            obtain ⟨pb, hpb⟩ : ∃ p, w5.heap.size = p := ⟨_, rfl⟩
            rw [hpb] at hp0 hXlt hP
            rw [hpb]
            have hpl := hP.lt
            have hxl6 := hX6.lt
            have hnp : ¬ SB w6 rb pb := fun e => HNP.out w6 (by rw [← hw6]; exact Fr.alloc _ _ _) (by rw [hpb]; exact e)
            obtain ⟨v, HN0⟩ := two_keep hT6 h4 g1 g3 g4 HOK.out pb X hp0 hx4 hg4
            have HN := Lib.hid HN0
            have HNS6 := Lib.hid hns6
            have HNP6 := Lib.hid hnp
            clear hw6 hT6 hX6 hns6 hP HN0 hpb hfP hnp
            go_wp2_with fail
            refine HN.out.mono ?_
            rintro e w7 ⟨rfl, hf7, HR0⟩
            have HR := Lib.hid HR0
            have i1 := (World.cell?_of_block (hf7.block X hxl6 (by omega))).trans hx1
            have i4 := (World.cell?_of_block (hf7.block X hxl6 (by omega))).trans hx4
            have i0 := (World.cell?_of_block (hf7.block pb hpl (by omega))).trans hp0
            have hs7 := hf7.size
            clear HR0 hf7 HN
            go_wp2_with fail
            refine HR.out.mono ?_
            rintro e w8 ⟨rfl, hf8, hT8⟩
            have HT8 := Lib.hid hT8
            have j1 := (World.cell?_of_block (hf8.block X (by omega) HNS6.out)).trans i1
            have pv : (v != v) = false := by simp
            clear hT8 hf8 HR
            go_wp2
            go_meet
            exact ⟨HT8.out, j1⟩
        have q3 : (g0 == 3) = false := by simp [k3]
        by_cases k4 : g0 = 4
        · have q4 : (g0 == 4) = true := by simp [k4]
          clear k1 k2 k3 k4
          obtain ⟨R, hR, hRl, HN0⟩ := two_clear HW5.out h4 g1 HOK.out
          have HN := Lib.hid HN0
          have HL := Lib.hid (rlen_any hR (by omega) g1)
          clear HN0 hR
          go_wp2_with fail
          refine HL.out.mono ?_
          rintro e w6 ⟨rfl, rfl⟩
          go_wp2_with fail
          refine HN.out.mono ?_
          rintro e w6 ⟨rfl, hf6, hH, hes⟩
          have e5 := (World.cell?_of_block (hf6.block X hXlt (by omega))).trans e1
          have hxl6 := hf6.size
          have hns6 : ¬ SB w6 rb X := by rw [hes]; exact HNS.out
          have HN6 := Lib.hid hns6
          have HH := Lib.hid hH
          have pv : (((At R g1).length : Int) != ((At R g1).length : Int)) = false := by simp
          obtain ⟨n, hn⟩ : ∃ n, (At R g1).length = n := ⟨_, rfl⟩
          rw [hn] at pv ⊢
          clear hf6 hH HN HL hn hns6 hes
          go_wp2
          go_loopw [136] (fun _ wz => ∃ R', Half W wz sb mb rb B0 most i g1 R' ∧ wz.cell? ⟨X, 1, none⟩ = some (.int .i64 g1) ∧ ¬ SB wz rb X) (fun _ wz => lenB wz rb)
          case atStart => exact ⟨R, HH.out, e5, HN6.out⟩
          case round =>
            obtain ⟨R', hH, hx1, hns⟩ := hrel
            have hxl := lt_of_cell hx1
            have hRl' := hH.len
            have HL := Lib.hid (rlen_any hH.rc (by omega) g1)
            have HH2 := Lib.hid hH
            have HNS2 := Lib.hid hns
            by_cases h0 : At R' g1 = []
            · have hl0 : ((At R' g1).length : Int) = 0 := by rw [h0]; rfl
              have hT2 := Lib.hid (hH.two h0)
              rw [hl0] at HL
              clear hH hns h0 hl0
              go_wp2_with fail
              refine HL.out.mono ?_
              rintro e w8 ⟨rfl, rfl⟩
              go_wp2
              go_meet
              exact ⟨hT2.out, hx1⟩
            · have hl0 : 0 < ((At R' g1).length : Int) := by
                have := List.length_pos_iff.2 h0
                omega
              obtain ⟨q, hq⟩ : ∃ q, ((At R' g1).length : Int) = q := ⟨_, rfl⟩
              rw [hq] at hl0 HL
              have pq : decide (0 < q) = true := decide_eq_true hl0
              have HP := Lib.hid (half_pop hH h4 h0)
              have HLB := Lib.hid hH.rc.lenB
              clear hH hns h0 hq
              go_wp2_with fail
              refine HL.out.mono ?_
              rintro e w8 ⟨rfl, rfl⟩
              go_wp2_with fail
              refine HP.out.mono ?_
              rintro e w8 ⟨v, R2, rfl, hf8, hH8, hlt8, hs8⟩
              have hx8 := (World.cell?_of_block (hf8.block X hxl HNS2.out)).trans hx1
              have HH8 := Lib.hid hH8
              have HS8 := Lib.hid hs8
              clear hf8 hH8 hs8
              go_wp2
              go_roundw
              case rel => exact ⟨R2, HH8.out, hx8, fun e => by rcases HS8.out X e with e | e; exact HNS2.out e; omega⟩
              case measure => rw [HLB.out, HH8.out.rc.lenB]; exact hlt8
        have q4 : (g0 == 4) = false := by simp [k4]
        clear k1 k2 k3 k4
        go_wp2
        go_meet
        exact ⟨HW5.out.next, e1⟩
      case rest =>
        obtain ⟨hT', hX'⟩ := hcut
        have HN := Lib.hid (two_looks hT' (by omega) g1 HOK.out)
        clear hT' HW5 e0 e1 e2 e3 e4 HB HNS
        go_wp2_with fail
        refine HN.out.mono ?_
        rintro e w6 ⟨rfl, hT6⟩
        have HT6 := Lib.hid hT6
        clear hT6 HN hX'
        go_wp2
        go_roundw
        case rel => exact ⟨i + 1, by omega, by go_num, HT6.out⟩
        case measure => simp [intOf]; omega
    · obtain rfl : i = len := by omega
      have p0 : decide ((i : Int) < i) = false := decide_eq_false (by omega)
      have hbe := hT.b
      clear hT
      go_wp2
      go_ret
      exact ⟨rfl, hbe⟩
theorem plays_row (W : World) (most : Int) (_ : (Lit.int .i64 most).wf = true) (a : Option Addr) (len cap : Nat) (h : ∃ f : Nat → Nat → Int, len ≤ 9223372036854775807 ∧ Rows5 W a len f ∧ ∀ i, i < len → ∀ k, k < 5 → (Lit.int .i64 (f k i)).wf = true) :
    Calls Try.prog 5 #[.int .i64 most, .slice a len cap] W fun e W' => e = .returned (.bool true) ∧ Below W.heap.size W W' := by
  obtain ⟨f, hl, hr, hw⟩ := h
  exact plays_law most W a len cap f hl hr (fun i hi => hw i hi 1 (by decide))
end Go.Proofs.Ytklfppjejndclaa.P2
