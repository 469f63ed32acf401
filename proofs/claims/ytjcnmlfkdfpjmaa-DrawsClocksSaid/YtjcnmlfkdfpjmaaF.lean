/- The walk of DrawsClocks. -/
import Derived.Test.YtjcnmlfkdfpjmaaW
import Derived.Deep.RegionHeld3
import Derived.Deep.MidRow
import Derived.Deep.Cut
import Derived.Deep.CutBlock
import Derived.Deep.DeepCutAuto
set_option linter.unusedVariables false
set_option linter.unusedSimpArgs false
namespace Go.Proofs.Ytjcnmlfkdfpjmaa
open Go.RowKit Go.Maps
set_option maxRecDepth 100000 in
set_option maxHeartbeats 4000000 in
theorem clocks_law (W : World) (a : Option Addr) (len cap : Nat) (f0 f1 f2 : Nat → Int) (hl : len ≤ 9223372036854775807) (hrow : Rows3 W a len f0 f1 f2) (hwf : ∀ i, i < len → iKE.ok (f1 i)) :
    Calls Try.prog 7 #[.slice a len cap] W fun e W' => e = .returned (.bool true) ∧ Below W.heap.size W W' := by
  go_enter Try.func7, Try.ntmps7
  go_wp2_with fail
  refine (known_any _).mono ?_
  rintro e w1 ⟨rfl, b1⟩
  by_cases h1 : 400 < len
  · have p1 : decide (400 < (len : Int)) = true := decide_eq_true (by omega)
    go_wp2
    go_ret
    exact ⟨rfl, b1⟩
  have p1 : decide (400 < (len : Int)) = false := decide_eq_false (by omega)
  go_wp2_with fail
  refine (newClock_any _).mono ?_
  rintro e w2 ⟨rfl, s2, f2'⟩
  have hs1 := b1.size
  have b2 := b1.trans (f2'.below b1.size (fun k e => e.elim))
  have hA2 := s2.lt
  have hfa : Fr (fun _ => False) w2 (w2.alloc (.cells #[.int .i64 0, .slice none 0 0] 54)) := Fr.alloc _ _ _
  have b3 : Below W.heap.size W (w2.alloc (.cells #[.int .i64 0, .slice none 0 0] 54)) := b2.alloc b2.size _
  have hT3 : Two W (w2.alloc (.cells #[.int .i64 0, .slice none 0 0] 54)) (w1.heap.size + 1) w1.heap.size w2.heap.size 0 0 :=
    ⟨⟨_, [], s2.kept hfa, ⟨⟨_, Blk.new _ _ _, World.ownsRow_nil _ _ _ _⟩, by omega, by simp⟩, Rel.nil, Nat.le_refl _⟩, by omega, b3, by omega, by omega, by omega, by omega⟩
  have HROW := Lib.hid hrow
  have HWF := Lib.hid hwf
  have HT := Lib.hid hT3
  clear f2' b1 s2 b2 hrow hwf b3 hfa hT3
  go_wp2
  obtain ⟨rb, hR⟩ : ∃ R, w2.heap.size = R := ⟨_, rfl⟩
  obtain ⟨cb, hC⟩ : ∃ R, w1.heap.size + 1 = R := ⟨_, rfl⟩
  rw [hR, hC] at HT
  rw [hR] at hA2
  rw [hC] at hA2
  rw [hR, hC]
  obtain ⟨mb, hM⟩ : ∃ R, w1.heap.size = R := ⟨_, rfl⟩
  rw [hM] at HT hA2 hs1
  clear hR hC hM
  go_loopw [5] (fun kv wr => ∃ (i : Nat) (T : Int), i ≤ len ∧ kv = .int .i64 i ∧ Two W wr cb mb rb i T) (fun kv _ => len - (intOf kv).toNat)
  case atStart => exact ⟨0, 0, by omega, rfl, HT.out⟩
  case round =>
    obtain ⟨i, T, hi, rfl, hT⟩ := hrel
    clear HT
    by_cases hlt : i < len
    · have p0 : decide ((i : Int) < len) = true := decide_eq_true (by omega)
      rcases HROW.out with h0 | ⟨b, o, rfl, hbl, hcc⟩
      · omega
      obtain ⟨c0, c1, c2⟩ := hcc i hlt
      have hok := HWF.out i hlt
      have hb := hT.b
      obtain ⟨g0, hg0⟩ : ∃ z, f0 i = z := ⟨_, rfl⟩
      obtain ⟨g1, hg1⟩ : ∃ z, f1 i = z := ⟨_, rfl⟩
      obtain ⟨g2, hg2⟩ : ∃ z, f2 i = z := ⟨_, rfl⟩
      rw [hg0] at c0
      rw [hg1] at c1 hok
      rw [hg2] at c2
      have d0 := (hb.cell (p := ⟨b, o + i * 3, none⟩) hbl).trans c0
      have d1 := (hb.cell (p := ⟨b, o + i * 3 + 1, none⟩) hbl).trans c1
      have d2 := (hb.cell (p := ⟨b, o + i * 3 + 2, none⟩) hbl).trans c2
      have i1 : (i : Int) < (len : Int) := by omega
      have h4 : i ≤ 400 := by omega
      have hrl := hT.lt
      have HW := Lib.hid hT
      have HOK := Lib.hid hok
      clear hcc c0 c1 c2 hg0 hg1 hg2 hT hok hb
      go_upto_block 2 with (fail)
      have hXb : wr.heap.size < (wr.alloc (.cells #[.int .i64 g0, .int .i64 g1, .int .i64 g2] 56)).heap.size := by simp
      have hX : ∀ k (u : Value), #[Value.int .i64 g0, .int .i64 g1, .int .i64 g2][k]? = some u → (wr.alloc (.cells #[.int .i64 g0, .int .i64 g1, .int .i64 g2] 56)).cell? ⟨wr.heap.size, k, none⟩ = some u := fun k u hk => by
        rw [World.cell?_alloc_mark]; exact hk
      have HW5 := Lib.hid (HW.out.fr0 (Fr.alloc (fun _ => False) wr (.cells #[.int .i64 g0, .int .i64 g1, .int .i64 g2] 56)))
      have e0 := hX 0 _ rfl
      have e1 := hX 1 _ rfl
      have e2 := hX 2 _ rfl
      obtain ⟨w5, hw5⟩ : ∃ w, wr.alloc (.cells #[.int .i64 g0, .int .i64 g1, .int .i64 g2] 56) = w := ⟨_, rfl⟩
      rw [hw5] at e0 e1 e2 HW5 hXb
      rw [hw5]
      obtain ⟨X, hXX⟩ : ∃ w, wr.heap.size = w := ⟨_, rfl⟩
      rw [hXX] at e0 e1 e2 hXb hrl
      rw [hXX]
      have hd5 := HW5.out.d
      have hkeep : ∀ w3 : World, Fr (fun k => k = cb ∨ k = mb) w5.drew w3 → w3.cell? ⟨X, 1, none⟩ = some (.int .i64 g1) ∧ w3.cell? ⟨X, 2, none⟩ = some (.int .i64 g2) := fun w3 hf => by
        have := hf.block X hXb (fun e => by omega)
        exact ⟨(World.cell?_of_block this).trans e1, (World.cell?_of_block this).trans e2⟩
      have hkeep2 : ∀ w3 w4 : World, Fr (fun k => k = cb ∨ k = mb) w5.drew w3 → Fr (fun k => k = rb) w3 w4 → w4.cell? ⟨X, 1, none⟩ = some (.int .i64 g1) ∧ w4.cell? ⟨X, 2, none⟩ = some (.int .i64 g2) := fun w3 w4 hf hf2 => by
        have h1 := hkeep w3 hf
        have := hf2.block X (lt_of_cell h1.1) (fun e => by omega)
        exact ⟨(World.cell?_of_block this).trans h1.1, (World.cell?_of_block this).trans h1.2⟩
      have HD5 : Hid (Two W w5.drew cb mb rb i T) := Lib.hid (HW5.out.fr0 (Fr.drewN _ w5 1))
      have HK1 := Lib.hid hkeep
      have HK2 := Lib.hid hkeep2
      clear hw5 hXX hX hkeep hkeep2 d0 d1 d2 HW
      go_cut [36] (fun _ wx => ∃ T', Two W wx cb mb rb (i + 1) T')
      case first =>
        by_cases k1 : g0 = 1
        · have q1 : (g0 == 1) = true := by simp [k1]
          have HN := Lib.hid (two_tick HD5.out h4 g2)
          obtain ⟨v, hv⟩ : ∃ v, tickF T g2 = v := ⟨_, rfl⟩
          rw [hv] at HN
          clear k1
          go_upto_region 15 with (fail)
          refine wp_region_held_drew (S := fun (w' : World) => w'.cell? ⟨X, 2, none⟩ = some (.int .i64 g2)) (by kernel_rfl) e2 (fun hHeld => ?_)
          refine wpAnyH_take (i := 0) (oi := _) (v := ?va0) rfl (by kernel_rfl) (by kernel_rfl) (by kernel_rfl) (fun _ _ _ h => h) (Or.inl ⟨by rfl, ?ya0⟩) (by assumption) ?ra0
          case ya0 => intro w1 hSw; go_simp; try with_reducible rfl
          try simp only [List.getElem_toArray, List.getElem_cons_zero, List.getElem_cons_succ, Act.put, List.setIfInBounds_toArray, List.set_cons_zero, List.set_cons_succ]
          refine wpAnyH_take (i := 1) (oi := _) (v := ?va1) rfl (by kernel_rfl) (by kernel_rfl) (by kernel_rfl) (fun _ _ _ h => h) (Or.inl ⟨by rfl, ?ya1⟩) (by assumption) ?ra1
          case ya1 => intro w1 hSw; go_simp; try with_reducible rfl
          try simp only [List.getElem_toArray, List.getElem_cons_zero, List.getElem_cons_succ, Act.put, List.setIfInBounds_toArray, List.set_cons_zero, List.set_cons_succ]
          refine wpAnyH_take (i := 2) (oi := _) (v := ?va2) rfl (by kernel_rfl) (by kernel_rfl) (by kernel_rfl) (fun _ _ _ h => h) (Or.inl ⟨by rfl, ?ya2⟩) (by assumption) ?ra2
          case ya2 => intro w1 hSw; go_simp; try with_reducible rfl
          try simp only [List.getElem_toArray, List.getElem_cons_zero, List.getElem_cons_succ, Act.put, List.setIfInBounds_toArray, List.set_cons_zero, List.set_cons_succ]
          refine wpAnyH_take (i := 4) (oi := _) (v := ?va4) rfl (by kernel_rfl) (by kernel_rfl) (by kernel_rfl) (fun _ _ _ h => h) (Or.inl ⟨by rfl, ?ya4⟩) (by assumption) ?ra4
          case ya4 => intro w1 hSw; go_simp; try with_reducible rfl
          try simp only [List.getElem_toArray, List.getElem_cons_zero, List.getElem_cons_succ, Act.put, List.setIfInBounds_toArray, List.set_cons_zero, List.set_cons_succ]
          refine wpAnyH_take (i := 5) (oi := _) (v := ?va5) rfl (by kernel_rfl) (by kernel_rfl) (by kernel_rfl) (fun _ _ _ h => h) (Or.inl ⟨by rfl, ?ya5⟩) (by assumption) ?ra5
          case ya5 => intro w1 hSw; go_simp; try with_reducible rfl
          try simp only [List.getElem_toArray, List.getElem_cons_zero, List.getElem_cons_succ, Act.put, List.setIfInBounds_toArray, List.set_cons_zero, List.set_cons_succ]
          refine wpAnyH_take (i := 6) (oi := _) (v := ?va6) rfl (by kernel_rfl) (by kernel_rfl) (by kernel_rfl) (fun _ _ _ h => h) (Or.inl ⟨by rfl, ?ya6⟩) (by assumption) ?ra6
          case ya6 => intro w1 hSw; go_simp; try with_reducible rfl
          try simp only [List.getElem_toArray, List.getElem_cons_zero, List.getElem_cons_succ, Act.put, List.setIfInBounds_toArray, List.set_cons_zero, List.set_cons_succ]
          refine wpAnyH_ready (rs := [3]) (by kernel_rfl) (by simp) ?_
          refine AllReadyH.cons (o := _) rfl (fun K hK => ?_) AllReadyH.nil
          rw [if_pos (by rfl)]
          try simp only [List.getElem_toArray, List.getElem_cons_zero, List.getElem_cons_succ]
          go_simp
          refine HN.out.mono ?_
          rintro e w3 ⟨rfl, hf3, HR0⟩
          have HR := Lib.hid HR0
          clear HR0
          refine hK.out _ _ (HK1.out w3 hf3).2 (fun hHeld2 => ?_)
          clear hK K
          try simp only [List.getElem_toArray, List.getElem_cons_zero, List.getElem_cons_succ, Act.put, List.setIfInBounds_toArray, List.set_cons_zero, List.set_cons_succ]
          refine wpAnyH_ready (rs := [7]) (by kernel_rfl) (by simp) ?_
          refine AllReadyH.cons (o := _) rfl (fun K hK => ?_) AllReadyH.nil
          rw [if_pos (by rfl)]
          try simp only [List.getElem_toArray, List.getElem_cons_zero, List.getElem_cons_succ]
          go_simp
          refine HR.out.mono ?_
          rintro e w4 ⟨rfl, hf4, T', hT4⟩
          refine hK.out _ _ (HK2.out w3 w4 hf3 hf4).2 (fun hHeld3 => ?_)
          clear hK K
          try simp only [List.getElem_toArray, List.getElem_cons_zero, List.getElem_cons_succ, Act.put, List.setIfInBounds_toArray, List.set_cons_zero, List.set_cons_succ]
          have pv : (v != v) = false := by simp
          refine wpAnyH_take (i := 8) (oi := _) (v := ?va8) rfl (by kernel_rfl) (by kernel_rfl) (by kernel_rfl) (fun _ _ _ h => h) (Or.inl ⟨by rfl, ?ya8⟩) (by assumption) ?ra8
          case ya8 => intro w1 hSw; go_simp; try with_reducible rfl
          try simp only [List.getElem_toArray, List.getElem_cons_zero, List.getElem_cons_succ, Act.put, List.setIfInBounds_toArray, List.set_cons_zero, List.set_cons_succ]
          refine wpAnyH_done (by kernel_rfl) ?_ _
          have HT4 := Lib.hid hT4
          clear hT4 hf4 hf3 HN HR hHeld hHeld2 hHeld3
          go_wp2
          go_meet
          exact ⟨T', HT4.out⟩
        have q1 : (g0 == 1) = false := by simp [k1]
        by_cases k2 : g0 = 2
        · have q2 : (g0 == 2) = true := by simp [k2]
          have HN := Lib.hid (two_set HD5.out h4 g1 g2 HOK.out)
          obtain ⟨v, hv⟩ : ∃ v, setB T g2 = v := ⟨_, rfl⟩
          rw [hv] at HN
          clear k1 k2
          go_upto_region 18 with (fail)
          refine wp_region_held_drew (S := fun (w' : World) => w'.cell? ⟨X, 1, none⟩ = some (.int .i64 g1) ∧ w'.cell? ⟨X, 2, none⟩ = some (.int .i64 g2)) (by kernel_rfl) ⟨e1, e2⟩ (fun hHeld => ?_)
          refine wpAnyH_take (i := 0) (oi := _) (v := ?vb0) rfl (by kernel_rfl) (by kernel_rfl) (by kernel_rfl) (fun _ _ _ h => h) (Or.inl ⟨by rfl, ?yb0⟩) (by assumption) ?rb0
          case yb0 => intro w1 hSw; obtain ⟨s1, s2⟩ := hSw; go_simp; try with_reducible rfl
          try simp only [List.getElem_toArray, List.getElem_cons_zero, List.getElem_cons_succ, Act.put, List.setIfInBounds_toArray, List.set_cons_zero, List.set_cons_succ]
          refine wpAnyH_take (i := 1) (oi := _) (v := ?vb1) rfl (by kernel_rfl) (by kernel_rfl) (by kernel_rfl) (fun _ _ _ h => h) (Or.inl ⟨by rfl, ?yb1⟩) (by assumption) ?rb1
          case yb1 => intro w1 hSw; obtain ⟨s1, s2⟩ := hSw; go_simp; try with_reducible rfl
          try simp only [List.getElem_toArray, List.getElem_cons_zero, List.getElem_cons_succ, Act.put, List.setIfInBounds_toArray, List.set_cons_zero, List.set_cons_succ]
          refine wpAnyH_take (i := 2) (oi := _) (v := ?vb2) rfl (by kernel_rfl) (by kernel_rfl) (by kernel_rfl) (fun _ _ _ h => h) (Or.inl ⟨by rfl, ?yb2⟩) (by assumption) ?rb2
          case yb2 => intro w1 hSw; obtain ⟨s1, s2⟩ := hSw; go_simp; try with_reducible rfl
          try simp only [List.getElem_toArray, List.getElem_cons_zero, List.getElem_cons_succ, Act.put, List.setIfInBounds_toArray, List.set_cons_zero, List.set_cons_succ]
          refine wpAnyH_take (i := 3) (oi := _) (v := ?vb3) rfl (by kernel_rfl) (by kernel_rfl) (by kernel_rfl) (fun _ _ _ h => h) (Or.inl ⟨by rfl, ?yb3⟩) (by assumption) ?rb3
          case yb3 => intro w1 hSw; obtain ⟨s1, s2⟩ := hSw; go_simp; try with_reducible rfl
          try simp only [List.getElem_toArray, List.getElem_cons_zero, List.getElem_cons_succ, Act.put, List.setIfInBounds_toArray, List.set_cons_zero, List.set_cons_succ]
          refine wpAnyH_take (i := 4) (oi := _) (v := ?vb4) rfl (by kernel_rfl) (by kernel_rfl) (by kernel_rfl) (fun _ _ _ h => h) (Or.inl ⟨by rfl, ?yb4⟩) (by assumption) ?rb4
          case yb4 => intro w1 hSw; obtain ⟨s1, s2⟩ := hSw; go_simp; try with_reducible rfl
          try simp only [List.getElem_toArray, List.getElem_cons_zero, List.getElem_cons_succ, Act.put, List.setIfInBounds_toArray, List.set_cons_zero, List.set_cons_succ]
          refine wpAnyH_take (i := 6) (oi := _) (v := ?vb6) rfl (by kernel_rfl) (by kernel_rfl) (by kernel_rfl) (fun _ _ _ h => h) (Or.inl ⟨by rfl, ?yb6⟩) (by assumption) ?rb6
          case yb6 => intro w1 hSw; obtain ⟨s1, s2⟩ := hSw; go_simp; try with_reducible rfl
          try simp only [List.getElem_toArray, List.getElem_cons_zero, List.getElem_cons_succ, Act.put, List.setIfInBounds_toArray, List.set_cons_zero, List.set_cons_succ]
          refine wpAnyH_take (i := 7) (oi := _) (v := ?vb7) rfl (by kernel_rfl) (by kernel_rfl) (by kernel_rfl) (fun _ _ _ h => h) (Or.inl ⟨by rfl, ?yb7⟩) (by assumption) ?rb7
          case yb7 => intro w1 hSw; obtain ⟨s1, s2⟩ := hSw; go_simp; try with_reducible rfl
          try simp only [List.getElem_toArray, List.getElem_cons_zero, List.getElem_cons_succ, Act.put, List.setIfInBounds_toArray, List.set_cons_zero, List.set_cons_succ]
          refine wpAnyH_take (i := 8) (oi := _) (v := ?vb8) rfl (by kernel_rfl) (by kernel_rfl) (by kernel_rfl) (fun _ _ _ h => h) (Or.inl ⟨by rfl, ?yb8⟩) (by assumption) ?rb8
          case yb8 => intro w1 hSw; obtain ⟨s1, s2⟩ := hSw; go_simp; try with_reducible rfl
          try simp only [List.getElem_toArray, List.getElem_cons_zero, List.getElem_cons_succ, Act.put, List.setIfInBounds_toArray, List.set_cons_zero, List.set_cons_succ]
          refine wpAnyH_take (i := 9) (oi := _) (v := ?vb9) rfl (by kernel_rfl) (by kernel_rfl) (by kernel_rfl) (fun _ _ _ h => h) (Or.inl ⟨by rfl, ?yb9⟩) (by assumption) ?rb9
          case yb9 => intro w1 hSw; obtain ⟨s1, s2⟩ := hSw; go_simp; try with_reducible rfl
          try simp only [List.getElem_toArray, List.getElem_cons_zero, List.getElem_cons_succ, Act.put, List.setIfInBounds_toArray, List.set_cons_zero, List.set_cons_succ]
          refine wpAnyH_take (i := 10) (oi := _) (v := ?vb10) rfl (by kernel_rfl) (by kernel_rfl) (by kernel_rfl) (fun _ _ _ h => h) (Or.inl ⟨by rfl, ?yb10⟩) (by assumption) ?rb10
          case yb10 => intro w1 hSw; obtain ⟨s1, s2⟩ := hSw; go_simp; try with_reducible rfl
          try simp only [List.getElem_toArray, List.getElem_cons_zero, List.getElem_cons_succ, Act.put, List.setIfInBounds_toArray, List.set_cons_zero, List.set_cons_succ]
          refine wpAnyH_ready (rs := [5]) (by kernel_rfl) (by simp) ?_
          refine AllReadyH.cons (o := _) rfl (fun K hK => ?_) AllReadyH.nil
          rw [if_pos (by rfl)]
          try simp only [List.getElem_toArray, List.getElem_cons_zero, List.getElem_cons_succ]
          go_simp
          refine HN.out.mono ?_
          rintro e w3 ⟨rfl, hf3, HR0⟩
          have HR := Lib.hid HR0
          clear HR0
          refine hK.out _ _ (HK1.out w3 hf3) (fun hHeld2 => ?_)
          clear hK K
          try simp only [List.getElem_toArray, List.getElem_cons_zero, List.getElem_cons_succ, Act.put, List.setIfInBounds_toArray, List.set_cons_zero, List.set_cons_succ]
          refine wpAnyH_ready (rs := [11]) (by kernel_rfl) (by simp) ?_
          refine AllReadyH.cons (o := _) rfl (fun K hK => ?_) AllReadyH.nil
          rw [if_pos (by rfl)]
          try simp only [List.getElem_toArray, List.getElem_cons_zero, List.getElem_cons_succ]
          go_simp
          refine HR.out.mono ?_
          rintro e w4 ⟨rfl, hf4, T', hT4⟩
          refine hK.out _ _ (HK2.out w3 w4 hf3 hf4) (fun hHeld3 => ?_)
          clear hK K
          try simp only [List.getElem_toArray, List.getElem_cons_zero, List.getElem_cons_succ, Act.put, List.setIfInBounds_toArray, List.set_cons_zero, List.set_cons_succ]
          have pv : (v != v) = false := by simp
          refine wpAnyH_take (i := 12) (oi := _) (v := ?vb12) rfl (by kernel_rfl) (by kernel_rfl) (by kernel_rfl) (fun _ _ _ h => h) (Or.inl ⟨by rfl, ?yb12⟩) (by assumption) ?rb12
          case yb12 => intro w1 hSw; go_simp; try with_reducible rfl
          try simp only [List.getElem_toArray, List.getElem_cons_zero, List.getElem_cons_succ, Act.put, List.setIfInBounds_toArray, List.set_cons_zero, List.set_cons_succ]
          refine wpAnyH_done (by kernel_rfl) ?_ _
          have HT4 := Lib.hid hT4
          clear hT4 hf4 hf3 HN HR hHeld hHeld2 hHeld3
          go_wp2
          go_meet
          exact ⟨T', HT4.out⟩
        have q2 : (g0 == 2) = false := by simp [k2]
        by_cases k3 : g0 = 3
        · have q3 : (g0 == 3) = true := by simp [k3]
          obtain ⟨v, HN0⟩ := two_drop HD5.out h4 g1 HOK.out
          have HN := Lib.hid HN0
          clear k1 k2 k3 HN0
          go_upto_region 21 with (fail)
          refine wp_region_held_drew (S := fun (w' : World) => w'.cell? ⟨X, 1, none⟩ = some (.int .i64 g1)) (by kernel_rfl) e1 (fun hHeld => ?_)
          refine wpAnyH_take (i := 0) (oi := _) (v := ?vc0) rfl (by kernel_rfl) (by kernel_rfl) (by kernel_rfl) (fun _ _ _ h => h) (Or.inl ⟨by rfl, ?yc0⟩) (by assumption) ?rc0
          case yc0 => intro w1 hSw; go_simp; try with_reducible rfl
          try simp only [List.getElem_toArray, List.getElem_cons_zero, List.getElem_cons_succ, Act.put, List.setIfInBounds_toArray, List.set_cons_zero, List.set_cons_succ]
          refine wpAnyH_take (i := 1) (oi := _) (v := ?vc1) rfl (by kernel_rfl) (by kernel_rfl) (by kernel_rfl) (fun _ _ _ h => h) (Or.inl ⟨by rfl, ?yc1⟩) (by assumption) ?rc1
          case yc1 => intro w1 hSw; go_simp; try with_reducible rfl
          try simp only [List.getElem_toArray, List.getElem_cons_zero, List.getElem_cons_succ, Act.put, List.setIfInBounds_toArray, List.set_cons_zero, List.set_cons_succ]
          refine wpAnyH_take (i := 2) (oi := _) (v := ?vc2) rfl (by kernel_rfl) (by kernel_rfl) (by kernel_rfl) (fun _ _ _ h => h) (Or.inl ⟨by rfl, ?yc2⟩) (by assumption) ?rc2
          case yc2 => intro w1 hSw; go_simp; try with_reducible rfl
          try simp only [List.getElem_toArray, List.getElem_cons_zero, List.getElem_cons_succ, Act.put, List.setIfInBounds_toArray, List.set_cons_zero, List.set_cons_succ]
          refine wpAnyH_take (i := 4) (oi := _) (v := ?vc4) rfl (by kernel_rfl) (by kernel_rfl) (by kernel_rfl) (fun _ _ _ h => h) (Or.inl ⟨by rfl, ?yc4⟩) (by assumption) ?rc4
          case yc4 => intro w1 hSw; go_simp; try with_reducible rfl
          try simp only [List.getElem_toArray, List.getElem_cons_zero, List.getElem_cons_succ, Act.put, List.setIfInBounds_toArray, List.set_cons_zero, List.set_cons_succ]
          refine wpAnyH_take (i := 5) (oi := _) (v := ?vc5) rfl (by kernel_rfl) (by kernel_rfl) (by kernel_rfl) (fun _ _ _ h => h) (Or.inl ⟨by rfl, ?yc5⟩) (by assumption) ?rc5
          case yc5 => intro w1 hSw; go_simp; try with_reducible rfl
          try simp only [List.getElem_toArray, List.getElem_cons_zero, List.getElem_cons_succ, Act.put, List.setIfInBounds_toArray, List.set_cons_zero, List.set_cons_succ]
          refine wpAnyH_take (i := 6) (oi := _) (v := ?vc6) rfl (by kernel_rfl) (by kernel_rfl) (by kernel_rfl) (fun _ _ _ h => h) (Or.inl ⟨by rfl, ?yc6⟩) (by assumption) ?rc6
          case yc6 => intro w1 hSw; go_simp; try with_reducible rfl
          try simp only [List.getElem_toArray, List.getElem_cons_zero, List.getElem_cons_succ, Act.put, List.setIfInBounds_toArray, List.set_cons_zero, List.set_cons_succ]
          refine wpAnyH_ready (rs := [3]) (by kernel_rfl) (by simp) ?_
          refine AllReadyH.cons (o := _) rfl (fun K hK => ?_) AllReadyH.nil
          rw [if_pos (by rfl)]
          try simp only [List.getElem_toArray, List.getElem_cons_zero, List.getElem_cons_succ]
          go_simp
          refine HN.out.mono ?_
          rintro e w3 ⟨rfl, hf3, HR0⟩
          have HR := Lib.hid HR0
          clear HR0
          refine hK.out _ _ (HK1.out w3 hf3).1 (fun hHeld2 => ?_)
          clear hK K
          try simp only [List.getElem_toArray, List.getElem_cons_zero, List.getElem_cons_succ, Act.put, List.setIfInBounds_toArray, List.set_cons_zero, List.set_cons_succ]
          refine wpAnyH_ready (rs := [7]) (by kernel_rfl) (by simp) ?_
          refine AllReadyH.cons (o := _) rfl (fun K hK => ?_) AllReadyH.nil
          rw [if_pos (by rfl)]
          try simp only [List.getElem_toArray, List.getElem_cons_zero, List.getElem_cons_succ]
          go_simp
          refine HR.out.mono ?_
          rintro e w4 ⟨rfl, hf4, T', hT4⟩
          refine hK.out _ _ (HK2.out w3 w4 hf3 hf4).1 (fun hHeld3 => ?_)
          clear hK K
          try simp only [List.getElem_toArray, List.getElem_cons_zero, List.getElem_cons_succ, Act.put, List.setIfInBounds_toArray, List.set_cons_zero, List.set_cons_succ]
          have pv : (v != v) = false := by simp
          refine wpAnyH_take (i := 8) (oi := _) (v := ?vc8) rfl (by kernel_rfl) (by kernel_rfl) (by kernel_rfl) (fun _ _ _ h => h) (Or.inl ⟨by rfl, ?yc8⟩) (by assumption) ?rc8
          case yc8 => intro w1 hSw; go_simp; try with_reducible rfl
          try simp only [List.getElem_toArray, List.getElem_cons_zero, List.getElem_cons_succ, Act.put, List.setIfInBounds_toArray, List.set_cons_zero, List.set_cons_succ]
          refine wpAnyH_done (by kernel_rfl) ?_ _
          have HT4 := Lib.hid hT4
          clear hT4 hf4 hf3 HN HR hHeld hHeld2 hHeld3
          go_wp2
          go_meet
          exact ⟨T', HT4.out⟩
        have q3 : (g0 == 3) = false := by simp [k3]
        by_cases k4 : g0 = 4
        · have q4 : (g0 == 4) = true := by simp [k4]
          have HN := Lib.hid (two_due HW5.out h4)
          clear k1 k2 k3 k4
          go_wp2_with fail
          refine HN.out.mono ?_
          rintro e w6 ⟨ao, cp, l, rfl, hll, hr6, hf6, HR0⟩
          have HR := Lib.hid HR0
          clear HR0 hr6 hf6
          go_wp2_with fail
          refine HR.out.mono ?_
          rintro e w7 ⟨ao2, cp2, rfl, hra, hrb, hf7, T', hT7⟩
          obtain ⟨m, hm⟩ : ∃ m, l.length = m := ⟨_, rfl⟩
          rw [hm] at hll ⊢
          have pm : ((m : Int) != m) = false := by simp
          have HM := Lib.hid hm
          have HT7 := Lib.hid hT7
          have HRA := Lib.hid hra
          have HRB := Lib.hid hrb
          clear hra hrb hT7 hf7 HN HR hm
          go_wp2
          obtain ⟨w8, rfl⟩ : ∃ w8 : World, w8 = w7 := ⟨_, rfl⟩
          go_loopw [9] (fun kv wz => ∃ j : Nat, j ≤ m ∧ kv = .int .i64 j ∧ Fr (fun _ => False) w8 wz) (fun kv _ => m - (intOf kv).toNat)
          case atStart => exact ⟨0, by omega, rfl, Fr.refl _ _⟩
          case round =>
            obtain ⟨j, hj, rfl, hfz⟩ := hrel
            by_cases hlt2 : j < m
            · have p2 : decide ((j : Int) < m) = true := decide_eq_true (by omega)
              rcases HRA.out with h0 | ⟨ga, rfl, hga, hca⟩
              · have := HM.out; omega
              rcases HRB.out with h0 | ⟨gb, rfl, hgb, hcb⟩
              · have := HM.out; omega
              obtain ⟨z, hz⟩ : ∃ z, l[j]? = some z := ⟨_, List.getElem?_eq_getElem (by rw [HM.out]; exact hlt2)⟩
              have da := (World.cell?_of_block (hfz.block ga (lt_of_cell (hca j z hz)) id)).trans (hca j z hz)
              have db := (World.cell?_of_block (hfz.block gb (lt_of_cell (hcb j z hz)) id)).trans (hcb j z hz)
              have j1 : (j : Int) < (m : Int) := by omega
              have pz : (z != z) = false := by simp
              have HFZ := Lib.hid hfz
              clear hca hcb hz hfz
              go_wp2
              go_quiet (fail)
              go_wp2
              go_roundw
              case rel => exact ⟨j + 1, by omega, by go_num, HFZ.out.trans (Fr.drewN _ _ _)⟩
              case measure => simp [intOf]; omega
            · obtain rfl : j = m := by omega
              have p2 : decide ((j : Int) < j) = false := decide_eq_false (by omega)
              have HE := Lib.hid (HT7.out.fr0 hfz)
              clear hfz
              go_wp2
              go_meet
              exact ⟨T', HE.out⟩
        · have q4 : (g0 == 4) = false := by simp [k4]
          clear k4 k3 k2 k1
          go_wp2
          go_meet
          exact ⟨T, HW5.out.next⟩
      case rest =>
        obtain ⟨T', hT'⟩ := hcut
        have HN := Lib.hid (two_next hT' (by omega))
        clear hT' HW5 HD5 e0 e1 e2 HK1 HK2
        go_wp2_with fail
        refine HN.out.mono ?_
        rintro e w6 ⟨v, q, rfl, hT6, HR0⟩
        have HR := Lib.hid HR0
        have HT6 := Lib.hid hT6
        clear HR0 hT6 HN
        go_wp2_with fail
        refine HR.out.mono ?_
        rintro e w7 ⟨rfl, rfl⟩
        obtain ⟨hnow, hc0⟩ := HT6.out.now
        have hcq : Hid (∀ n, Calls Try.prog 17 #[.pointer (some ⟨cb, 0, none⟩)] (w6.drewN n) fun e W' => e = .returned (.int .i64 T') ∧ W' = w6.drewN n) := Lib.hid fun n => (HT6.out.fr0 (Fr.drewN _ w6 n)).now.1.mono fun _ _ h => ⟨h.1, h.2.symm⟩
        have pv : (v != v) = false := by simp
        have pq : (q != q) = false := by simp
        have pt : (T' != T') = false := by simp
        clear hnow HR
        go_wp2
        go_quiet ((go_at_call 17; exact Calls.quiet_of_same (hcq.out _)))
        go_wp2
        go_roundw
        case rel => exact ⟨i + 1, T', by omega, by go_num, HT6.out.fr0 (Fr.drewN _ w6 nq)⟩
        case measure => simp [intOf]; omega
    · obtain rfl : i = len := by omega
      have p0 : decide ((i : Int) < i) = false := decide_eq_false (by omega)
      have hb := hT.b
      clear hT
      go_wp2
      go_ret
      exact ⟨rfl, hb⟩
theorem clocks_row (W : World) (a : Option Addr) (len cap : Nat) (h : ∃ f0 f1 f2 : Nat → Int, len ≤ 9223372036854775807 ∧ Rows3 W a len f0 f1 f2 ∧ ∀ i, i < len → (Lit.int .i64 (f0 i)).wf = true ∧ (Lit.int .i64 (f1 i)).wf = true ∧ (Lit.int .i64 (f2 i)).wf = true) :
    Calls Try.prog 7 #[.slice a len cap] W fun e W' => e = .returned (.bool true) ∧ Below W.heap.size W W' := by
  obtain ⟨f0, f1, f2, hl, hr, hw⟩ := h
  exact clocks_law W a len cap f0 f1 f2 hl hr (fun i hi => (hw i hi).2.1)
end Go.Proofs.Ytjcnmlfkdfpjmaa
