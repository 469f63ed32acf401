/- The walk of DrawsSource. -/
import Derived.Test.YtjcnmlfkdfpjmaaJ
import Derived.Deep.RegionHeld3
import Derived.Deep.MidRow
import Derived.Deep.Cut
import Derived.Deep.CutBlock
import Derived.Deep.DeepCutAuto
set_option linter.unusedVariables false
set_option linter.unusedSimpArgs false
namespace Go.Proofs.Ytjcnmlfkdfpjmaa
open Go.RowKit Go.Maps
/-- rows of three integers that a slice shows -/
def Rows3 (W : World) (a : Option Addr) (len : Nat) (f0 f1 f2 : Nat → Int) : Prop :=
  len = 0 ∨ ∃ b o, a = some ⟨b, o, none⟩ ∧ b < W.heap.size ∧ ∀ i, i < len → W.cell? ⟨b, o + i * 3, none⟩ = some (.int .i64 (f0 i)) ∧ W.cell? ⟨b, o + i * 3 + 1, none⟩ = some (.int .i64 (f1 i)) ∧ W.cell? ⟨b, o + i * 3 + 2, none⟩ = some (.int .i64 (f2 i))
/-- both sources stand alike -/
def Twos (W : World) (A R : Nat) (m : Int) : Prop := ∃ x c, 0 ≤ c ∧ c ≤ m ∧ Src W A x c ∧ RSrc W R x c
theorem Twos.fr {S : Nat → Prop} {W W' : World} {A R : Nat} {m : Int} (h : Twos W A R m) (hf : Fr S W W') (h1 : ¬ S A) (h2 : ¬ S R) : Twos W' A R m := by
  obtain ⟨x, c, h3, h4, h5, h6⟩ := h
  exact ⟨x, c, h3, h4, h5.fr hf h1, h6.fr hf h2⟩
theorem Twos.ne {W : World} {A R : Nat} {m : Int} (h : Twos W A R m) : A ≠ R := by
  obtain ⟨x, c, h3, h4, h5, h6⟩ := h
  rintro rfl
  have : (Obj.cells #[.int .u64 x, .int .i64 c] 61 (0, 0)) = .cells #[.int .u64 x, .int .i64 c] 42 (0, 0) := Option.some.inj (h5.symm.trans h6)
  injection this with _ h _
  exact absurd h (by decide)
theorem drewB {w W : World} (h : Below w.heap.size w W) (n : Nat) : Below w.heap.size w (W.drewN n) :=
  h.grown (row := none) ⟨rfl, rfl, rfl, Nat.le_refl _, fun _ _ _ => rfl⟩ h.size (fun j e => nomatch e)
set_option maxRecDepth 100000 in
set_option maxHeartbeats 4000000 in
theorem source_law (s : Int) (W : World) (a : Option Addr) (len cap : Nat) (f0 f1 f2 : Nat → Int) (hl : len ≤ 9223372036854775807) (hrow : Rows3 W a len f0 f1 f2) (hwf : ∀ i, i < len → f1 i ≤ 9223372036854775807) :
    Calls Try.prog 5 #[.int .u64 s, .slice a len cap] W fun e W' => e = .returned (.bool true) ∧ Below W.heap.size W W' := by
  go_enter Try.func5, Try.ntmps5
  go_wp2_with fail
  refine (known_any _).mono ?_
  rintro e w1 ⟨rfl, b1⟩
  by_cases h1 : 400 < len
  · have p1 : decide (400 < (len : Int)) = true := decide_eq_true (by omega)
    go_wp2
    go_ret
    exact ⟨rfl, b1⟩
  have p1 : decide (400 < (len : Int)) = false := decide_eq_false (by omega)
  go_wp2_with fail
  refine (new_any _ _).mono ?_
  rintro e w2 ⟨rfl, s2, f2'⟩
  have hs1 := b1.size
  have hA2 := s2.lt
  have b2 := b1.trans (f2'.below b1.size (fun k e => e.elim))
  have hT3 : Twos (w2.alloc (.cells #[.int .u64 s, .int .i64 0] 42)) w1.heap.size w2.heap.size 0 := ⟨s, 0, by omega, by omega, Blk.alloc s2 _, Blk.new _ _ _⟩
  have b3 : Below W.heap.size W (w2.alloc (.cells #[.int .u64 s, .int .i64 0] 42)) := b2.alloc b2.size _
  have hWR : W.heap.size ≤ w2.heap.size := b2.size
  have HROW := Lib.hid hrow
  have HWF := Lib.hid hwf
  clear f2' b1 s2 b2 hrow hwf hA2
  go_wp2
  obtain ⟨R, hR⟩ : ∃ R, w2.heap.size = R := ⟨_, rfl⟩
  rw [hR] at hT3 hWR ⊢
  obtain ⟨A0, hA0⟩ : ∃ A0, w1.heap.size = A0 := ⟨_, rfl⟩
  rw [hA0] at hT3 hs1 ⊢
  clear hR hA0
  go_loopw [5, 7] (fun sv kv wr => ∃ (i A : Nat), i ≤ len ∧ kv = .int .i64 i ∧ sv = .pointer (some ⟨A, 0, none⟩) ∧ W.heap.size ≤ A ∧ Twos wr A R i ∧ Below W.heap.size W wr) (fun _ kv _ => len - (intOf kv).toNat)
  case atStart => exact ⟨0, A0, by omega, rfl, rfl, hs1, hT3, b3⟩
  case round =>
    obtain ⟨i, A, hi, rfl, rfl, hWA, hT, hb⟩ := hrel
    clear hT3 b3
    by_cases hlt : i < len
    · have p0 : decide ((i : Int) < len) = true := decide_eq_true (by omega)
      rcases HROW.out with h0 | ⟨b, o, rfl, hbl, hcc⟩
      · omega
      obtain ⟨c0, c1, c2⟩ := hcc i hlt
      have hci : ∀ w', Below W.heap.size W w' → w'.cell? ⟨b, o + i * 3, none⟩ = some (.int .i64 (f0 i)) ∧ w'.cell? ⟨b, o + i * 3 + 1, none⟩ = some (.int .i64 (f1 i)) ∧ w'.cell? ⟨b, o + i * 3 + 2, none⟩ = some (.int .i64 (f2 i)) := fun w' hb' =>
        ⟨(hb'.cell (p := ⟨b, o + i * 3, none⟩) hbl).trans c0, (hb'.cell (p := ⟨b, o + i * 3 + 1, none⟩) hbl).trans c1, (hb'.cell (p := ⟨b, o + i * 3 + 2, none⟩) hbl).trans c2⟩
      have hwi := HWF.out i hlt
      obtain ⟨g0, hg0⟩ : ∃ z, f0 i = z := ⟨_, rfl⟩
      obtain ⟨g1, hg1⟩ : ∃ z, f1 i = z := ⟨_, rfl⟩
      obtain ⟨g2, hg2⟩ : ∃ z, f2 i = z := ⟨_, rfl⟩
      rw [hg0, hg1, hg2] at hci
      rw [hg1] at hwi
      have HCI := Lib.hid hci
      obtain ⟨d0, d1, d2⟩ := hci wr hb
      have i1 : (i : Int) < (len : Int) := by omega
      clear hcc c0 c1 c2 hci hg0 hg1 hg2
      go_upto_block 2 with (fail)
      go_cut [5] (fun s5 wx => ∃ A' : Nat, s5 = .pointer (some ⟨A', 0, none⟩) ∧ W.heap.size ≤ A' ∧ Twos wx A' R ((i : Int) + 1) ∧ Below W.heap.size W wx)
      case first =>
        have hAR := hT.ne
        obtain ⟨x, c, hc0, hc1, hS, hRS⟩ := hT
        by_cases k1 : g0 = 1
        · have q1 : (g0 == 1) = true := by simp [k1]
          have HN := Lib.hid (next_any wr A x c hS hc0 (by omega))
          have HRS := Lib.hid hRS
          obtain ⟨v, hv⟩ : ∃ v, nx x = v := ⟨_, rfl⟩
          rw [hv] at HN
          clear hS hRS k1
          go_wp2_with fail
          refine HN.out.mono ?_
          rintro e w3 ⟨rfl, hS3, hf3⟩
          have HR := Lib.hid (rnext_any w3 R x c (HRS.out.fr hf3 (fun e => hAR e.symm)) hc0 (by omega))
          rw [hv] at HR
          have HS3 := Lib.hid hS3
          have hb3 := hb.trans (hf3.below hb.size (fun k e => by omega))
          have pv : (v != v) = false := by simp
          clear hS3 hf3 hv HN
          go_wp2_with fail
          refine HR.out.mono ?_
          rintro e w4 ⟨rfl, hR4, hf4⟩
          have HR4 := Lib.hid hR4
          have HF4 := Lib.hid hf4
          have hb4 := hb3.trans (hf4.below hb3.size (fun k e => by omega))
          clear hR4 hf4 HR
          go_wp2
          go_meet
          exact ⟨A, rfl, hWA, ⟨_, _, by omega, by omega, HS3.out.fr HF4.out hAR, HR4.out⟩, hb4⟩
        have q1 : (g0 == 1) = false := by simp [k1]
        by_cases k2 : g0 = 2
        · have q2 : (g0 == 2) = true := by simp [k2]
          have HN := Lib.hid (below_any wr.drew A x c hS hc0 (by omega) g1 hwi)
          have HRS := Lib.hid hRS
          obtain ⟨v, hv⟩ : ∃ v, blw g1 x = v := ⟨_, rfl⟩
          rw [hv] at HN
          clear hS hRS k2
          go_upto_region 17 with (fail)
          refine wp_region_held_drew (S := fun (w' : World) => w'.cell? ⟨b, o + i * 3 + 1, none⟩ = some (.int .i64 g1)) (by kernel_rfl) d1 (fun hHeld => ?_)
          refine wpAnyH_take (i := 0) (oi := _) (v := ?v0) rfl (by kernel_rfl) (by kernel_rfl) (by kernel_rfl) (fun _ _ _ h => h) (Or.inl ⟨by rfl, ?y0⟩) (by assumption) ?r0
          case y0 => intro w1 hSw; go_simp; try with_reducible rfl
          try simp only [List.getElem_toArray, List.getElem_cons_zero, List.getElem_cons_succ, Act.put, List.setIfInBounds_toArray, List.set_cons_zero, List.set_cons_succ]
          refine wpAnyH_take (i := 1) (oi := _) (v := ?v1) rfl (by kernel_rfl) (by kernel_rfl) (by kernel_rfl) (fun _ _ _ h => h) (Or.inl ⟨by rfl, ?y1⟩) (by assumption) ?r1
          case y1 => intro w1 hSw; go_simp; try with_reducible rfl
          try simp only [List.getElem_toArray, List.getElem_cons_zero, List.getElem_cons_succ, Act.put, List.setIfInBounds_toArray, List.set_cons_zero, List.set_cons_succ]
          refine wpAnyH_take (i := 2) (oi := _) (v := ?v2) rfl (by kernel_rfl) (by kernel_rfl) (by kernel_rfl) (fun _ _ _ h => h) (Or.inl ⟨by rfl, ?y2⟩) (by assumption) ?r2
          case y2 => intro w1 hSw; go_simp; try with_reducible rfl
          try simp only [List.getElem_toArray, List.getElem_cons_zero, List.getElem_cons_succ, Act.put, List.setIfInBounds_toArray, List.set_cons_zero, List.set_cons_succ]
          refine wpAnyH_take (i := 3) (oi := _) (v := ?v3) rfl (by kernel_rfl) (by kernel_rfl) (by kernel_rfl) (fun _ _ _ h => h) (Or.inl ⟨by rfl, ?y3⟩) (by assumption) ?r3
          case y3 => intro w1 hSw; go_simp; try with_reducible rfl
          try simp only [List.getElem_toArray, List.getElem_cons_zero, List.getElem_cons_succ, Act.put, List.setIfInBounds_toArray, List.set_cons_zero, List.set_cons_succ]
          refine wpAnyH_take (i := 4) (oi := _) (v := ?v4) rfl (by kernel_rfl) (by kernel_rfl) (by kernel_rfl) (fun _ _ _ h => h) (Or.inl ⟨by rfl, ?y4⟩) (by assumption) ?r4
          case y4 => intro w1 hSw; go_simp; try with_reducible rfl
          try simp only [List.getElem_toArray, List.getElem_cons_zero, List.getElem_cons_succ, Act.put, List.setIfInBounds_toArray, List.set_cons_zero, List.set_cons_succ]
          refine wpAnyH_take (i := 5) (oi := _) (v := ?v5) rfl (by kernel_rfl) (by kernel_rfl) (by kernel_rfl) (fun _ _ _ h => h) (Or.inl ⟨by rfl, ?y5⟩) (by assumption) ?r5
          case y5 => intro w1 hSw; go_simp; try with_reducible rfl
          try simp only [List.getElem_toArray, List.getElem_cons_zero, List.getElem_cons_succ, Act.put, List.setIfInBounds_toArray, List.set_cons_zero, List.set_cons_succ]
          refine wpAnyH_take (i := 7) (oi := _) (v := ?v7) rfl (by kernel_rfl) (by kernel_rfl) (by kernel_rfl) (fun _ _ _ h => h) (Or.inl ⟨by rfl, ?y7⟩) (by assumption) ?r7
          case y7 => intro w1 hSw; go_simp; try with_reducible rfl
          try simp only [List.getElem_toArray, List.getElem_cons_zero, List.getElem_cons_succ, Act.put, List.setIfInBounds_toArray, List.set_cons_zero, List.set_cons_succ]
          refine wpAnyH_take (i := 8) (oi := _) (v := ?v8) rfl (by kernel_rfl) (by kernel_rfl) (by kernel_rfl) (fun _ _ _ h => h) (Or.inl ⟨by rfl, ?y8⟩) (by assumption) ?r8
          case y8 => intro w1 hSw; go_simp; try with_reducible rfl
          try simp only [List.getElem_toArray, List.getElem_cons_zero, List.getElem_cons_succ, Act.put, List.setIfInBounds_toArray, List.set_cons_zero, List.set_cons_succ]
          refine wpAnyH_take (i := 9) (oi := _) (v := ?v9) rfl (by kernel_rfl) (by kernel_rfl) (by kernel_rfl) (fun _ _ _ h => h) (Or.inl ⟨by rfl, ?y9⟩) (by assumption) ?r9
          case y9 => intro w1 hSw; go_simp; try with_reducible rfl
          try simp only [List.getElem_toArray, List.getElem_cons_zero, List.getElem_cons_succ, Act.put, List.setIfInBounds_toArray, List.set_cons_zero, List.set_cons_succ]
          refine wpAnyH_take (i := 10) (oi := _) (v := ?v10) rfl (by kernel_rfl) (by kernel_rfl) (by kernel_rfl) (fun _ _ _ h => h) (Or.inl ⟨by rfl, ?y10⟩) (by assumption) ?r10
          case y10 => intro w1 hSw; go_simp; try with_reducible rfl
          try simp only [List.getElem_toArray, List.getElem_cons_zero, List.getElem_cons_succ, Act.put, List.setIfInBounds_toArray, List.set_cons_zero, List.set_cons_succ]
          refine wpAnyH_take (i := 11) (oi := _) (v := ?v11) rfl (by kernel_rfl) (by kernel_rfl) (by kernel_rfl) (fun _ _ _ h => h) (Or.inl ⟨by rfl, ?y11⟩) (by assumption) ?r11
          case y11 => intro w1 hSw; go_simp; try with_reducible rfl
          try simp only [List.getElem_toArray, List.getElem_cons_zero, List.getElem_cons_succ, Act.put, List.setIfInBounds_toArray, List.set_cons_zero, List.set_cons_succ]
          refine wpAnyH_take (i := 12) (oi := _) (v := ?v12) rfl (by kernel_rfl) (by kernel_rfl) (by kernel_rfl) (fun _ _ _ h => h) (Or.inl ⟨by rfl, ?y12⟩) (by assumption) ?r12
          case y12 => intro w1 hSw; go_simp; try with_reducible rfl
          try simp only [List.getElem_toArray, List.getElem_cons_zero, List.getElem_cons_succ, Act.put, List.setIfInBounds_toArray, List.set_cons_zero, List.set_cons_succ]
          refine wpAnyH_ready (rs := [6]) (by kernel_rfl) (by simp) ?_
          refine AllReadyH.cons (o := _) rfl (fun K hK => ?_) AllReadyH.nil
          rw [if_pos (by rfl)]
          try simp only [List.getElem_toArray, List.getElem_cons_zero, List.getElem_cons_succ]
          go_simp
          refine HN.out.mono ?_
          rintro e w3 ⟨rfl, hS3, hf3⟩
          have hb3 := (drewB hb 1).trans (hf3.below (drewB hb 1).size (fun k e => by omega))
          have HR := Lib.hid (rbelow_any w3 R x c (HRS.out.fr ((Fr.drewN _ wr 1).trans hf3) (fun e => hAR e.symm)) hc0 (by omega) g1 hwi)
          rw [hv] at HR
          refine hK.out _ _ (HCI.out w3 hb3).2.1 (fun hHeld2 => ?_)
          clear hK K
          try simp only [List.getElem_toArray, List.getElem_cons_zero, List.getElem_cons_succ, Act.put, List.setIfInBounds_toArray, List.set_cons_zero, List.set_cons_succ]
          refine wpAnyH_ready (rs := [13]) (by kernel_rfl) (by simp) ?_
          refine AllReadyH.cons (o := _) rfl (fun K hK => ?_) AllReadyH.nil
          rw [if_pos (by rfl)]
          try simp only [List.getElem_toArray, List.getElem_cons_zero, List.getElem_cons_succ]
          go_simp
          refine HR.out.mono ?_
          rintro e w4 ⟨rfl, hR4, hf4⟩
          have hb4 := hb3.trans (hf4.below hb3.size (fun k e => by omega))
          refine hK.out _ _ (HCI.out w4 hb4).2.1 (fun hHeld3 => ?_)
          clear hK K
          try simp only [List.getElem_toArray, List.getElem_cons_zero, List.getElem_cons_succ, Act.put, List.setIfInBounds_toArray, List.set_cons_zero, List.set_cons_succ]
          have pv : (v != v) = false := by simp
          refine wpAnyH_take (i := 14) (oi := _) (v := ?v14) rfl (by kernel_rfl) (by kernel_rfl) (by kernel_rfl) (fun _ _ _ h => h) (Or.inl ⟨by rfl, ?y14⟩) (by assumption) ?r14
          case y14 => intro w1 hSw; go_simp; try with_reducible rfl
          try simp only [List.getElem_toArray, List.getElem_cons_zero, List.getElem_cons_succ, Act.put, List.setIfInBounds_toArray, List.set_cons_zero, List.set_cons_succ]
          refine wpAnyH_done (by kernel_rfl) ?_ _
          have HS3 := Lib.hid hS3
          have HR4 := Lib.hid hR4
          have HF4 := Lib.hid hf4
          clear hS3 hR4 hf4 hf3 hv HN HR hHeld hHeld2 hHeld3
          go_wp2
          go_meet
          have hct : 0 ≤ ctB g1 c ∧ ctB g1 c ≤ c + 1 := by unfold ctB; split <;> omega
          exact ⟨A, rfl, hWA, ⟨_, _, by omega, by omega, HS3.out.fr HF4.out hAR, HR4.out⟩, hb4⟩
        have q2 : (g0 == 2) = false := by simp [k2]
        by_cases k3 : g0 = 3
        · have q3 : (g0 == 3) = true := by simp [k3]
          have HN := Lib.hid (between_any wr.drew A x c hS hc0 (by omega) g1 g2)
          have HRS := Lib.hid hRS
          obtain ⟨v, hv⟩ : ∃ v, btw g1 g2 x = v := ⟨_, rfl⟩
          rw [hv] at HN
          clear hS hRS k3
          go_upto_region 20 with (fail)
          refine wp_region_held_drew (S := fun (w' : World) => w'.cell? ⟨b, o + i * 3 + 1, none⟩ = some (.int .i64 g1) ∧ w'.cell? ⟨b, o + i * 3 + 2, none⟩ = some (.int .i64 g2)) (by kernel_rfl) ⟨d1, d2⟩ (fun hHeld => ?_)
          refine wpAnyH_take (i := 0) (oi := _) (v := ?vb0) rfl (by kernel_rfl) (by kernel_rfl) (by kernel_rfl) (fun _ _ _ h => h) (Or.inl ⟨by rfl, ?yb0⟩) (by assumption) ?rb0
          case yb0 => intro w1 hSw; obtain ⟨s1, s2⟩ := hSw; go_simp; try with_reducible rfl
          try simp only [List.getElem_toArray, List.getElem_cons_zero, List.getElem_cons_succ, Act.put, List.setIfInBounds_toArray, List.set_cons_zero, List.set_cons_succ]
          refine wpAnyH_take (i := 1) (oi := _) (v := ?vb1) rfl (by kernel_rfl) (by kernel_rfl) (by kernel_rfl) (fun _ _ _ h => h) (Or.inl ⟨by rfl, ?yb1⟩) (by assumption) ?rb1
          case yb1 => intro w1 hSw; obtain ⟨s1, s2⟩ := hSw; go_simp; try with_reducible rfl
          try simp only [List.getElem_toArray, List.getElem_cons_zero, List.getElem_cons_succ, Act.put, List.setIfInBounds_toArray, List.set_cons_zero, List.set_cons_succ]
          refine wpAnyH_take (i := 2) (oi := _) (v := ?vb2) rfl (by kernel_rfl) (by kernel_rfl) (by kernel_rfl) (fun _ _ _ h => h) (Or.inl ⟨by rfl, ?yb2⟩) (by assumption) ?rb2
          case yb2 => intro w1 hSw; obtain ⟨s1, s2⟩ := hSw; go_simp; try with_reducible rfl
          try simp only [List.getElem_toArray, List.getElem_cons_zero, List.getElem_cons_succ, Act.put, List.setIfInBounds_toArray, List.set_cons_zero, List.set_cons_succ]
          refine wpAnyH_take (i := 3) (oi := _) (v := ?vb3) rfl (by kernel_rfl) (by kernel_rfl) (by kernel_rfl) (fun _ _ _ h => h) (Or.inl ⟨by rfl, ?yb3⟩) (by assumption) ?rb3
          case yb3 => intro w1 hSw; obtain ⟨s1, s2⟩ := hSw; go_simp; try with_reducible rfl
          try simp only [List.getElem_toArray, List.getElem_cons_zero, List.getElem_cons_succ, Act.put, List.setIfInBounds_toArray, List.set_cons_zero, List.set_cons_succ]
          refine wpAnyH_take (i := 4) (oi := _) (v := ?vb4) rfl (by kernel_rfl) (by kernel_rfl) (by kernel_rfl) (fun _ _ _ h => h) (Or.inl ⟨by rfl, ?yb4⟩) (by assumption) ?rb4
          case yb4 => intro w1 hSw; obtain ⟨s1, s2⟩ := hSw; go_simp; try with_reducible rfl
          try simp only [List.getElem_toArray, List.getElem_cons_zero, List.getElem_cons_succ, Act.put, List.setIfInBounds_toArray, List.set_cons_zero, List.set_cons_succ]
          refine wpAnyH_take (i := 5) (oi := _) (v := ?vb5) rfl (by kernel_rfl) (by kernel_rfl) (by kernel_rfl) (fun _ _ _ h => h) (Or.inl ⟨by rfl, ?yb5⟩) (by assumption) ?rb5
          case yb5 => intro w1 hSw; obtain ⟨s1, s2⟩ := hSw; go_simp; try with_reducible rfl
          try simp only [List.getElem_toArray, List.getElem_cons_zero, List.getElem_cons_succ, Act.put, List.setIfInBounds_toArray, List.set_cons_zero, List.set_cons_succ]
          refine wpAnyH_take (i := 6) (oi := _) (v := ?vb6) rfl (by kernel_rfl) (by kernel_rfl) (by kernel_rfl) (fun _ _ _ h => h) (Or.inl ⟨by rfl, ?yb6⟩) (by assumption) ?rb6
          case yb6 => intro w1 hSw; obtain ⟨s1, s2⟩ := hSw; go_simp; try with_reducible rfl
          try simp only [List.getElem_toArray, List.getElem_cons_zero, List.getElem_cons_succ, Act.put, List.setIfInBounds_toArray, List.set_cons_zero, List.set_cons_succ]
          refine wpAnyH_take (i := 7) (oi := _) (v := ?vb7) rfl (by kernel_rfl) (by kernel_rfl) (by kernel_rfl) (fun _ _ _ h => h) (Or.inl ⟨by rfl, ?yb7⟩) (by assumption) ?rb7
          case yb7 => intro w1 hSw; obtain ⟨s1, s2⟩ := hSw; go_simp; try with_reducible rfl
          try simp only [List.getElem_toArray, List.getElem_cons_zero, List.getElem_cons_succ, Act.put, List.setIfInBounds_toArray, List.set_cons_zero, List.set_cons_succ]
          refine wpAnyH_take (i := 8) (oi := _) (v := ?vb8) rfl (by kernel_rfl) (by kernel_rfl) (by kernel_rfl) (fun _ _ _ h => h) (Or.inl ⟨by rfl, ?yb8⟩) (by assumption) ?rb8
          case yb8 => intro w1 hSw; obtain ⟨s1, s2⟩ := hSw; go_simp; try with_reducible rfl
          try simp only [List.getElem_toArray, List.getElem_cons_zero, List.getElem_cons_succ, Act.put, List.setIfInBounds_toArray, List.set_cons_zero, List.set_cons_succ]
          refine wpAnyH_take (i := 9) (oi := _) (v := ?vb9) rfl (by kernel_rfl) (by kernel_rfl) (by kernel_rfl) (fun _ _ _ h => h) (Or.inl ⟨by rfl, ?yb9⟩) (by assumption) ?rb9
          case yb9 => intro w1 hSw; obtain ⟨s1, s2⟩ := hSw; go_simp; try with_reducible rfl
          try simp only [List.getElem_toArray, List.getElem_cons_zero, List.getElem_cons_succ, Act.put, List.setIfInBounds_toArray, List.set_cons_zero, List.set_cons_succ]
          refine wpAnyH_take (i := 10) (oi := _) (v := ?vb10) rfl (by kernel_rfl) (by kernel_rfl) (by kernel_rfl) (fun _ _ _ h => h) (Or.inl ⟨by rfl, ?yb10⟩) (by assumption) ?rb10
          case yb10 => intro w1 hSw; obtain ⟨s1, s2⟩ := hSw; go_simp; try with_reducible rfl
          try simp only [List.getElem_toArray, List.getElem_cons_zero, List.getElem_cons_succ, Act.put, List.setIfInBounds_toArray, List.set_cons_zero, List.set_cons_succ]
          refine wpAnyH_take (i := 12) (oi := _) (v := ?vb12) rfl (by kernel_rfl) (by kernel_rfl) (by kernel_rfl) (fun _ _ _ h => h) (Or.inl ⟨by rfl, ?yb12⟩) (by assumption) ?rb12
          case yb12 => intro w1 hSw; obtain ⟨s1, s2⟩ := hSw; go_simp; try with_reducible rfl
          try simp only [List.getElem_toArray, List.getElem_cons_zero, List.getElem_cons_succ, Act.put, List.setIfInBounds_toArray, List.set_cons_zero, List.set_cons_succ]
          refine wpAnyH_take (i := 13) (oi := _) (v := ?vb13) rfl (by kernel_rfl) (by kernel_rfl) (by kernel_rfl) (fun _ _ _ h => h) (Or.inl ⟨by rfl, ?yb13⟩) (by assumption) ?rb13
          case yb13 => intro w1 hSw; obtain ⟨s1, s2⟩ := hSw; go_simp; try with_reducible rfl
          try simp only [List.getElem_toArray, List.getElem_cons_zero, List.getElem_cons_succ, Act.put, List.setIfInBounds_toArray, List.set_cons_zero, List.set_cons_succ]
          refine wpAnyH_take (i := 14) (oi := _) (v := ?vb14) rfl (by kernel_rfl) (by kernel_rfl) (by kernel_rfl) (fun _ _ _ h => h) (Or.inl ⟨by rfl, ?yb14⟩) (by assumption) ?rb14
          case yb14 => intro w1 hSw; obtain ⟨s1, s2⟩ := hSw; go_simp; try with_reducible rfl
          try simp only [List.getElem_toArray, List.getElem_cons_zero, List.getElem_cons_succ, Act.put, List.setIfInBounds_toArray, List.set_cons_zero, List.set_cons_succ]
          refine wpAnyH_take (i := 15) (oi := _) (v := ?vb15) rfl (by kernel_rfl) (by kernel_rfl) (by kernel_rfl) (fun _ _ _ h => h) (Or.inl ⟨by rfl, ?yb15⟩) (by assumption) ?rb15
          case yb15 => intro w1 hSw; obtain ⟨s1, s2⟩ := hSw; go_simp; try with_reducible rfl
          try simp only [List.getElem_toArray, List.getElem_cons_zero, List.getElem_cons_succ, Act.put, List.setIfInBounds_toArray, List.set_cons_zero, List.set_cons_succ]
          refine wpAnyH_take (i := 16) (oi := _) (v := ?vb16) rfl (by kernel_rfl) (by kernel_rfl) (by kernel_rfl) (fun _ _ _ h => h) (Or.inl ⟨by rfl, ?yb16⟩) (by assumption) ?rb16
          case yb16 => intro w1 hSw; obtain ⟨s1, s2⟩ := hSw; go_simp; try with_reducible rfl
          try simp only [List.getElem_toArray, List.getElem_cons_zero, List.getElem_cons_succ, Act.put, List.setIfInBounds_toArray, List.set_cons_zero, List.set_cons_succ]
          refine wpAnyH_take (i := 17) (oi := _) (v := ?vb17) rfl (by kernel_rfl) (by kernel_rfl) (by kernel_rfl) (fun _ _ _ h => h) (Or.inl ⟨by rfl, ?yb17⟩) (by assumption) ?rb17
          case yb17 => intro w1 hSw; obtain ⟨s1, s2⟩ := hSw; go_simp; try with_reducible rfl
          try simp only [List.getElem_toArray, List.getElem_cons_zero, List.getElem_cons_succ, Act.put, List.setIfInBounds_toArray, List.set_cons_zero, List.set_cons_succ]
          refine wpAnyH_take (i := 18) (oi := _) (v := ?vb18) rfl (by kernel_rfl) (by kernel_rfl) (by kernel_rfl) (fun _ _ _ h => h) (Or.inl ⟨by rfl, ?yb18⟩) (by assumption) ?rb18
          case yb18 => intro w1 hSw; obtain ⟨s1, s2⟩ := hSw; go_simp; try with_reducible rfl
          try simp only [List.getElem_toArray, List.getElem_cons_zero, List.getElem_cons_succ, Act.put, List.setIfInBounds_toArray, List.set_cons_zero, List.set_cons_succ]
          refine wpAnyH_take (i := 19) (oi := _) (v := ?vb19) rfl (by kernel_rfl) (by kernel_rfl) (by kernel_rfl) (fun _ _ _ h => h) (Or.inl ⟨by rfl, ?yb19⟩) (by assumption) ?rb19
          case yb19 => intro w1 hSw; obtain ⟨s1, s2⟩ := hSw; go_simp; try with_reducible rfl
          try simp only [List.getElem_toArray, List.getElem_cons_zero, List.getElem_cons_succ, Act.put, List.setIfInBounds_toArray, List.set_cons_zero, List.set_cons_succ]
          refine wpAnyH_take (i := 20) (oi := _) (v := ?vb20) rfl (by kernel_rfl) (by kernel_rfl) (by kernel_rfl) (fun _ _ _ h => h) (Or.inl ⟨by rfl, ?yb20⟩) (by assumption) ?rb20
          case yb20 => intro w1 hSw; obtain ⟨s1, s2⟩ := hSw; go_simp; try with_reducible rfl
          try simp only [List.getElem_toArray, List.getElem_cons_zero, List.getElem_cons_succ, Act.put, List.setIfInBounds_toArray, List.set_cons_zero, List.set_cons_succ]
          refine wpAnyH_take (i := 21) (oi := _) (v := ?vb21) rfl (by kernel_rfl) (by kernel_rfl) (by kernel_rfl) (fun _ _ _ h => h) (Or.inl ⟨by rfl, ?yb21⟩) (by assumption) ?rb21
          case yb21 => intro w1 hSw; obtain ⟨s1, s2⟩ := hSw; go_simp; try with_reducible rfl
          try simp only [List.getElem_toArray, List.getElem_cons_zero, List.getElem_cons_succ, Act.put, List.setIfInBounds_toArray, List.set_cons_zero, List.set_cons_succ]
          refine wpAnyH_take (i := 22) (oi := _) (v := ?vb22) rfl (by kernel_rfl) (by kernel_rfl) (by kernel_rfl) (fun _ _ _ h => h) (Or.inl ⟨by rfl, ?yb22⟩) (by assumption) ?rb22
          case yb22 => intro w1 hSw; obtain ⟨s1, s2⟩ := hSw; go_simp; try with_reducible rfl
          try simp only [List.getElem_toArray, List.getElem_cons_zero, List.getElem_cons_succ, Act.put, List.setIfInBounds_toArray, List.set_cons_zero, List.set_cons_succ]
          refine wpAnyH_ready (rs := [11]) (by kernel_rfl) (by simp) ?_
          refine AllReadyH.cons (o := _) rfl (fun K hK => ?_) AllReadyH.nil
          rw [if_pos (by rfl)]
          try simp only [List.getElem_toArray, List.getElem_cons_zero, List.getElem_cons_succ]
          go_simp
          refine HN.out.mono ?_
          rintro e w3 ⟨rfl, hS3, hf3⟩
          have hb3 := (drewB hb 1).trans (hf3.below (drewB hb 1).size (fun k e => by omega))
          have HR := Lib.hid (rbetween_any w3 R x c (HRS.out.fr ((Fr.drewN _ wr 1).trans hf3) (fun e => hAR e.symm)) hc0 (by omega) g1 g2)
          rw [hv] at HR
          refine hK.out _ _ (HCI.out w3 hb3).2 (fun hHeld2 => ?_)
          clear hK K
          try simp only [List.getElem_toArray, List.getElem_cons_zero, List.getElem_cons_succ, Act.put, List.setIfInBounds_toArray, List.set_cons_zero, List.set_cons_succ]
          refine wpAnyH_ready (rs := [23]) (by kernel_rfl) (by simp) ?_
          refine AllReadyH.cons (o := _) rfl (fun K hK => ?_) AllReadyH.nil
          rw [if_pos (by rfl)]
          try simp only [List.getElem_toArray, List.getElem_cons_zero, List.getElem_cons_succ]
          go_simp
          refine HR.out.mono ?_
          rintro e w4 ⟨rfl, hR4, hf4⟩
          have hb4 := hb3.trans (hf4.below hb3.size (fun k e => by omega))
          refine hK.out _ _ (HCI.out w4 hb4).2 (fun hHeld3 => ?_)
          clear hK K
          try simp only [List.getElem_toArray, List.getElem_cons_zero, List.getElem_cons_succ, Act.put, List.setIfInBounds_toArray, List.set_cons_zero, List.set_cons_succ]
          have pv : (v != v) = false := by simp
          refine wpAnyH_take (i := 24) (oi := _) (v := ?vb24) rfl (by kernel_rfl) (by kernel_rfl) (by kernel_rfl) (fun _ _ _ h => h) (Or.inl ⟨by rfl, ?yb24⟩) (by assumption) ?rb24
          case yb24 => intro w1 hSw; go_simp; try with_reducible rfl
          try simp only [List.getElem_toArray, List.getElem_cons_zero, List.getElem_cons_succ, Act.put, List.setIfInBounds_toArray, List.set_cons_zero, List.set_cons_succ]
          refine wpAnyH_done (by kernel_rfl) ?_ _
          have HS3 := Lib.hid hS3
          have HR4 := Lib.hid hR4
          have HF4 := Lib.hid hf4
          clear hS3 hR4 hf4 hf3 hv HN HR hHeld hHeld2 hHeld3
          go_wp2
          go_meet
          have hct : 0 ≤ ctT g1 g2 c ∧ ctT g1 g2 c ≤ c + 1 := by unfold ctT; split <;> omega
          exact ⟨A, rfl, hWA, ⟨_, _, by omega, by omega, HS3.out.fr HF4.out hAR, HR4.out⟩, hb4⟩
        have q3 : (g0 == 3) = false := by simp [k3]
        by_cases k4 : g0 = 4
        · have q4 : (g0 == 4) = true := by simp [k4]
          have HT := Lib.hid (twin_any wr A x c hS)
          have HRS := Lib.hid hRS
          have HS := Lib.hid hS
          have hRl := hRS.lt
          clear hS hRS k4
          go_wp2_with fail
          refine HT.out.mono ?_
          rintro e w3 ⟨rfl, hT3, hf3⟩
          have hS3 : Src w3 A x c := Blk.fr HS.out hf3 id
          have HN := Lib.hid (next_any w3 A x c hS3 hc0 (by omega))
          have HR3 := Lib.hid (HRS.out.fr hf3 id)
          have HT3 := Lib.hid hT3
          have hAl := HS.out.lt
          have hb3 := hb.trans (hf3.below hb.size (fun k e => e.elim))
          have hbs := hb.size
          obtain ⟨C, hC⟩ : ∃ C, wr.heap.size = C := ⟨_, rfl⟩
          rw [hC] at hAl HT3 hbs hRl ⊢
          clear hT3 hS3 hf3 hC HT
          go_wp2_with fail
          refine HN.out.mono ?_
          rintro e w4 ⟨rfl, hS4, hf4⟩
          have HF4 := Lib.hid hf4
          have hb4 := hb3.trans (hf4.below hb3.size (fun k e => by omega))
          clear hS4 hf4 HN
          go_wp2
          go_meet
          exact ⟨C, rfl, hbs, ⟨x, c, hc0, by omega, HT3.out.fr HF4.out (fun e => by omega), HR3.out.fr HF4.out (fun e => hAR e.symm)⟩, hb4⟩
        · have q4 : (g0 == 4) = false := by simp [k4]
          clear k4 k3 k2 k1
          have HS := Lib.hid hS
          have HRS := Lib.hid hRS
          clear hS hRS
          go_wp2
          go_meet
          exact ⟨A, rfl, hWA, ⟨x, c, hc0, by omega, HS.out, HRS.out⟩, hb⟩
      case rest =>
        obtain ⟨A', rfl, hA', hT', hb'⟩ := hcut
        have HT := Lib.hid hT'
        obtain ⟨x, c, hc0, hc1, hS, hRS⟩ := hT'
        have e1 := hRS.cell 1
        simp only [List.getElem?_toArray, List.getElem?_cons_zero, List.getElem?_cons_succ] at e1
        have hcq : Hid (∀ n, Calls Try.prog 23 #[.pointer (some ⟨A', 0, none⟩)] (wc.drewN n) fun e W' => e = .returned (.int .i64 c) ∧ W' = wc.drewN n) := Lib.hid fun n => (count_any (wc.drewN n) A' x c hS).mono fun _ _ h => ⟨h.1, h.2.symm⟩
        have pc : (c != c) = false := by simp
        clear hS hRS hT d0 d1 d2 hb
        go_wp2
        go_quiet ((go_at_call 23; exact Calls.quiet_of_same (hcq.out _)))
        go_wp2
        go_roundw
        case rel => exact ⟨i + 1, A', by omega, by go_num, rfl, hA', by have := HT.out.fr (Fr.drewN (fun _ => False) wc nq) id id; push_cast; exact this, drewB hb' _⟩
        case measure => simp [intOf]; omega
    · obtain rfl : i = len := by omega
      have p0 : decide ((i : Int) < i) = false := decide_eq_false (by omega)
      go_wp2
      go_ret
      exact ⟨rfl, hb⟩
end Go.Proofs.Ytjcnmlfkdfpjmaa
