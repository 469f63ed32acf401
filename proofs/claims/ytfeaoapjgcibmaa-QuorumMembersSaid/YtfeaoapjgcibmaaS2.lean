/- The reference's Votes. -/
import Derived.Test.YtfeaoapjgcibmaaS
set_option linter.unusedVariables false
set_option linter.unusedSimpArgs false
namespace Go.Proofs.Ytfeaoapjgcibmaa
open Go.RowKit Go.Shelf
attribute [local go_sem] Oper.semAt_some
/-- those of whom nothing is said -/
def opn (n : Nat) (l : List (Fin 9)) : Nat := (l.filter (fun x => decide (n ≤ x.val))).length
theorem opn_le (n : Nat) (l : List (Fin 9)) : opn n l ≤ l.length := List.length_filter_le _ _
theorem opn_add (n : Nat) (l : List (Fin 9)) (x : Fin 9) : opn n (l ++ [x]) = opn n l + (if n ≤ x.val then 1 else 0) := by
  unfold opn
  rw [List.filter_append, List.length_append]
  by_cases h : n ≤ x.val <;> simp [List.filter, h]
theorem told_all (y : Nat → Bool) (n : Nat) : ∀ l : List (Fin 9), told y n true l + told y n false l + opn n l = l.length
  | [] => rfl
  | a :: l => by
    have ih := told_all y n l
    rw [told_cons, told_cons, List.length_cons]
    have e : opn n (a :: l) = opn n l + (if n ≤ a.val then 1 else 0) := by
      unfold opn
      by_cases h : n ≤ a.val <;> simp [List.filter, h]
    rw [e]
    by_cases h : a.val < n
    · have h2 : ¬ n ≤ a.val := by omega
      cases hy : y a.val <;> simp [h, h2] <;> omega
    · have h2 : n ≤ a.val := by omega
      simp [h, h2]; omega
theorem Blk.range9 {W : World} {B : Nat} {t : TypeId} {m : Nat → Int} (h : Blk W B t (arr m)) : W.rangeAt B 0 [.int .u8 (m 0), .int .u8 (m 1), .int .u8 (m 2), .int .u8 (m 3), .int .u8 (m 4), .int .u8 (m 5), .int .u8 (m 6), .int .u8 (m 7), .int .u8 (m 8)] := fun j v hj => by
  rw [Nat.zero_add]
  exact (h.cell j).trans (by simpa [arr] using hj)
set_option maxRecDepth 100000 in
set_option maxHeartbeats 4000000 in
theorem rvotes_any (m : Nat → Int) (hm : ∀ k, k < 9 → 0 ≤ m k ∧ m k ≤ 255) (a : Option Addr) (len cap : Nat) (hl : len ≤ 9223372036854775807) (y : Nat → Bool) (w : World) (hrow : Row w a len (fun j => .bool (y j))) :
    Calls Try.prog 19 #[.agg #[.int .u8 (m 0), .int .u8 (m 1), .int .u8 (m 2), .int .u8 (m 3), .int .u8 (m 4), .int .u8 (m 5), .int .u8 (m 6), .int .u8 (m 7), .int .u8 (m 8)], .slice a len cap] w fun e W' => e = .returned (.tuple #[.bool (won m y len), .bool (lost m y len)]) ∧ Below w.heap.size w W' := by
  have B0 := Blk.new w 24 (arr m)
  have b0 : Below w.heap.size w (w.alloc (.cells (arr m) 24)) := (Below.refl _ w).alloc (Nat.le_refl _) _
  go_enter Try.func19, Try.ntmps19
  go_wp2
  obtain ⟨W1, hW1⟩ : ∃ W1, w.alloc (.cells (arr m) 24) = W1 := ⟨_, rfl⟩
  obtain ⟨B, hB⟩ : ∃ B, w.heap.size = B := ⟨_, rfl⟩
  have hb1 : Below w.heap.size w W1 := hW1 ▸ b0
  have B1 : Blk W1 B 24 (arr m) := hB ▸ hW1 ▸ B0
  have HB1 := Lib.hid hb1
  have HB : Hid (w.heap.size = B) := Lib.hid hB
  rw [show (Obj.cells #[Value.int .u8 (m 0), .int .u8 (m 1), .int .u8 (m 2), .int .u8 (m 3), .int .u8 (m 4), .int .u8 (m 5), .int .u8 (m 6), .int .u8 (m 7), .int .u8 (m 8)] 24) = .cells (arr m) 24 from rfl, hW1, hB]
  clear hW1 B0 b0 hB hb1
  have HROW0 := Lib.hid (hrow.below HB1.out)
  clear hrow
  go_loopw [6, 7, 8] (fun yv ov kv wr => ∃ k : Nat, k ≤ 9 ∧ kv = .int .i64 k ∧ yv = .int .i64 (told y len true (sel m 1 k) : Int) ∧ ov = .int .i64 (opn len (sel m 1 k) : Int) ∧ W1 = wr) (fun _ _ kv _ => 9 - (intOf kv).toNat)
  case atStart => exact ⟨0, by omega, rfl, rfl, rfl, rfl⟩
  case round =>
    obtain ⟨k, hk, rfl, rfl, rfl, rfl⟩ := hrel
    have hle := sel_le m 1 k
    have ht1 := told_le y len true (sel m 1 k)
    have ho1 := opn_le len (sel m 1 k)
    by_cases hlt : k < 9
    · have c0 := arr_cell B1 k hlt
      obtain ⟨b1, b2⟩ := hm k hlt
      have i1 : (k : Int) < 9 := by omega
      by_cases hmr : m k = 1
      · have q1 : (m k != 1) = false := by simp [hmr]
        have hs := sel_yes m 1 k hlt hmr
        by_cases hkl : k < len
        · have p1 : decide ((len : Int) ≤ (k : Int)) = false := decide_eq_false (by omega)
          have HT : Hid (told y len true (sel m 1 (k + 1)) = told y len true (sel m 1 k) + (if y k = true then 1 else 0)) := Lib.hid (by rw [hs, told_add]; cases y k <;> simp [hkl])
          have HO : Hid (opn len (sel m 1 (k + 1)) = opn len (sel m 1 k)) := Lib.hid (by rw [hs, opn_add]; simp; omega)
          rcases HROW0.out with h0 | ⟨b, o, rfl, hbl, hc⟩
          · omega
          have d0 := hc k hkl
          dsimp only at d0
          have i2 : (k : Int) < (len : Int) := by omega
          clear hs hmr hc
          cases hy : y k with
          | true =>
            rw [hy] at d0 HT
            clear hy
            go_wp2
            go_roundw
            case rel => exact ⟨k + 1, by omega, by go_num, by rw [HT.out]; go_num, by rw [HO.out], trivial⟩
            case measure => simp [intOf]; omega
          | false =>
            rw [hy] at d0 HT
            clear hy
            go_wp2
            go_roundw
            case rel => exact ⟨k + 1, by omega, by go_num, by rw [HT.out]; rfl, by rw [HO.out], trivial⟩
            case measure => simp [intOf]; omega
        · have p1 : decide ((len : Int) ≤ (k : Int)) = true := decide_eq_true (by omega)
          have HT : Hid (told y len true (sel m 1 (k + 1)) = told y len true (sel m 1 k)) := Lib.hid (by rw [hs, told_add]; simp [hkl])
          have HO : Hid (opn len (sel m 1 (k + 1)) = opn len (sel m 1 k) + 1) := Lib.hid (by rw [hs, opn_add]; simp; omega)
          clear hs hmr
          go_wp2
          go_roundw
          case rel => exact ⟨k + 1, by omega, by go_num, by rw [HT.out], by rw [HO.out]; go_num, trivial⟩
          case measure => simp [intOf]; omega
      · have q1 : (m k != 1) = true := by simp [hmr]
        have hs : Hid (sel m 1 (k + 1) = sel m 1 k) := Lib.hid (sel_no m 1 k hmr)
        clear hmr
        go_wp2
        try refine ⟨fun _ h => (by cases h), ?_⟩
        try go_wp2
        go_roundw
        case rel => exact ⟨k + 1, by omega, by go_num, by rw [hs.out], by rw [hs.out], trivial⟩
        case measure => simp [intOf]; omega
    · obtain rfl : k = 9 := by omega
      have hc9 : (sel m 1 9).length = cnt m 1 := rfl
      have hc := cnt_le m 1
      have hall := told_all y len (sel m 1 9)
      obtain ⟨T, hT⟩ : ∃ T, told y len true (sel m 1 9) = T := ⟨_, rfl⟩
      obtain ⟨N, hN⟩ : ∃ N, told y len false (sel m 1 9) = N := ⟨_, rfl⟩
      obtain ⟨O, hO⟩ : ∃ O, opn len (sel m 1 9) = O := ⟨_, rfl⟩
      rw [hT] at ht1 hall ⊢
      rw [hO] at ho1 hall ⊢
      rw [hN, hc9] at hall
      have hmst : mst m = (cnt m 1 : Int) / 2 + 1 := rfl
      have hms : 0 ≤ mst m ∧ mst m ≤ 5 := by omega
      have HT := Lib.hid hT
      have HN := Lib.hid hN
      have HA := Lib.hid hall
      have hu24 : Try.prog.underlying 24 = some (.array 9 5) := Try.underlying24
      have hi24 : (Try.prog.info? 24).map (·.size) = some ([.int .u8 (m 0), .int .u8 (m 1), .int .u8 (m 2), .int .u8 (m 3), .int .u8 (m 4), .int .u8 (m 5), .int .u8 (m 6), .int .u8 (m 7), .int .u8 (m 8)] : List Value).length := by kernel_rfl
      have HR9 := Lib.hid B1.range9
      have hBlt := B1.lt
      have hkp : ∀ w' : World, Below W1.heap.size W1 w' → Below W1.heap.size W1 w' ∧ w'.rangeAt B 0 [.int .u8 (m 0), .int .u8 (m 1), .int .u8 (m 2), .int .u8 (m 3), .int .u8 (m 4), .int .u8 (m 5), .int .u8 (m 6), .int .u8 (m 7), .int .u8 (m 8)] := fun w' hb => ⟨hb, (B1.below hb).range9⟩
      clear hT hN hO hc9 hmst hall
      go_upto_region 11 with (fail)
      refine wp_region_held_drew (S := fun (w' : World) => Below W1.heap.size W1 w' ∧ w'.rangeAt B 0 [.int .u8 (m 0), .int .u8 (m 1), .int .u8 (m 2), .int .u8 (m 3), .int .u8 (m 4), .int .u8 (m 5), .int .u8 (m 6), .int .u8 (m 7), .int .u8 (m 8)]) (by kernel_rfl) (hkp _ (Below.refl _ _).drew) (fun hHeld => ?_)
      refine wpAnyH_take (i := 0) (oi := _) (v := ?v0) rfl (by kernel_rfl) (by kernel_rfl) (by kernel_rfl) (fun _ _ _ h => h) (Or.inl ⟨by rfl, ?y0⟩) (by assumption) ?r0
      case y0 => intro w1 hSw; obtain ⟨s1, s4⟩ := hSw; go_simp; try with_reducible rfl
      try simp only [List.getElem_toArray, List.getElem_cons_zero, List.getElem_cons_succ, Act.put, List.setIfInBounds_toArray, List.set_cons_zero, List.set_cons_succ]
      refine' wpAnyH_take (i := 1) (oi := _) (v := _) rfl (by kernel_rfl) (by kernel_rfl) (by kernel_rfl) (fun _ _ _ h => h) (yieldsIf_load_mid (by rfl) _ _ rfl _ _ rfl _ _ ?s1 hu24 rfl hi24) (by assumption) ?r1
      case s1 => intro w1 hSw; exact hSw.2
      try simp only [List.getElem_toArray, List.getElem_cons_zero, List.getElem_cons_succ, Act.put, List.setIfInBounds_toArray, List.set_cons_zero, List.set_cons_succ]
      refine wpAnyH_take (i := 4) (oi := _) (v := ?v4) rfl (by kernel_rfl) (by kernel_rfl) (by kernel_rfl) (fun _ _ _ h => h) (Or.inl ⟨by rfl, ?y4⟩) (by assumption) ?r4
      case y4 => intro w1 hSw; obtain ⟨s1, s4⟩ := hSw; go_simp; try with_reducible rfl
      try simp only [List.getElem_toArray, List.getElem_cons_zero, List.getElem_cons_succ, Act.put, List.setIfInBounds_toArray, List.set_cons_zero, List.set_cons_succ]
      refine wpAnyH_take (i := 5) (oi := _) (v := ?v5) rfl (by kernel_rfl) (by kernel_rfl) (by kernel_rfl) (fun _ _ _ h => h) (Or.inl ⟨by rfl, ?y5⟩) (by assumption) ?r5
      case y5 => intro w1 hSw; obtain ⟨s1, s4⟩ := hSw; go_simp; try with_reducible rfl
      try simp only [List.getElem_toArray, List.getElem_cons_zero, List.getElem_cons_succ, Act.put, List.setIfInBounds_toArray, List.set_cons_zero, List.set_cons_succ]
      refine wpAnyH_take (i := 6) (oi := _) (v := ?v6) rfl (by kernel_rfl) (by kernel_rfl) (by kernel_rfl) (fun _ _ _ h => h) (Or.inl ⟨by rfl, ?y6⟩) (by assumption) ?r6
      case y6 => intro w1 hSw; obtain ⟨s1, s4⟩ := hSw; go_simp; try with_reducible rfl
      try simp only [List.getElem_toArray, List.getElem_cons_zero, List.getElem_cons_succ, Act.put, List.setIfInBounds_toArray, List.set_cons_zero, List.set_cons_succ]
      refine' wpAnyH_take (i := 7) (oi := _) (v := _) rfl (by kernel_rfl) (by kernel_rfl) (by kernel_rfl) (fun _ _ _ h => h) (yieldsIf_load_mid (by rfl) _ _ rfl _ _ rfl _ _ ?s7 hu24 rfl hi24) (by assumption) ?r7
      case s7 => intro w1 hSw; exact hSw.2
      try simp only [List.getElem_toArray, List.getElem_cons_zero, List.getElem_cons_succ, Act.put, List.setIfInBounds_toArray, List.set_cons_zero, List.set_cons_succ]
      refine wpAnyH_ready (rs := [2]) (by kernel_rfl) (by simp) ?_
      refine AllReadyH.cons (o := _) rfl (fun K hK => ?_) AllReadyH.nil
      rw [if_pos (by rfl)]
      try simp only [List.getElem_toArray, List.getElem_cons_zero, List.getElem_cons_succ]
      go_simp
      refine (rmost_any m hm _).mono ?_
      rintro e w2 ⟨rfl, hbw2⟩
      refine hK.out _ _ (hkp _ (bCat hbw2 (by assumption))) (fun hHeldw2 => ?_)
      clear hK K
      try simp only [List.getElem_toArray, List.getElem_cons_zero, List.getElem_cons_succ, Act.put, List.setIfInBounds_toArray, List.set_cons_zero, List.set_cons_succ]
      refine wpAnyH_take (i := 3) (oi := _) (v := ?v3) rfl (by kernel_rfl) (by kernel_rfl) (by kernel_rfl) (fun _ _ _ h => h) (Or.inl ⟨by rfl, ?y3⟩) (by assumption) ?r3
      case y3 => intro w1 hSw; obtain ⟨s1, s4⟩ := hSw; go_simp; try with_reducible rfl
      try simp only [List.getElem_toArray, List.getElem_cons_zero, List.getElem_cons_succ, Act.put, List.setIfInBounds_toArray, List.set_cons_zero, List.set_cons_succ]
      refine wpAnyH_ready (rs := [8]) (by kernel_rfl) (by simp) ?_
      refine AllReadyH.cons (o := _) rfl (fun K hK => ?_) AllReadyH.nil
      rw [if_pos (by rfl)]
      try simp only [List.getElem_toArray, List.getElem_cons_zero, List.getElem_cons_succ]
      go_simp
      refine (rmost_any m hm _).mono ?_
      rintro e w3 ⟨rfl, hbw3⟩
      refine hK.out _ _ (hkp _ (bCat hbw3 (by assumption))) (fun hHeldw3 => ?_)
      clear hK K
      try simp only [List.getElem_toArray, List.getElem_cons_zero, List.getElem_cons_succ, Act.put, List.setIfInBounds_toArray, List.set_cons_zero, List.set_cons_succ]
      refine wpAnyH_take (i := 9) (oi := _) (v := ?v9) rfl (by kernel_rfl) (by kernel_rfl) (by kernel_rfl) (fun _ _ _ h => h) (Or.inl ⟨by rfl, ?y9⟩) (by assumption) ?r9
      case y9 => intro w1 hSw; obtain ⟨s1, s4⟩ := hSw; go_simp; try with_reducible rfl
      try simp only [List.getElem_toArray, List.getElem_cons_zero, List.getElem_cons_succ, Act.put, List.setIfInBounds_toArray, List.set_cons_zero, List.set_cons_succ]
      refine wpAnyH_take (i := 10) (oi := _) (v := ?v10) rfl (by kernel_rfl) (by kernel_rfl) (by kernel_rfl) (fun _ _ _ h => h) (Or.inl ⟨by rfl, ?y10⟩) (by assumption) ?r10
      case y10 => intro w1 hSw; obtain ⟨s1, s4⟩ := hSw; go_simp; try with_reducible rfl
      try simp only [List.getElem_toArray, List.getElem_cons_zero, List.getElem_cons_succ, Act.put, List.setIfInBounds_toArray, List.set_cons_zero, List.set_cons_succ]
      refine wpAnyH_take (i := 11) (oi := _) (v := ?v11) rfl (by kernel_rfl) (by kernel_rfl) (by kernel_rfl) (fun _ _ _ h => h) (Or.inl ⟨by rfl, ?y11⟩) (by assumption) ?r11
      case y11 => intro w1 hSw; obtain ⟨s1, s4⟩ := hSw; go_simp; try with_reducible rfl
      try simp only [List.getElem_toArray, List.getElem_cons_zero, List.getElem_cons_succ, Act.put, List.setIfInBounds_toArray, List.set_cons_zero, List.set_cons_succ]
      refine wpAnyH_done (by kernel_rfl) ?_ _
      have hbe := HB1.out.trans (hHeldw3.1.mono HB1.out.size)
      go_wp2
      go_ret2
      refine ⟨?_, hbe⟩
      unfold won lost
      rw [HT.out, HN.out, show ((T : Int) + (O : Int)) = (cnt m 1 : Int) - (N : Int) from by have := HA.out; omega, IntWalk.i64_in ((cnt m 1 : Int) - (N : Int)) (by have := HA.out; omega)]
      rfl
end Go.Proofs.Ytfeaoapjgcibmaa
