/- The reference's Index. -/
import Derived.Test.YtfeaoapjgcibmaaS2
set_option linter.unusedVariables false
set_option linter.unusedSimpArgs false
namespace Go.Proofs.Ytfeaoapjgcibmaa
open Go.RowKit Go.Shelf
attribute [local go_sem] Oper.semAt_some
theorem below_drewN {B : Nat} {a w : World} (h : Below B a w) (n : Nat) : Below B a (w.drewN n) := ⟨h.os, h.tape, h.output, h.size, h.block⟩
theorem hav_add' (mt : Nat → Int) (n : Nat) (v : Int) (l : List (Fin 9)) (x : Fin 9) : hav mt n v (l ++ [x]) = hav mt n v l + (if x.val < n ∧ v ≤ mt x.val then 1 else 0) := by
  unfold hav
  rw [List.filter_append, List.length_append]
  by_cases h : x.val < n <;> by_cases h2 : v ≤ mt x.val <;> simp [List.filter, h, h2]
theorem hav_rest (m mt : Nat → Int) (n : Nat) (v : Int) (i : Nat) (hi : n ≤ i) : ∀ j, hav mt n v (sel m 1 (i + j)) = hav mt n v (sel m 1 i)
  | 0 => rfl
  | j + 1 => by
    have ih := hav_rest m mt n v i hi j
    by_cases h : i + j < 9 ∧ m (i + j) = 1
    · rw [show i + (j + 1) = (i + j) + 1 from rfl, sel_yes m 1 (i + j) h.1 h.2, hav_add', ih, if_neg (by simp; omega)]; rfl
    · rw [show i + (j + 1) = (i + j) + 1 from rfl]
      have : sel m 1 (i + j + 1) = sel m 1 (i + j) := by rw [sel, dif_neg h, List.append_nil]
      rw [this, ih]
theorem idx_rest (m mt : Nat → Int) (n : Nat) (i : Nat) (hi : n ≤ i) : ∀ j, idx m mt n (sel m 1 (i + j)) = idx m mt n (sel m 1 i)
  | 0 => rfl
  | j + 1 => by
    have ih := idx_rest m mt n i hi j
    by_cases h : i + j < 9 ∧ m (i + j) = 1
    · rw [show i + (j + 1) = (i + j) + 1 from rfl, sel_yes m 1 (i + j) h.1 h.2, idx_snoc, ih]
      unfold step
      rw [if_neg (by simp; omega)]
    · rw [show i + (j + 1) = (i + j) + 1 from rfl]
      have : sel m 1 (i + j + 1) = sel m 1 (i + j) := by rw [sel, dif_neg h, List.append_nil]
      rw [this, ih]
theorem idx_end (m mt : Nat → Int) (n i : Nat) (h9 : i ≤ 9) (h : n ≤ i ∨ i = 9) : idx m mt n (sel m 1 9) = idx m mt n (sel m 1 i) := by
  rcases h with h | h
  · rw [← idx_rest m mt n i h (9 - i), show i + (9 - i) = 9 from by omega]
  · rw [h]
theorem hav_end (m mt : Nat → Int) (n i : Nat) (v : Int) (h9 : i ≤ 9) (h : n ≤ i ∨ i = 9) : hav mt n v (sel m 1 9) = hav mt n v (sel m 1 i) := by
  rcases h with h | h
  · rw [← hav_rest m mt n v i h (9 - i), show i + (9 - i) = 9 from by omega]
  · rw [h]
theorem hav_le' (mt : Nat → Int) (n : Nat) (v : Int) (l : List (Fin 9)) : hav mt n v l ≤ l.length := List.length_filter_le _ _
set_option maxRecDepth 100000 in
set_option maxHeartbeats 4000000 in
theorem rindex_any (m : Nat → Int) (hm : ∀ k, k < 9 → 0 ≤ m k ∧ m k ≤ 255) (a : Option Addr) (len cap : Nat) (hl : len ≤ 9223372036854775807) (mt : Nat → Int) (w : World) (hrow : Row w a len (fun j => .int .i64 (mt j))) :
    Calls Try.prog 22 #[.agg #[.int .u8 (m 0), .int .u8 (m 1), .int .u8 (m 2), .int .u8 (m 3), .int .u8 (m 4), .int .u8 (m 5), .int .u8 (m 6), .int .u8 (m 7), .int .u8 (m 8)], .slice a len cap] w fun e W' => e = .returned (.int .i64 (idx m mt len (sel m 1 9))) ∧ Below w.heap.size w W' := by
  have B0 := Blk.new w 24 (arr m)
  have b0 : Below w.heap.size w (w.alloc (.cells (arr m) 24)) := (Below.refl _ w).alloc (Nat.le_refl _) _
  go_enter Try.func22, Try.ntmps22
  go_wp2
  obtain ⟨W1, hW1⟩ : ∃ W1, w.alloc (.cells (arr m) 24) = W1 := ⟨_, rfl⟩
  obtain ⟨B, hB⟩ : ∃ B, w.heap.size = B := ⟨_, rfl⟩
  have hb1 : Below w.heap.size w W1 := hW1 ▸ b0
  have B1 : Blk W1 B 24 (arr m) := hB ▸ hW1 ▸ B0
  have HB1 := Lib.hid hb1
  have HB : Hid (w.heap.size = B) := Lib.hid hB
  rw [show (Obj.cells #[Value.int .u8 (m 0), .int .u8 (m 1), .int .u8 (m 2), .int .u8 (m 3), .int .u8 (m 4), .int .u8 (m 5), .int .u8 (m 6), .int .u8 (m 7), .int .u8 (m 8)] 24) = .cells (arr m) 24 from rfl, hW1, hB]
  clear hW1 B0 b0 hB hb1
  have HROW0 := Lib.hid (hrow.below HB1.out)
  have HBB := Lib.hid B1
  clear hrow B1
  go_loopw [5, 6] (fun bv kv wr => ∃ i : Nat, i ≤ 9 ∧ kv = .int .i64 i ∧ bv = .int .i64 (idx m mt len (sel m 1 i)) ∧ Below W1.heap.size W1 wr) (fun _ kv _ => 9 - (intOf kv).toNat)
  case atStart => exact ⟨0, by omega, rfl, rfl, Below.refl _ _⟩
  case round =>
    obtain ⟨i, hi, rfl, rfl, hbw⟩ := hrel
    have B1 := HBB.out.below hbw
    have hrow1 := HROW0.out.below hbw
    obtain ⟨best, hbest⟩ : ∃ b, idx m mt len (sel m 1 i) = b := ⟨_, rfl⟩
    rw [hbest]
    have HBEST := Lib.hid hbest
    have HBW := Lib.hid hbw
    have HR1 := Lib.hid hrow1
    clear hbest hbw hrow1
    by_cases h9 : i < 9
    case neg =>
      obtain rfl : i = 9 := by omega
      have HE := Lib.hid (HBEST.out)
      have hbe := HB1.out.trans (HBW.out.mono HB1.out.size)
      by_cases hil : 9 < len
      · have p1 : decide (9 < (len : Int)) = true := decide_eq_true (by omega)
        go_wp2
        go_ret
        exact ⟨by rw [HE.out]; rfl, hbe⟩
      · have p1 : decide (9 < (len : Int)) = false := decide_eq_false (by omega)
        go_wp2
        go_ret
        exact ⟨by rw [HE.out]; rfl, hbe⟩
    have i1 : (i : Int) < 9 := by omega
    have p9 : decide ((i : Int) < 9) = true := decide_eq_true i1
    by_cases hil : i < len
    case neg =>
      have p1 : decide ((i : Int) < (len : Int)) = false := decide_eq_false (by omega)
      have HE := Lib.hid (idx_end m mt len i hi (.inl (by omega)))
      have hbe := HB1.out.trans (HBW.out.mono HB1.out.size)
      go_wp2
      go_ret
      exact ⟨by rw [HE.out, HBEST.out]; rfl, hbe⟩
    have p1 : decide ((i : Int) < (len : Int)) = true := decide_eq_true (by omega)
    have i2 : (i : Int) < (len : Int) := by omega
    have c0 := arr_cell B1 i h9
    obtain ⟨b1, b2⟩ := hm i h9
    by_cases hmi : m i = 1
    case neg =>
      have q1 : (m i != 1) = true := by simp [hmi]
      have HE : Hid (idx m mt len (sel m 1 (i + 1)) = best) := Lib.hid (by rw [sel_no m 1 i hmi, HBEST.out])
      clear hmi
      go_wp2
      go_roundw
      case rel => exact ⟨i + 1, by omega, by go_num, by rw [HE.out], HBW.out⟩
      case measure => simp [intOf]; omega
    have q1 : (m i != 1) = false := by simp [hmi]
    have hsi := sel_yes m 1 i h9 hmi
    rcases HR1.out with h0 | ⟨b, o, rfl, hbl, hc⟩
    · omega
    have d0 := hc i hil
    dsimp only at d0
    have HC := Lib.hid hc
    clear hc
    by_cases hle : mt i ≤ best
    · have q2 : decide (mt i ≤ best) = true := decide_eq_true hle
      have HE : Hid (idx m mt len (sel m 1 (i + 1)) = best) := Lib.hid (by rw [hsi, idx_snoc, HBEST.out]; unfold step; rw [if_neg (by simp; omega)])
      clear hle hsi hmi
      go_wp2
      go_roundw
      case rel => exact ⟨i + 1, by omega, by go_num, by rw [HE.out], HBW.out⟩
      case measure => simp [intOf]; omega
    · have q2 : decide (mt i ≤ best) = false := decide_eq_false hle
      obtain ⟨v, hv⟩ : ∃ v, mt i = v := ⟨_, rfl⟩
      have HEV : Hid (idx m mt len (sel m 1 (i + 1)) = if mst m ≤ hav mt len v (sel m 1 9) then v else best) := Lib.hid (by
        rw [hsi, idx_snoc, HBEST.out]; unfold step
        rw [← hv]
        by_cases h : mst m ≤ hav mt len (mt i) (sel m 1 9)
        · rw [if_pos ⟨hil, by simp; omega, h⟩, if_pos h]
        · rw [if_neg (fun e => h e.2.2), if_neg h])
      rw [hv] at d0 q2
      have hbl' := hbl
      clear hle hsi hmi hv
      go_wp2
      go_loopw [7, 8] (fun nv kv wz => ∃ k : Nat, k ≤ 9 ∧ kv = .int .i64 k ∧ nv = .int .i64 (hav mt len v (sel m 1 k) : Int) ∧ Below W1.heap.size W1 wz ∧ Below wr.heap.size wr wz) (fun _ kv _ => 9 - (intOf kv).toNat)
      case atStart => exact ⟨0, by omega, rfl, rfl, HBW.out, Below.refl _ _⟩
      case round =>
        obtain ⟨k, hk, rfl, rfl, hbz, hbz2⟩ := hrel
        have B2 := HBB.out.below hbz
        have HBZ := Lib.hid hbz
        have HBZ2 := Lib.hid hbz2
        have hhl := hav_le' mt len v (sel m 1 k)
        have hsl := sel_le m 1 k
        have f0 := (hbz2.cell (p := ⟨b, o + i, none⟩) hbl').trans d0
        have hcz := fun (j : Nat) (hj : j < len) => (hbz2.cell (p := ⟨b, o + j, none⟩) hbl').trans (HC.out j hj)
        have HCZ := Lib.hid hcz
        clear hbz hbz2 hcz
        by_cases hend : k < 9 ∧ k < len
        case neg =>
          have HE := Lib.hid (hav_end m mt len k v hk (by omega))
          obtain ⟨c, hc⟩ : ∃ c, hav mt len v (sel m 1 k) = c := ⟨_, rfl⟩
          rw [hc] at HE hhl ⊢
          obtain ⟨x0, x1, x2, x3, x4, x5, x6, x7, x8⟩ := cells9 B2
          have hms : 0 ≤ mst m ∧ mst m ≤ 5 := by have := cnt_le m 1; have : mst m = (cnt m 1 : Int) / 2 + 1 := rfl; omega
          clear hc
          have fin : Hid (idx m mt len (sel m 1 (i + 1)) = if mst m ≤ (c : Int) then v else best) := Lib.hid (by rw [HEV.out]; rw [HE.out])
          by_cases hm9 : mst m ≤ (c : Int)
          · have q3 : decide (mst m ≤ (c : Int)) = true := decide_eq_true hm9
            have fin2 : Hid (idx m mt len (sel m 1 (i + 1)) = v) := Lib.hid (by rw [fin.out, if_pos hm9])
            clear hm9
            by_cases hkl : k < len
            · have r1 : decide ((k : Int) < (len : Int)) = true := decide_eq_true (by omega)
              have r2 : decide ((k : Int) < 9) = false := decide_eq_false (by omega)
              clear hend
              go_wp2_with fail
              refine (rmost_any m hm _).mono ?_
              rintro e w5 ⟨rfl, hb5⟩
              have g0 := (hb5.cell (p := ⟨b, o + i, none⟩) (Nat.lt_of_lt_of_le hbl' HBZ2.out.size)).trans f0
              have HB5 := Lib.hid (HBZ.out.trans (hb5.mono HBZ.out.size))
              clear hb5
              go_wp2
              go_roundw
              case rel => exact ⟨i + 1, by omega, by go_num, by rw [fin2.out], HB5.out⟩
              case measure => simp [intOf]; omega
            · have r1 : decide ((k : Int) < (len : Int)) = false := decide_eq_false (by omega)
              clear hend
              go_wp2_with fail
              refine (rmost_any m hm _).mono ?_
              rintro e w5 ⟨rfl, hb5⟩
              have g0 := (hb5.cell (p := ⟨b, o + i, none⟩) (Nat.lt_of_lt_of_le hbl' HBZ2.out.size)).trans f0
              have HB5 := Lib.hid (HBZ.out.trans (hb5.mono HBZ.out.size))
              clear hb5
              go_wp2
              go_roundw
              case rel => exact ⟨i + 1, by omega, by go_num, by rw [fin2.out], HB5.out⟩
              case measure => simp [intOf]; omega
          · have q3 : decide (mst m ≤ (c : Int)) = false := decide_eq_false hm9
            have fin2 : Hid (idx m mt len (sel m 1 (i + 1)) = best) := Lib.hid (by rw [fin.out, if_neg hm9])
            clear hm9
            by_cases hkl : k < len
            · have r1 : decide ((k : Int) < (len : Int)) = true := decide_eq_true (by omega)
              have r2 : decide ((k : Int) < 9) = false := decide_eq_false (by omega)
              clear hend
              go_wp2_with fail
              refine (rmost_any m hm _).mono ?_
              rintro e w5 ⟨rfl, hb5⟩
              have g0 := (hb5.cell (p := ⟨b, o + i, none⟩) (Nat.lt_of_lt_of_le hbl' HBZ2.out.size)).trans f0
              have HB5 := Lib.hid (HBZ.out.trans (hb5.mono HBZ.out.size))
              clear hb5
              go_wp2
              go_roundw
              case rel => exact ⟨i + 1, by omega, by go_num, by rw [fin2.out], HB5.out⟩
              case measure => simp [intOf]; omega
            · have r1 : decide ((k : Int) < (len : Int)) = false := decide_eq_false (by omega)
              clear hend
              go_wp2_with fail
              refine (rmost_any m hm _).mono ?_
              rintro e w5 ⟨rfl, hb5⟩
              have g0 := (hb5.cell (p := ⟨b, o + i, none⟩) (Nat.lt_of_lt_of_le hbl' HBZ2.out.size)).trans f0
              have HB5 := Lib.hid (HBZ.out.trans (hb5.mono HBZ.out.size))
              clear hb5
              go_wp2
              go_roundw
              case rel => exact ⟨i + 1, by omega, by go_num, by rw [fin2.out], HB5.out⟩
              case measure => simp [intOf]; omega
        obtain ⟨k9, kl⟩ := hend
        have r1 : decide ((k : Int) < (len : Int)) = true := decide_eq_true (by omega)
        have r2 : decide ((k : Int) < 9) = true := decide_eq_true (by omega)
        have j1 : (k : Int) < 9 := by omega
        have j2 : (k : Int) < (len : Int) := by omega
        have ck := arr_cell B2 k k9
        obtain ⟨bk1, bk2⟩ := hm k k9
        have fk := HCZ.out k kl
        by_cases hmk : m k = 1
        · have s1 : (m k == 1) = true := by simp [hmk]
          have hsk := sel_yes m 1 k k9 hmk
          by_cases hvk : v ≤ mt k
          · have s2 : decide (v ≤ mt k) = true := decide_eq_true hvk
            have HN : Hid (hav mt len v (sel m 1 (k + 1)) = hav mt len v (sel m 1 k) + 1) := Lib.hid (by rw [hsk, hav_add', if_pos ⟨kl, hvk⟩])
            clear hmk hvk hsk
            go_wp2
            go_quiet (fail)
            go_wp2
            go_roundw
            case rel => exact ⟨k + 1, by omega, by go_num, by rw [HN.out]; go_num, below_drewN HBZ.out _, below_drewN HBZ2.out _⟩
            case measure => simp [intOf]; omega
          · have s2 : decide (v ≤ mt k) = false := decide_eq_false hvk
            have HN : Hid (hav mt len v (sel m 1 (k + 1)) = hav mt len v (sel m 1 k)) := Lib.hid (by rw [hsk, hav_add', if_neg (fun e => hvk e.2)]; rfl)
            clear hmk hvk hsk
            go_wp2
            go_quiet (fail)
            go_wp2
            go_roundw
            case rel => exact ⟨k + 1, by omega, by go_num, by rw [HN.out], below_drewN HBZ.out _, below_drewN HBZ2.out _⟩
            case measure => simp [intOf]; omega
        · have s1 : (m k == 1) = false := by simp [hmk]
          have HN : Hid (sel m 1 (k + 1) = sel m 1 k) := Lib.hid (sel_no m 1 k hmk)
          clear hmk
          go_wp2
          go_quiet (fail)
          go_wp2
          go_roundw
          case rel => exact ⟨k + 1, by omega, by go_num, by rw [HN.out], below_drewN HBZ.out _, below_drewN HBZ2.out _⟩
          case measure => simp [intOf]; omega
end Go.Proofs.Ytfeaoapjgcibmaa
