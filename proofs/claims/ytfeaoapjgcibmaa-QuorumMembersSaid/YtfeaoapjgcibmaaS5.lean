/- Both Decodes. -/
import Derived.Test.YtfeaoapjgcibmaaS4
import Derived.Laws.CopyRow
import Derived.Deep.Cut
import Derived.Deep.CutBlock
import Derived.Deep.DeepCutAuto
set_option linter.unusedVariables false
set_option linter.unusedSimpArgs false
namespace Go.Proofs.Ytfeaoapjgcibmaa
open Go.RowKit Go.Shelf
attribute [local go_sem] Oper.semAt_some
def dcE (f : Nat → Int) (len : Nat) : Int := if len = 9 ∧ okM f = true then 0 else 8
def dcM (f : Nat → Int) (len : Nat) : Nat → Int := if len = 9 ∧ okM f = true then f else zro
theorem dc_no {f : Nat → Int} {len : Nat} (h : ¬ (len = 9 ∧ okM f = true)) : dcE f len = 8 ∧ dcM f len = zro := by unfold dcE dcM; rw [if_neg h, if_neg h]; exact ⟨rfl, rfl⟩
theorem dc_yes {f : Nat → Int} {len : Nat} (h1 : len = 9) (h2 : okM f = true) : dcE f len = 0 ∧ dcM f len = f := by unfold dcE dcM; rw [if_pos ⟨h1, h2⟩, if_pos ⟨h1, h2⟩]; exact ⟨rfl, rfl⟩
theorem resD {fn : Func} {T : TypeId} {i j : Nat} (hres : fn.results = #[.cell i T, .tmp j]) (hT : T = 24 ∨ T = 25) (tmps : Array Value) {W : World} {B : Nat} {m : Nat → Int} {e : Value} (h4 : tmps[i]?.getD undef = .pointer (some ⟨B, 0, none⟩)) (h5 : tmps[j]?.getD undef = e) (hB : Blk W B T (arr m)) :
    (results fn tmps).run Try.prog W = .ok (.tuple #[.agg #[.int .u8 (m 0), .int .u8 (m 1), .int .u8 (m 2), .int .u8 (m 3), .int .u8 (m 4), .int .u8 (m 5), .int .u8 (m 6), .int .u8 (m 7), .int .u8 (m 8)], e]) W := resC9 hres hT tmps h4 h5 hB
def part (f : Nat → Int) (k : Nat) : Nat → Int := fun j => if j < k then f j else 0
theorem part_succ (f : Nat → Int) (k : Nat) : put (part f k) k (f k) = part f (k + 1) := by
  funext j
  unfold put part
  by_cases h : j = k
  · subst h; rw [if_pos rfl, if_pos (Nat.lt_succ_self _)]
  · rw [if_neg h]
    by_cases h2 : j < k
    · rw [if_pos h2, if_pos (by omega)]
    · rw [if_neg h2, if_neg (by omega)]
theorem part_all (f : Nat → Int) : arr (part f 9) = arr f := rfl
set_option maxRecDepth 100000 in
set_option maxHeartbeats 4000000 in
theorem rdecode_any (a : Option Addr) (len cap : Nat) (hl : len ≤ 9223372036854775807) (f : Nat → Int) (hf : ∀ j, j < len → 0 ≤ f j ∧ f j ≤ 255) (w : World) (hrow : Row w a len (fun j => .int .u8 (f j))) :
    Calls Try.prog 17 #[.slice a len cap] w fun e W' => e = .returned (.tuple #[.agg #[.int .u8 (dcM f len 0), .int .u8 (dcM f len 1), .int .u8 (dcM f len 2), .int .u8 (dcM f len 3), .int .u8 (dcM f len 4), .int .u8 (dcM f len 5), .int .u8 (dcM f len 6), .int .u8 (dcM f len 7), .int .u8 (dcM f len 8)], .int .i64 (dcE f len)]) ∧ Below w.heap.size w W' := by
  have Z0 := (Blk.new w 24 (arr zro)).alloc (.cells (arr zro) 24)
  have M0 := Blk.new (w.alloc (.cells (arr zro) 24)) 24 (arr zro)
  rw [World.size_alloc] at M0
  have q0 : Below w.heap.size w ((w.alloc (.cells (arr zro) 24)).alloc (.cells (arr zro) 24)) := ((Below.refl _ w).alloc (Nat.le_refl _) _).alloc (by simp) _
  go_enter Try.func17, Try.ntmps17
  go_upto_region 2 with (fail)
  obtain ⟨W0, hW0⟩ : ∃ W0, (w.alloc (.cells (arr zro) 24)).alloc (.cells (arr zro) 24) = W0 := ⟨_, rfl⟩
  rw [hW0] at M0 Z0 q0
  simp only [arr, zro] at hW0
  rw [hW0]
  obtain ⟨B, hB⟩ : ∃ B, w.heap.size = B := ⟨_, rfl⟩
  have hBn : w.heap.size ≤ B := by omega
  rw [hB] at M0 Z0
  rw [hB]
  clear hW0 hB
  have zf := fun o => Z0.frozen o
  obtain ⟨z0, z1, z2, z3, z4, z5, z6, z7, z8⟩ := cells9 Z0
  simp only [zro] at z0 z1 z2 z3 z4 z5 z6 z7 z8
  by_cases hlen : len = 9
  case neg =>
    have p1 : ((len : Int) != 9) = true := by simp; omega
    obtain ⟨HE0, HM0⟩ := dc_no (f := f) (len := len) (fun e => hlen e.1)
    have HE := Lib.hid HE0
    have HM := Lib.hid HM0
    obtain ⟨x0, x1, x2, x3, x4, x5, x6, x7, x8⟩ := cells9 M0
    simp only [zro] at x0 x1 x2 x3 x4 x5 x6 x7 x8
    clear hlen HE0 HM0
    go_wp2
    refine bodyPost_ret (resD Try.results17 (.inl rfl) _ rfl rfl (Z0.set9 zro)) rfl ⟨?_, below_set9 zro q0 (by omega)⟩
    rw [HM.out, HE.out]
    rfl
  subst hlen
  have p1 : (((9 : Nat) : Int) != 9) = false := by decide
  have p1' : ((9 : Int) != 9) = false := by decide
  have hrow1 := hrow.below q0
  rcases hrow1 with h0 | ⟨b, o, rfl, hbl, hc⟩
  · omega
  have hbB : b < B := by
    rcases hrow with h0 | ⟨b', o', e, hbl', _⟩
    · omega
    · cases e; omega
  have hf9 : ∀ k, k < 9 → 0 ≤ f k ∧ f k ≤ 255 := hf
  have HZ := Lib.hid Z0
  have HM0 := Lib.hid M0
  have HQ := Lib.hid q0
  have HC := Lib.hid hc
  clear hc hf
  have hbl0 := hbl
  clear z0 z1 z2 z3 z4 z5 z6 z7 z8 zf Z0 M0 q0 hrow
  go_upto_block 0 with (fail)
  go_cut [5] (fun _ wx => Blk wx (B + 1) 24 (arr f) ∧ Blk wx B 24 (arr zro) ∧ Below w.heap.size w wx)
  case first =>
    go_wp2
    go_loopw [5] (fun kv wr => ∃ k : Nat, k ≤ 9 ∧ kv = .int .i64 k ∧ Blk wr (B + 1) 24 (arr (part f k)) ∧ Blk wr B 24 (arr zro) ∧ Below w.heap.size w wr ∧ Below B W0 wr) (fun kv _ => 9 - (intOf kv).toNat)
    case atStart => exact ⟨0, by omega, rfl, HM0.out, HZ.out, HQ.out, Below.refl _ _⟩
    case round =>
      obtain ⟨k, hk, rfl, hM, hZ, hQ, hW⟩ := hrel
      by_cases hlt : k < 9
      · have i1 : (k : Int) < 9 := by omega
        have d0 := (hW.cell (p := ⟨b, o + k, none⟩) hbB).trans (HC.out k hlt)
        obtain ⟨b1, b2⟩ := hf9 k hlt
        have mq := arr_cell hM k hlt
        have mf := hM.frozen k
        have hM2 := hM.set k (.int .u8 (f k))
        rw [arr_put, part_succ] at hM2
        have HM2 := Lib.hid hM2
        have HZ2 := Lib.hid (hZ.otherAt (B' := B + 1) (by omega) k (.int .u8 (f k)))
        have HQ2 := Lib.hid (hQ.setCell (p := ⟨B + 1, k, none⟩) (by show w.heap.size ≤ B + 1; omega) (.int .u8 (f k)))
        have HW2 := Lib.hid (hW.setCell (p := ⟨B + 1, k, none⟩) (by show B ≤ B + 1; omega) (.int .u8 (f k)))
        clear hM2 hQ hW hM hZ
        go_wp2
        go_roundw
        case rel => exact ⟨k + 1, by omega, by go_num, HM2.out, HZ2.out, HQ2.out, HW2.out⟩
        case measure => simp [intOf]; omega
      · obtain rfl : k = 9 := by omega
        have HMe := Lib.hid hM
        have HZe := Lib.hid hZ
        have HQe := Lib.hid hQ
        clear hM hZ hQ hW
        go_wp2
        go_meet
        exact ⟨HMe.out, HZe.out, HQe.out⟩
  case rest =>
  obtain ⟨M1, Z1, q1⟩ := hcut
  have zf := fun o => Z1.frozen o
  obtain ⟨z0, z1, z2, z3, z4, z5, z6, z7, z8⟩ := cells9 Z1
  simp only [zro] at z0 z1 z2 z3 z4 z5 z6 z7 z8
  obtain ⟨x0, x1, x2, x3, x4, x5, x6, x7, x8⟩ := cells9 M1
  go_wp2_with fail
  refine (rright_any f hf9 _).mono ?_
  rintro e w2 ⟨rfl, hb2⟩
  have M3 := M1.below hb2
  have Z3 := Z1.below hb2
  have q3 := q1.trans (hb2.mono q1.size)
  clear x0 x1 x2 x3 x4 x5 x6 x7 x8 z0 z1 z2 z3 z4 z5 z6 z7 z8 zf
  have zf := fun o => Z3.frozen o
  obtain ⟨z0, z1, z2, z3, z4, z5, z6, z7, z8⟩ := cells9 Z3
  simp only [zro] at z0 z1 z2 z3 z4 z5 z6 z7 z8
  cases hok : okM f with
  | false =>
    obtain ⟨HE0, HM0⟩ := dc_no (f := f) (len := 9) (fun e => by rw [hok] at e; exact absurd e.2 (by decide))
    have HE := Lib.hid HE0
    have HM := Lib.hid HM0
    clear hok HE0 HM0
    go_wp2
    refine bodyPost_ret (resD Try.results17 (.inl rfl) _ rfl rfl (Z3.set9 zro)) rfl ⟨?_, below_set9 zro q3 (by omega)⟩
    rw [HM.out, HE.out]
    rfl
  | true =>
    obtain ⟨HE0, HM0⟩ := dc_yes (f := f) (len := 9) rfl hok
    have HE := Lib.hid HE0
    have HM := Lib.hid HM0
    obtain ⟨x0, x1, x2, x3, x4, x5, x6, x7, x8⟩ := cells9 M3
    clear hok HE0 HM0
    go_wp2
    refine bodyPost_ret (resD Try.results17 (.inl rfl) _ rfl rfl (Z3.set9 f)) rfl ⟨?_, below_set9 f q3 (by omega)⟩
    rw [HM.out, HE.out]
    rfl
set_option maxRecDepth 100000 in
set_option maxHeartbeats 4000000 in
theorem decode_any (a : Option Addr) (len cap : Nat) (hl : len ≤ 9223372036854775807) (f : Nat → Int) (hf : ∀ j, j < len → 0 ≤ f j ∧ f j ≤ 255) (w : World) (hrow : Row w a len (fun j => .int .u8 (f j))) :
    Calls Try.prog 16 #[.slice a len cap] w fun e W' => e = .returned (.tuple #[.agg #[.int .u8 (dcM f len 0), .int .u8 (dcM f len 1), .int .u8 (dcM f len 2), .int .u8 (dcM f len 3), .int .u8 (dcM f len 4), .int .u8 (dcM f len 5), .int .u8 (dcM f len 6), .int .u8 (dcM f len 7), .int .u8 (dcM f len 8)], .int .i64 (dcE f len)]) ∧ Below w.heap.size w W' := by
  have Z0 := (Blk.new w 25 (arr zro)).alloc (.cells (arr zro) 25)
  have M0 := Blk.new (w.alloc (.cells (arr zro) 25)) 25 (arr zro)
  rw [World.size_alloc] at M0
  have q0 : Below w.heap.size w ((w.alloc (.cells (arr zro) 25)).alloc (.cells (arr zro) 25)) := ((Below.refl _ w).alloc (Nat.le_refl _) _).alloc (by simp) _
  go_enter Try.func16, Try.ntmps16
  go_upto_region 2 with (fail)
  obtain ⟨W0, hW0⟩ : ∃ W0, (w.alloc (.cells (arr zro) 25)).alloc (.cells (arr zro) 25) = W0 := ⟨_, rfl⟩
  rw [hW0] at M0 Z0 q0
  simp only [arr, zro] at hW0
  rw [hW0]
  obtain ⟨B, hB⟩ : ∃ B, w.heap.size = B := ⟨_, rfl⟩
  have hBn : w.heap.size ≤ B := by omega
  rw [hB] at M0 Z0
  rw [hB]
  clear hW0 hB
  have zf := fun o => Z0.frozen o
  obtain ⟨z0, z1, z2, z3, z4, z5, z6, z7, z8⟩ := cells9 Z0
  simp only [zro] at z0 z1 z2 z3 z4 z5 z6 z7 z8
  by_cases hlen : len = 9
  case neg =>
    have p1 : ((len : Int) != 9) = true := by simp; omega
    obtain ⟨HE0, HM0⟩ := dc_no (f := f) (len := len) (fun e => hlen e.1)
    have HE := Lib.hid HE0
    have HM := Lib.hid HM0
    obtain ⟨x0, x1, x2, x3, x4, x5, x6, x7, x8⟩ := cells9 M0
    simp only [zro] at x0 x1 x2 x3 x4 x5 x6 x7 x8
    clear hlen HE0 HM0
    go_wp2
    refine bodyPost_ret (resD Try.results16 (.inr rfl) _ rfl rfl (Z0.set9 zro)) rfl ⟨?_, below_set9 zro q0 (by omega)⟩
    rw [HM.out, HE.out]
    rfl
  subst hlen
  have p1 : (((9 : Nat) : Int) != 9) = false := by decide
  have p1' : ((9 : Int) != 9) = false := by decide
  have hrow1 := hrow.below q0
  rcases hrow1 with h0 | ⟨b, o, rfl, hbl, hc⟩
  · omega
  have hbB : b < B := by
    rcases hrow with h0 | ⟨b', o', e, hbl', _⟩
    · omega
    · cases e; omega
  have hf9 : ∀ k, k < 9 → 0 ≤ f k ∧ f k ≤ 255 := hf
  have hcp : ∀ ty, (Builtin.copy_ #[42, 42] ty #[.slice (some ⟨B + 1, 0, none⟩) 9 9, .slice (some ⟨b, o, none⟩) 9 cap]).run Try.prog W0 = .ok (.int .i64 9) (W0.setRow (B + 1) (arr f)) := fun ty => by
    have := run_copy_row (P := Try.prog) W0 42 42 ty 5 (B + 1) 0 9 9 ⟨b, o, none⟩ 9 cap (arr zro) 25 (arr f).toList Try.underlying42 (by kernel_rfl) M0 rfl (fun j v hj => ?_) (by simp [arr, zro]) (by simp [arr, Value.oneCell'])
    · simpa [arr, zro, goInt] using this
    · have hj9 : j < 9 := by have := (List.getElem?_eq_some_iff.1 hj).1; simpa [arr] using this
      rw [off_add, hc j hj9, ← hj]
      have e := arr_at f hj9
      rw [Array.getElem?_toList, e]
  have M1 : Blk (W0.setRow (B + 1) (arr f)) (B + 1) 25 (arr f) := setRow_heap W0 (B + 1) _ _ 25 _ M0
  have Z1 : Blk (W0.setRow (B + 1) (arr f)) B 25 (arr zro) := (setRow_other W0 (B + 1) B _ (by omega)).trans Z0
  have q1 : Below w.heap.size w (W0.setRow (B + 1) (arr f)) := q0.trans ⟨rfl, rfl, rfl, by simp, fun k hk => setRow_other W0 (B + 1) k _ (by omega)⟩
  have hg := hbl
  clear hf hc hrow
  go_upto_region 5 with (fail)
  obtain ⟨W1, hW1⟩ : ∃ W1, W0.setRow (B + 1) (arr f) = W1 := ⟨_, rfl⟩
  rw [hW1] at M1 Z1 q1 ⊢
  clear hW1 z0 z1 z2 z3 z4 z5 z6 z7 z8 zf hcp
  have zf := fun o => Z1.frozen o
  obtain ⟨z0, z1, z2, z3, z4, z5, z6, z7, z8⟩ := cells9 Z1
  simp only [zro] at z0 z1 z2 z3 z4 z5 z6 z7 z8
  obtain ⟨x0, x1, x2, x3, x4, x5, x6, x7, x8⟩ := cells9 M1
  go_wp2_with fail
  refine (right_any f hf9 _).mono ?_
  rintro e w2 ⟨rfl, hb2⟩
  have M3 := M1.below hb2
  have Z3 := Z1.below hb2
  have q3 := q1.trans (hb2.mono q1.size)
  clear x0 x1 x2 x3 x4 x5 x6 x7 x8 z0 z1 z2 z3 z4 z5 z6 z7 z8 zf
  have zf := fun o => Z3.frozen o
  obtain ⟨z0, z1, z2, z3, z4, z5, z6, z7, z8⟩ := cells9 Z3
  simp only [zro] at z0 z1 z2 z3 z4 z5 z6 z7 z8
  cases hok : okM f with
  | false =>
    obtain ⟨HE0, HM0⟩ := dc_no (f := f) (len := 9) (fun e => by rw [hok] at e; exact absurd e.2 (by decide))
    have HE := Lib.hid HE0
    have HM := Lib.hid HM0
    clear hok HE0 HM0
    go_wp2
    refine bodyPost_ret (resD Try.results16 (.inr rfl) _ rfl rfl (Z3.set9 zro)) rfl ⟨?_, below_set9 zro q3 (by omega)⟩
    rw [HM.out, HE.out]
    rfl
  | true =>
    obtain ⟨HE0, HM0⟩ := dc_yes (f := f) (len := 9) rfl hok
    have HE := Lib.hid HE0
    have HM := Lib.hid HM0
    obtain ⟨x0, x1, x2, x3, x4, x5, x6, x7, x8⟩ := cells9 M3
    clear hok HE0 HM0
    go_wp2
    refine bodyPost_ret (resD Try.results16 (.inr rfl) _ rfl rfl (Z3.set9 f)) rfl ⟨?_, below_set9 f q3 (by omega)⟩
    rw [HM.out, HE.out]
    rfl
end Go.Proofs.Ytfeaoapjgcibmaa
