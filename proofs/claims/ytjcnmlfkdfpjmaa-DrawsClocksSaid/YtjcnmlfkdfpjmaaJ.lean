/- The reference's sources. -/
import Derived.Test.YtjcnmlfkdfpjmaaG
set_option linter.unusedVariables false
set_option linter.unusedSimpArgs false
namespace Go.Proofs.Ytjcnmlfkdfpjmaa
open Go.RowKit Go.Maps
theorem up_rng (s : Int) : 0 ≤ up s ∧ up s < 18446744073709551616 := by
  unfold up
  simp [IntKind.wrap, IntKind.bits, IntKind.signed]
  omega
theorem mix_any (n : Int) (h0 : 0 ≤ n) (h1 : n < 18446744073709551616) (w : World) :
    Calls Try.prog 37 #[.int .u64 n] w fun e w' => e = .returned (.int .u64 (hashI n)) ∧ w = w' := by
  have hw : IntKind.u64.wrap n = n := IntWalk.u64_in _ (by omega)
  have hf := hash_form n n hw.symm _ rfl _ rfl
  have HF := Lib.hid hf
  clear hf
  go_enter Try.func37, Try.ntmps37
  go_wp2
  go_ret
  exact ⟨ret_u64 HF.out, rfl⟩
def RSrc (W : World) (B : Nat) (s n : Int) : Prop := Blk W B 42 #[.int .u64 s, .int .i64 n]
set_option maxRecDepth 100000 in
theorem rnext_any (W : World) (B : Nat) (s n : Int) (h : RSrc W B s n) (h0 : 0 ≤ n) (h1 : n ≤ 1000000000) :
    Calls Try.prog 19 #[.pointer (some ⟨B, 0, none⟩)] W fun e W' => e = .returned (.int .u64 (nx s)) ∧ RSrc W' B (up s) (n + 1) ∧ Fr (fun k => k = B) W W' := by
  have c0 := h.cell 0
  have c1 := h.cell 1
  have f0 := h.frozen 0
  have f1 := h.frozen 1
  simp only [List.getElem?_toArray, List.getElem?_cons_zero, List.getElem?_cons_succ] at c0 c1
  have hw : IntKind.i64.wrap (n + 1) = n + 1 := IntWalk.i64_in _ (by omega)
  unfold nx
  obtain ⟨u, hu⟩ : ∃ u, up s = u := ⟨_, rfl⟩
  rw [hu]
  have hS : RSrc ((W.setCell ⟨B, 0, none⟩ (.int .u64 u)).setCell ⟨B, 1, none⟩ (.int .i64 (n + 1))) B u (n + 1) := by
    have := (Blk.set 0 (.int .u64 u) h).set 1 (.int .i64 (n + 1))
    simpa [RSrc] using this
  have hfr : Fr (fun k => k = B) W ((W.setCell ⟨B, 0, none⟩ (.int .u64 u)).setCell ⟨B, 1, none⟩ (.int .i64 (n + 1))) := (Fr.setCell (S := fun k => k = B) W ⟨B, 0, none⟩ _ rfl).trans (Fr.setCell (S := fun k => k = B) _ ⟨B, 1, none⟩ _ rfl)
  have HS := Lib.hid hS
  have HF := Lib.hid hfr
  have hur : 0 ≤ u ∧ u < 18446744073709551616 := by rw [← hu]; exact up_rng s
  have hhash : ∀ W', Calls Try.prog 37 #[.int .u64 u] W' fun e w' => e = .returned (.int .u64 (hashI u)) ∧ W' = w' := fun W' => mix_any u hur.1 hur.2 W'
  have HH := Lib.hid hhash
  unfold up at hu
  clear hS hfr h hhash
  go_enter Try.func19, Try.ntmps19
  go_wp2_with (go_at_call 37; refine (HH.out _).mono ?_; rintro e w' ⟨rfl, rfl⟩)
  go_ret
  exact ⟨rfl, HS.out, HF.out⟩
set_option maxRecDepth 100000 in
theorem rbelow_any (W : World) (B : Nat) (s c : Int) (h : RSrc W B s c) (h0 : 0 ≤ c) (h1 : c ≤ 1000000000) (n : Int) (hn : n ≤ 9223372036854775807) :
    Calls Try.prog 20 #[.pointer (some ⟨B, 0, none⟩), .int .i64 n] W fun e W' => e = .returned (.int .i64 (blw n s)) ∧ RSrc W' B (upB n s) (ctB n c) ∧ Fr (fun k => k = B) W W' := by
  unfold blw upB ctB
  by_cases hn1 : n < 1
  · have p1 : decide (n < 1) = true := decide_eq_true hn1
    rw [if_pos hn1, if_pos hn1, if_pos hn1]
    have H := Lib.hid h
    clear h
    go_enter Try.func20, Try.ntmps20
    go_wp2
    go_ret
    exact ⟨rfl, H.out, Fr.refl _ _⟩
  · have p1 : decide (n < 1) = false := decide_eq_false hn1
    rw [if_neg hn1, if_neg hn1, if_neg hn1]
    have H := Lib.hid h
    have hnx := nx_rng s
    have HC := Lib.hid (rnext_any W B s c h h0 h1)
    obtain ⟨r, hr⟩ : ∃ r, nx s = r := ⟨_, rfl⟩
    rw [hr] at hnx HC ⊢
    have hw : IntKind.u64.wrap n = n := IntWalk.u64_in _ (by omega)
    have hz : n ≠ 0 := by omega
    have hm : r.tmod n = r % n := Int.tmod_eq_emod_of_nonneg (by omega)
    have hm0 : 0 ≤ r % n := Int.emod_nonneg _ hz
    have hm1 : r % n < n := Int.emod_lt_of_pos _ (by omega)
    have hwi : IntKind.i64.wrap (r % n) = r % n := IntWalk.i64_in _ (by omega)
    clear h hr
    go_enter Try.func20, Try.ntmps20
    go_wp2_with (go_at_call 19; refine HC.out.mono ?_; rintro e w' ⟨rfl, hs, hf⟩; have HS := Lib.hid hs; have HF := Lib.hid hf; clear hs hf)
    go_ret
    exact ⟨rfl, HS.out, HF.out⟩
theorem near_any (v : Int) (w : World) : Calls Try.prog 38 #[.int .i64 v] w fun e w' => e = .returned (.bool (decide (-1099511627776 ≤ v ∧ v ≤ 1099511627776))) ∧ w = w' := by
  by_cases g1 : -1099511627776 ≤ v
  · have p1 : decide (-1099511627776 ≤ v) = true := decide_eq_true g1
    by_cases g2 : v ≤ 1099511627776
    · have p2 : decide (v ≤ 1099511627776) = true := decide_eq_true g2
      rw [decide_eq_true ⟨g1, g2⟩]
      go_enter Try.func38, Try.ntmps38
      go_wp2
      go_ret
      exact ⟨rfl, rfl⟩
    · have p2 : decide (v ≤ 1099511627776) = false := decide_eq_false g2
      rw [decide_eq_false (fun e => g2 e.2)]
      go_enter Try.func38, Try.ntmps38
      go_wp2
      go_ret
      exact ⟨rfl, rfl⟩
  · have p1 : decide (-1099511627776 ≤ v) = false := decide_eq_false g1
    rw [decide_eq_false (fun e => g1 e.1)]
    go_enter Try.func38, Try.ntmps38
    go_wp2
    go_ret
    exact ⟨rfl, rfl⟩
set_option maxRecDepth 100000 in
set_option maxHeartbeats 1000000 in
theorem rbetween_any (W : World) (B : Nat) (s c : Int) (h : RSrc W B s c) (h0 : 0 ≤ c) (h1 : c ≤ 1000000000) (lo hi : Int) :
    Calls Try.prog 21 #[.pointer (some ⟨B, 0, none⟩), .int .i64 lo, .int .i64 hi] W fun e W' => e = .returned (.int .i64 (btw lo hi s)) ∧ RSrc W' B (upT lo hi s) (ctT lo hi c) ∧ Fr (fun k => k = B) W W' := by
  unfold btw upT ctT
  have HL := Lib.hid (near_any lo)
  have HH := Lib.hid (near_any hi)
  by_cases g1 : -1099511627776 ≤ lo ∧ lo ≤ 1099511627776
  case neg =>
    have hb : hi < lo ∨ lo < -1099511627776 ∨ 1099511627776 < hi ∨ 1099511627776 ≤ hi - lo := by omega
    rw [if_pos hb, if_pos hb, if_pos hb]
    rw [decide_eq_false g1] at HL
    have H := Lib.hid h
    clear h g1 hb
    go_enter Try.func21, Try.ntmps21
    go_wp2_with fail
    refine (HL.out _).mono ?_
    rintro e w' ⟨rfl, rfl⟩
    go_wp2
    go_ret
    exact ⟨rfl, H.out, Fr.refl _ _⟩
  rw [decide_eq_true g1] at HL
  by_cases g2 : -1099511627776 ≤ hi ∧ hi ≤ 1099511627776
  case neg =>
    have hb : hi < lo ∨ lo < -1099511627776 ∨ 1099511627776 < hi ∨ 1099511627776 ≤ hi - lo := by omega
    rw [if_pos hb, if_pos hb, if_pos hb]
    rw [decide_eq_false g2] at HH
    have H := Lib.hid h
    clear h g2 hb
    go_enter Try.func21, Try.ntmps21
    go_wp2_with fail
    refine (HL.out _).mono ?_
    rintro e w' ⟨rfl, rfl⟩
    go_wp2_with fail
    refine (HH.out _).mono ?_
    rintro e w' ⟨rfl, rfl⟩
    go_wp2
    go_ret
    exact ⟨rfl, H.out, Fr.refl _ _⟩
  rw [decide_eq_true g2] at HH
  by_cases g3 : hi < lo
  · rw [if_pos (.inl g3), if_pos (.inl g3), if_pos (.inl g3)]
    have p3 : decide (hi < lo) = true := decide_eq_true g3
    have H := Lib.hid h
    clear h
    go_enter Try.func21, Try.ntmps21
    go_wp2_with fail
    refine (HL.out _).mono ?_
    rintro e w' ⟨rfl, rfl⟩
    go_wp2_with fail
    refine (HH.out _).mono ?_
    rintro e w' ⟨rfl, rfl⟩
    go_wp2
    go_ret
    exact ⟨rfl, H.out, Fr.refl _ _⟩
  have p3 : decide (hi < lo) = false := decide_eq_false g3
  have hw : IntKind.i64.wrap (hi - lo) = hi - lo := IntWalk.i64_in _ (by omega)
  by_cases g4 : 1099511627776 ≤ hi - lo
  · rw [if_pos (.inr (.inr (.inr g4))), if_pos (.inr (.inr (.inr g4))), if_pos (.inr (.inr (.inr g4)))]
    have p4 : decide (1099511627776 ≤ hi - lo) = true := decide_eq_true g4
    have H := Lib.hid h
    clear h
    go_enter Try.func21, Try.ntmps21
    go_wp2_with fail
    refine (HL.out _).mono ?_
    rintro e w' ⟨rfl, rfl⟩
    go_wp2_with fail
    refine (HH.out _).mono ?_
    rintro e w' ⟨rfl, rfl⟩
    go_wp2
    go_ret
    exact ⟨rfl, H.out, Fr.refl _ _⟩
  have p4 : decide (1099511627776 ≤ hi - lo) = false := decide_eq_false g4
  have hno : ¬ (hi < lo ∨ lo < -1099511627776 ∨ 1099511627776 < hi ∨ 1099511627776 ≤ hi - lo) := by omega
  rw [if_neg hno, if_neg hno, if_neg hno]
  have HC := Lib.hid (rbelow_any W B s c h h0 h1 (hi - lo + 1) (by omega))
  have hb : ¬ (hi - lo + 1 < 1) := by omega
  have hbr : 0 ≤ blw (hi - lo + 1) s ∧ blw (hi - lo + 1) s < hi - lo + 1 := (blw_rng _ _).2 (by omega)
  obtain ⟨r, hr⟩ : ∃ r, blw (hi - lo + 1) s = r := ⟨_, rfl⟩
  rw [hr] at hbr HC ⊢
  unfold upB ctB at HC
  rw [if_neg hb, if_neg hb] at HC
  have hw2 : IntKind.i64.wrap (hi - lo + 1) = hi - lo + 1 := IntWalk.i64_in _ (by omega)
  have hw3 : IntKind.i64.wrap (lo + r) = lo + r := IntWalk.i64_in _ (by omega)
  clear h hr hno
  go_enter Try.func21, Try.ntmps21
  go_wp2_with fail
  refine (HL.out _).mono ?_
  rintro e w' ⟨rfl, rfl⟩
  go_wp2_with fail
  refine (HH.out _).mono ?_
  rintro e w' ⟨rfl, rfl⟩
  go_wp2_with (go_at_call 20; refine HC.out.mono ?_; rintro e w' ⟨rfl, hs, hf⟩; have HS := Lib.hid hs; have HF := Lib.hid hf; clear hs hf)
  go_ret
  exact ⟨rfl, HS.out, HF.out⟩
end Go.Proofs.Ytjcnmlfkdfpjmaa
