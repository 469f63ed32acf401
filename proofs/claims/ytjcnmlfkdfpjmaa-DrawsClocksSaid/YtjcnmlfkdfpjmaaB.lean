/- Sources: what each draw gives, and what it leaves. -/
import Derived.Test.YtjcnmlfkdfpjmaaK
import Derived.Test.YtjcnmlfkdfpjmaaN
import Derived.Handy
import Derived.Lib.Hide
set_option linter.unusedVariables false
set_option linter.unusedSimpArgs false
namespace Go.Proofs.Ytjcnmlfkdfpjmaa
open Go.RowKit Go.Maps
theorem ret_u64 {k : IntKind} {a b : Int} (h : a = b) : Ending.returned (.int k a) = .returned (.int k b) := by rw [h]
theorem hash_any (n : Int) (w : World) :
    Calls Try.prog 36 #[.int .i64 n] w fun e w' => e = .returned (.int .u64 (hashI n)) ∧ w = w' := by
  go_enter Try.func36, Try.ntmps36
  go_wp2
  go_ret
  exact ⟨ret_u64 (hash_form n _ rfl _ rfl _ rfl), rfl⟩
/-- a source's state behind a draw, and what is drawn -/
def up (s : Int) : Int := IntKind.u64.wrap (s + 11400714819323198485)
def nx (s : Int) : Int := hashI (up s)
theorem hashI_rng (n : Int) : 0 ≤ hashI n ∧ hashI n < 18446744073709551616 := by have := hashN_lt n; unfold hashI; omega
theorem nx_rng (s : Int) : 0 ≤ nx s ∧ nx s < 18446744073709551616 := hashI_rng _
theorem hashI_mod {a b : Int} (h : a % 18446744073709551616 = b % 18446744073709551616) : hashI a = hashI b := by unfold hashI hashN; rw [h]
theorem w64_mod (x : Int) : wrap64 x % 18446744073709551616 = x % 18446744073709551616 := by
  unfold wrap64
  omega
def Src (W : World) (B : Nat) (s n : Int) : Prop := Blk W B 61 #[.int .u64 s, .int .i64 n]
theorem new_any (W : World) (s : Int) : Calls Try.prog 9 #[.int .u64 s] W fun e W' => e = .returned (.pointer (some ⟨W.heap.size, 0, none⟩)) ∧ Src W' W.heap.size s 0 ∧ Fr (fun _ => False) W W' := by
  go_enter Try.func9, Try.ntmps9
  go_wp2
  go_ret
  exact ⟨rfl, Blk.new _ _ _, Fr.alloc _ _ _⟩
theorem count_any (W : World) (B : Nat) (s n : Int) (h : Src W B s n) : Calls Try.prog 23 #[.pointer (some ⟨B, 0, none⟩)] W fun e W' => e = .returned (.int .i64 n) ∧ W = W' := by
  have c1 := h.cell 1
  simp only [List.getElem?_toArray, List.getElem?_cons_zero, List.getElem?_cons_succ] at c1
  clear h
  go_enter Try.func23, Try.ntmps23
  go_wp2
  go_ret
  exact ⟨rfl, rfl⟩
set_option maxRecDepth 100000 in
theorem next_any (W : World) (B : Nat) (s n : Int) (h : Src W B s n) (h0 : 0 ≤ n) (h1 : n ≤ 1000000000) :
    Calls Try.prog 18 #[.pointer (some ⟨B, 0, none⟩)] W fun e W' => e = .returned (.int .u64 (nx s)) ∧ Src W' B (up s) (n + 1) ∧ Fr (fun k => k = B) W W' := by
  have c0 := h.cell 0
  have c1 := h.cell 1
  have f0 := h.frozen 0
  have f1 := h.frozen 1
  simp only [List.getElem?_toArray, List.getElem?_cons_zero, List.getElem?_cons_succ] at c0 c1
  have hw : IntKind.i64.wrap (n + 1) = n + 1 := IntWalk.i64_in _ (by omega)
  unfold nx
  obtain ⟨u, hu⟩ : ∃ u, up s = u := ⟨_, rfl⟩
  rw [hu]
  have hS : Src ((W.setCell ⟨B, 0, none⟩ (.int .u64 u)).setCell ⟨B, 1, none⟩ (.int .i64 (n + 1))) B u (n + 1) := by
    have := (Blk.set 0 (.int .u64 u) h).set 1 (.int .i64 (n + 1))
    simpa [Src] using this
  have hfr : Fr (fun k => k = B) W ((W.setCell ⟨B, 0, none⟩ (.int .u64 u)).setCell ⟨B, 1, none⟩ (.int .i64 (n + 1))) := (Fr.setCell (S := fun k => k = B) W ⟨B, 0, none⟩ _ rfl).trans (Fr.setCell (S := fun k => k = B) _ ⟨B, 1, none⟩ _ rfl)
  have HS := Lib.hid hS
  have HF := Lib.hid hfr
  have hhash : ∀ W', Calls Try.prog 36 #[.int .i64 (wrap64 u)] W' fun e w' => e = .returned (.int .u64 (hashI u)) ∧ W' = w' := fun W' => by
    have := hash_any (wrap64 u) W'
    rw [hashI_mod (a := wrap64 u) (b := u) (w64_mod u)] at this
    exact this
  have HH := Lib.hid hhash
  unfold up at hu
  clear hS hfr h hhash
  go_enter Try.func18, Try.ntmps18
  go_wp2_with (go_at_call 36; refine (HH.out _).mono ?_; rintro e w' ⟨rfl, rfl⟩)
  go_ret
  exact ⟨rfl, HS.out, HF.out⟩
/-- below a bound -/
def blw (n s : Int) : Int := if n < 1 then 0 else nx s % n
def upB (n s : Int) : Int := if n < 1 then s else up s
def ctB (n c : Int) : Int := if n < 1 then c else c + 1
set_option maxRecDepth 100000 in
theorem below_any (W : World) (B : Nat) (s c : Int) (h : Src W B s c) (h0 : 0 ≤ c) (h1 : c ≤ 1000000000) (n : Int) (hn : n ≤ 9223372036854775807) :
    Calls Try.prog 11 #[.pointer (some ⟨B, 0, none⟩), .int .i64 n] W fun e W' => e = .returned (.int .i64 (blw n s)) ∧ Src W' B (upB n s) (ctB n c) ∧ Fr (fun k => k = B) W W' := by
  unfold blw upB ctB
  by_cases hn1 : n < 1
  · have p1 : decide (n < 1) = true := decide_eq_true hn1
    rw [if_pos hn1, if_pos hn1, if_pos hn1]
    have H := Lib.hid h
    clear h
    go_enter Try.func11, Try.ntmps11
    go_wp2
    go_ret
    exact ⟨rfl, H.out, Fr.refl _ _⟩
  · have p1 : decide (n < 1) = false := decide_eq_false hn1
    rw [if_neg hn1, if_neg hn1, if_neg hn1]
    have H := Lib.hid h
    have hnx := nx_rng s
    have HC := Lib.hid (next_any W B s c h h0 h1)
    obtain ⟨r, hr⟩ : ∃ r, nx s = r := ⟨_, rfl⟩
    rw [hr] at hnx HC ⊢
    have hw : IntKind.u64.wrap n = n := IntWalk.u64_in _ (by omega)
    have hz : n ≠ 0 := by omega
    have hm : r.tmod n = r % n := Int.tmod_eq_emod_of_nonneg (by omega)
    have hm0 : 0 ≤ r % n := Int.emod_nonneg _ hz
    have hm1 : r % n < n := Int.emod_lt_of_pos _ (by omega)
    have hwi : IntKind.i64.wrap (r % n) = r % n := IntWalk.i64_in _ (by omega)
    clear h hr
    go_enter Try.func11, Try.ntmps11
    go_wp2_with (go_at_call 18; refine HC.out.mono ?_; rintro e w' ⟨rfl, hs, hf⟩; have HS := Lib.hid hs; have HF := Lib.hid hf; clear hs hf)
    go_ret
    exact ⟨rfl, HS.out, HF.out⟩
/-- between two -/
def BadB (lo hi : Int) : Prop := hi < lo ∨ lo < -1099511627776 ∨ 1099511627776 < hi ∨ 1099511627776 ≤ hi - lo
def btw (lo hi s : Int) : Int := if hi < lo ∨ lo < -1099511627776 ∨ 1099511627776 < hi ∨ 1099511627776 ≤ hi - lo then lo else lo + blw (hi - lo + 1) s
def upT (lo hi s : Int) : Int := if hi < lo ∨ lo < -1099511627776 ∨ 1099511627776 < hi ∨ 1099511627776 ≤ hi - lo then s else up s
def ctT (lo hi c : Int) : Int := if hi < lo ∨ lo < -1099511627776 ∨ 1099511627776 < hi ∨ 1099511627776 ≤ hi - lo then c else c + 1
set_option maxRecDepth 100000 in
theorem between_any (W : World) (B : Nat) (s c : Int) (h : Src W B s c) (h0 : 0 ≤ c) (h1 : c ≤ 1000000000) (lo hi : Int) :
    Calls Try.prog 10 #[.pointer (some ⟨B, 0, none⟩), .int .i64 lo, .int .i64 hi] W fun e W' => e = .returned (.int .i64 (btw lo hi s)) ∧ Src W' B (upT lo hi s) (ctT lo hi c) ∧ Fr (fun k => k = B) W W' := by
  unfold btw upT ctT
  by_cases g1 : hi < lo
  · rw [if_pos (.inl g1), if_pos (.inl g1), if_pos (.inl g1)]
    have p1 : decide (hi < lo) = true := decide_eq_true g1
    have H := Lib.hid h
    clear h
    go_enter Try.func10, Try.ntmps10
    go_wp2
    go_ret
    exact ⟨rfl, H.out, Fr.refl _ _⟩
  have p1 : decide (hi < lo) = false := decide_eq_false g1
  by_cases g2 : lo < -1099511627776
  · rw [if_pos (.inr (.inl g2)), if_pos (.inr (.inl g2)), if_pos (.inr (.inl g2))]
    have p2 : decide (lo < -1099511627776) = true := decide_eq_true g2
    have H := Lib.hid h
    clear h
    go_enter Try.func10, Try.ntmps10
    go_wp2
    go_ret
    exact ⟨rfl, H.out, Fr.refl _ _⟩
  have p2 : decide (lo < -1099511627776) = false := decide_eq_false g2
  by_cases g3 : 1099511627776 < hi
  · rw [if_pos (.inr (.inr (.inl g3))), if_pos (.inr (.inr (.inl g3))), if_pos (.inr (.inr (.inl g3)))]
    have p3 : decide (1099511627776 < hi) = true := decide_eq_true g3
    have H := Lib.hid h
    clear h
    go_enter Try.func10, Try.ntmps10
    go_wp2
    go_ret
    exact ⟨rfl, H.out, Fr.refl _ _⟩
  have p3 : decide (1099511627776 < hi) = false := decide_eq_false g3
  have hw : IntKind.i64.wrap (hi - lo) = hi - lo := IntWalk.i64_in _ (by omega)
  by_cases g4 : 1099511627776 ≤ hi - lo
  · rw [if_pos (.inr (.inr (.inr g4))), if_pos (.inr (.inr (.inr g4))), if_pos (.inr (.inr (.inr g4)))]
    have p4 : decide (1099511627776 ≤ hi - lo) = true := decide_eq_true g4
    have H := Lib.hid h
    clear h
    go_enter Try.func10, Try.ntmps10
    go_wp2
    go_ret
    exact ⟨rfl, H.out, Fr.refl _ _⟩
  have p4 : decide (1099511627776 ≤ hi - lo) = false := decide_eq_false g4
  have hno : ¬ (hi < lo ∨ lo < -1099511627776 ∨ 1099511627776 < hi ∨ 1099511627776 ≤ hi - lo) := by omega
  rw [if_neg hno, if_neg hno, if_neg hno]
  have HC := Lib.hid (below_any W B s c h h0 h1 (hi - lo + 1) (by omega))
  have hb : ¬ (hi - lo + 1 < 1) := by omega
  have hbr : 0 ≤ blw (hi - lo + 1) s ∧ blw (hi - lo + 1) s < hi - lo + 1 := by
    unfold blw
    rw [if_neg hb]
    exact ⟨Int.emod_nonneg _ (by omega), Int.emod_lt_of_pos _ (by omega)⟩
  obtain ⟨r, hr⟩ : ∃ r, blw (hi - lo + 1) s = r := ⟨_, rfl⟩
  rw [hr] at hbr HC ⊢
  unfold upB ctB at HC
  rw [if_neg hb, if_neg hb] at HC
  have hw2 : IntKind.i64.wrap (hi - lo + 1) = hi - lo + 1 := IntWalk.i64_in _ (by omega)
  have hw3 : IntKind.i64.wrap (lo + r) = lo + r := IntWalk.i64_in _ (by omega)
  clear h hr hno
  go_enter Try.func10, Try.ntmps10
  go_wp2_with (go_at_call 11; refine HC.out.mono ?_; rintro e w' ⟨rfl, hs, hf⟩; have HS := Lib.hid hs; have HF := Lib.hid hf; clear hs hf)
  go_ret
  exact ⟨rfl, HS.out, HF.out⟩
theorem blw_rng (n s : Int) : (n < 1 → blw n s = 0) ∧ (0 < n → 0 ≤ blw n s ∧ blw n s < n) := by
  unfold blw
  refine ⟨fun h => if_pos h, fun h => ?_⟩
  rw [if_neg (by omega)]
  exact ⟨Int.emod_nonneg _ (by omega), Int.emod_lt_of_pos _ (by omega)⟩
theorem btw_rng (lo hi s : Int) : lo ≤ btw lo hi s ∧ (lo ≤ hi → btw lo hi s ≤ hi) := by
  unfold btw
  split
  · omega
  · have := (blw_rng (hi - lo + 1) s).2 (by omega)
    omega
set_option maxRecDepth 100000 in
theorem twin_any (W : World) (B : Nat) (s n : Int) (h : Src W B s n) :
    Calls Try.prog 22 #[.pointer (some ⟨B, 0, none⟩)] W fun e W' => e = .returned (.pointer (some ⟨W.heap.size, 0, none⟩)) ∧ Src W' W.heap.size s n ∧ Fr (fun _ => False) W W' := by
  have c0 := h.cell 0
  have c1 := h.cell 1
  simp only [List.getElem?_toArray, List.getElem?_cons_zero, List.getElem?_cons_succ] at c0 c1
  have hl := h.lt
  clear h
  go_enter Try.func22, Try.ntmps22
  go_wp2
  go_ret
  exact ⟨rfl, Blk.new _ _ _, Fr.alloc _ _ _⟩
end Go.Proofs.Ytjcnmlfkdfpjmaa
