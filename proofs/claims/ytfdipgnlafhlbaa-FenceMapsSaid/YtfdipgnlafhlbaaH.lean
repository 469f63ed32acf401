/- The walk of FenceLeases. -/
import Derived.Test.YtfdipgnlafhlbaaG
import Derived.LoopTactic
import Derived.Deep.LoopGhost
import Derived.Deep.DeepCutAuto
import Derived.Deep.RegionHeld3
set_option linter.unusedVariables false
namespace Go.Proofs.Ytfdipgnlafhlbaa
open Go.RowKit
/-- a row of acts: seven numbers each -/
def Acts (w : World) (b off n : Nat) (a : Nat → Nat → Int) : Prop := b < w.heap.size ∧ ∀ i, i < n → ∀ j, j < 7 → w.cell? ⟨b, off + i * 7 + j, none⟩ = some (.int .i64 (a i j)) ∧ (Lit.int .i64 (a i j)).wf = true
theorem until_yes (P L U g : Nat) (fr fo un : Nat → Int) (k : Nat) (z : Int) (w : World) (h : IsMap w P L U g fr fo un) (hk : k < g) (h3 : un k = z) :
    Calls Try.prog 18 #[.pointer (some ⟨P, 0, none⟩), .int .i64 (k : Int)] w fun e w' => e = .returned (.int .i64 z) ∧ w = w' := by
  have := until_any P L U g fr fo un k w h
  rw [isB_of hk, if_pos rfl, Int.toNat_natCast, h3] at this; exact this
theorem until_no (P L U g : Nat) (fr fo un : Nat → Int) (s : Int) (w : World) (h : IsMap w P L U g fr fo un) (hb : isB g s = false) :
    Calls Try.prog 18 #[.pointer (some ⟨P, 0, none⟩), .int .i64 s] w fun e w' => e = .returned (.int .i64 0) ∧ w = w' := by
  have := until_any P L U g fr fo un s w h
  rw [hb, if_neg (by decide)] at this; exact this
theorem until_yesq (P L U g : Nat) (fr fo un : Nat → Int) (k : Nat) (z : Int) (W : World) (h : IsMap W P L U g fr fo un) (hk : k < g) (h3 : un k = z) (n : Nat) :
    Calls Try.prog 18 #[.pointer (some ⟨P, 0, none⟩), .int .i64 (k : Int)] (W.drewN n) fun e w'' => e = .returned (.int .i64 z) ∧ ∃ m, w'' = W.drewN m :=
  (until_yes P L U g fr fo un k z _ (h.drewN n) hk h3).mono fun _ _ ⟨he, hw⟩ => ⟨he, n, hw.symm⟩
theorem until_noq (P L U g : Nat) (fr fo un : Nat → Int) (s : Int) (W : World) (h : IsMap W P L U g fr fo un) (hb : isB g s = false) (n : Nat) :
    Calls Try.prog 18 #[.pointer (some ⟨P, 0, none⟩), .int .i64 s] (W.drewN n) fun e w'' => e = .returned (.int .i64 0) ∧ ∃ m, w'' = W.drewN m :=
  (until_no P L U g fr fo un s _ (h.drewN n) hb).mono fun _ _ ⟨he, hw⟩ => ⟨he, n, hw.symm⟩
/-- what the blocks of the round's own hold, behind a call that turned the map alone -/
theorem ownCell {wr w3 : World} {L U : Nat} {O7 o1 O2 : Obj} (ht : Turn (fun b => b = L ∨ b = U) (((wr.alloc O7).alloc o1).alloc O2) w3) (hL : L < wr.heap.size) (hU : U < wr.heap.size) :
    (∀ j, w3.cell? ⟨wr.heap.size, j, none⟩ = (wr.alloc O7).cell? ⟨wr.heap.size, j, none⟩) ∧ (∀ j, w3.cell? ⟨wr.heap.size + 1 + 1, j, none⟩ = (((wr.alloc O7).alloc o1).alloc O2).cell? ⟨wr.heap.size + 1 + 1, j, none⟩) := by
  refine ⟨fun j => (ht.cell (p := ⟨wr.heap.size, j, none⟩) (by simp <;> omega) (by intro h; rcases h with h | h <;> (simp at h; omega))).trans ?_, fun j => ht.cell (p := ⟨wr.heap.size + 1 + 1, j, none⟩) (by simp) (by intro h; rcases h with h | h <;> (simp at h; omega))⟩
  rw [World.cell?_alloc_past (hn := by simp <;> omega), World.cell?_alloc_past (hn := by simp)]
theorem hfin {w wr w3 : World} {L U : Nat} {O7 o1 O2 : Obj} (ht : Turn (fun b => b = L ∨ b = U) (((wr.alloc O7).alloc o1).alloc O2) w3) (hb : Below w.heap.size w wr) (zL : w.heap.size ≤ L) (zU : w.heap.size ≤ U) : Below w.heap.size w w3 :=
  (bAl (bAl (bAl hb (Nat.le_refl _) O7) (Nat.le_refl _) o1) (Nat.le_refl _) O2).trans (ht.below (by have := hb.size; simp; omega) (by rintro k (rfl | rfl) <;> assumption))
set_option maxRecDepth 100000 in
set_option maxHeartbeats 2000000 in
theorem leases_core (b off n cap : Nat) (a : Nat → Nat → Int) (w : World) (hn : n ≤ 250) (ha : Acts w b off n a) :
    Calls Try.prog 5 #[.slice (some ⟨b, off, none⟩) n cap] w fun e w' => e = .returned (.bool true) ∧ Below w.heap.size w w' := by
  go_enter Try.func5, Try.ntmps5
  go_wp2_with (go_at_call 7; refine (known_any _).mono ?_; rintro e' w1 ⟨rfl, hb1⟩)
  refine (newmap_yes 3 (by decide) (by decide) _).mono ?_
  rintro e w2 ⟨P, L, U, rfl, hm, hb2, zP, zL, zU⟩
  have z1 := hb1.size
  have p0 : Below w.heap.size w w2 := hb1.trans (hb2.mono z1)
  replace zP : w.heap.size ≤ P := Nat.le_trans z1 zP
  replace zL : w.heap.size ≤ L := Nat.le_trans z1 zL
  replace zU : w.heap.size ≤ U := Nat.le_trans z1 zU
  clear hb1 hb2 z1
  go_wp2_with fail
  go_loopg [5] n (fun g i wr => ∃ (k : Nat) (fr fo un : Nat → Int), k + g = n ∧ i = .int .i64 k ∧ IsMap wr P L U 3 fr fo un ∧ Below w.heap.size w wr)
  case atStart => exact ⟨0, zf, zf, zf, by omega, rfl, hm, p0⟩
  case round =>
    obtain ⟨k, fr, fo, un, hk, rfl, hM, hb⟩ := hrel
    have hkn : k ≤ n := by omega
    have Hk := Lib.hid hk
    clear hk hm p0
    by_cases hlt : k < n
    · have hc : ∀ j, j < 7 → wr.cell? ⟨b, off + k * 7 + j, none⟩ = some (.int .i64 (a k j)) := fun j hj => (hb.cell (p := ⟨b, off + k * 7 + j, none⟩) ha.1).trans (ha.2 k hlt j hj).1
      have e0 := hc 0 (by decide)
      have e1 := hc 1 (by decide)
      have e2 := hc 2 (by decide)
      have e3 := hc 3 (by decide)
      have e4 := hc 4 (by decide)
      have e5 := hc 5 (by decide)
      have e6 := hc 6 (by decide)
      rw [Nat.add_zero] at e0
      clear hc
      obtain ⟨A0, hA0⟩ : ∃ x, x = a k 0 := ⟨_, rfl⟩
      obtain ⟨A1, hA1⟩ : ∃ x, x = a k 1 := ⟨_, rfl⟩
      obtain ⟨A2, hA2⟩ : ∃ x, x = a k 2 := ⟨_, rfl⟩
      obtain ⟨A3, hA3⟩ : ∃ x, x = a k 3 := ⟨_, rfl⟩
      obtain ⟨A4, hA4⟩ : ∃ x, x = a k 4 := ⟨_, rfl⟩
      obtain ⟨A5, hA5⟩ : ∃ x, x = a k 5 := ⟨_, rfl⟩
      obtain ⟨A6, hA6⟩ : ∃ x, x = a k 6 := ⟨_, rfl⟩
      rw [← hA0] at e0; rw [← hA1] at e1; rw [← hA2] at e2; rw [← hA3] at e3; rw [← hA4] at e4; rw [← hA5] at e5; rw [← hA6] at e6
      clear hA0 hA1 hA2 hA3 hA4 hA5 hA6
      cases hB : isB 3 A1 with
      | true =>
        obtain ⟨s, rfl, hs⟩ := isB_yes hB
        clear hB
        obtain ⟨x, hx⟩ : ∃ x, fr s = x := ⟨_, rfl⟩
        obtain ⟨y, hy⟩ : ∃ y, fo s = y := ⟨_, rfl⟩
        obtain ⟨z, hz⟩ : ∃ z, un s = z := ⟨_, rfl⟩
        replace hx := Lib.hid hx
        replace hy := Lib.hid hy
        replace hz := Lib.hid hz
        have hA := hM.alloc (.cells #[.int .i64 A0, .int .i64 s, .int .i64 A2, .int .i64 A3, .int .i64 A4, .int .i64 A5, .int .i64 A6] 46)
        by_cases h1 : A0 = 1
        · subst h1
          by_cases hl : A5 < x
          · go_wp2_with fail
            refine (until_yes P L U 3 fr fo un s z _ hA hs hz.out).mono ?_
            rintro e w' ⟨rfl, rfl⟩
            go_wp2_with fail
            refine (get_yes P L U 3 fr fo un s x y _ hA hs hx.out hy.out).mono ?_
            rintro e w' ⟨rfl, o1, rfl⟩
            go_wp2_with fail
            refine (set_low P L U 3 fr fo un s A5 A6 _ ((hA.alloc _).alloc _) hs x y hx.out hy.out hl).mono ?_
            rintro e w3 ⟨rfl, hM3, ht⟩
            obtain ⟨dA, dF⟩ := ownCell ht hM.ll hM.lu
            have d1 := dA 1
            have d2 := dA 2
            have d3 := dA 3
            have d4 := dA 4
            have d5 := dA 5
            have f0 := dF 0
            have f1 := dF 1
            simp [go_sem] at d1 d2 d3 d4 d5 f0 f1
            clear dA dF
            go_wp2_with fail
            go_quiet ((go_at_call 18; exact until_yesq P L U 3 fr fo un s z w3 hM3 hs hz.out _))
            go_wp2
            go_roundg (gk - 1)
            case measure => have := Hk.out; omega
            case rel => have := Hk.out; exact ⟨k + 1, fr, fo, un, by omega, by go_num, hM3.drewN _, below_drewN (hfin ht hb zL zU) _⟩
          by_cases he : A5 = x
          · subst he
            by_cases hz0 : z = 0
            · subst hz0
              have q1 : (A5 != A5) = false := by simp
              go_wp2_with fail
              refine (until_yes P L U 3 fr fo un s 0 _ hA hs hz.out).mono ?_
              rintro e w' ⟨rfl, rfl⟩
              go_wp2_with fail
              refine (get_yes P L U 3 fr fo un s A5 y _ hA hs hx.out hy.out).mono ?_
              rintro e w' ⟨rfl, o1, rfl⟩
              go_wp2_with fail
              refine (set_old P L U 3 fr fo un s A5 A6 _ ((hA.alloc _).alloc _) hs A5 y hx.out hy.out rfl).mono ?_
              rintro e w3 ⟨rfl, hM3, ht⟩
              obtain ⟨dA, dF⟩ := ownCell ht hM.ll hM.lu
              have d1 := dA 1
              have d2 := dA 2
              have d3 := dA 3
              have d4 := dA 4
              have d5 := dA 5
              have f0 := dF 0
              have f1 := dF 1
              simp [go_sem] at d1 d2 d3 d4 d5 f0 f1
              clear dA dF
              go_wp2_with fail
              go_quiet ((go_at_call 18; exact until_yesq P L U 3 _ _ _ s 0 w3 hM3 hs hz.out _))
              go_wp2
              go_roundg (gk - 1)
              case measure => have := Hk.out; omega
              case rel => have := Hk.out; exact ⟨k + 1, upd fr s A5, upd fo s A6, un, by omega, by go_num, hM3.drewN _, below_drewN (hfin ht hb zL zU) _⟩
            · have q1 : (A5 != A5) = false := by simp
              have q2 : (z == 0) = false := beq_eq_false_iff_ne.2 hz0
              go_wp2_with fail
              refine (until_yes P L U 3 fr fo un s z _ hA hs hz.out).mono ?_
              rintro e w' ⟨rfl, rfl⟩
              go_wp2_with fail
              refine (get_yes P L U 3 fr fo un s A5 y _ hA hs hx.out hy.out).mono ?_
              rintro e w' ⟨rfl, o1, rfl⟩
              go_wp2_with fail
              refine (set_old P L U 3 fr fo un s A5 A6 _ ((hA.alloc _).alloc _) hs A5 y hx.out hy.out rfl).mono ?_
              rintro e w3 ⟨rfl, hM3, ht⟩
              obtain ⟨dA, dF⟩ := ownCell ht hM.ll hM.lu
              have d1 := dA 1
              have d2 := dA 2
              have d3 := dA 3
              have d4 := dA 4
              have d5 := dA 5
              have f0 := dF 0
              have f1 := dF 1
              simp [go_sem] at d1 d2 d3 d4 d5 f0 f1
              clear dA dF
              go_wp2_with fail
              go_quiet ((go_at_call 18; exact until_yesq P L U 3 _ _ _ s z w3 hM3 hs hz.out _))
              go_wp2
              go_roundg (gk - 1)
              case measure => have := Hk.out; omega
              case rel => have := Hk.out; exact ⟨k + 1, upd fr s A5, upd fo s A6, un, by omega, by go_num, hM3.drewN _, below_drewN (hfin ht hb zL zU) _⟩
          · have q1 : (A5 != x) = true := by rw [bne_iff_ne]; exact he
            go_wp2_with fail
            refine (until_yes P L U 3 fr fo un s z _ hA hs hz.out).mono ?_
            rintro e w' ⟨rfl, rfl⟩
            go_wp2_with fail
            refine (get_yes P L U 3 fr fo un s x y _ hA hs hx.out hy.out).mono ?_
            rintro e w' ⟨rfl, o1, rfl⟩
            go_wp2_with fail
            refine (set_new P L U 3 fr fo un s A5 A6 _ ((hA.alloc _).alloc _) hs x y hx.out hy.out (by omega) he).mono ?_
            rintro e w3 ⟨rfl, hM3, ht⟩
            obtain ⟨dA, dF⟩ := ownCell ht hM.ll hM.lu
            have d1 := dA 1
            have d2 := dA 2
            have d3 := dA 3
            have d4 := dA 4
            have d5 := dA 5
            have f0 := dF 0
            have f1 := dF 1
            simp [go_sem] at d1 d2 d3 d4 d5 f0 f1
            clear dA dF
            go_wp2_with fail
            go_quiet ((go_at_call 18; exact until_yesq P L U 3 _ _ _ s 0 w3 hM3 hs (upd_same _ _ _) _))
            go_wp2
            go_roundg (gk - 1)
            case measure => have := Hk.out; omega
            case rel => have := Hk.out; exact ⟨k + 1, upd fr s A5, upd fo s A6, upd un s 0, by omega, by go_num, hM3.drewN _, below_drewN (hfin ht hb zL zU) _⟩
        by_cases h2 : A0 = 2
        · subst h2
          by_cases hg : A3 < 0 ∨ A4 < 1 ∨ 1048576 < A4 ∨ 1099511627776 < A3
          · have q1 : (z != z) = false := by simp
            go_wp2_with fail
            refine (until_yes P L U 3 fr fo un s z _ hA hs hz.out).mono ?_
            rintro e w' ⟨rfl, rfl⟩
            go_wp2_with fail
            refine (get_yes P L U 3 fr fo un s x y _ hA hs hx.out hy.out).mono ?_
            rintro e w' ⟨rfl, o1, rfl⟩
            go_wp2_with fail
            refine (lease_arg P L U 3 fr fo un s A2 A3 A4 _ ((hA.alloc _).alloc _) hs x y z hx.out hy.out hz.out hg).mono ?_
            rintro e w3 ⟨rfl, hM3, ht⟩
            obtain ⟨dA, dF⟩ := ownCell ht hM.ll hM.lu
            have d1 := dA 1
            have d2 := dA 2
            have d3 := dA 3
            have d4 := dA 4
            have d5 := dA 5
            have f0 := dF 0
            have f1 := dF 1
            simp [go_sem] at d1 d2 d3 d4 d5 f0 f1
            clear dA dF
            go_wp2_with (go_at_call 18; refine (until_yes P L U 3 _ _ _ s z _ hM3 hs hz.out).mono ?_; rintro e w' ⟨rfl, rfl⟩)
            go_roundg (gk - 1)
            case measure => have := Hk.out; omega
            case rel => have := Hk.out; exact ⟨k + 1, fr, fo, un, by omega, by go_num, hM3, hfin ht hb zL zU⟩
          have g1 : 0 ≤ A3 := by omega
          have g2 : 1 ≤ A4 := by omega
          have g3 : A4 ≤ 1048576 := by omega
          have g4 : A3 ≤ 1099511627776 := by omega
          clear hg
          by_cases hf : ¬ y = A2 ∨ x = 0
          · have q1 : (z != z) = false := by simp
            go_wp2_with fail
            refine (until_yes P L U 3 fr fo un s z _ hA hs hz.out).mono ?_
            rintro e w' ⟨rfl, rfl⟩
            go_wp2_with fail
            refine (get_yes P L U 3 fr fo un s x y _ hA hs hx.out hy.out).mono ?_
            rintro e w' ⟨rfl, o1, rfl⟩
            go_wp2_with fail
            refine (lease_fen P L U 3 fr fo un s A2 A3 A4 _ ((hA.alloc _).alloc _) hs x y z hx.out hy.out hz.out g1 g2 g3 g4 hf).mono ?_
            rintro e w3 ⟨rfl, hM3, ht⟩
            obtain ⟨dA, dF⟩ := ownCell ht hM.ll hM.lu
            have d1 := dA 1
            have d2 := dA 2
            have d3 := dA 3
            have d4 := dA 4
            have d5 := dA 5
            have f0 := dF 0
            have f1 := dF 1
            simp [go_sem] at d1 d2 d3 d4 d5 f0 f1
            clear dA dF
            go_wp2_with (go_at_call 18; refine (until_yes P L U 3 _ _ _ s z _ hM3 hs hz.out).mono ?_; rintro e w' ⟨rfl, rfl⟩)
            go_roundg (gk - 1)
            case measure => have := Hk.out; omega
            case rel => have := Hk.out; exact ⟨k + 1, fr, fo, un, by omega, by go_num, hM3, hfin ht hb zL zU⟩
          · obtain ⟨hy2, hx0⟩ : y = A2 ∧ ¬ x = 0 := by omega
            subst hy2
            obtain ⟨m, hm⟩ : ∃ m, (m = z ∧ A3 + A4 ≤ z) ∨ (m = A3 + A4 ∧ z < A3 + A4) := by
              by_cases h : z < A3 + A4
              · exact ⟨_, .inr ⟨rfl, h⟩⟩
              · exact ⟨_, .inl ⟨rfl, by omega⟩⟩
            have HM := Lib.hid hm
            have q1 : (y != y) = false := by simp
            have q2 : (x == 0) = false := beq_eq_false_iff_ne.2 hx0
            clear hf
            have q3 : ¬ m < z := by omega
            have q4 : ¬ m < A3 + A4 := by omega
            clear hm
            have q5 : (m != m) = false := by simp
            go_wp2_with fail
            refine (until_yes P L U 3 fr fo un s z _ hA hs hz.out).mono ?_
            rintro e w' ⟨rfl, rfl⟩
            go_wp2_with fail
            refine (get_yes P L U 3 fr fo un s x y _ hA hs hx.out hy.out).mono ?_
            rintro e w' ⟨rfl, o1, rfl⟩
            go_wp2_with fail
            refine (lease_yes P L U 3 fr fo un s y A3 A4 _ ((hA.alloc _).alloc _) hs x y z hx.out hy.out hz.out g1 g2 g3 g4 rfl hx0 m HM.out).mono ?_
            rintro e w3 ⟨rfl, hM3, ht⟩
            obtain ⟨dA, dF⟩ := ownCell ht hM.ll hM.lu
            have d1 := dA 1
            have d2 := dA 2
            have d3 := dA 3
            have d4 := dA 4
            have d5 := dA 5
            have f0 := dF 0
            have f1 := dF 1
            simp [go_sem] at d1 d2 d3 d4 d5 f0 f1
            clear dA dF
            go_wp2_with (go_at_call 18; refine (until_yes P L U 3 _ _ _ s m _ hM3 hs (upd_same _ _ _)).mono ?_; rintro e w' ⟨rfl, rfl⟩)
            go_roundg (gk - 1)
            case measure => have := Hk.out; omega
            case rel => have := Hk.out; exact ⟨k + 1, fr, fo, upd un s m, by omega, by go_num, hM3, hfin ht hb zL zU⟩
        · have q1 : (A0 == 1) = false := beq_eq_false_iff_ne.2 h1
          have q2 : (A0 == 2) = false := beq_eq_false_iff_ne.2 h2
          go_wp2_with fail
          refine (until_yes P L U 3 fr fo un s z _ hA hs hz.out).mono ?_
          rintro e w' ⟨rfl, rfl⟩
          go_wp2_with fail
          refine (get_yes P L U 3 fr fo un s x y _ hA hs hx.out hy.out).mono ?_
          rintro e w' ⟨rfl, o1, rfl⟩
          go_wp2
          go_roundg (gk - 1)
          case measure => have := Hk.out; omega
          case rel => have := Hk.out; exact ⟨k + 1, fr, fo, un, by omega, by go_num, (hA.alloc _).alloc _, bAl (bAl (bAl hb (Nat.le_refl _) _) (Nat.le_refl _) _) (Nat.le_refl _) _⟩
      | false =>
        have hA := hM.alloc (.cells #[.int .i64 A0, .int .i64 A1, .int .i64 A2, .int .i64 A3, .int .i64 A4, .int .i64 A5, .int .i64 A6] 46)
        by_cases h1 : A0 = 1
        · subst h1
          go_wp2_with fail
          refine (until_no P L U 3 fr fo un _ _ hA hB).mono ?_
          rintro e w' ⟨rfl, rfl⟩
          go_wp2_with fail
          refine (get_no P L U 3 fr fo un _ _ hA hB).mono ?_
          rintro e w' ⟨rfl, o1, rfl⟩
          go_wp2_with fail
          refine (set_no P L U 3 fr fo un _ A5 A6 _ ((hA.alloc _).alloc _) hB).mono ?_
          rintro e w3 ⟨rfl, hM3, ht⟩
          obtain ⟨dA, dF⟩ := ownCell ht hM.ll hM.lu
          have d1 := dA 1
          have d2 := dA 2
          have d3 := dA 3
          have d4 := dA 4
          have d5 := dA 5
          have f0 := dF 0
          have f1 := dF 1
          simp [go_sem] at d1 d2 d3 d4 d5 f0 f1
          clear dA dF
          go_wp2_with fail
          go_quiet ((go_at_call 18; exact until_noq P L U 3 fr fo un _ w3 hM3 hB _))
          go_wp2
          go_roundg (gk - 1)
          case measure => have := Hk.out; omega
          case rel => have := Hk.out; exact ⟨k + 1, fr, fo, un, by omega, by go_num, hM3.drewN _, below_drewN (hfin ht hb zL zU) _⟩
        by_cases h2 : A0 = 2
        · subst h2
          go_wp2_with fail
          refine (until_no P L U 3 fr fo un _ _ hA hB).mono ?_
          rintro e w' ⟨rfl, rfl⟩
          go_wp2_with fail
          refine (get_no P L U 3 fr fo un _ _ hA hB).mono ?_
          rintro e w' ⟨rfl, o1, rfl⟩
          go_wp2_with fail
          refine (lease_no P L U 3 fr fo un _ A2 A3 A4 _ ((hA.alloc _).alloc _) hB).mono ?_
          rintro e w3 ⟨rfl, hM3, ht⟩
          obtain ⟨dA, dF⟩ := ownCell ht hM.ll hM.lu
          have d1 := dA 1
          have d2 := dA 2
          have d3 := dA 3
          have d4 := dA 4
          have d5 := dA 5
          have f0 := dF 0
          have f1 := dF 1
          simp [go_sem] at d1 d2 d3 d4 d5 f0 f1
          clear dA dF
          go_wp2_with (go_at_call 18; refine (until_no P L U 3 fr fo un _ _ hM3 hB).mono ?_; rintro e w' ⟨rfl, rfl⟩)
          go_roundg (gk - 1)
          case measure => have := Hk.out; omega
          case rel => have := Hk.out; exact ⟨k + 1, fr, fo, un, by omega, by go_num, hM3, hfin ht hb zL zU⟩
        · have q1 : (A0 == 1) = false := beq_eq_false_iff_ne.2 h1
          have q2 : (A0 == 2) = false := beq_eq_false_iff_ne.2 h2
          go_wp2_with fail
          refine (until_no P L U 3 fr fo un _ _ hA hB).mono ?_
          rintro e w' ⟨rfl, rfl⟩
          go_wp2_with fail
          refine (get_no P L U 3 fr fo un _ _ hA hB).mono ?_
          rintro e w' ⟨rfl, o1, rfl⟩
          go_wp2
          go_roundg (gk - 1)
          case measure => have := Hk.out; omega
          case rel => have := Hk.out; exact ⟨k + 1, fr, fo, un, by omega, by go_num, (hA.alloc _).alloc _, bAl (bAl (bAl hb (Nat.le_refl _) _) (Nat.le_refl _) _) (Nat.le_refl _) _⟩
    · go_wp2
      go_ret
      exact ⟨rfl, hb⟩
theorem leases_none (ao : Option Addr) (cap : Nat) (w : World) :
    Calls Try.prog 5 #[.slice ao 0 cap] w fun e w' => e = .returned (.bool true) ∧ Below w.heap.size w w' := by
  go_enter Try.func5, Try.ntmps5
  go_wp2_with (go_at_call 7; refine (known_any _).mono ?_; rintro e' w1 ⟨rfl, hb1⟩)
  refine (newmap_yes 3 (by decide) (by decide) _).mono ?_
  rintro e w2 ⟨P, L, U, rfl, hm, hb2, zP, zL, zU⟩
  have p0 : Below w.heap.size w w2 := hb1.trans (hb2.mono hb1.size)
  clear hb1 hb2 zP zL zU hm
  go_wp2_with fail
  go_loopw [5] (fun i wr => i = .int .i64 0 ∧ wr = w2) (fun _ _ => 0)
  case atStart => exact ⟨rfl, rfl⟩
  case round =>
    obtain ⟨rfl, rfl⟩ := hrel
    go_wp2
    go_ret
    exact ⟨rfl, p0⟩
theorem leases_long (ao : Option Addr) (n cap : Nat) (hn : n ≤ 9223372036854775807) (h : 250 < n) (w : World) :
    Calls Try.prog 5 #[.slice ao n cap] w fun e w' => e = .returned (.bool true) ∧ Below w.heap.size w w' := by
  go_enter Try.func5, Try.ntmps5
  go_wp2_with (go_at_call 7; refine (known_any _).mono ?_; rintro e' w1 ⟨rfl, hb1⟩)
  go_ret
  exact ⟨rfl, hb1⟩
end Go.Proofs.Ytfdipgnlafhlbaa
