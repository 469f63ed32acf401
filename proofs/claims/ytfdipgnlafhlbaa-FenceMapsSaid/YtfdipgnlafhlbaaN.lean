/- The walk of FenceMaps. -/
import Derived.Test.YtfdipgnlafhlbaaM
import Derived.Test.YtfdipgnlafhlbaaI
import Derived.Deep.CutBlock
set_option linter.unusedVariables false
namespace Go.Proofs.Ytfdipgnlafhlbaa
open Go.RowKit
theorem IsMap.below {w w' : World} {P L U g : Nat} {fr fo un : Nat → Int} (h : IsMap w P L U g fr fo un) (hb : Below w.heap.size w w') : IsMap w' P L U g fr fo un := h.turn (M := fun _ => False) (Turn.of_below hb) id id id
/-- a block of seven numbers -/
def Blk7 (w : World) (A : Nat) (a : Nat → Int) : Prop := A < w.heap.size ∧ ∀ j, j < 7 → w.cell? ⟨A, j, none⟩ = some (.int .i64 (a j))
theorem Blk7.turn {w w' : World} {A : Nat} {a : Nat → Int} {M : Nat → Prop} (h : Blk7 w A a) (ht : Turn M w w') (hm : ¬ M A) : Blk7 w' A a :=
  ⟨Nat.lt_of_lt_of_le h.1 ht.size, fun j hj => (ht.cell (p := ⟨A, j, none⟩) h.1 hm).trans (h.2 j hj)⟩
theorem Blk7.below {w w' : World} {A : Nat} {a : Nat → Int} (h : Blk7 w A a) (hb : Below w.heap.size w w') : Blk7 w' A a := h.turn (M := fun _ => False) (Turn.of_below hb) id
/-- both maps, and the act of the round -/
structure Duo (w : World) (P L U Q M V g S : Nat) (fr fo un : Nat → Int) (A : Nat) (a : Nat → Int) (wx : World) : Prop where
  m : IsMap wx P L U g fr fo un
  r : IsMap wx Q M V g fr fo un
  b : Blk7 wx A a
  w : Below w.heap.size w wx
theorem Duo.below {w wx wy : World} {P L U Q M V g S A : Nat} {fr fo un a : Nat → Int} (h : Duo w P L U Q M V g S fr fo un A a wx) (hb : Below wx.heap.size wx wy) : Duo w P L U Q M V g S fr fo un A a wy :=
  ⟨h.m.below hb, h.r.below hb, h.b.below hb, bThen h.w hb (Nat.le_refl _)⟩
/-- where the blocks lie -/
structure Lie (w : World) (P L U Q M V S : Nat) : Prop where
  p : w.heap.size ≤ P
  l : w.heap.size ≤ L
  u : w.heap.size ≤ U
  q : S ≤ Q
  m : S ≤ M
  v : S ≤ V
  ps : P < S
  ls : L < S
  us : U < S
theorem turn_m {w wx wy : World} {P L U Q M V g S A : Nat} {fr fo un fr' fo' un' a : Nat → Int} (z : Lie w P L U Q M V S) (hA : M < A ∧ V < A) (h1 : IsMap wx P L U g fr fo un) (hb : Below w.heap.size w wx)
    (hl : Left Q M V g fr' fo' un' wx wy) (hk : Blk7 wx A a) : IsMap wy P L U g fr fo un ∧ IsMap wy Q M V g fr' fo' un' ∧ Blk7 wy A a ∧ Below w.heap.size w wy := by
  have := z.ps; have := z.ls; have := z.us; have := z.m; have := z.v
  refine ⟨h1.turn hl.2 (by omega) (by omega) (by omega), hl.1, hk.turn hl.2 (by omega), hb.trans (hl.2.below hb.size ?_)⟩
  have := z.l; have := z.u
  have := z.p
  rintro k (rfl | rfl) <;> omega
theorem turn_p {w wx wy : World} {P L U Q M V g S A : Nat} {fr fo un fr' fo' un' a : Nat → Int} (z : Lie w P L U Q M V S) (hA : M < A ∧ V < A) (h1 : IsMap wx Q M V g fr fo un) (hb : Below w.heap.size w wx)
    (hl : Left P L U g fr' fo' un' wx wy) (hk : Blk7 wx A a) : IsMap wy P L U g fr' fo' un' ∧ IsMap wy Q M V g fr fo un ∧ Blk7 wy A a ∧ Below w.heap.size w wy := by
  have := z.ls; have := z.us; have := z.m; have := z.v; have := z.q
  refine ⟨hl.1, h1.turn hl.2 (by omega) (by omega) (by omega), hk.turn hl.2 (by omega), hb.trans (hl.2.below hb.size ?_)⟩
  have := z.l; have := z.u
  rintro k (rfl | rfl) <;> omega
def getR (g : Nat) (f : Nat → Int) (s : Int) : Int := if isB g s = true then f s.toNat else 0
theorem get_all (P L U g : Nat) (fr fo un : Nat → Int) (s : Int) (w : World) (h : IsMap w P L U g fr fo un) :
    Calls Try.prog 19 #[.pointer (some ⟨P, 0, none⟩), .int .i64 s] w fun e w' => e = .returned (.tuple #[.agg #[.int .i64 (getR g fr s), .int .i64 (getR g fo s)], .bool (isB g s)]) ∧ Below w.heap.size w w' :=
  (get_any P L U g fr fo un s w h).mono fun _ _ ⟨he, o, ho⟩ => ⟨he, by rw [ho]; exact (Below.refl _ _).alloc (Nat.le_refl _) _⟩
theorem rget_all (P L U g : Nat) (fr fo un : Nat → Int) (s : Int) (w : World) (h : IsMap w P L U g fr fo un) :
    Calls Try.prog 25 #[.pointer (some ⟨P, 0, none⟩), .int .i64 s] w fun e w' => e = .returned (.tuple #[.agg #[.int .i64 (getR g fr s), .int .i64 (getR g fo s)], .bool (isB g s)]) ∧ Below w.heap.size w w' :=
  (rget_any P L U g fr fo un s w h).mono fun _ _ ⟨he, o, ho⟩ => ⟨he, by rw [ho]; exact (Below.refl _ _).alloc (Nat.le_refl _) _⟩
theorem until_all (P L U g : Nat) (fr fo un : Nat → Int) (s : Int) (w : World) (h : IsMap w P L U g fr fo un) :
    Calls Try.prog 18 #[.pointer (some ⟨P, 0, none⟩), .int .i64 s] w fun e w' => e = .returned (.int .i64 (getR g un s)) ∧ w = w' := until_any P L U g fr fo un s w h
theorem runtil_all (P L U g : Nat) (fr fo un : Nat → Int) (s : Int) (w : World) (h : IsMap w P L U g fr fo un) :
    Calls Try.prog 28 #[.pointer (some ⟨P, 0, none⟩), .int .i64 s] w fun e w' => e = .returned (.int .i64 (getR g un s)) ∧ w = w' := runtil_any P L U g fr fo un s w h
/-- in the middle of a statement: the two maps may part -/
structure Duo' (w : World) (P L U Q M V g : Nat) (fr fo un fr' fo' un' : Nat → Int) (A : Nat) (a : Nat → Int) (wx : World) : Prop where
  m : IsMap wx P L U g fr fo un
  r : IsMap wx Q M V g fr' fo' un'
  b : Blk7 wx A a
  w : Below w.heap.size w wx
theorem Duo'.below {w wx wy : World} {P L U Q M V g A : Nat} {fr fo un fr' fo' un' a : Nat → Int} (h : Duo' w P L U Q M V g fr fo un fr' fo' un' A a wx) (hb : Below wx.heap.size wx wy) : Duo' w P L U Q M V g fr fo un fr' fo' un' A a wy :=
  ⟨h.m.below hb, h.r.below hb, h.b.below hb, bThen h.w hb (Nat.le_refl _)⟩
theorem duo_p {w wx wy : World} {P L U Q M V g S A : Nat} {fr fo un fr' fo' un' a : Nat → Int} (z : Lie w P L U Q M V S) (hA : M < A ∧ V < A) (h1 : IsMap wx Q M V g fr fo un) (hb : Below w.heap.size w wx)
    (hl : Left P L U g fr' fo' un' wx wy) (hk : Blk7 wx A a) : Duo' w P L U Q M V g fr' fo' un' fr fo un A a wy := by
  obtain ⟨h1, h2, h3, h4⟩ := turn_p z hA h1 hb hl hk
  exact ⟨h1, h2, h3, h4⟩
theorem duo_m {w wx wy : World} {P L U Q M V g S A : Nat} {fr fo un fr' fo' un' f1 f2 f3 a : Nat → Int} (z : Lie w P L U Q M V S) (hA : M < A ∧ V < A) (h : Duo' w P L U Q M V g fr fo un fr' fo' un' A a wx)
    (hl : Left Q M V g f1 f2 f3 wx wy) : Duo' w P L U Q M V g fr fo un f1 f2 f3 A a wy := by
  obtain ⟨h1, h2, h3, h4⟩ := turn_m z hA h.m h.w hl h.b
  exact ⟨h1, h2, h3, h4⟩
theorem sevK {w : World} {A : Nat} {a : Nat → Int} (h : Blk7 w A a) : A < w.heap.size ∧ w.cell? ⟨A, 1, none⟩ = some (.int .i64 (a 1)) ∧ w.cell? ⟨A, 5, none⟩ = some (.int .i64 (a 5)) ∧ w.cell? ⟨A, 6, none⟩ = some (.int .i64 (a 6)) :=
  ⟨h.1, h.2 1 (by decide), h.2 5 (by decide), h.2 6 (by decide)⟩
theorem Duo.drew {w wx : World} {P L U Q M V g S A : Nat} {fr fo un a : Nat → Int} (h : Duo w P L U Q M V g S fr fo un A a wx) : Duo w P L U Q M V g S fr fo un A a wx.drew := h.below (Below.refl _ _).drew
/-- a row of numbers at an address, or empty -/
def RowAt (w : World) (ao : Option Addr) (m : Nat) (z : Nat → Int) : Prop := m = 0 ∨ ∃ g, ao = some ⟨g, 0, none⟩ ∧ g < w.heap.size ∧ ∀ j, j < m → w.cell? ⟨g, j, none⟩ = some (.int .i64 (z j))
theorem RowAt.below {w w' : World} {ao : Option Addr} {m : Nat} {z : Nat → Int} (h : RowAt w ao m z) (hb : Below w.heap.size w w') : RowAt w' ao m z := by
  rcases h with h | ⟨g, h1, h2, h3⟩
  · exact .inl h
  · exact .inr ⟨g, h1, Nat.lt_of_lt_of_le h2 hb.size, fun j hj => (hb.cell (p := ⟨g, j, none⟩) h2).trans (h3 j hj)⟩
def OfSays (w : World) (l : List Int) (e : Ending) (w' : World) : Prop := ∃ ao cap, e = .returned (.slice ao l.length cap) ∧ Below w.heap.size w w' ∧ RowAt w' ao l.length (fun j => l.getD j 0)
theorem ofSays {w : World} {l : List Int} {e : Ending} {w' : World} (h : OfAt w l e w') : OfSays w l e w' := by
  obtain ⟨v, rfl, ho, hb⟩ := h
  rcases ho.2 with ⟨rfl, h0⟩ | ⟨g, cap, cur, rfl, hg, hh, _⟩
  · exact ⟨none, 0, by rw [h0], hb, .inl h0⟩
  · refine ⟨_, cap, rfl, hb, .inr ⟨g, rfl, ?_, fun j hj => ?_⟩⟩
    · have := (Array.getElem?_eq_some_iff.1 hh).1; exact this
    · have := ho.cellAt j (by omega)
      rw [this, List.getElem?_map]
      show _ = some (Value.int .i64 (l.getD j 0))
      rw [List.getD_eq_getElem?_getD, List.getElem?_eq_getElem hj]; rfl
theorem of_says (P L U g : Nat) (fr fo un : Nat → Int) (ow : Int) (w : World) (h : IsMap w P L U g fr fo un) :
    Calls Try.prog 26 #[.pointer (some ⟨P, 0, none⟩), .int .i64 ow] w (OfSays w (ofL fr fo ow g)) := (of_list P L U g fr fo un ow w h).mono fun _ _ h => ofSays h
theorem rof_says (P L U g : Nat) (fr fo un : Nat → Int) (ow : Int) (w : World) (h : IsMap w P L U g fr fo un) :
    Calls Try.prog 27 #[.pointer (some ⟨P, 0, none⟩), .int .i64 ow] w (OfSays w (ofL fr fo ow g)) := (rof_list P L U g fr fo un ow w h).mono fun _ _ h => ofSays h
theorem lastK {w8 wy : World} {A X Y : Nat} {a : Nat → Int} {p q r s : Int} (h : Blk7 w8 A a) (h1 : At2 w8 X p q) (h2 : At2 w8 Y r s) (hb : Below w8.heap.size w8 wy) : Below w8.heap.size w8 wy ∧ wy.cell? ⟨A, 1, none⟩ = some (.int .i64 (a 1)) ∧ wy.cell? ⟨X, 0, none⟩ = some (.int .i64 p) ∧ wy.cell? ⟨X, 1, none⟩ = some (.int .i64 q) ∧
    wy.cell? ⟨Y, 0, none⟩ = some (.int .i64 r) ∧ wy.cell? ⟨Y, 1, none⟩ = some (.int .i64 s) := by
  obtain ⟨_, a0, a1⟩ := h1.next hb
  obtain ⟨_, b0, b1⟩ := h2.next hb
  exact ⟨hb, (h.below hb).2 1 (by decide), a0, a1, b0, b1⟩
theorem hdB {w8 wx wy : World} {R : Prop} (hb : Below wx.heap.size wx wy) (h : Below w8.heap.size w8 wx ∧ R) : Below w8.heap.size w8 wy := h.1.trans (hb.mono h.1.size)
theorem hdL {w8 wy : World} {R : Prop} (hb : Below w8.heap.size w8 wy ∧ R) : Below w8.heap.size w8 wy := hb.1
theorem hdS {w w8 wy : World} {P L U Q M V g S A : Nat} {fr fo un a : Nat → Int} {R : Prop} (h : Duo w P L U Q M V g S fr fo un A a w8) (hb : Below w8.heap.size w8 wy ∧ R) : Duo w P L U Q M V g S fr fo un A a wy := h.below hb.1
/-- behind the switch: both maps went the same way -/
def Mid (w : World) (P L U Q M V g S A : Nat) (a : Nat → Int) (wx : World) : Prop := ∃ fr fo un, Duo w P L U Q M V g S fr fo un A a wx
set_option maxRecDepth 100000 in
set_option maxHeartbeats 4000000 in
theorem maps_core (g : Nat) (g1 : 1 ≤ g) (g8 : g ≤ 8) (b off n cap : Nat) (a : Nat → Nat → Int) (w : World) (hn : n ≤ 250) (ha : Acts w b off n a) :
    Calls Try.prog 6 #[.int .i64 (g : Int), .slice (some ⟨b, off, none⟩) n cap] w fun e w' => e = .returned (.bool true) ∧ Below w.heap.size w w' := by
  go_enter Try.func6, Try.ntmps6
  go_wp2_with (go_at_call 7; refine (known_any _).mono ?_; rintro e' w1 ⟨rfl, hb1⟩)
  refine (newmap_yes g g1 g8 _).mono ?_
  rintro e w2 ⟨P, L, U, rfl, hm, hb2, zP, zL, zU⟩
  go_wp2_with fail
  refine (rnewmap_yes g g1 g8 _).mono ?_
  rintro e w3 ⟨Q, M, V, rfl, hr, hb3, zQ, zM, zV⟩
  have z1 := hb1.size
  have z2 := hb2.size
  have z3 := hb3.size
  have z : Lie w P L U Q M V w2.heap.size := ⟨by omega, by omega, by omega, zQ, zM, zV, hm.lp, hm.ll, hm.lu⟩
  have hm3 := hm.below hb3
  have p0 : Below w.heap.size w w3 := (hb1.trans (hb2.mono z1)).trans (hb3.mono (by omega))
  have y0 : M < w3.heap.size := hr.ll
  have y1 : V < w3.heap.size := hr.lu
  clear hb1 hb2 hb3 z1 z2 zP zL zU zQ zM zV hm
  go_wp2_with fail
  go_loopg [9] n (fun gg i wr => ∃ (k : Nat) (fr fo un : Nat → Int), k + gg = n ∧ i = .int .i64 k ∧ IsMap wr P L U g fr fo un ∧ IsMap wr Q M V g fr fo un ∧ Below w.heap.size w wr)
  case atStart => exact ⟨0, zf, zf, zf, by omega, rfl, hm3, hr, p0⟩
  case round =>
    obtain ⟨k, fr, fo, un, hk, rfl, hM, hR, hb⟩ := hrel
    generalize gk = G0 at *
    have hkn : k ≤ n := by omega
    have Hk := Lib.hid hk
    clear hk hm3 hr p0 y0 y1 z3
    by_cases hlt : k < n
    · have hc : ∀ j, j < 7 → wr.cell? ⟨b, off + k * 7 + j, none⟩ = some (.int .i64 (a k j)) := fun j hj => (hb.cell (p := ⟨b, off + k * 7 + j, none⟩) ha.1).trans (ha.2 k hlt j hj).1
      have e0 := hc 0 (by decide)
      have e1 := hc 1 (by decide)
      have e2 := hc 2 (by decide)
      have e3 := hc 3 (by decide)
      have e4 := hc 4 (by decide)
      have e5 := hc 5 (by decide)
      have e6 := hc 6 (by decide)
      rw [Nat.add_zero] at e0
      clear hc
      go_upto_block 2 with (fail)
      have hD : Duo w P L U Q M V g w2.heap.size fr fo un wr.heap.size (a k) (wr.alloc (.cells #[.int .i64 (a k 0), .int .i64 (a k 1), .int .i64 (a k 2), .int .i64 (a k 3), .int .i64 (a k 4), .int .i64 (a k 5), .int .i64 (a k 6)] 46)) := by
        refine ⟨hM.alloc _, hR.alloc _, ⟨by simp, fun j hj => ?_⟩, bAl hb (Nat.le_refl _) _⟩
        rw [cellA]
        match j, hj with
        | 0, _ => rfl
        | 1, _ => rfl
        | 2, _ => rfl
        | 3, _ => rfl
        | 4, _ => rfl
        | 5, _ => rfl
        | 6, _ => rfl
      have hA : M < wr.heap.size ∧ V < wr.heap.size := ⟨hR.ll, hR.lu⟩
      clear e0 e1 e2 e3 e4 e5 e6
      have hwr := hb.size
      clear hM hR hb
      obtain ⟨A, hAA⟩ : ∃ A, A = wr.heap.size := ⟨_, rfl⟩
      rw [← hAA] at hD hA
      obtain ⟨Y, hY⟩ : ∃ Y, Y = (wr.alloc (.cells #[.int .i64 (a k 0), .int .i64 (a k 1), .int .i64 (a k 2), .int .i64 (a k 3), .int .i64 (a k 4), .int .i64 (a k 5), .int .i64 (a k 6)] 46)) := ⟨_, rfl⟩
      rw [← hY] at hD ⊢
      rw [← hAA] at ⊢
      clear hY hAA
      go_cut [11, 12, 13, 14] (fun s11 s12 s13 s14 wx => Mid w P L U Q M V g w2.heap.size A (a k) wx)
      case first =>
        obtain ⟨hm, hr, hk7, hw⟩ := hD
        have c0 := hk7.2 0 (by decide)
        have c1 := hk7.2 1 (by decide)
        have c2 := hk7.2 2 (by decide)
        have c3 := hk7.2 3 (by decide)
        have c4 := hk7.2 4 (by decide)
        have c5 := hk7.2 5 (by decide)
        have c6 := hk7.2 6 (by decide)
        by_cases h1 : a k 0 = 1
        · have q1 : (a k 0 == 1) = true := beq_iff_eq.2 h1
          clear h1
          go_wp2_with fail
          have hAY := hk7.1
          go_region_held3 (fun (w' : World) => A < w'.heap.size ∧ w'.cell? ⟨A, 1, none⟩ = some (.int .i64 (a k 1)) ∧ w'.cell? ⟨A, 5, none⟩ = some (.int .i64 (a k 5)) ∧ w'.cell? ⟨A, 6, none⟩ = some (.int .i64 (a k 6)))
            (first | exact sevK (hk7.below (Below.refl _ _).drew) | exact sevK (Duo'.b (by assumption)))
            (first
              | (go_at_call 20; refine (set_all P L U g fr fo un _ _ _ _ (hm.below (Below.refl _ _).drew)).mono ?_; rintro e w5 ⟨rfl, hL⟩; have h5 := duo_p z hA (hr.below (Below.refl _ _).drew) (hw.drew) hL (hk7.below (Below.refl _ _).drew); clear hL)
              | (go_at_call 10; refine (of_any _ _ _).mono ?_; rintro e w6 ⟨rfl, hb6⟩; have h6 := h5.below hb6; clear hb6)
              | (go_at_call 23; refine (rset_all Q M V g fr fo un _ _ _ _ h6.r).mono ?_; rintro e w7 ⟨rfl, hL⟩; have h7 := duo_m z hA h6 hL; clear hL))
          go_wp2
          go_meet
          exact ⟨_, _, _, h7.m, h7.r, h7.b, h7.w⟩
        · have q1 : (a k 0 == 1) = false := beq_eq_false_iff_ne.2 h1
          by_cases h2 : a k 0 = 2
          · have q2 : (a k 0 == 2) = true := beq_iff_eq.2 h2
            clear h1 h2
            go_wp2_with fail
            refine (lease_all P L U g fr fo un _ _ _ _ _ hm).mono ?_
            rintro e w5 ⟨rfl, hL⟩
            obtain ⟨hm5, hr5, hk5, hw5⟩ := turn_p z hA hr hw hL hk7
            clear c0 c1 c2 c3 c4 c5 c6 hL
            have c1 := hk5.2 1 (by decide)
            have c2 := hk5.2 2 (by decide)
            have c3 := hk5.2 3 (by decide)
            have c4 := hk5.2 4 (by decide)
            go_wp2_with fail
            refine (rlease_all Q M V g fr fo un _ _ _ _ _ hr5).mono ?_
            rintro e w6 ⟨rfl, hL⟩
            obtain ⟨hm6, hr6, hk6, hw6⟩ := turn_m z hA hm5 hw5 hL hk5
            clear c1 c2 c3 c4 hL
            go_wp2
            go_meet
            exact ⟨_, _, _, hm6, hr6, hk6, hw6⟩
          · have q2 : (a k 0 == 2) = false := beq_eq_false_iff_ne.2 h2
            go_wp2
            go_meet
            exact ⟨fr, fo, un, hm, hr, hk7, hw⟩
      case rest =>
        obtain ⟨fr, fo, un, hd⟩ := hcut
        have c1 := hd.b.2 1 (by decide)
        go_wp2_with fail
        refine (get_all P L U g fr fo un _ _ hd.m).mono ?_
        rintro e w5 ⟨rfl, hb5⟩
        replace hd := hd.below hb5
        clear c1 hb5
        have c1 := hd.b.2 1 (by decide)
        have hd5 := hd.below ((Below.refl _ _).alloc (Nat.le_refl _) (.cells #[.int .i64 (getR g fr (a k 1)), .int .i64 (getR g fo (a k 1))] 25))
        have k15 := At2.new w5 (getR g fr (a k 1)) (getR g fo (a k 1)) 25
        have hAw := hd.b.1
        go_wp2_with fail
        refine (rget_all Q M V g fr fo un _ _ hd5.r).mono ?_
        rintro e w6 ⟨rfl, hb6⟩
        have hd6 := (hd5.below hb6).below ((Below.refl _ _).alloc (Nat.le_refl _) (.cells #[.int .i64 (getR g fr (a k 1)), .int .i64 (getR g fo (a k 1))] 31))
        have k15' := (k15.next hb6).alloc (.cells #[.int .i64 (getR g fr (a k 1)), .int .i64 (getR g fo (a k 1))] 31)
        have k17 := At2.new w6 (getR g fr (a k 1)) (getR g fo (a k 1)) 31
        have c2 := hd6.b.2 2 (by decide)
        clear c1 hb6 hd hd5 k15 hAw
        go_wp2_with fail
        refine (of_says P L U g fr fo un _ _ hd6.m).mono ?_
        rintro e w7 ⟨ao, cap7, rfl, hb7, row7⟩
        have hd7 := hd6.below hb7
        have j15 := k15'.next hb7
        have j17 := k17.next hb7
        clear c2 hb7 hd6 k15' k17
        have c2 := hd7.b.2 2 (by decide)
        go_wp2_with fail
        refine (rof_says Q M V g fr fo un _ _ hd7.r).mono ?_
        rintro e w8 ⟨bo, cap8, rfl, hb8, row8⟩
        have hd8 := hd7.below hb8
        have l15 := j15.next hb8
        have l17 := j17.next hb8
        replace row7 := row7.below hb8
        clear c2 hb8 hd7 j15 j17
        have c1 := hd8.b.2 1 (by decide)
        have hle := ofL_le fr fo (a k 2) g
        obtain ⟨m, hmL⟩ : ∃ m, (ofL fr fo (a k 2) g).length = m := ⟨_, rfl⟩
        rw [hmL] at row7 row8 hle
        rw [hmL] at ⊢
        obtain ⟨zz, hzz⟩ : ∃ zz : Nat → Int, (fun j => (ofL fr fo (a k 2) g).getD j 0) = zz := ⟨_, rfl⟩
        rw [hzz] at row7 row8
        clear hmL hzz
        obtain ⟨n15, c150, c151⟩ := l15
        obtain ⟨n17, c170, c171⟩ := l17
        go_wp2_with fail
        have hkp := fun wy (h : Below w8.heap.size w8 wy) => lastK (X := w5.heap.size) (Y := w6.heap.size) hd8.b ⟨n15, c150, c151⟩ ⟨n17, c170, c171⟩ h
        clear c1
        go_region_held3 (fun w' => Below w8.heap.size w8 w' ∧ w'.cell? ⟨A, 1, none⟩ = some (.int .i64 (a k 1)) ∧ w'.cell? ⟨w5.heap.size, 0, none⟩ = some (.int .i64 (getR g fr (a k 1))) ∧ w'.cell? ⟨w5.heap.size, 1, none⟩ = some (.int .i64 (getR g fo (a k 1))) ∧
            w'.cell? ⟨w6.heap.size, 0, none⟩ = some (.int .i64 (getR g fr (a k 1))) ∧ w'.cell? ⟨w6.heap.size, 1, none⟩ = some (.int .i64 (getR g fo (a k 1))))
          (first | assumption | exact hkp _ (Below.refl _ _).drew | exact hkp _ (hdB (by assumption) (by assumption)))
          (first
            | (go_at_call 10; refine (of_any _ _ _).mono ?_; rintro e w9 ⟨rfl, hb9⟩)
            | (go_at_call 18; refine (until_all P L U g fr fo un _ _ (hdS hd8 (by assumption)).m).mono ?_; rintro e w' ⟨rfl, rfl⟩)
            | (go_at_call 28; refine (runtil_all Q M V g fr fo un _ _ (hdS hd8 (by assumption)).r).mono ?_; rintro e w' ⟨rfl, rfl⟩))
        go_wp2_with fail
        have hd9 := hdS hd8 (by assumption)
        have hb9 : Below w8.heap.size w8 w9 := hdL (by assumption)
        replace row7 := row7.below hb9
        replace row8 := row8.below hb9
        clear hkp hb9 hd8 c150 c151 c170 c171 n15 n17
        go_loopg [21] m (fun g2 i wx => ∃ j : Nat, j + g2 = m ∧ i = .int .i64 j ∧ Duo w P L U Q M V g w2.heap.size fr fo un A (a k) wx ∧ RowAt wx ao m zz ∧ RowAt wx bo m zz)
        case atStart => exact ⟨0, by omega, rfl, hd9, row7, row8⟩
        case round =>
          obtain ⟨j, hj, rfl, hdx, rowa, rowb⟩ := hrel
          have hjm : j ≤ m := by omega
          have Hj := Lib.hid hj
          clear hj hd9 row7 row8
          by_cases hjl : j < m
          · obtain ⟨ga, hao, _, ca⟩ := rowa.resolve_left (by omega)
            obtain ⟨gb, hbo, _, cb⟩ := rowb.resolve_left (by omega)
            have ka := ca j hjl
            have kb := cb j hjl
            clear ca cb
            have q5 : (zz j != zz j) = false := by simp
            go_wp2_with fail
            go_quiet (fail)
            go_wp2
            go_roundg (gk - 1)
            case measure => have := Hj.out; omega
            case rel => have := Hj.out; exact ⟨j + 1, by omega, by go_num, hdx.below (below_drewN (Below.refl _ _) _), rowa.below (below_drewN (Below.refl _ _) _), rowb.below (below_drewN (Below.refl _ _) _)⟩
          · have : j = m := by omega
            subst this
            go_wp2
            go_roundg (G0 - 1)
            case measure => have := Hk.out; omega
            case rel => have := Hk.out; exact ⟨k + 1, fr, fo, un, by omega, by go_num, hdx.m, hdx.r, hdx.w⟩
    · go_wp2
      go_ret
      exact ⟨rfl, hb⟩
set_option maxRecDepth 100000 in
theorem maps_bad (g : Int) (hg : g < 1 ∨ (1 ≤ g ∧ 8 < g)) (ao : Option Addr) (n cap : Nat) (hn : n ≤ 250) (w : World) :
    Calls Try.prog 6 #[.int .i64 g, .slice ao n cap] w fun e w' => e = .returned (.bool true) ∧ Below w.heap.size w w' := by
  go_enter Try.func6, Try.ntmps6
  go_wp2_with (go_at_call 7; refine (known_any _).mono ?_; rintro e' w1 ⟨rfl, hb1⟩)
  refine (newmap_no g hg _).mono ?_
  rintro e w' ⟨rfl, rfl⟩
  go_wp2_with fail
  refine (rnewmap_no g hg _).mono ?_
  rintro e w' ⟨rfl, rfl⟩
  go_wp2
  go_ret
  exact ⟨rfl, hb1⟩
set_option maxRecDepth 100000 in
theorem maps_long (g : Int) (ao : Option Addr) (n cap : Nat) (hn : n ≤ 9223372036854775807) (h : 250 < n) (w : World) :
    Calls Try.prog 6 #[.int .i64 g, .slice ao n cap] w fun e w' => e = .returned (.bool true) ∧ Below w.heap.size w w' := by
  go_enter Try.func6, Try.ntmps6
  go_wp2_with (go_at_call 7; refine (known_any _).mono ?_; rintro e' w1 ⟨rfl, hb1⟩)
  go_ret
  exact ⟨rfl, hb1⟩
set_option maxRecDepth 100000 in
theorem maps_none (g : Nat) (g1 : 1 ≤ g) (g8 : g ≤ 8) (ao : Option Addr) (cap : Nat) (w : World) :
    Calls Try.prog 6 #[.int .i64 (g : Int), .slice ao 0 cap] w fun e w' => e = .returned (.bool true) ∧ Below w.heap.size w w' := by
  go_enter Try.func6, Try.ntmps6
  go_wp2_with (go_at_call 7; refine (known_any _).mono ?_; rintro e' w1 ⟨rfl, hb1⟩)
  refine (newmap_yes g g1 g8 _).mono ?_
  rintro e w2 ⟨P, L, U, rfl, hm, hb2, zP, zL, zU⟩
  go_wp2_with fail
  refine (rnewmap_yes g g1 g8 _).mono ?_
  rintro e w3 ⟨Q, M, V, rfl, hr, hb3, zQ, zM, zV⟩
  have p0 : Below w.heap.size w w3 := (hb1.trans (hb2.mono hb1.size)).trans (hb3.mono (by have := hb1.size; have := hb2.size; omega))
  clear hb1 hb2 hb3 zP zL zU zQ zM zV hm hr
  go_wp2_with fail
  go_loopw [9] (fun i wr => i = .int .i64 0 ∧ wr = w3) (fun _ _ => 0)
  case atStart => exact ⟨rfl, rfl⟩
  case round =>
    obtain ⟨rfl, rfl⟩ := hrel
    go_wp2
    go_ret
    exact ⟨rfl, p0⟩
theorem maps (w : World) (g : Int) (wg : (Lit.int .i64 g).wf = true) (a : Option Addr) (len cap : Nat) (h : len ≤ 9223372036854775807 ∧ (len = 0 ∨ (0 < len ∧ ∃ b off f, a = some ⟨b, off, none⟩ ∧ Acts w b off len f))) :
    Calls Try.prog 6 #[.int .i64 g, .slice a len cap] w fun e w' => e = .returned (.bool true) ∧ Below w.heap.size w w' := by
  obtain ⟨hn, h⟩ := h
  by_cases hl : 250 < len
  · exact maps_long g a len cap hn hl w
  · by_cases hg : g < 1 ∨ (1 ≤ g ∧ 8 < g)
    · exact maps_bad g hg a len cap (by omega) w
    · obtain ⟨k, rfl⟩ := Int.eq_ofNat_of_zero_le (a := g) (by omega)
      rcases h with rfl | ⟨hp, b, off, f, rfl, hA⟩
      · exact maps_none k (by omega) (by omega) a cap w
      · exact maps_core k (by omega) (by omega) b off len cap f w (by omega) hA
end Go.Proofs.Ytfdipgnlafhlbaa
