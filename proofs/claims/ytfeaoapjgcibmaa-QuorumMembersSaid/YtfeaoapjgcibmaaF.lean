/- Members made of two rows of nodes (Of, of the program and of the reference). -/
import Derived.Test.YtfeaoapjgcibmaaE
import Derived.LoopTactic
set_option linter.unusedVariables false
set_option linter.unusedSimpArgs false
namespace Go.Proofs.Ytfeaoapjgcibmaa
open Go.RowKit Go.Shelf
attribute [local go_sem] Oper.semAt_some
def put (m : Nat → Int) (k : Nat) (r : Int) : Nat → Int := fun j => if j = k then r else m j
def bad (m : Nat → Int) (x : Int) : Bool := decide (x < 0) || decide (9 ≤ x) || decide (m x.toNat ≠ 0)
/-- the first n of a row are given a role -/
def ofN (v : Nat → Int) (r : Int) (m : Nat → Int) : Nat → Option (Nat → Int)
  | 0 => some m
  | n + 1 => match ofN v r m n with
    | none => none
    | some m' => if bad m' (v n) = true then none else some (put m' (v n).toNat r)
theorem ofN_bad {v : Nat → Int} {r : Int} {m m' : Nat → Int} {j n : Nat} (h : ofN v r m j = some m') (hb : bad m' (v j) = true) (hj : j < n) : ofN v r m n = none := by
  induction n with
  | zero => omega
  | succ n ih =>
    rw [ofN]
    by_cases e : j = n
    · subst e; rw [h]; simp only [hb, if_true]
    · rw [ih (by omega)]
theorem ofN_good {v : Nat → Int} {r : Int} {m m' : Nat → Int} {j : Nat} (h : ofN v r m j = some m') (hb : bad m' (v j) = false) : ofN v r m (j + 1) = some (put m' (v j).toNat r) := by
  rw [ofN, h]; simp [hb]
theorem ofN_bd {v : Nat → Int} {r : Int} {m : Nat → Int} (hr : 0 ≤ r ∧ r ≤ 255) (hm : ∀ k, 0 ≤ m k ∧ m k ≤ 255) : ∀ {n : Nat} {m' : Nat → Int}, ofN v r m n = some m' → ∀ k, 0 ≤ m' k ∧ m' k ≤ 255
  | 0, m', h => by rw [ofN] at h; cases h; exact hm
  | n + 1, m', h => by
    rw [ofN] at h
    cases h2 : ofN v r m n with
    | none => rw [h2] at h; simp at h
    | some m2 =>
      rw [h2] at h
      have := ofN_bd hr hm h2
      by_cases hb : bad m2 (v n) = true
      · simp [hb] at h
      · simp only [hb, if_false] at h
        cases h
        intro k
        unfold put
        split
        · exact hr
        · exact this k
def zro : Nat → Int := fun _ => 0
def ofO (v : Nat → Int) (n : Nat) (l : Nat → Int) (p : Nat) : Option (Nat → Int) :=
  match ofN v 1 zro n with
  | none => none
  | some m => match ofN l 2 m p with
    | none => none
    | some m' => if n = 0 then none else some m'
def ofM (v : Nat → Int) (n : Nat) (l : Nat → Int) (p : Nat) : Nat → Int := (ofO v n l p).getD zro
def ofE (v : Nat → Int) (n : Nat) (l : Nat → Int) (p : Nat) : Int := if (ofO v n l p).isSome then 0 else 1
theorem ofM_none {v : Nat → Int} {n : Nat} {l : Nat → Int} {p : Nat} (h : ofO v n l p = none) : ofM v n l p = zro ∧ ofE v n l p = 1 := by unfold ofM ofE; rw [h]; exact ⟨rfl, rfl⟩
theorem ofM_some {v : Nat → Int} {n : Nat} {l : Nat → Int} {p : Nat} {m : Nat → Int} (h : ofO v n l p = some m) : ofM v n l p = m ∧ ofE v n l p = 0 := by unfold ofM ofE; rw [h]; exact ⟨rfl, rfl⟩
theorem ofM_bd (v : Nat → Int) (n : Nat) (l : Nat → Int) (p : Nat) : ∀ k, 0 ≤ ofM v n l p k ∧ ofM v n l p k ≤ 255 := by
  unfold ofM ofO
  cases h : ofN v 1 zro n with
  | none => intro k; simp [zro]
  | some m =>
    have b1 := ofN_bd (by decide) (fun k => by simp [zro]) h
    simp only
    cases h2 : ofN l 2 m p with
    | none => intro k; simp [zro]
    | some m' =>
      have b2 := ofN_bd (by decide) b1 h2
      simp only
      by_cases h0 : n = 0
      · intro k; simp [h0, zro]
      · simp only [h0, if_false]; exact b2
/-- the rows, by the role: none, the voters, the learners -/
def stO (v : Nat → Int) (n : Nat) (l : Nat → Int) (p : Nat) : Nat → Option (Nat → Int)
  | 0 => some zro
  | 1 => some zro
  | 2 => ofN v 1 zro n
  | _ => match ofN v 1 zro n with
    | none => none
    | some m => ofN l 2 m p
def arr (m : Nat → Int) : Array Value := #[.int .u8 (m 0), .int .u8 (m 1), .int .u8 (m 2), .int .u8 (m 3), .int .u8 (m 4), .int .u8 (m 5), .int .u8 (m 6), .int .u8 (m 7), .int .u8 (m 8)]
theorem arr_put (m : Nat → Int) (k : Nat) (r : Int) : (arr m).setIfInBounds k (.int .u8 r) = arr (put m k r) := by
  by_cases hk : k < 9
  · have : k = 0 ∨ k = 1 ∨ k = 2 ∨ k = 3 ∨ k = 4 ∨ k = 5 ∨ k = 6 ∨ k = 7 ∨ k = 8 := by omega
    rcases this with rfl | rfl | rfl | rfl | rfl | rfl | rfl | rfl | rfl <;> rfl
  · rw [Array.setIfInBounds_eq_of_size_le (by simp [arr]; omega)]
    have e : ∀ j, j < 9 → put m k r j = m j := fun j hj => by unfold put; rw [if_neg (by omega)]
    unfold arr
    rw [e 0 (by decide), e 1 (by decide), e 2 (by decide), e 3 (by decide), e 4 (by decide), e 5 (by decide), e 6 (by decide), e 7 (by decide), e 8 (by decide)]
theorem Blk.set {W : World} {B : Nat} {t : TypeId} {cs : Array Value} (k : Nat) (v : Value) (h : Blk W B t cs) : Blk (W.setCell ⟨B, k, none⟩ v) B t (cs.setIfInBounds k v) := by
  obtain ⟨hlt, hk⟩ := Array.getElem?_eq_some_iff.1 h
  show (W.heap.modify B _)[B]? = _
  rw [Array.getElem?_eq_getElem (by rw [Array.size_modify]; exact hlt), Array.getElem_modify_self, hk]
  rfl
theorem Blk.frozen {W : World} {B : Nat} {t : TypeId} {cs : Array Value} (h : Blk W B t cs) (o : Nat) : W.frozen? ⟨B, o, none⟩ = false := by simp [World.frozen?, show W.heap[B]? = _ from h]
theorem Blk.otherAt {W : World} {B B' : Nat} {t : TypeId} {cs : Array Value} (h : Blk W B t cs) (hne : B ≠ B') (k : Nat) (u : Value) : Blk (W.setCell ⟨B', k, none⟩ u) B t cs :=
  (Below.heap_setCell _ _ _ B (fun e => hne e)).trans h
theorem Blk.set9 {W : World} {B : Nat} {t : TypeId} {m0 : Nat → Int} (m : Nat → Int) (h : Blk W B t (arr m0)) : Blk ((((((((((W.setCell ⟨B, 0, none⟩ (.int .u8 (m 0))).setCell ⟨B, 1, none⟩ (.int .u8 (m 1))).setCell ⟨B, 2, none⟩ (.int .u8 (m 2))).setCell ⟨B, 3, none⟩ (.int .u8 (m 3))).setCell ⟨B, 4, none⟩ (.int .u8 (m 4))).setCell ⟨B, 5, none⟩ (.int .u8 (m 5))).setCell ⟨B, 6, none⟩ (.int .u8 (m 6))).setCell ⟨B, 7, none⟩ (.int .u8 (m 7))).setCell ⟨B, 8, none⟩ (.int .u8 (m 8)))) B t (arr m) := by
  have := ((((((((h.set 0 (.int .u8 (m 0))).set 1 (.int .u8 (m 1))).set 2 (.int .u8 (m 2))).set 3 (.int .u8 (m 3))).set 4 (.int .u8 (m 4))).set 5 (.int .u8 (m 5))).set 6 (.int .u8 (m 6))).set 7 (.int .u8 (m 7))).set 8 (.int .u8 (m 8))
  simpa [arr] using this
theorem below_set9 {w W : World} {B n0 : Nat} (m : Nat → Int) (hb : Below n0 w W) (h : n0 ≤ B) : Below n0 w ((((((((((W.setCell ⟨B, 0, none⟩ (.int .u8 (m 0))).setCell ⟨B, 1, none⟩ (.int .u8 (m 1))).setCell ⟨B, 2, none⟩ (.int .u8 (m 2))).setCell ⟨B, 3, none⟩ (.int .u8 (m 3))).setCell ⟨B, 4, none⟩ (.int .u8 (m 4))).setCell ⟨B, 5, none⟩ (.int .u8 (m 5))).setCell ⟨B, 6, none⟩ (.int .u8 (m 6))).setCell ⟨B, 7, none⟩ (.int .u8 (m 7))).setCell ⟨B, 8, none⟩ (.int .u8 (m 8)))) :=
  ((((((((hb.setCell (p := ⟨B, 0, none⟩) h _).setCell (p := ⟨B, 1, none⟩) h _).setCell (p := ⟨B, 2, none⟩) h _).setCell (p := ⟨B, 3, none⟩) h _).setCell (p := ⟨B, 4, none⟩) h _).setCell (p := ⟨B, 5, none⟩) h _).setCell (p := ⟨B, 6, none⟩) h _).setCell (p := ⟨B, 7, none⟩) h _).setCell (p := ⟨B, 8, none⟩) h (.int .u8 (m 8))
theorem results9 {fn : Func} {T : TypeId} (hres : fn.results = #[.cell 4 T, .tmp 5]) (hT : T = 24 ∨ T = 25) (tmps : Array Value) {W : World} {B : Nat} {m : Nat → Int} {e : Value} (h4 : tmps[4]?.getD undef = .pointer (some ⟨B, 0, none⟩)) (h5 : tmps[5]?.getD undef = e) (hB : Blk W B T (arr m)) :
    (results fn tmps).run Try.prog W = .ok (.tuple #[.agg #[.int .u8 (m 0), .int .u8 (m 1), .int .u8 (m 2), .int .u8 (m 3), .int .u8 (m 4), .int .u8 (m 5), .int .u8 (m 6), .int .u8 (m 7), .int .u8 (m 8)], e]) W := by
  have y0 := hB.cell 0
  have y1 := hB.cell 1
  have y2 := hB.cell 2
  have y3 := hB.cell 3
  have y4 := hB.cell 4
  have y5 := hB.cell 5
  have y6 := hB.cell 6
  have y7 := hB.cell 7
  have y8 := hB.cell 8
  simp only [arr, List.getElem?_toArray, List.getElem?_cons_zero, List.getElem?_cons_succ] at y0 y1 y2 y3 y4 y5 y6 y7 y8
  rcases hT with rfl | rfl <;> simp [results, hres, h4, h5, go_sem, y0, y1, y2, y3, y4, y5, y6, y7, y8]
structure OfI (w : World) (a1 : Option Addr) (n1 c1 : Nat) (a2 : Option Addr) (n2 c2 : Nat) (m : Nat → Int) (W : World) : Prop where
  z : Blk W w.heap.size 25 (arr zro)
  a : Blk W (w.heap.size + 1) 25 (arr m)
  s : Blk W (w.heap.size + 1 + 1) 22 #[.slice none 0 0, .slice a1 n1 c1, .slice a2 n2 c2]
  b : Below w.heap.size w W
theorem OfI.put {w : World} {a1 : Option Addr} {n1 c1 : Nat} {a2 : Option Addr} {n2 c2 : Nat} {m : Nat → Int} {W : World} (h : OfI w a1 n1 c1 a2 n2 c2 m W) (k : Nat) (r : Int) : OfI w a1 n1 c1 a2 n2 c2 (put m k r) (W.setCell ⟨w.heap.size + 1, k, none⟩ (.int .u8 r)) :=
  ⟨h.z.otherAt (by omega) _ _, by rw [← arr_put]; exact h.a.set _ _, h.s.otherAt (by omega) _ _, h.b.setCell (p := ⟨w.heap.size + 1, k, none⟩) (by simp) _⟩
set_option maxRecDepth 100000 in
set_option maxHeartbeats 2000000 in
theorem of_any (a1 : Option Addr) (n1 c1 : Nat) (v1 : Nat → Int) (a2 : Option Addr) (n2 c2 : Nat) (v2 : Nat → Int) (hl1 : n1 ≤ 9223372036854775807) (hl2 : n2 ≤ 9223372036854775807) (w : World) (hr1 : Row w a1 n1 (fun j => .int .i64 (v1 j))) (hr2 : Row w a2 n2 (fun j => .int .i64 (v2 j))) :
    Calls Try.prog 9 #[.slice a1 n1 c1, .slice a2 n2 c2] w fun e W' => e = .returned (.tuple #[.agg #[.int .u8 (ofM v1 n1 v2 n2 0), .int .u8 (ofM v1 n1 v2 n2 1), .int .u8 (ofM v1 n1 v2 n2 2), .int .u8 (ofM v1 n1 v2 n2 3), .int .u8 (ofM v1 n1 v2 n2 4), .int .u8 (ofM v1 n1 v2 n2 5), .int .u8 (ofM v1 n1 v2 n2 6), .int .u8 (ofM v1 n1 v2 n2 7), .int .u8 (ofM v1 n1 v2 n2 8)], .int .i64 (ofE v1 n1 v2 n2)]) ∧ Below w.heap.size w W' := by
  go_enter Try.func9, Try.ntmps9
  go_wp2
  go_loopw [15] (fun i wr => ∃ k : Nat, k ≤ 3 ∧ i = .int .i64 k ∧ ∃ m, stO v1 n1 v2 n2 k = some m ∧ OfI w a1 n1 c1 a2 n2 c2 m wr) (fun i _ => 3 - (intOf i).toNat)
  case atStart =>
    refine ⟨0, by omega, rfl, zro, rfl, ?_, ?_, ?_, ?_⟩
    · have := ((Blk.new w 25 (arr zro)).alloc (.cells (arr zro) 25)).alloc (.cells #[.slice none 0 0, .slice a1 n1 c1, .slice a2 n2 c2] 22); exact this
    · have := (Blk.new (w.alloc (.cells (arr zro) 25)) 25 (arr zro)).alloc (.cells #[.slice none 0 0, .slice a1 n1 c1, .slice a2 n2 c2] 22); rw [World.size_alloc] at this; exact this
    · have := Blk.new ((w.alloc (.cells (arr zro) 25)).alloc (.cells (arr zro) 25)) 22 #[.slice none 0 0, .slice a1 n1 c1, .slice a2 n2 c2]; rw [World.size_alloc, World.size_alloc] at this; exact this
    · exact (((Below.refl _ w).alloc (Nat.le_refl _) _).alloc (by simp) _).alloc (by simp; omega) _
  case round =>
    obtain ⟨k, hk, rfl, m, hst, hI⟩ := hrel
    obtain ⟨hz, ha, hs, hb⟩ := hI
    have hI : OfI w a1 n1 c1 a2 n2 c2 m wr := ⟨hz, ha, hs, hb⟩
    by_cases hlt : k < 3
    · obtain ⟨a', n', c', v', hcell, hrow', hn', hstep, hno⟩ : ∃ (a' : Option Addr) (n' c' : Nat) (v' : Nat → Int), wr.cell? ⟨w.heap.size + 1 + 1, k, none⟩ = some (.slice a' n' c') ∧ Row w a' n' (fun j => .int .i64 (v' j)) ∧ n' ≤ 9223372036854775807 ∧ stO v1 n1 v2 n2 (k + 1) = ofN v' k m n' ∧ (ofN v' k m n' = none → ofO v1 n1 v2 n2 = none) := by
        rw [hs.cell]
        have : k = 0 ∨ k = 1 ∨ k = 2 := by omega
        rcases this with rfl | rfl | rfl
        · have e : m = zro := by simpa [stO] using hst.symm
          subst e
          exact ⟨none, 0, 0, v1, rfl, .inl rfl, by omega, rfl, fun h => by simp [ofN] at h⟩
        · have e : m = zro := by simpa [stO] using hst.symm
          subst e
          exact ⟨a1, n1, c1, v1, rfl, hr1, hl1, rfl, fun h => by unfold ofO; rw [show ofN v1 1 zro n1 = none from h]⟩
        · have e : ofN v1 1 zro n1 = some m := hst
          exact ⟨a2, n2, c2, v2, rfl, hr2, hl2, by show (match ofN v1 1 zro n1 with | none => none | some m => ofN v2 2 m n2) = _; rw [e]; rfl, fun h => by unfold ofO; rw [e]; simp only; rw [show ofN v2 2 m n2 = none from h]⟩
      have Hst := Lib.hid hst
      have Hstep := Lib.hid hstep
      have Hno := Lib.hid hno
      have hd3 : decide ((k : Int) < 3) = true := decide_eq_true (by omega)
      clear hst hstep hno hz ha hs hb
      go_wp2
      obtain ⟨wo, rfl⟩ : ∃ wo : World, wo = wr := ⟨_, rfl⟩
      go_loopw [22] (fun i wr => ∃ j : Nat, j ≤ n' ∧ i = .int .i64 j ∧ ∃ m', ofN v' k m j = some m' ∧ OfI w a1 n1 c1 a2 n2 c2 m' wr) (fun i _ => n' - (intOf i).toNat)
      case atStart => exact ⟨0, by omega, rfl, m, rfl, hI⟩
      case round =>
        obtain ⟨j, hj, rfl, m', hm', hI'⟩ := hrel
        obtain ⟨hz, ha, hs, hb⟩ := hI'
        have hI' : OfI w a1 n1 c1 a2 n2 c2 m' wr := ⟨hz, ha, hs, hb⟩
        by_cases hjl : j < n'
        · rcases hrow'.below hb with h0 | ⟨B, o, rfl, hB, hc⟩
          · omega
          · have hcj := hc j hjl
            dsimp only at hcj
            obtain ⟨x, hx⟩ : ∃ x, v' j = x := ⟨_, rfl⟩
            rw [hx] at hcj
            have Hx := Lib.hid hx
            have Hm' := Lib.hid hm'
            clear hx hm' hc
            by_cases hbad : bad m' x = true
            · obtain ⟨hM0, hE0⟩ := ofM_none (Hno.out (ofN_bad Hm'.out (by rw [Hx.out]; exact hbad) hjl))
              have HM := Lib.hid hM0
              have HE := Lib.hid hE0
              have zz0 := hz.cell 0
              have zz1 := hz.cell 1
              have zz2 := hz.cell 2
              have zz3 := hz.cell 3
              have zz4 := hz.cell 4
              have zz5 := hz.cell 5
              have zz6 := hz.cell 6
              have zz7 := hz.cell 7
              have zz8 := hz.cell 8
              simp only [arr, zro, List.getElem?_toArray, List.getElem?_cons_zero, List.getElem?_cons_succ] at zz0 zz1 zz2 zz3 zz4 zz5 zz6 zz7 zz8
              have zf := fun o => hz.frozen o
              clear hM0 hE0 hs hI' hI
              by_cases h0 : x < 0
              · have p1 : decide (x < 0) = true := decide_eq_true h0
                clear hbad
                go_wp2
                refine bodyPost_ret (results9 Try.results9 (.inr rfl) _ rfl rfl (hz.set9 zro)) rfl ⟨?_, below_set9 zro hb (Nat.le_refl _)⟩
                rw [HM.out, HE.out]
                rfl
              · by_cases h9 : 9 ≤ x
                · have p1 : decide (x < 0) = false := decide_eq_false h0
                  have p2 : decide (9 ≤ x) = true := decide_eq_true h9
                  clear hbad
                  go_wp2
                  refine bodyPost_ret (results9 Try.results9 (.inr rfl) _ rfl rfl (hz.set9 zro)) rfl ⟨?_, below_set9 zro hb (Nat.le_refl _)⟩
                  rw [HM.out, HE.out]
                  rfl
                · obtain ⟨q, rfl⟩ := Int.eq_ofNat_of_zero_le (Int.not_lt.1 h0)
                  have hmq : m' q ≠ 0 := by
                    simpa [bad, h0, h9] using hbad
                  have hq9 : (q : Int) < 9 := by omega
                  have hq8 : q < 9 := by omega
                  obtain ⟨c, hc⟩ : ∃ c, m' q = c := ⟨_, rfl⟩
                  rw [hc] at hmq
                  have cq : wr.cell? ⟨w.heap.size + 1, q, none⟩ = some (.int .u8 c) := by
                    rw [ha.cell, ← hc]
                    have : q = 0 ∨ q = 1 ∨ q = 2 ∨ q = 3 ∨ q = 4 ∨ q = 5 ∨ q = 6 ∨ q = 7 ∨ q = 8 := by omega
                    rcases this with rfl | rfl | rfl | rfl | rfl | rfl | rfl | rfl | rfl <;> rfl
                  have p1 : decide ((q : Int) < 0) = false := decide_eq_false (by omega)
                  have p2 : decide (9 ≤ (q : Int)) = false := decide_eq_false (by omega)
                  have p3 : (c != 0) = true := bne_iff_ne.2 hmq
                  clear hbad hmq hc h0 h9
                  go_wp2
                  refine bodyPost_ret (results9 Try.results9 (.inr rfl) _ rfl rfl (hz.set9 zro)) rfl ⟨?_, below_set9 zro hb (Nat.le_refl _)⟩
                  rw [HM.out, HE.out]
                  rfl
            · have hb' : ¬ x < 0 ∧ ¬ 9 ≤ x ∧ m' x.toNat = 0 := by
                simp only [bad, Bool.or_eq_true, decide_eq_true_eq, not_or, ne_eq, Classical.not_not] at hbad
                exact ⟨hbad.1.1, hbad.1.2, hbad.2⟩
              obtain ⟨h0, h9, hmq⟩ := hb'
              obtain ⟨q, rfl⟩ := Int.eq_ofNat_of_zero_le (Int.not_lt.1 h0)
              rw [Int.toNat_natCast] at hmq
              have hq9 : (q : Int) < 9 := by omega
              have hq8 : q < 9 := by omega
              have cq : wr.cell? ⟨w.heap.size + 1, q, none⟩ = some (.int .u8 0) := by
                rw [ha.cell, ← hmq]
                have : q = 0 ∨ q = 1 ∨ q = 2 ∨ q = 3 ∨ q = 4 ∨ q = 5 ∨ q = 6 ∨ q = 7 ∨ q = 8 := by omega
                rcases this with rfl | rfl | rfl | rfl | rfl | rfl | rfl | rfl | rfl <;> rfl
              have fq := ha.frozen q
              have Hgood := Lib.hid (ofN_good Hm'.out (by rw [Hx.out]; exact Bool.eq_false_iff.2 hbad))
              have Hmq := Lib.hid hmq
              have hp := hI'.put q k
              have p1 : decide ((q : Int) < 0) = false := decide_eq_false (by omega)
              have p2 : decide (9 ≤ (q : Int)) = false := decide_eq_false (by omega)
              clear hbad hmq hz ha hs h0 h9 hI' hI
              go_wp2
              go_roundw
              case rel => exact ⟨j + 1, by omega, by go_num, _, Hgood.out, by rw [Hx.out, Int.toNat_natCast]; exact hp⟩
              case measure => simp [intOf]; omega
        · obtain rfl : j = n' := by omega
          have Hm' := Lib.hid hm'
          clear hm' hz ha hs hb hI
          go_wp2
          go_roundw
          case rel => exact ⟨k + 1, by omega, by go_num, m', by rw [Hstep.out]; exact Hm'.out, hI'⟩
          case measure => simp [intOf]; omega
    · obtain rfl : k = 3 := by omega
      have hzz := hz
      have hst' : ofN v2 2 m n2 = ofN v2 2 m n2 := rfl
      obtain ⟨m1, h1, h2⟩ : ∃ m1, ofN v1 1 zro n1 = some m1 ∧ ofN v2 2 m1 n2 = some m := by
        have : (match ofN v1 1 zro n1 with | none => none | some m => ofN v2 2 m n2) = some m := hst
        cases e : ofN v1 1 zro n1 with
        | none => rw [e] at this; simp at this
        | some m1 => rw [e] at this; exact ⟨m1, rfl, this⟩
      have zz0 := hz.cell 0
      have zz1 := hz.cell 1
      have zz2 := hz.cell 2
      have zz3 := hz.cell 3
      have zz4 := hz.cell 4
      have zz5 := hz.cell 5
      have zz6 := hz.cell 6
      have zz7 := hz.cell 7
      have zz8 := hz.cell 8
      simp only [arr, zro, List.getElem?_toArray, List.getElem?_cons_zero, List.getElem?_cons_succ] at zz0 zz1 zz2 zz3 zz4 zz5 zz6 zz7 zz8
      have zf := fun o => hz.frozen o
      by_cases h0 : n1 = 0
      · obtain ⟨hM0, hE0⟩ := ofM_none (v := v1) (n := n1) (l := v2) (p := n2) (by unfold ofO; rw [h1]; simp only; rw [h2]; simp only [h0, if_true])
        have HM := Lib.hid hM0
        have HE := Lib.hid hE0
        clear hM0 hE0 hs hI hst h1 h2 hst'
        have p0 : ((n1 : Int) == 0) = true := by rw [beq_iff_eq]; omega
        clear h0
        go_wp2
        refine bodyPost_ret (results9 Try.results9 (.inr rfl) _ rfl rfl (hz.set9 zro)) rfl ⟨?_, below_set9 zro hb (Nat.le_refl _)⟩
        rw [HM.out, HE.out]
        rfl
      · obtain ⟨hM0, hE0⟩ := ofM_some (v := v1) (n := n1) (l := v2) (p := n2) (m := m) (by unfold ofO; rw [h1]; simp only; rw [h2]; simp only [h0, if_false])
        have HM := Lib.hid hM0
        have HE := Lib.hid hE0
        have ma0 := ha.cell 0
        have ma1 := ha.cell 1
        have ma2 := ha.cell 2
        have ma3 := ha.cell 3
        have ma4 := ha.cell 4
        have ma5 := ha.cell 5
        have ma6 := ha.cell 6
        have ma7 := ha.cell 7
        have ma8 := ha.cell 8
        simp only [arr, List.getElem?_toArray, List.getElem?_cons_zero, List.getElem?_cons_succ] at ma0 ma1 ma2 ma3 ma4 ma5 ma6 ma7 ma8
        clear hM0 hE0 hs hI hst h1 h2 hst'
        have p0 : ((n1 : Int) == 0) = false := by rw [beq_eq_false_iff_ne]; omega
        clear h0
        go_wp2
        refine bodyPost_ret (results9 Try.results9 (.inr rfl) _ rfl rfl (hz.set9 m)) rfl ⟨?_, below_set9 m hb (Nat.le_refl _)⟩
        rw [HM.out, HE.out]
        rfl
end Go.Proofs.Ytfeaoapjgcibmaa

