/- The walk of QuorumMeets. -/
import Derived.Test.YtfeaoapjgcibmaaQ
import Derived.LoopTactic
set_option linter.unusedVariables false
set_option linter.unusedSimpArgs false
namespace Go.Proofs.Ytfeaoapjgcibmaa
open Go.RowKit Go.Shelf
attribute [local go_sem] Oper.semAt_some
theorem row_len {w : World} {a : Option Addr} {cap len : Nat} {f : Nat → Value} (h : Row w a cap f) (hl : len ≤ cap) : Row w a len f := by
  rcases h with h | ⟨b, o, h1, h2, h3⟩
  · exact .inl (by omega)
  · exact .inr ⟨b, o, h1, h2, fun j hj => h3 j (by omega)⟩
theorem ch_bd {m : Nat → Int} (hm : ∀ k, k < 9 → 0 ≤ m k ∧ m k ≤ 255) (x r : Int) : ∀ k, k < 9 → 0 ≤ chM m x r k ∧ chM m x r k ≤ 255 := by
  intro k hk
  unfold chM
  split
  · rename_i h
    have hr : 0 ≤ r ∧ r ≤ 2 := by
      unfold chE at h
      by_cases c1 : x < 0 ∨ 9 ≤ x ∨ r < 0 ∨ 2 < r
      · rw [if_pos c1] at h; omega
      · omega
    unfold put
    split
    · omega
    · exact hm k hk
  · simp [zro]
set_option maxRecDepth 100000 in
set_option maxHeartbeats 8000000 in
theorem meets_law (w : World) (m : Nat → Int) (hm : ∀ k, k < 9 → 0 ≤ m k ∧ m k ≤ 255) (x : Int) (hx : (Lit.int .i64 x).wf = true) (r : Int) (hr : (Lit.int .i64 r).wf = true) (a : Option Addr) (la ca : Nat) (y : Nat → Bool) (hla : la ≤ ca) (hca : ca ≤ 9223372036854775807) (hrow1 : Row w a ca (fun j => .bool (y j)))
    (b : Option Addr) (lb cb : Nat) (z : Nat → Bool) (hlb : lb ≤ cb) (hcb : cb ≤ 9223372036854775807) (hrow2 : Row w b cb (fun j => .bool (z j))) :
    Calls Try.prog 6 #[.agg #[.int .u8 (m 0), .int .u8 (m 1), .int .u8 (m 2), .int .u8 (m 3), .int .u8 (m 4), .int .u8 (m 5), .int .u8 (m 6), .int .u8 (m 7), .int .u8 (m 8)], .int .i64 x, .int .i64 r, .slice a la ca, .slice b lb cb] w fun e W' => e = .returned (.bool true) ∧ Below w.heap.size w W' := by
  have hra : Row w a la (fun j => .bool (y j)) := row_len hrow1 hla
  have hrb : Row w b lb (fun j => .bool (z j)) := row_len hrow2 hlb
  clear hrow1 hrow2
  go_enter Try.func6, Try.ntmps6
  go_wp2_with fail
  refine (known_any _).mono ?_
  rintro e w1 ⟨rfl, hb1⟩
  have B1 : Blk w1 w.heap.size 25 (arr m) := (Blk.new w 25 (arr m)).below hb1
  have q1 : Below w.heap.size w w1 := ((Below.refl _ w).alloc (Nat.le_refl _) _).trans (hb1.mono (by simp))
  have hs1 := q1.size
  clear hb1
  obtain ⟨x0, x1, x2, x3, x4, x5, x6, x7, x8⟩ := cells9 B1
  go_wp2_with fail
  refine (right_any m hm _).mono ?_
  rintro e w2 ⟨rfl, hb2⟩
  have B2 : Blk w2 w.heap.size 25 (arr m) := B1.below hb2
  have q2 : Below w.heap.size w w2 := q1.trans (hb2.mono hs1)
  have hs2 := q2.size
  clear hb2 B1 x0 x1 x2 x3 x4 x5 x6 x7 x8
  cases hok : okM m with
  | false =>
    clear hok
    go_wp2
    go_ret
    exact ⟨rfl, q2⟩
  | true =>
    have Hok := Lib.hid hok
    clear hok
    by_cases h1 : la = 9
    case neg =>
      have p1 : ((la : Int) != 9) = true := by rw [bne_iff_ne]; omega
      clear h1
      go_wp2
      go_ret
      exact ⟨rfl, q2⟩
    by_cases h2 : lb = 9
    case neg =>
      have p1 : ((la : Int) != 9) = false := by rw [h1]; rfl
      have p2 : ((lb : Int) != 9) = true := by rw [bne_iff_ne]; omega
      clear h1 h2
      go_wp2
      go_ret
      exact ⟨rfl, q2⟩
    subst h1
    subst h2
    obtain ⟨x0, x1, x2, x3, x4, x5, x6, x7, x8⟩ := cells9 B2
    go_wp2_with fail
    refine (change_any m hm x r _).mono ?_
    obtain ⟨E, hE⟩ : ∃ E, chE m x r = E := ⟨_, rfl⟩
    obtain ⟨N, hN⟩ : ∃ N, chM m x r = N := ⟨_, rfl⟩
    rw [hE, hN]
    have hNb : ∀ k, k < 9 → 0 ≤ N k ∧ N k ≤ 255 := by rw [← hN]; exact ch_bd hm x r
    have hleg : E = 0 → okM N = true ∧ ((∀ k, k < 9 → m k = 1 → N k = 1) ∧ cnt N 1 ≤ cnt m 1 + 1 ∨ (∀ k, k < 9 → N k = 1 → m k = 1) ∧ cnt m 1 ≤ cnt N 1 + 1) := fun e => by
      rw [← hN]; exact ch_legal Hok.out (hE.trans e)
    clear hE hN
    rintro e w3 ⟨rfl, hb3⟩
    have B3 : Blk w3 w.heap.size 25 (arr m) := B2.below hb3
    have q3 : Below w.heap.size w w3 := q2.trans (hb3.mono hs2)
    have hs3 := q3.size
    have hl3 := B3.lt
    clear hb3 B2 x0 x1 x2 x3 x4 x5 x6 x7 x8
    obtain ⟨x0, x1, x2, x3, x4, x5, x6, x7, x8⟩ := cells9 B3
    have hmm : okM m = true ∧ ((∀ k, k < 9 → m k = 1 → m k = 1) ∧ cnt m 1 ≤ cnt m 1 + 1 ∨ (∀ k, k < 9 → m k = 1 → m k = 1) ∧ cnt m 1 ≤ cnt m 1 + 1) := ⟨Hok.out, .inl ⟨fun _ _ h => h, Nat.le_succ _⟩⟩
    have Hmm := Lib.hid hmm
    have Hleg := Lib.hid hleg
    clear hmm hleg
    by_cases hE0 : E = 0
    · subst hE0
      have Hn := Lib.hid (Hleg.out rfl)
      clear Hleg Hmm
      go_wp2_with fail
      refine (right_any N hNb _).mono ?_
      rw [Hn.out.1]
      rintro e w4 ⟨rfl, hb4⟩
      have N4 : Blk w4 w3.heap.size 25 (arr N) := (Blk.new w3 25 (arr N)).below hb4
      have M4 : Blk w4 w.heap.size 25 (arr m) := (B3.alloc _).below hb4
      have q4 : Below w.heap.size w w4 := (q3.alloc hs3 _).trans (hb4.mono (by simp; omega))
      clear hb4 x0 x1 x2 x3 x4 x5 x6 x7 x8
      obtain ⟨x0, x1, x2, x3, x4, x5, x6, x7, x8⟩ := cells9 M4
      go_wp2_with fail
      refine (votes_any m hm a 9 ca (by omega) y _ (hra.below q4)).mono ?_
      rintro e w5 ⟨rfl, hb5⟩
      have N5 := N4.below hb5
      have M5 := M4.below hb5
      have q5 : Below w.heap.size w w5 := q4.trans (hb5.mono q4.size)
      clear hb5 x0 x1 x2 x3 x4 x5 x6 x7 x8 N4 M4
      obtain ⟨x0, x1, x2, x3, x4, x5, x6, x7, x8⟩ := cells9 N5
      go_wp2_with fail
      refine (votes_any N hNb b 9 cb (by omega) z _ (hrb.below q5)).mono ?_
      rintro e w6 ⟨rfl, hb6⟩
      have N6 := N5.below hb6
      have M6 := M5.below hb6
      have q6 : Below w.heap.size w w6 := q5.trans (hb6.mono q5.size)
      have hra6 := hra.below q6
      have hrb6 := hrb.below q6
      clear hb6 x0 x1 x2 x3 x4 x5 x6 x7 x8 N5 M5
      cases hW : won m y 9 with
      | false =>
        clear hW
        go_wp2
        go_ret
        exact ⟨rfl, q6⟩
      | true =>
        cases hV : won N z 9 with
        | false =>
          clear hW hV
          go_wp2
          go_ret
          exact ⟨rfl, q6⟩
        | true =>
          have Hmeet := Lib.hid (meet hW hV Hn.out.2)
          clear hW hV
          rcases hra6 with h0 | ⟨B, o, rfl, hB, hc⟩
          · omega
          rcases hrb6 with h0 | ⟨D, u, rfl, hD, hd⟩
          · omega
          have HC := Lib.hid hc
          have HD := Lib.hid hd
          clear hc hd
          go_wp2
          go_loop [17] (fun i => ∃ k : Nat, k ≤ 9 ∧ i = .int .i64 k ∧ ∀ j, j < k → ¬ (y j = true ∧ z j = true ∧ m j = 1 ∧ N j = 1)) (fun i => 9 - (intOf i).toNat)
          case atStart => exact ⟨0, by omega, rfl, fun j hj => by omega⟩
          case round =>
            obtain ⟨k, hk, rfl, hno⟩ := hrel
            have Hno := Lib.hid hno
            clear hno
            by_cases hlt : k < 9
            · have c1 := HC.out k hlt
              have c2 := HD.out k hlt
              have c3 : w6.cell? ⟨w.heap.size, k, none⟩ = some (.int .u8 (m k)) := (M6.cell k).trans (arr_at m hlt)
              have c4 : w6.cell? ⟨w3.heap.size, k, none⟩ = some (.int .u8 (N k)) := (N6.cell k).trans (arr_at N hlt)
              try dsimp only at c1 c2
              by_cases g : y k = true ∧ z k = true ∧ m k = 1 ∧ N k = 1
              · obtain ⟨g1, g2, g3, g4⟩ := g
                rw [g1] at c1
                rw [g2] at c2
                have p4 : (m k == 1) = true := beq_iff_eq.2 g3
                have p5 : (N k == 1) = true := beq_iff_eq.2 g4
                clear g1 g2 g3 g4
                go_wp2
                go_ret
                exact ⟨rfl, q6⟩
              · have Hn2 : Hid (∀ j, j < k + 1 → ¬ (y j = true ∧ z j = true ∧ m j = 1 ∧ N j = 1)) := Lib.hid (fun j hj => by
                  by_cases e : j = k
                  · rw [e]; exact g
                  · exact Hno.out j (by omega))
                cases hy : y k with
                | false =>
                  rw [hy] at c1
                  clear g hy
                  go_wp2
                  go_round
                  case rel => exact ⟨k + 1, by omega, by go_num, Hn2.out⟩
                  case measure => simp [intOf]; omega
                | true =>
                  rw [hy] at c1
                  cases hz : z k with
                  | false =>
                    rw [hz] at c2
                    clear g hy hz
                    go_wp2
                    go_round
                    case rel => exact ⟨k + 1, by omega, by go_num, Hn2.out⟩
                    case measure => simp [intOf]; omega
                  | true =>
                    rw [hz] at c2
                    by_cases g3 : m k = 1
                    · have p4 : (m k == 1) = true := beq_iff_eq.2 g3
                      have p5 : (N k == 1) = false := beq_eq_false_iff_ne.2 (fun h => g ⟨hy, hz, g3, h⟩)
                      clear g hy hz g3
                      go_wp2
                      go_round
                      case rel => exact ⟨k + 1, by omega, by go_num, Hn2.out⟩
                      case measure => simp [intOf]; omega
                    · have p4 : (m k == 1) = false := beq_eq_false_iff_ne.2 g3
                      clear g hy hz g3
                      go_wp2
                      go_round
                      case rel => exact ⟨k + 1, by omega, by go_num, Hn2.out⟩
                      case measure => simp [intOf]; omega
            · obtain rfl : k = 9 := by omega
              obtain ⟨j, hj, hh⟩ := Hmeet.out
              exact absurd hh (Hno.out j hj)
    · have p3 : (E != 0) = true := bne_iff_ne.2 hE0
      have Hn := Hmm
      clear Hleg Hmm
      go_wp2_with fail
      refine (right_any m hm _).mono ?_
      rw [Hn.out.1]
      rintro e w4 ⟨rfl, hb4⟩
      have N4 : Blk w4 w3.heap.size 25 (arr m) := (Blk.new w3 25 (arr m)).below hb4
      have M4 : Blk w4 w.heap.size 25 (arr m) := (B3.alloc _).below hb4
      have q4 : Below w.heap.size w w4 := (q3.alloc hs3 _).trans (hb4.mono (by simp; omega))
      clear hb4 x0 x1 x2 x3 x4 x5 x6 x7 x8
      obtain ⟨x0, x1, x2, x3, x4, x5, x6, x7, x8⟩ := cells9 M4
      go_wp2_with fail
      refine (votes_any m hm a 9 ca (by omega) y _ (hra.below q4)).mono ?_
      rintro e w5 ⟨rfl, hb5⟩
      have N5 := N4.below hb5
      have M5 := M4.below hb5
      have q5 : Below w.heap.size w w5 := q4.trans (hb5.mono q4.size)
      clear hb5 x0 x1 x2 x3 x4 x5 x6 x7 x8 N4 M4
      obtain ⟨x0, x1, x2, x3, x4, x5, x6, x7, x8⟩ := cells9 N5
      go_wp2_with fail
      refine (votes_any m hm b 9 cb (by omega) z _ (hrb.below q5)).mono ?_
      rintro e w6 ⟨rfl, hb6⟩
      have N6 := N5.below hb6
      have M6 := M5.below hb6
      have q6 : Below w.heap.size w w6 := q5.trans (hb6.mono q5.size)
      have hra6 := hra.below q6
      have hrb6 := hrb.below q6
      clear hb6 x0 x1 x2 x3 x4 x5 x6 x7 x8 N5 M5
      cases hW : won m y 9 with
      | false =>
        clear hW
        go_wp2
        go_ret
        exact ⟨rfl, q6⟩
      | true =>
        cases hV : won m z 9 with
        | false =>
          clear hW hV
          go_wp2
          go_ret
          exact ⟨rfl, q6⟩
        | true =>
          have Hmeet := Lib.hid (meet hW hV Hn.out.2)
          clear hW hV
          rcases hra6 with h0 | ⟨B, o, rfl, hB, hc⟩
          · omega
          rcases hrb6 with h0 | ⟨D, u, rfl, hD, hd⟩
          · omega
          have HC := Lib.hid hc
          have HD := Lib.hid hd
          clear hc hd
          go_wp2
          go_loop [17] (fun i => ∃ k : Nat, k ≤ 9 ∧ i = .int .i64 k ∧ ∀ j, j < k → ¬ (y j = true ∧ z j = true ∧ m j = 1 ∧ m j = 1)) (fun i => 9 - (intOf i).toNat)
          case atStart => exact ⟨0, by omega, rfl, fun j hj => by omega⟩
          case round =>
            obtain ⟨k, hk, rfl, hno⟩ := hrel
            have Hno := Lib.hid hno
            clear hno
            by_cases hlt : k < 9
            · have c1 := HC.out k hlt
              have c2 := HD.out k hlt
              have c3 : w6.cell? ⟨w.heap.size, k, none⟩ = some (.int .u8 (m k)) := (M6.cell k).trans (arr_at m hlt)
              have c4 : w6.cell? ⟨w3.heap.size, k, none⟩ = some (.int .u8 (m k)) := (N6.cell k).trans (arr_at m hlt)
              try dsimp only at c1 c2
              by_cases g : y k = true ∧ z k = true ∧ m k = 1 ∧ m k = 1
              · obtain ⟨g1, g2, g3, g4⟩ := g
                rw [g1] at c1
                rw [g2] at c2
                have p4 : (m k == 1) = true := beq_iff_eq.2 g3
                have p5 : (m k == 1) = true := beq_iff_eq.2 g4
                clear g1 g2 g3 g4
                go_wp2
                go_ret
                exact ⟨rfl, q6⟩
              · have Hn2 : Hid (∀ j, j < k + 1 → ¬ (y j = true ∧ z j = true ∧ m j = 1 ∧ m j = 1)) := Lib.hid (fun j hj => by
                  by_cases e : j = k
                  · rw [e]; exact g
                  · exact Hno.out j (by omega))
                cases hy : y k with
                | false =>
                  rw [hy] at c1
                  clear g hy
                  go_wp2
                  go_round
                  case rel => exact ⟨k + 1, by omega, by go_num, Hn2.out⟩
                  case measure => simp [intOf]; omega
                | true =>
                  rw [hy] at c1
                  cases hz : z k with
                  | false =>
                    rw [hz] at c2
                    clear g hy hz
                    go_wp2
                    go_round
                    case rel => exact ⟨k + 1, by omega, by go_num, Hn2.out⟩
                    case measure => simp [intOf]; omega
                  | true =>
                    rw [hz] at c2
                    by_cases g3 : m k = 1
                    · exact (g ⟨hy, hz, g3, g3⟩).elim
                    · have p4 : (m k == 1) = false := beq_eq_false_iff_ne.2 g3
                      clear g hy hz g3
                      go_wp2
                      go_round
                      case rel => exact ⟨k + 1, by omega, by go_num, Hn2.out⟩
                      case measure => simp [intOf]; omega
            · obtain rfl : k = 9 := by omega
              obtain ⟨j, hj, hh⟩ := Hmeet.out
              exact absurd hh (Hno.out j hj)
end Go.Proofs.Ytfeaoapjgcibmaa

