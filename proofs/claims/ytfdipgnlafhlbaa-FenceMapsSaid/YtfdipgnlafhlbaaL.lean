/- Of, of the map and of its reference: the shards that somebody owns. -/
import Derived.Test.YtfdipgnlafhlbaaG
import Derived.LoopTactic
set_option linter.unusedVariables false
namespace Go.Proofs.Ytfdipgnlafhlbaa
open Go.RowKit
def ofL (fr fo : Nat → Int) (ow : Int) : Nat → List Int
  | 0 => []
  | k + 1 => ofL fr fo ow k ++ (if ¬ fr k = 0 ∧ fo k = ow then [(k : Int)] else [])
theorem ofL_le (fr fo : Nat → Int) (ow : Int) (k : Nat) : (ofL fr fo ow k).length ≤ k := by
  induction k with
  | zero => simp [ofL]
  | succ k ih => simp only [ofL, List.length_append]; split <;> simp <;> omega
theorem info3 : (Try.prog.info? 3).map (fun i => (i.zero, i.size, i.bytes)) = some (some (.int .i64 0), 1, 8) := by kernel_rfl
/-- what Of leaves: a row of its own, the shards -/
def OfAt (w : World) (l : List Int) (e : Ending) (w' : World) : Prop := ∃ v, e = .returned v ∧ w'.ownsRow w.heap.size 3 1 v l.length (l.map (Value.int .i64)) ∧ Below w.heap.size w w'
set_option maxHeartbeats 1000000 in
theorem of_list (P L U g : Nat) (fr fo un : Nat → Int) (ow : Int) (w : World) (h : IsMap w P L U g fr fo un) :
    Calls Try.prog 26 #[.pointer (some ⟨P, 0, none⟩), .int .i64 ow] w (OfAt w (ofL fr fo ow g)) := by
  have c0 := h.c0
  have h8 := h.g8
  obtain ⟨i0, hi, hz0, hz1, hz2⟩ := info_parts info3
  go_enter Try.func26, Try.ntmps26
  go_wp2
  go_loopw [5, 13] (fun v i wr => ∃ k : Nat, k ≤ g ∧ i = .int .i64 k ∧ wr.ownsRow w.heap.size 3 1 v (ofL fr fo ow k).length ((ofL fr fo ow k).map (Value.int .i64)) ∧ Below w.heap.size w wr) (fun _ i _ => g - (intOf i).toNat)
  case atStart => exact ⟨0, Nat.zero_le _, rfl, World.ownsRow_nil _ _ _ _, Below.refl _ _⟩
  case round =>
    obtain ⟨k, hk, rfl, hown, hb⟩ := hrel
    have hle := ofL_le fr fo ow k
    have hsz := hb.size
    by_cases hlt : k < g
    · have g1 : wr.cell? ⟨L, k * 2, none⟩ = some (.int .i64 (fr k)) := (hb.cell (p := ⟨L, k * 2, none⟩) h.ll).trans (h.cr k hlt)
      have g2 : wr.cell? ⟨L, k * 2 + 1, none⟩ = some (.int .i64 (fo k)) := (hb.cell (p := ⟨L, k * 2 + 1, none⟩) h.ll).trans (h.co k hlt)
      by_cases hgood : ¬ fr k = 0 ∧ fo k = ow
      · have e1 : (fr k != 0) = true := by rw [bne_iff_ne]; exact hgood.1
        have e2 : (fo k == ow) = true := beq_iff_eq.2 hgood.2
        have hs : Hid (ofL fr fo ow (k + 1) = ofL fr fo ow k ++ [(k : Int)]) := Lib.hid (by rw [ofL, if_pos hgood])
        clear hgood
        go_wp2_with (first
          | (at_builtin; refine wpList_append_own _ rfl _ _ 22 rfl w.heap.size 3 i0 (.int .i64 0) 1 8 Try.underlying22 hi hz0 hz1 hz2 rfl (by decide) _ _ _ rfl ((hown.alloc _).alloc _) ⟨wr.heap.size + 1, 0, none⟩ 1 1 [.int .i64 (k : Int)] rfl rfl ?c1 ?c2 ?c3 ?c4 ?c5 ?_))
        case c1 =>
          intro j u hj
          match j, hj with
          | 0, hj => simp at hj; subst hj; simp [Addr.add]
        case c2 => intro u hu; simp at hu; subst hu; rfl
        case c3 => unfold maxLen; omega
        case c4 => omega
        case c5 => simp; omega
        intro v' w1 hown' hgrow _
        go_wp2
        go_roundw
        case rel =>
          refine ⟨k + 1, by omega, by go_num, ?_, ?_⟩
          · rw [hs.out]; simpa using hown'
          · exact ((hb.alloc hsz _).alloc (by simp; omega) _).grown hgrow (by simp; omega) (fun j hj => (hown.lt j hj).1)
        case measure => simp [intOf]; omega
      · have hs : Hid (ofL fr fo ow (k + 1) = ofL fr fo ow k) := Lib.hid (by rw [ofL, if_neg hgood]; simp)
        by_cases e1 : fr k = 0
        · have q1 : (fr k != 0) = false := by rw [e1]; rfl
          clear hgood e1
          go_wp2
          go_roundw
          case rel => exact ⟨k + 1, by omega, by go_num, by rw [hs.out]; exact hown.alloc _, hb.alloc hsz _⟩
          case measure => simp [intOf]; omega
        · have q1 : (fr k != 0) = true := by rw [bne_iff_ne]; exact e1
          have q2 : (fo k == ow) = false := beq_eq_false_iff_ne.2 (fun e => hgood ⟨e1, e⟩)
          clear hgood e1
          go_wp2
          go_roundw
          case rel => exact ⟨k + 1, by omega, by go_num, by rw [hs.out]; exact hown.alloc _, hb.alloc hsz _⟩
          case measure => simp [intOf]; omega
    · have : k = g := by omega
      subst this
      go_wp2
      go_ret
      exact ⟨_, rfl, hown, hb⟩
set_option maxHeartbeats 1000000 in
theorem rof_list (P L U g : Nat) (fr fo un : Nat → Int) (ow : Int) (w : World) (h : IsMap w P L U g fr fo un) :
    Calls Try.prog 27 #[.pointer (some ⟨P, 0, none⟩), .int .i64 ow] w (OfAt w (ofL fr fo ow g)) := by
  have c0 := h.c0
  have h8 := h.g8
  obtain ⟨i0, hi, hz0, hz1, hz2⟩ := info_parts info3
  go_enter Try.func27, Try.ntmps27
  go_wp2
  go_loopw [5, 6] (fun v i wr => ∃ k : Nat, k ≤ g ∧ i = .int .i64 k ∧ wr.ownsRow w.heap.size 3 1 v (ofL fr fo ow k).length ((ofL fr fo ow k).map (Value.int .i64)) ∧ Below w.heap.size w wr) (fun _ i _ => g - (intOf i).toNat)
  case atStart => exact ⟨0, Nat.zero_le _, rfl, World.ownsRow_nil _ _ _ _, Below.refl _ _⟩
  case round =>
    obtain ⟨k, hk, rfl, hown, hb⟩ := hrel
    have hle := ofL_le fr fo ow k
    have hsz := hb.size
    have c0' := (hb.cell (p := ⟨P, 0, none⟩) h.lp).trans c0
    by_cases hlt : k < g
    · have g1 : wr.cell? ⟨L, k * 2, none⟩ = some (.int .i64 (fr k)) := (hb.cell (p := ⟨L, k * 2, none⟩) h.ll).trans (h.cr k hlt)
      have g2 : wr.cell? ⟨L, k * 2 + 1, none⟩ = some (.int .i64 (fo k)) := (hb.cell (p := ⟨L, k * 2 + 1, none⟩) h.ll).trans (h.co k hlt)
      by_cases hgood : ¬ fr k = 0 ∧ fo k = ow
      · have e1 : (fr k != 0) = true := by rw [bne_iff_ne]; exact hgood.1
        have e2 : (fo k == ow) = true := beq_iff_eq.2 hgood.2
        have hs : Hid (ofL fr fo ow (k + 1) = ofL fr fo ow k ++ [(k : Int)]) := Lib.hid (by rw [ofL, if_pos hgood])
        clear hgood
        go_wp2_with (first
          | (at_builtin; refine wpList_append_own _ rfl _ _ 22 rfl w.heap.size 3 i0 (.int .i64 0) 1 8 Try.underlying22 hi hz0 hz1 hz2 rfl (by decide) _ _ _ rfl (hown.alloc _) ⟨wr.heap.size, 0, none⟩ 1 1 [.int .i64 (k : Int)] rfl rfl ?c1 ?c2 ?c3 ?c4 ?c5 ?_))
        case c1 =>
          intro j u hj
          match j, hj with
          | 0, hj => simp at hj; subst hj; simp [Addr.add]
        case c2 => intro u hu; simp at hu; subst hu; rfl
        case c3 => unfold maxLen; omega
        case c4 => omega
        case c5 => simp; omega
        intro v' w1 hown' hgrow _
        go_wp2
        go_roundw
        case rel =>
          refine ⟨k + 1, by omega, by go_num, ?_, ?_⟩
          · rw [hs.out]; simpa using hown'
          · exact (hb.alloc hsz _).grown hgrow (by simp; omega) (fun j hj => (hown.lt j hj).1)
        case measure => simp [intOf]; omega
      · have hs : Hid (ofL fr fo ow (k + 1) = ofL fr fo ow k) := Lib.hid (by rw [ofL, if_neg hgood]; simp)
        by_cases e1 : fr k = 0
        · have q1 : (fr k != 0) = false := by rw [e1]; rfl
          clear hgood e1
          go_wp2
          go_roundw
          case rel => exact ⟨k + 1, by omega, by go_num, by rw [hs.out]; exact hown, hb⟩
          case measure => simp [intOf]; omega
        · have q1 : (fr k != 0) = true := by rw [bne_iff_ne]; exact e1
          have q2 : (fo k == ow) = false := beq_eq_false_iff_ne.2 (fun e => hgood ⟨e1, e⟩)
          clear hgood e1
          go_wp2
          go_roundw
          case rel => exact ⟨k + 1, by omega, by go_num, by rw [hs.out]; exact hown, hb⟩
          case measure => simp [intOf]; omega
    · have : k = g := by omega
      subst this
      go_wp2
      go_ret
      exact ⟨_, rfl, hown, hb⟩
end Go.Proofs.Ytfdipgnlafhlbaa
