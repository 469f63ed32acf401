/- The reference's builder: Done; a piece as the document's. -/
import Derived.Test.YtookojfigjdgcaaDoorRA
import Derived.Handy
set_option linter.unusedVariables false
set_option linter.unusedSimpArgs false
namespace Go.Proofs.YtookojfigjdgcaaDoor
open Go.RowKit
set_option maxRecDepth 100000 in
set_option maxHeartbeats 4000000 in
/-- the reference's Done -/
theorem rdone_any (W : World) (B bb : Nat) (id total sum : Int) (bs : List UInt8) (h : RS W B bb id total sum bs) (hbs : bs.length ≤ 1048576) :
    Calls Tryd.prog 16 #[.pointer (some ⟨bb, 0, none⟩)] W fun r W' => Fr (fun k => k = bb) W W' ∧
      ((id < 0 ∨ (bs.length : Int) < total) → RS W' B bb id total sum bs ∧ r = .returned (.tuple #[.slice none 0 0, .int .i64 id, .int .i64 6])) ∧
      (¬ (id < 0 ∨ (bs.length : Int) < total) → RS W' B bb (-1) 0 0 [] ∧
        (((crc bs).toNat : Int) ≠ sum → r = .returned (.tuple #[.slice none 0 0, .int .i64 id, .int .i64 9])) ∧
        (((crc bs).toNat : Int) = sum → ∃ v, r = .returned (.tuple #[v, .int .i64 id, .int .i64 0]) ∧ OwnY W' B v bs)) := by
  obtain ⟨v, hb, ho⟩ := h
  obtain ⟨bo, bc, rfl, _⟩ := ho.row
  obtain ⟨n, hn⟩ : ∃ n, bs.length = n := ⟨_, rfl⟩
  rw [hn] at hb ho hbs ⊢
  have HBK := Lib.hid hb
  have HO := Lib.hid ho
  have HN := Lib.hid hn
  have HM := Lib.hid hbs
  have b0 := hb.cell 0
  have b1 := hb.cell 1
  have b2 := hb.cell 2
  have b3 := hb.cell 3
  simp only [List.getElem?_toArray, List.getElem?_cons_zero, List.getElem?_cons_succ] at b0 b1 b2 b3
  clear hb ho hn hbs
  by_cases hc : id < 0 ∨ (n : Int) < total
  · have HC := Lib.hid hc
    have fa : decide (id < 0) = true ∨ (decide (id < 0) = false ∧ decide ((n : Int) < total) = true) := by
      by_cases h1 : id < 0
      · exact .inl (decide_eq_true h1)
      · exact .inr ⟨decide_eq_false h1, decide_eq_true (hc.resolve_left h1)⟩
    clear hc
    have HKEEP : Hid (RS W B bb id total sum bs) := Lib.hid ⟨_, HBK.out, by have := HO.out; rw [← HN.out] at this; exact (HN.out ▸ HO.out)⟩
    rcases fa with fa | ⟨fa, fb⟩
    all_goals
      go_enter Tryd.func16, Tryd.ntmps16
      go_upto_region 1 with (fail)
      go_quiet (fail)
      go_upto_region 2 with (fail)
      go_quiet (fail)
      go_wp2
      go_ret3
      generalize hw : World.drewN _ _ = w
      have hf : Fr (fun _ => False) W w := by rw [← hw]; first | exact Fr.drewN _ _ _ | exact (Fr.drewN _ _ _).trans (Fr.drewN _ _ _)
      exact ⟨hf.mono fun _ e => e.elim, fun _ => ⟨HKEEP.out.fr0 hf, rfl⟩, fun h => absurd HC.out h⟩
  · have HC := Lib.hid hc
    have fa : decide (id < 0) = false := decide_eq_false (fun e => hc (.inl e))
    have fb : decide ((n : Int) < total) = false := decide_eq_false (fun e => hc (.inr e))
    have k0 := HBK.out.frozen 0
    have k1 := HBK.out.frozen 1
    have k2 := HBK.out.frozen 2
    have k3 := HBK.out.frozen 3
    clear hc
    go_enter Tryd.func16, Tryd.ntmps16
    go_upto_region 1 with (fail)
    go_quiet (fail)
    go_upto_region 7 with (fail)
    generalize hw13 : World.drewN _ _ = w13
    have hf12 : Fr (fun _ => False) W w13 := by rw [← hw13]; first | exact Fr.drewN _ _ _ | exact (Fr.drewN _ _ _).trans (Fr.drewN _ _ _)
    obtain ⟨w16, hw16⟩ : ∃ w, ((((w13.setCell ⟨bb, 0, none⟩ (.int .i64 (-1))).setCell ⟨bb, 1, none⟩ (.int .i64 0)).setCell ⟨bb, 2, none⟩ (.int .u32 0)).setCell ⟨bb, 3, none⟩ (.slice none 0 0)) = w := ⟨_, rfl⟩
    have hf13 : Fr (fun k => k = bb) W w13 := hf12.mono (fun _ e => e.elim)
    have hf16 : Fr (fun k => k = bb) W w16 := by rw [← hw16]; exact (((hf13.trans (Fr.setCell _ _ _ rfl)).trans (Fr.setCell _ _ _ rfl)).trans (Fr.setCell _ _ _ rfl)).trans (Fr.setCell _ _ _ rfl)
    have HBK16 : Hid (Blk w16 bb 51 #[.int .i64 (-1), .int .i64 0, .int .u32 0, .slice none 0 0]) := Lib.hid (by
      have h := HBK.out.fr hf12 (fun e => e)
      rw [← hw16]
      exact (((h.set 0 (.int .i64 (-1))).set 1 (.int .i64 0)).set 2 (.int .u32 0)).set 3 (.slice none 0 0))
    have HO16 : Hid (OwnY w16 B (.slice bo n bc) bs) := Lib.hid (HO.out.fr hf16 (fun k hk e => HO.out.notBlk HBK.out (by decide) (e ▸ hk)))
    have HF16 := Lib.hid hf16
    rw [hw16]
    clear hw16 hf16 hf13 hf12 hw13 b0 b1 b2 b3 k0 k1 k2 k3 w13
    have HSUM := Lib.hid (rsum_any w16 bo bc n bs (RowY_own HO16.out) HN.out (by have := HM.out; omega))
    by_cases hs : ((crc bs).toNat : Int) = sum
    · have s1 : (((crc bs).toNat : Int) == sum) = true := by simp [hs]
      have s2 : (((crc bs).toNat : Int) != sum) = false := by simp [hs]
      have HS := Lib.hid hs
      clear hs
      obtain ⟨x, hx⟩ : ∃ x : Int, ((crc bs).toNat : Int) = x := ⟨_, rfl⟩
      rw [hx] at s1 s2 HSUM
      clear hx
      go_wp2_with (first | (go_at_call 23; refine HSUM.out.mono ?_; rintro r5 w5 ⟨rfl, rfl⟩) | go_in)
      go_ret3
      exact ⟨HF16.out, fun h => absurd h HC.out, fun _ => ⟨⟨_, HBK16.out, OwnY.none _ _⟩, fun h => absurd HS.out h, fun _ => ⟨_, rfl, HO16.out⟩⟩⟩
    · have s1 : (((crc bs).toNat : Int) == sum) = false := by simp [hs]
      have s2 : (((crc bs).toNat : Int) != sum) = true := by simp [hs]
      have HS := Lib.hid hs
      clear hs
      obtain ⟨x, hx⟩ : ∃ x : Int, ((crc bs).toNat : Int) = x := ⟨_, rfl⟩
      rw [hx] at s1 s2 HSUM
      clear hx
      go_wp2_with (first | (go_at_call 23; refine HSUM.out.mono ?_; rintro r5 w5 ⟨rfl, rfl⟩) | go_in)
      go_ret3
      exact ⟨HF16.out, fun h => absurd h HC.out, fun _ => ⟨⟨_, HBK16.out, OwnY.none _ _⟩, fun _ => rfl, fun h => absurd h HS.out⟩⟩
set_option maxRecDepth 100000 in
/-- of -/
theorem of_any (W : World) (i x t s : Int) (ao : Option Addr) (d c : Nat) : Calls Tryd.prog 19 #[.agg #[.int .i64 i, .int .i64 x, .int .i64 t, .int .u32 s, .slice ao d c]] W fun r W' => r = .returned (.agg #[.int .i64 i, .int .i64 x, .int .i64 t, .int .u32 s, .slice ao d c]) ∧ Fr (fun _ => False) W W' := by
  go_enter Tryd.func19, Tryd.ntmps19
  go_wp2
  go_returns
  exact ⟨rfl, (Fr.alloc _ _ _).trans (Fr.alloc _ _ _)⟩
end Go.Proofs.YtookojfigjdgcaaDoor
