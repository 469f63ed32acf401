/- A builder: new, Drop, Next. -/
import Derived.Test.YtookojfigjdgcaaDoorU
set_option linter.unusedVariables false
set_option linter.unusedSimpArgs false
namespace Go.Proofs.YtookojfigjdgcaaDoor
open Go.RowKit
theorem newb_any (W : World) : Calls Tryd.prog 12 #[] W fun r W' => r = .returned (.pointer (some ⟨W.heap.size, 0, none⟩)) ∧ (∀ B, BS W' B W.heap.size (-1) 0 0 []) ∧ Fr (fun _ => False) W W' := by
  have hB := Blk.new W 76 #[.int .i64 (-1), .int .i64 0, .int .i64 0, .int .u32 0, .slice none 0 0]
  have HB := Lib.hid hB
  clear hB
  go_enter Tryd.func12, Tryd.ntmps12
  go_wp2
  go_ret
  exact ⟨rfl, fun B => ⟨_, HB.out, OwnY.none _ _⟩, Fr.alloc _ _ _⟩
theorem drop_any (W : World) (B bb : Nat) (id total sum : Int) (bs : List UInt8) (h : BS W B bb id total sum bs) : Calls Tryd.prog 17 #[.pointer (some ⟨bb, 0, none⟩)] W fun r W' => (∃ v, r = .returned v) ∧ BS W' B bb (-1) 0 0 [] ∧ Fr (fun k => k = bb) W W' := by
  obtain ⟨v, hb, ho⟩ := h
  obtain ⟨bo, bc, rfl, _⟩ := ho.row
  have hset := ((((hb.set 0 (.int .i64 (-1))).set 1 (.int .i64 0)).set 2 (.int .i64 0)).set 3 (.int .u32 0)).set 4 (.slice none 0 0)
  have HS := Lib.hid hset
  have hfr : Fr (fun k => k = bb) W (((((W.setCell ⟨bb, 0, none⟩ (.int .i64 (-1))).setCell ⟨bb, 1, none⟩ (.int .i64 0)).setCell ⟨bb, 2, none⟩ (.int .i64 0)).setCell ⟨bb, 3, none⟩ (.int .u32 0)).setCell ⟨bb, 4, none⟩ (.slice none 0 0)) := ((((Fr.setCell (S := fun k => k = bb) W ⟨bb, 0, none⟩ _ rfl).trans (Fr.setCell _ ⟨bb, 1, none⟩ _ rfl)).trans (Fr.setCell _ ⟨bb, 2, none⟩ _ rfl)).trans (Fr.setCell _ ⟨bb, 3, none⟩ _ rfl)).trans (Fr.setCell _ ⟨bb, 4, none⟩ _ rfl)
  have HFR := Lib.hid hfr
  clear hfr
  have b0 := hb.cell 0
  have b1 := hb.cell 1
  have b2 := hb.cell 2
  have b3 := hb.cell 3
  have b4 := hb.cell 4
  have k0 := hb.frozen 0
  have k1 := hb.frozen 1
  have k2 := hb.frozen 2
  have k3 := hb.frozen 3
  have k4 := hb.frozen 4
  simp only [List.getElem?_toArray, List.getElem?_cons_zero, List.getElem?_cons_succ] at b0 b1 b2 b3 b4
  clear hset hb ho
  go_enter Tryd.func17, Tryd.ntmps17
  go_wp2
  (first | refine bodyPost_ret (results_none rfl _ _ _) rfl ?_ | refine bodyPost_end (results_none rfl _ _ _) rfl ?_)
  exact ⟨⟨_, rfl⟩, ⟨_, HS.out, OwnY.none _ _⟩, HFR.out⟩
theorem next_any (W : World) (B bb : Nat) (id total sum : Int) (bs : List UInt8) (h : BS W B bb id total sum bs) : Calls Tryd.prog 20 #[.pointer (some ⟨bb, 0, none⟩)] W fun r W' => r = .returned (.tuple #[.int .i64 id, .int .i64 (bs.length : Int)]) ∧ Fr (fun _ => False) W W' := by
  obtain ⟨v, hb, ho⟩ := h
  obtain ⟨bo, bc, rfl, _⟩ := ho.row
  obtain ⟨n, hn⟩ : ∃ n, bs.length = n := ⟨_, rfl⟩
  rw [hn] at hb ⊢
  have b0 := hb.cell 0
  have b4 := hb.cell 4
  simp only [List.getElem?_toArray, List.getElem?_cons_zero, List.getElem?_cons_succ] at b0 b4
  clear hb ho
  go_enter Tryd.func20, Tryd.ntmps20
  go_upto_region 1 with (fail)
  go_quiet (fail)
  go_wp2
  go_ret2
  exact ⟨rfl, Fr.drewN _ _ _⟩
end Go.Proofs.YtookojfigjdgcaaDoor
