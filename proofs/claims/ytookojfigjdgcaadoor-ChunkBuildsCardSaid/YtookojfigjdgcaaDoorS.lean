/- The library's Concat of two rows of bytes. -/
import Derived.Test.YtookojfigjdgcaaDoorB
import Derived.Test.YtookojfigjdgcaaDoorT2
set_option linter.unusedVariables false
set_option linter.unusedSimpArgs false
namespace Go.Proofs.YtookojfigjdgcaaDoor
open Go.RowKit
theorem grow_any (W : World) (m : Nat) (hm : m ≤ 4000000) : Calls Tryd.prog 43 #[.slice none 0 0, .int .i64 (m : Int)] W fun r W' => ∃ v, r = .returned v ∧ OwnY W' W.heap.size v [] ∧ Fr (fun _ => False) W W' := by
  by_cases h0 : m = 0
  · subst h0
    have := Any8.slices_Grow_room Tryd.grow43 none 0 0 0 W (by decide) (by decide) (by decide) (by decide)
    refine Calls.mono this ?_
    rintro r W' ⟨rfl, rfl⟩
    exact ⟨_, rfl, OwnY.none _ _, Fr.refl _ _⟩
  · obtain ⟨i, z, hi, hz, hs, hby, hzs⟩ := infoY'
    have := Any8.slices_Grow_grow Tryd.grow43 i z hi hz (by omega) none 0 0 m [] W (by decide) (by omega) (by rw [hby]; omega) (by omega) (by simp) (fun _ => rfl) (fun a h => by cases h)
    refine Calls.mono this ?_
    rintro r W' ⟨rfl, rfl⟩
    refine ⟨_, rfl, ⟨rfl, .inr ⟨W.heap.size, _, _, rfl, Nat.le_refl _, World.alloc_heap_new W.drew _, Nat.zero_le _, ?_, ?_, rfl⟩⟩, (Fr.drewN _ W 1).trans (Fr.alloc _ _ _)⟩
    · exact grownCap_le_maxLen W (0 + m) 0 5 (by unfold maxLen; omega)
    · have hge : 0 + m ≤ grownCap W (0 + m) 0 5 := grownCap_ge W (0 + m) 0 5
      show (_ : Array Value).size = _
      simp only [Array.size_append, List.size_toArray, size_zeroCells, hzs, List.length_nil]
      show 0 + (0 + m - 0) * 1 + (grownCap W (0 + m) 0 5 - (0 + m)) * 1 = grownCap W (0 + m) 0 5 * 1
      omega
set_option maxRecDepth 100000 in
set_option maxHeartbeats 2000000 in
theorem concat_any (W : World) (cb : Nat) (a1 a2 : Option Addr) (n1 n2 c1 c2 : Nat) (l1 l2 : List UInt8) (h1 : RowY W a1 l1) (h2 : RowY W a2 l2) (hn1 : l1.length = n1) (hn2 : l2.length = n2) (hm1 : n1 ≤ 2000000) (hm2 : n2 ≤ 2000000)
    (hb : Blk W cb 22 #[.slice a1 n1 c1, .slice a2 n2 c2]) : Calls Tryd.prog 39 #[.slice (some ⟨cb, 0, none⟩) 2 2] W fun r W' => ∃ v, r = .returned v ∧ OwnY W' W.heap.size v (l1 ++ l2) ∧ Fr (fun _ => False) W W' := by
  have d0 := hb.cell 0
  have d1 := hb.cell 1
  simp only [List.getElem?_toArray, List.getElem?_cons_zero, List.getElem?_cons_succ] at d0 d1
  have HB := Lib.hid hb
  have H1 := Lib.hid h1
  have H2 := Lib.hid h2
  have HN1 := Lib.hid hn1
  have HN2 := Lib.hid hn2
  obtain ⟨m, hm⟩ : ∃ m, n1 + n2 = m := ⟨_, rfl⟩
  have HG := Lib.hid (grow_any W m (by omega))
  obtain ⟨B, hB⟩ : ∃ B, W.heap.size = B := ⟨_, rfl⟩
  have HBB := Lib.hid hB
  rw [hB] at HG ⊢
  have e1 : ((n1 : Int) + (n2 : Int)) = (m : Int) := by omega
  have hm4 : m ≤ 4000000 := by omega
  clear hb h1 h2 hn1 hn2 hB hm
  go_enter Tryd.func39, Tryd.ntmps39
  go_wp2_with fail
  refine wp_loop_rounds 3 ?_
  rw [rounds_succ]
  go_wp2_with fail
  rw [rounds_succ]
  go_wp2_with fail
  rw [rounds_succ]
  go_wp2_with fail
  refine HG.out.mono ?_
  rintro r1 w1 ⟨v, rfl, ho, hf1⟩
  have hlt := HB.out.lt
  have hb1 := HB.out.fr hf1 (fun e => e)
  have hs1 : B ≤ w1.heap.size := by have := hf1.size; have := HBB.out; omega
  obtain ⟨v2, w2, hrun2, ho2, hf2, hob2⟩ := app_y w1 B v [] l1 22 hs1 ho a1 c1 n1 (H1.out.fr0 hf1) HN1.out (by simp; omega)
  rw [List.nil_append] at ho2
  have hb2 := hb1.fr hf2 (fun e => by have := (ho.ob e).1; have := HBB.out; omega)
  have hs2 : B ≤ w2.heap.size := by have := hf2.size; omega
  have hr2 : RowY w2 a2 l2 := by
    have h := H2.out.fr0 hf1
    rcases H2.out with h0 | ⟨b, o, e0, hb0, _⟩
    · exact .inl h0
    · refine h.fr hf2 (fun a ha e => ?_)
      rw [e0] at ha
      cases ha
      have h6 := (ho.ob e).1
      have h7 := HBB.out
      have h5 : b < W.heap.size := hb0
      have h8 : B ≤ b := h6
      omega
  obtain ⟨v3, w3, hrun3, ho3, hf3, hob3⟩ := app_y w2 B v2 l1 l2 22 hs2 ho2 a2 c2 n2 hr2 HN2.out (by rw [HN1.out]; omega)
  have d0 := hb1.cell 0
  have d1 := hb2.cell 1
  simp only [List.getElem?_toArray, List.getElem?_cons_zero, List.getElem?_cons_succ] at d0 d1
  have HO3 := Lib.hid ho3
  have HF3 : Hid (Fr (fun _ => False) W w3) := Lib.hid (by
    have f2 : Fr (fun _ => False) W w2 := ⟨hf2.os.trans hf1.os, hf2.tape.trans hf1.tape, hf2.output.trans hf1.output, Nat.le_trans hf1.size hf2.size, fun k hk _ => (hf2.block k (Nat.lt_of_lt_of_le hk hf1.size) (fun e => by have := (ho.ob e).1; have := HBB.out; omega)).trans (hf1.block k hk id)⟩
    exact ⟨hf3.os.trans f2.os, hf3.tape.trans f2.tape, hf3.output.trans f2.output, Nat.le_trans f2.size hf3.size, fun k hk _ => (hf3.block k (Nat.lt_of_lt_of_le hk f2.size) (fun e => by have := (ho2.ob e).1; have := HBB.out; omega)).trans (f2.block k hk id)⟩)
  clear ho hf1 hb1 hs1 ho2 hf2 hob2 hb2 hs2 hr2 ho3 hf3 hob3 hlt
  go_wp2_with fail
  refine wp_loop_rounds 3 ?_
  rw [rounds_succ]
  go_wp2_with (at_builtin; refine wpList_appRun rfl _ _ _ rfl _ _ _ rfl rfl hrun2 ?_)
  rw [rounds_succ]
  go_wp2_with (at_builtin; refine wpList_appRun rfl _ _ _ rfl _ _ _ rfl rfl hrun3 ?_)
  rw [rounds_succ]
  go_wp2_with fail
  go_ret
  exact ⟨_, rfl, HO3.out, HF3.out⟩
end Go.Proofs.YtookojfigjdgcaaDoor
