/- Encode. -/
import Derived.Test.YtfeaoapjgcibmaaS5
import Derived.Test.YtfeaoapjgcibmaaV
set_option linter.unusedVariables false
set_option linter.unusedSimpArgs false
namespace Go.Proofs.Ytfeaoapjgcibmaa
open Go.RowKit Go.Shelf
attribute [local go_sem] Oper.semAt_some
theorem infoU8 : (Try.prog.info? 5).map (fun i => (i.zero, i.size, i.bytes)) = some (some (.int .u8 0), 1, 1) := by kernel_rfl
theorem owns5 (W : World) : (W.alloc (.cells #[] 5)).ownsRow W.heap.size 5 1 (.slice (some ⟨W.heap.size, 0, none⟩) 0 0) 0 [] := ⟨rfl, .inr ⟨_, 0, #[], rfl, Nat.le_refl _, World.alloc_heap_new W _, Nat.le_refl _, by decide, rfl, rfl⟩⟩
theorem app42 {W : World} {ops : Array Oper} {rest : List Oper} {o : Oper} {A : Act} {Q : Exit → Act → World → Prop} (hgd : o.guard = none) (s x : Operand)
    (ho : o.op = .call { callee := .builtin .append, args := #[s, x], argTypes := #[42, 42] }) {base b : Nat} {m : Nat → Int} (hs : A.eval s = .slice (some ⟨base, 0, none⟩) 0 0) (hx : A.eval x = .slice (some ⟨b, 0, none⟩) 9 9)
    (hown : W.ownsRow base 5 1 (.slice (some ⟨base, 0, none⟩) 0 0) 0 []) (hB : Blk W b 25 (arr m)) (hbase : base ≤ W.heap.size)
    (h : ∀ g cap W', W'.ownsRow base 5 1 (.slice (some ⟨g, 0, none⟩) 9 cap) 9 (arr m).toList → W.grownBy W' (some base) → g < W'.heap.size → wpList Try.prog ops Q rest (A.put o.dst (.slice (some ⟨g, 0, none⟩) 9 cap)) W') : wpList Try.prog ops Q (o :: rest) A W := by
  obtain ⟨i0, hi, hz0, hz1, hz2⟩ := info_parts infoU8
  exact wpList_append_lies W hgd s x 42 ho base 5 i0 (.int .u8 0) 1 1 Try.underlying42 hi hz0 hz1 hz2 rfl (by decide) _ 0 [] hs hown ⟨b, 0, none⟩ 9 9 (arr m).toList hx (by simp [arr]) (fun j u hj => by rw [off_add, Nat.zero_add]; rw [Array.getElem?_toList] at hj; rw [hB.cell]; exact hj) (by simp [arr, Value.oneCell']) (by decide) (by unfold maxLen; omega) (by omega) hbase W.heap.size rfl (fun g cap W' h1 h2 _ h4 => h g cap W' (by simpa using h1) h2 h4)
set_option maxRecDepth 100000 in
set_option maxHeartbeats 2000000 in
theorem encode_any (m : Nat → Int) (w : World) : Calls Try.prog 25 #[.agg #[.int .u8 (m 0), .int .u8 (m 1), .int .u8 (m 2), .int .u8 (m 3), .int .u8 (m 4), .int .u8 (m 5), .int .u8 (m 6), .int .u8 (m 7), .int .u8 (m 8)]] w fun e W' => ∃ g cap, e = .returned (.slice (some ⟨g, 0, none⟩) 9 cap) ∧ (∀ j, j < 9 → W'.cell? ⟨g, j, none⟩ = some (.int .u8 (m j))) ∧ Below w.heap.size w W' := by
  have hO : ((w.alloc (.cells (arr m) 25)).alloc (.cells #[] 5)).ownsRow (w.heap.size + 1) 5 1 (.slice (some ⟨w.heap.size + 1, 0, none⟩) 0 0) 0 [] := by
    have := owns5 (w.alloc (.cells (arr m) 25))
    rw [World.size_alloc] at this
    exact this
  have hB : Blk ((w.alloc (.cells (arr m) 25)).alloc (.cells #[] 5)) w.heap.size 25 (arr m) := (Blk.new w 25 (arr m)).alloc _
  have q0 : Below w.heap.size w ((w.alloc (.cells (arr m) 25)).alloc (.cells #[] 5)) := ((Below.refl _ w).alloc (Nat.le_refl _) _).alloc (by simp) _
  have hsz : w.heap.size + 1 ≤ ((w.alloc (.cells (arr m) 25)).alloc (.cells #[] 5)).heap.size := by simp
  have HO := Lib.hid hO
  have HB := Lib.hid hB
  have HQ := Lib.hid q0
  have HS := Lib.hid hsz
  clear hO hB q0 hsz
  go_enter Try.func25, Try.ntmps25
  go_wp2_with (at_builtin; refine app42 rfl _ _ rfl (by rfl) (by rfl) HO.out HB.out HS.out ?_; intro g cap w' h1 h2 h3)
  have hgb : Below w.heap.size w w' := HQ.out.grown h2 HQ.out.size (fun x e => by cases e; omega)
  go_ret
  refine ⟨g, cap, rfl, fun j hj => ?_, hgb⟩
  have := h1.cellAt j (by omega)
  rw [this, Array.getElem?_toList, arr_at m hj]
end Go.Proofs.Ytfeaoapjgcibmaa
