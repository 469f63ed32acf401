/- A []byte out of the statement's own reading. -/
import Derived.Test.YtookojfigjdgcaaDoorV0
import Derived.Test.YtookojfigjdgcaaDoorCutsW
import Derived.ChangeSlices
set_option linter.unusedVariables false
set_option linter.unusedSimpArgs false
namespace Go.Proofs.YtookojfigjdgcaaDoor
open Go.ChangeShapes Go.WideShapes Go.RowKit
theorem wf_u8 {z : Int} (h : (Lit.int .u8 z).wf = true) : 0 ≤ z ∧ z < 256 := by
  simp [Lit.wf, IntKind.min, IntKind.max, IntKind.bits, IntKind.signed] at h
  omega
theorem wf_i64 {z : Int} (h : (Lit.int .i64 z).wf = true) : In64 z := by
  simp [Lit.wf, IntKind.min, IntKind.max, IntKind.bits, IntKind.signed] at h
  unfold In64
  omega
theorem bytes_open {H : Type} {enc : TypeId × Value → H} {W : World} {a : Option Addr} {len cap : Nat} {d : DataW H} {p : List MemPlace} (h : DataW.Trod enc Tryd.prog W 0 (fun _ => true) true 22 (.slice a len cap) d p) :
    ∃ l : List UInt8, RowY W a l ∧ l.length = len ∧ len ≤ cap ∧ cap ≤ maxLen ∧ (a = none → len = 0 ∧ cap = 0) := by
  obtain ⟨fuel, hf⟩ := h
  rcases open_ints Tryd.underlying22 Tryd.underlying5 (by kernel_rfl) hf with ⟨hcs, _⟩ | ⟨x, l, c, zs, hcs, _, hl, hm, hz, _, hcell, hwz⟩
  · simp [Value.cells] at hcs
    obtain ⟨rfl, rfl, rfl⟩ := hcs
    exact ⟨[], .inl rfl, rfl, Nat.le_refl _, Nat.zero_le _, fun _ => ⟨rfl, rfl⟩⟩
  · simp [Value.cells] at hcs
    obtain ⟨rfl, rfl, rfl⟩ := hcs
    have hz : zs.length = cap := by simpa using hz
    refine ⟨(zs.take len).map (fun z => UInt8.ofNat z.toNat), ?_, by simp; omega, hl, hm, fun e => by cases e⟩
    by_cases h0 : len = 0
    · subst h0
      exact .inl (by simp)
    · have hc0 := hcell 0 (by omega)
      obtain ⟨b, o, m⟩ := x
      have hm0 : m = none := by
        cases m with
        | none => rfl
        | some y =>
          simp [World.cell?, Addr.add] at hc0
          split at hc0 <;> simp at hc0
      subst hm0
      refine .inr ⟨b, o, rfl, ?_, fun i y hy => ?_⟩
      · have := lt_of_cell hc0
        rwa [add_block] at this
      · rw [List.getElem?_map, Option.map_eq_some_iff] at hy
        obtain ⟨z, hz1, rfl⟩ := hy
        have hi : i < len := by
          rcases Nat.lt_or_ge i len with h | h
          · exact h
          · rw [List.getElem?_eq_none (by simp; omega)] at hz1; cases hz1
        rw [List.getElem?_take_of_lt hi] at hz1
        have hc := hcell i (by omega)
        rw [off_add, List.getD_eq_getElem?_getD, hz1] at hc
        rw [hc]
        have := wf_u8 (hwz z (List.mem_of_getElem? hz1))
        simp
        omega
theorem cuts_law (W : World) (hL : Laid W) (id : Int) (hid : (Lit.int .i64 id).wf = true) (ao : Option Addr) (n cp : Nat) (l : List UInt8) (hl : RowY W ao l) (hn : l.length = n) (hcp : n ≤ cp) (hcm : cp ≤ maxLen) (h0 : ao = none → n = 0 ∧ cp = 0) (sz : Int) (_ : (Lit.int .i64 sz).wf = true) :
    Calls Tryd.prog 3 #[.int .i64 id, .slice ao n cp, .int .i64 sz] W fun e W' => e = .returned (.bool true) ∧ Below W.heap.size W W' :=
  Calls.mono (cuts_any W hL id (wf_i64 hid) ao n cp l hl hn hcp hcm h0 sz) (fun e W' h => ⟨h.1, h.2.below (Nat.le_refl _) (fun k e => e.elim)⟩)
end Go.Proofs.YtookojfigjdgcaaDoor
