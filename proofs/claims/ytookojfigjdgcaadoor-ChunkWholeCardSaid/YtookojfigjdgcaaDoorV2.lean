/- A []int out of the statement's own reading; the law ChunkWhole. -/
import Derived.Test.YtookojfigjdgcaaDoorV1
import Derived.Test.YtookojfigjdgcaaDoorWholeW
set_option linter.unusedVariables false
set_option linter.unusedSimpArgs false
namespace Go.Proofs.YtookojfigjdgcaaDoor
open Go.ChangeShapes Go.WideShapes Go.RowKit
theorem ints_open {H : Type} {enc : TypeId × Value → H} {W : World} {a : Option Addr} {len cap : Nat} {d : DataW H} {p : List MemPlace} (h : DataW.Trod enc Tryd.prog W 0 (fun _ => true) true 39 (.slice a len cap) d p) :
    ∃ l : List Int, l.length = len ∧ (∀ i z, l[i]? = some z → ∃ b o, a = some ⟨b, o, none⟩ ∧ W.cell? ⟨b, o + i, none⟩ = some (.int .i64 z)) ∧ ∀ z ∈ l, In64 z := by
  obtain ⟨fuel, hf⟩ := h
  rcases open_ints Tryd.underlying39 Tryd.underlying3 (by kernel_rfl) hf with ⟨hcs, _⟩ | ⟨x, l, c, zs, hcs, _, hl, hm, hz, _, hcell, hwz⟩
  · simp [Value.cells] at hcs
    obtain ⟨rfl, rfl, rfl⟩ := hcs
    exact ⟨[], rfl, fun i z h => (by simp at h), fun z h => (by cases h)⟩
  · simp [Value.cells] at hcs
    obtain ⟨rfl, rfl, rfl⟩ := hcs
    have hz : zs.length = cap := by simpa using hz
    refine ⟨zs.take len, by simp; omega, fun i z hi => ?_, fun z hz => wf_i64 (hwz z (List.mem_of_mem_take hz))⟩
    have hlt : i < len := by
      rcases Nat.lt_or_ge i len with h | h
      · exact h
      · rw [List.getElem?_eq_none (by simp; omega)] at hi; cases hi
    rw [List.getElem?_take_of_lt hlt] at hi
    have hc := hcell i (by omega)
    have hc0 := hcell 0 (by omega)
    obtain ⟨b, o, m⟩ := x
    have hm0 : m = none := by
      cases m with
      | none => rfl
      | some y =>
        simp [World.cell?, Addr.add] at hc0
        split at hc0 <;> simp at hc0
    subst hm0
    rw [off_add, List.getD_eq_getElem?_getD, hi] at hc
    exact ⟨b, o, rfl, hc⟩
theorem whole_law (W : World) (hL : Laid W) (ao : Option Addr) (n cp : Nat) (l : List UInt8) (hl : RowY W ao l) (hn : l.length = n) (hcp : n ≤ cp) (hcm : cp ≤ maxLen) (h0 : ao = none → n = 0 ∧ cp = 0) (sz : Int) (_ : (Lit.int .i64 sz).wf = true)
    (bo : Option Addr) (n' cp' : Nat) (l' : List UInt8) (hl' : RowY W bo l') (hn' : l'.length = n') (hcp' : n' ≤ cp') (hcm' : cp' ≤ maxLen) (h0' : bo = none → n' = 0 ∧ cp' = 0) (many : Int) (_ : (Lit.int .i64 many).wf = true)
    (ko : Option Addr) (kn kc : Nat) (ks : List Int) (hk : ks.length = kn) (hrow : ∀ i z, ks[i]? = some z → ∃ b o, ko = some ⟨b, o, none⟩ ∧ W.cell? ⟨b, o + i, none⟩ = some (.int .i64 z)) (hwf : ∀ z ∈ ks, In64 z) :
    Calls Tryd.prog 4 #[.slice ao n cp, .int .i64 sz, .slice bo n' cp', .int .i64 many, .slice ko kn kc] W fun e W' => e = .returned (.bool true) ∧ Below W.heap.size W W' :=
  Calls.mono (whole_any W hL ao n cp l hl hn hcp hcm h0 sz bo n' cp' l' hl' hn' hcp' hcm' h0' many ko kn kc ks hk hrow hwf) (fun e W' h => ⟨h.1, h.2.below (Nat.le_refl _) (fun k e => e.elim)⟩)
end Go.Proofs.YtookojfigjdgcaaDoor
