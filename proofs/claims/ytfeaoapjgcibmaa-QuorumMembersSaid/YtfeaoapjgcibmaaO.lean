/- What comes in: rows of integers, of bools; members. -/
import Derived.Test.YtfeaoapjgcibmaaG
import Derived.Deep.Grids
import Derived.OpenShut
import Derived.ProofKit
import Derived.ChangeOld
set_option linter.unusedVariables false
set_option linter.unusedSimpArgs false
namespace Go.Proofs.Ytfeaoapjgcibmaa
open Go.RowKit Go.Shelf Go.ChangeShapes Go.WideShapes Go.ChangeAt Go.Deep
section
variable {H : Type} {enc : TypeId × Value → H} {P : Program} {W : World}
theorem ints_open {T E : TypeId} {k : IntKind} {a : Option Addr} {len cap : Nat} {d : DataW H} {p : List MemPlace} (hT : P.underlying T = some (.slice E)) (hE : P.underlying E = some (.int k)) (hc : P.cellsOf E = 1)
    (h : DataW.Trod enc P W 0 (fun _ => true) true T (.slice a len cap) d p) : ∃ f : Nat → Int, len ≤ 9223372036854775807 ∧ Row W a len (fun j => .int k (f j)) ∧ ∀ j, j < len → (Lit.int k (f j)).wf = true := by
  obtain ⟨fuel, hf⟩ := h
  rcases open_ints hT hE hc hf with ⟨hcs, _⟩ | ⟨x, l, c, zs, hcs, _, hl, hm, hz, _, hcell, hwz⟩
  · simp [Value.cells] at hcs
    obtain ⟨rfl, rfl, rfl⟩ := hcs
    exact ⟨fun _ => 0, by omega, .inl rfl, fun j hj => by omega⟩
  · simp [Value.cells] at hcs
    obtain ⟨rfl, rfl, rfl⟩ := hcs
    simp at hz
    unfold maxLen at hm
    refine ⟨fun i => zs.getD i 0, by omega, ?_, fun j hj => ?_⟩
    · by_cases h0 : len = 0
      · exact .inl h0
      · obtain ⟨b, off, rfl, hc'⟩ := ints_at hcell (by omega)
        exact .inr ⟨b, off, rfl, lt_of_cell (hc' 0 (by omega)), fun j hj => hc' j (by omega)⟩
    · refine hwz _ ?_
      show zs.getD j 0 ∈ zs
      rw [List.getD_eq_getElem?_getD, List.getElem?_eq_getElem (by omega)]
      exact List.getElem_mem _
theorem bools_open {T E : TypeId} {a : Option Addr} {len cap : Nat} {d : DataW H} {p : List MemPlace} (hT : P.underlying T = some (.slice E)) (hE : P.underlying E = some .bool) (hc : P.cellsOf E = 1)
    (h : DataW.Trod enc P W 0 (fun _ => true) true T (.slice a len cap) d p) : ∃ f : Nat → Bool, len ≤ cap ∧ cap ≤ 9223372036854775807 ∧ Row W a cap (fun j => .bool (f j)) := by
  obtain ⟨fuel, hf⟩ := h
  rcases open_bools hT hE hc hf with ⟨hcs, _⟩ | ⟨x, l, c, B, hcs, _, hl, hm, _, hcell⟩
  · simp [Value.cells] at hcs
    obtain ⟨rfl, rfl, rfl⟩ := hcs
    exact ⟨fun _ => false, by omega, by omega, .inl rfl⟩
  · simp [Value.cells] at hcs
    obtain ⟨rfl, rfl, rfl⟩ := hcs
    unfold maxLen at hm
    refine ⟨B, by omega, by omega, ?_⟩
    by_cases h0 : cap = 0
    · exact .inl h0
    · obtain ⟨b, off, spot⟩ := x
      have hspot : spot = none := by simpa [Addr.add] using World.cell?_spot (hcell 0 (by omega))
      subst hspot
      have hc' : ∀ j, j < cap → W.cell? ⟨b, off + j, none⟩ = some (.bool (B j)) := fun j hj => by rw [← Go.WideShapes.add_plain]; exact hcell j hj
      exact .inr ⟨b, off, rfl, lt_of_cell (hc' 0 (by omega)), hc'⟩
theorem arr9_open {T E : TypeId} {base : Nat} {v : Value} {d : DataW H} {p : List MemPlace} (hT : P.underlying T = some (.array 9 E)) (hE : P.underlying E = some (.int .u8)) (hc : P.cellsOf E = 1) (hcT : P.cellsOf T = 9)
    (hok : Value.okWide P W .any base T v) (h : DataW.Trod enc P W 0 (fun _ => true) true T v d p) : ∃ m : Nat → Int, v = .agg #[.int .u8 (m 0), .int .u8 (m 1), .int .u8 (m 2), .int .u8 (m 3), .int .u8 (m 4), .int .u8 (m 5), .int .u8 (m 6), .int .u8 (m 7), .int .u8 (m 8)] ∧ ∀ k, k < 9 → 0 ≤ m k ∧ m k ≤ 255 := by
  obtain ⟨cs, rfl, hsz, _⟩ : ∃ cs, v = .agg cs ∧ cs.size = P.cellsOf T ∧ Row.okWide P W .any base T cs := by
    simpa [Value.okWide, hT] using hok
  rw [hcT] at hsz
  obtain ⟨l⟩ := cs
  obtain ⟨fuel, hf⟩ := h
  obtain ⟨xs, mm, _, ex, hlen, hl, hel⟩ := DataW.trod_array hT hf
  simp only [hc, Nat.mul_one, Value.cells] at hel
  have each : ∀ i, i < 9 → ∃ x, l[i]? = some (.int .u8 x) ∧ 0 ≤ x ∧ x ≤ 255 := fun i hi => by
    have h1 := hel i hi
    rw [List.getElem?_eq_getElem (by omega)] at h1
    obtain ⟨x, e, _, wf⟩ := DataW.trod_int hE h1
    have hb := bounds_u8 wf
    refine ⟨x, ?_, hb.1, hb.2⟩
    have hls : l.length = 9 := hsz
    have hli : i < l.length := by omega
    rw [List.getElem?_eq_getElem hli]
    have e2 : List.take 1 (List.drop i l) = [l[i]] := by rw [List.drop_eq_getElem_cons hli]; rfl
    have e3 : [l[i]] = [Value.int .u8 x] := e2.symm.trans e
    simpa using e3
  obtain ⟨m, hm⟩ : ∃ m : Nat → Int, ∀ i, i < 9 → l[i]? = some (.int .u8 (m i)) ∧ 0 ≤ m i ∧ m i ≤ 255 :=
    ⟨fun i => if h : i < 9 then Classical.choose (each i h) else 0, fun i hi => by simp only [hi, dif_pos]; exact Classical.choose_spec (each i hi)⟩
  refine ⟨m, ?_, fun k hk => (hm k hk).2⟩
  have hls : l.length = 9 := hsz
  have : l = [.int .u8 (m 0), .int .u8 (m 1), .int .u8 (m 2), .int .u8 (m 3), .int .u8 (m 4), .int .u8 (m 5), .int .u8 (m 6), .int .u8 (m 7), .int .u8 (m 8)] := by
    apply List.ext_getElem? 
    intro i
    by_cases hi : i < 9
    · rw [(hm i hi).1]
      have : i = 0 ∨ i = 1 ∨ i = 2 ∨ i = 3 ∨ i = 4 ∨ i = 5 ∨ i = 6 ∨ i = 7 ∨ i = 8 := by omega
      rcases this with rfl | rfl | rfl | rfl | rfl | rfl | rfl | rfl | rfl <;> rfl
    · rw [List.getElem?_eq_none (by omega), List.getElem?_eq_none (by simp; omega)]
  rw [this]
end
end Go.Proofs.Ytfeaoapjgcibmaa
