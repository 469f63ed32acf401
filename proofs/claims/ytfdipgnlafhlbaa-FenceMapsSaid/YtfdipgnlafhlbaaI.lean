/- A slice of acts, read; FenceLeases for each slice. -/
import Derived.Test.YtfdipgnlafhlbaaH
import Derived.Deep.Slices
import Derived.ChangeArms
set_option linter.unusedVariables false
namespace Go.Proofs.Ytfdipgnlafhlbaa
open Go.RowKit Go.ChangeShapes Go.WideShapes Go.ChangeAt Go.Deep
variable {H : Type} {enc : TypeId × Value → H} {w : World} {spare : Nat → Bool} {held : Bool}
theorem add_off (b off k : Nat) : (⟨b, off, none⟩ : Addr).add k = ⟨b, off + k, none⟩ := by
  unfold Addr.add
  by_cases h : k = 0 <;> simp [h]
theorem take_one {cs : List Value} {j : Nat} {v : Value} (h : (cs.drop j).take 1 = [v]) : cs[j]? = some v := by
  have : ((cs.drop j).take 1)[0]? = some v := by rw [h]; rfl
  simpa using this
theorem take_get {cs : List Value} {j n i : Nat} {v : Value} (h : ((cs.drop j).take n)[i]? = some v) : cs[j + i]? = some v := by
  rw [List.getElem?_take] at h
  split at h
  · rw [List.getElem?_drop] at h; exact h
  · cases h
theorem fld {fs : Array Field} {t : TypeId} {fuel : Nat} {cs : List Value} {x : DataW H × List MemPlace} (ht : Try.prog.underlying t = some (.struct fs)) (h : DataW.trod enc Try.prog w 0 spare held fuel t cs = some x) (i : Nat) (f : Field) (hf : fs[i]? = some f) :
    ∃ n y, DataW.trod enc Try.prog w 0 spare held n f.type ((cs.drop f.offset).take (Try.prog.cellsOf f.type)) = some y := by
  obtain ⟨xs, n, _, _, _, hlen, hx⟩ := DataW.trod_struct ht h
  have h1 := hx i f hf
  have h2 : i < xs.length := by rw [hlen]; exact (Array.getElem?_eq_some_iff.1 hf).1
  rw [List.getElem?_eq_getElem h2] at h1
  exact ⟨n, _, h1⟩
theorem fldInt {fs : Array Field} {t : TypeId} {fuel : Nat} {cs : List Value} {x : DataW H × List MemPlace} (ht : Try.prog.underlying t = some (.struct fs)) (h : DataW.trod enc Try.prog w 0 spare held fuel t cs = some x) (i : Nat) (f : Field) (hf : fs[i]? = some f)
    (hi : Try.prog.underlying f.type = some (.int .i64)) (hc : Try.prog.cellsOf f.type = 1) : ∃ m, cs[f.offset]? = some (.int .i64 m) ∧ (Lit.int .i64 m).wf = true := by
  obtain ⟨n, y, hy⟩ := fld ht h i f hf
  obtain ⟨m, e, _, wf⟩ := DataW.trod_int hi hy
  rw [hc] at e
  exact ⟨m, take_one e, wf⟩
theorem c3 : Try.prog.cellsOf 3 = 1 := by kernel_rfl
theorem c25 : Try.prog.cellsOf 25 = 2 := by kernel_rfl
theorem c46 : Try.prog.cellsOf 46 = 7 := by kernel_rfl
theorem read25 {fuel : Nat} {cs : List Value} {x : DataW H × List MemPlace} (h : DataW.trod enc Try.prog w 0 spare held fuel 25 cs = some x) (j : Nat) (hj : j < 2) : ∃ m, cs[j]? = some (.int .i64 m) ∧ (Lit.int .i64 m).wf = true := by
  match j, hj with
  | 0, _ => exact fldInt Try.underlying25 h 0 _ rfl Try.underlying3 c3
  | 1, _ => exact fldInt Try.underlying25 h 1 _ rfl Try.underlying3 c3
theorem read46 {fuel : Nat} {cs : List Value} {x : DataW H × List MemPlace} (h : DataW.trod enc Try.prog w 0 spare held fuel 46 cs = some x) (j : Nat) (hj : j < 7) : ∃ m, cs[j]? = some (.int .i64 m) ∧ (Lit.int .i64 m).wf = true := by
  have hF : ∀ i, i < 2 → ∃ m, cs[5 + i]? = some (.int .i64 m) ∧ (Lit.int .i64 m).wf = true := by
    intro i hi
    obtain ⟨n, y, hy⟩ := fld Try.underlying46 h 5 _ rfl
    obtain ⟨m, hm, wf⟩ := read25 hy i hi
    exact ⟨m, take_get hm, wf⟩
  match j, hj with
  | 0, _ => exact fldInt Try.underlying46 h 0 _ rfl Try.underlying3 c3
  | 1, _ => exact fldInt Try.underlying46 h 1 _ rfl Try.underlying3 c3
  | 2, _ => exact fldInt Try.underlying46 h 2 _ rfl Try.underlying3 c3
  | 3, _ => exact fldInt Try.underlying46 h 3 _ rfl Try.underlying3 c3
  | 4, _ => exact fldInt Try.underlying46 h 4 _ rfl Try.underlying3 c3
  | 5, _ => exact hF 0 (by decide)
  | 6, _ => exact hF 1 (by decide)
/-- a slice of acts that came in -/
theorem openActs {a : Option Addr} {len cap : Nat} {d : DataW H} {p : List MemPlace} (h : DataW.Trod enc Try.prog w 0 (fun _ => true) held 41 (.slice a len cap) d p) :
    len ≤ 9223372036854775807 ∧ (len = 0 ∨ (0 < len ∧ ∃ b off f, a = some ⟨b, off, none⟩ ∧ Acts w b off len f)) := by
  obtain ⟨fuel, hf⟩ := h
  rcases open_slice Try.underlying41 hf with ⟨hcs, _⟩ | ⟨x, l, c, m, n, D, Pl, hcs, _, hl, hm, hmm, _, hel⟩
  · simp [Value.cells] at hcs
    obtain ⟨rfl, rfl, rfl⟩ := hcs
    exact ⟨by omega, .inl rfl⟩
  · simp [Value.cells] at hcs
    obtain ⟨rfl, rfl, rfl⟩ := hcs
    unfold maxLen at hm
    refine ⟨by omega, ?_⟩
    by_cases h0 : len = 0
    · exact .inl h0
    · right
      rw [c46] at hel
      simp only [if_true] at hmm
      have key : ∀ i, i < len → ∀ j, j < 7 → ∃ v, w.cell? ((x.add (i * 7)).add j) = some (.int .i64 v) ∧ (Lit.int .i64 v).wf = true := by
        intro i hi j hj
        obtain ⟨cs', h1, h2⟩ := hel i (by omega)
        obtain ⟨v, hv, wf⟩ := read46 h2 j hj
        obtain ⟨_, _, h3⟩ := World.cells?_some h1
        exact ⟨v, (h3 j hj).trans hv, wf⟩
      have hsp : ∃ b off, x = ⟨b, off, none⟩ := by
        obtain ⟨v, hv, _⟩ := key 0 (by omega) 0 (by decide)
        obtain ⟨b, off, spot⟩ := x
        have := World.cell?_spot hv
        simp [Addr.add] at this
        subst this
        exact ⟨b, off, rfl⟩
      obtain ⟨b, off, rfl⟩ := hsp
      have key' : ∀ i, i < len → ∀ j, j < 7 → ∃ v, w.cell? ⟨b, off + i * 7 + j, none⟩ = some (.int .i64 v) ∧ (Lit.int .i64 v).wf = true := by
        intro i hi j hj
        have := key i hi j hj
        rw [add_off, add_off] at this
        exact this
      refine ⟨by omega, b, off, fun i j => if h : i < len ∧ j < 7 then (key' i h.1 j h.2).choose else 0, rfl, ?_, ?_⟩
      · obtain ⟨v, hv, _⟩ := key 0 (by omega) 0 (by decide)
        exact World.block_lt_of_cell? _ _ hv
      · intro i hi j hj
        have := (key' i hi j hj).choose_spec
        simp only [dif_pos (And.intro hi hj)]
        exact this
theorem leases (w : World) (a : Option Addr) (len cap : Nat) (h : len ≤ 9223372036854775807 ∧ (len = 0 ∨ (0 < len ∧ ∃ b off f, a = some ⟨b, off, none⟩ ∧ Acts w b off len f))) :
    Calls Try.prog 5 #[.slice a len cap] w fun e w' => e = .returned (.bool true) ∧ Below w.heap.size w w' := by
  obtain ⟨hn, rfl | ⟨hp, b, off, f, rfl, hA⟩⟩ := h
  · exact leases_none a cap w
  · by_cases hl : 250 < len
    · exact leases_long _ len cap hn hl w
    · exact leases_core b off len cap f w (by omega) hA
end Go.Proofs.Ytfdipgnlafhlbaa
