/- What comes in: rows of three integers. -/
import Derived.Test.YtjcnmlfkdfpjmaaL
import Derived.OpenShut
import Derived.ProofKit
import Derived.ChangeOld
import Derived.Deep.Slices
set_option linter.unusedVariables false
set_option linter.unusedSimpArgs false
namespace Go.Proofs.Ytjcnmlfkdfpjmaa
open Go.RowKit Go.ChangeShapes Go.WideShapes Go.ChangeAt
section
variable {H : Type} {enc : TypeId × Value → H} {P : Program} {W : World}
/-- A SLICE OF STRUCTS OF ONE-CELL FIELDS -/
theorem rows_open {T E : TypeId} {fs : Array Field} {sz : Nat} {a : Option Addr} {len cap : Nat} {d : DataW H} {p : List MemPlace} (hT : P.underlying T = some (.slice E)) (hE : P.underlying E = some (.struct fs)) (hc : P.cellsOf E = sz)
    (hf : ∀ (k : Nat) (f : Field), fs[k]? = some f → f.offset = k ∧ P.cellsOf f.type = 1) (hz : fs.size = sz) (hp : 0 < sz)
    (h : DataW.Trod enc P W 0 (fun _ => true) true T (.slice a len cap) d p) :
    len ≤ 9223372036854775807 ∧ (len = 0 ∨ ∃ (b o n : Nat) (V : Nat → Nat → Value), a = some ⟨b, o, none⟩ ∧ b < W.heap.size ∧ ∀ i, i < len → ∀ (k : Nat) (f : Field), fs[k]? = some f →
      W.cell? ⟨b, o + i * sz + k, none⟩ = some (V i k) ∧ ∃ y, DataW.trod enc P W 0 (fun _ => true) true n f.type [V i k] = some y) := by
  obtain ⟨fuel, h⟩ := h
  rcases Go.Deep.open_slice hT h with ⟨h0, _⟩ | ⟨A, l, c, m, n, D, Pl, hcs, _, hl, hm, hmm, hx, hel⟩
  · simp [Value.cells] at h0
    obtain ⟨rfl, rfl, rfl⟩ := h0
    exact ⟨by omega, .inl rfl⟩
  simp [Value.cells] at hcs
  obtain ⟨rfl, rfl, rfl⟩ := hcs
  unfold maxLen at hm
  refine ⟨by omega, ?_⟩
  by_cases h0 : len = 0
  · exact .inl h0
  right
  simp at hmm
  subst hmm
  have hd : d = .slice ((List.range len).map D) ((List.range (m - len)).map fun j => D (len + j)) := congrArg Prod.fst hx
  have each : ∀ i, i < len → ∃ cs : List Value, ∀ (k : Nat) (f : Field), fs[k]? = some f → W.cell? (A.add (i * sz + k)) = some (cs.getD k undef) ∧ ∃ y, DataW.trod enc P W 0 (fun _ => true) true (n - 1) f.type [cs.getD k undef] = some y := fun i hi => by
    obtain ⟨cs, h1, h2⟩ := hel i (by omega)
    rw [hc] at h1
    obtain ⟨_, hlen, hcell⟩ := World.cells?_some h1
    obtain ⟨xs, k', hk, hxy, _, hxl, hfs⟩ := DataW.trod_struct hE h2
    refine ⟨cs, fun k f hkf => ?_⟩
    obtain ⟨ho, hc1⟩ := hf k f hkf
    have hks : k < sz := by rw [← hz]; exact (Array.getElem?_eq_some_iff.1 hkf).1
    have hkc : k < cs.length := by omega
    have e0 := hcell k hks
    rw [Go.Deep.add_add, List.getElem?_eq_getElem hkc] at e0
    have hg : cs.getD k undef = cs[k] := by simp [List.getD, List.getElem?_eq_getElem hkc]
    rw [hg]
    refine ⟨e0, ?_⟩
    have e1 := hfs k f hkf
    rw [ho, hc1] at e1
    have e2 : (cs.drop k).take 1 = [cs[k]] := by
      rw [List.drop_eq_getElem_cons hkc]
      rfl
    rw [e2, List.getElem?_eq_getElem (by rw [hxl, hz]; exact hks)] at e1
    exact ⟨xs[k]'(by rw [hxl, hz]; exact hks), by rw [show n - 1 = k' by omega]; exact e1⟩
  obtain ⟨C, hC⟩ := Go.Deep.choose_lt each
  obtain ⟨f0, hf0⟩ : ∃ f, fs[0]? = some f := ⟨_, Array.getElem?_eq_getElem (by rw [hz]; exact hp)⟩
  have h00 := (hC 0 (by omega) 0 f0 hf0).1
  obtain ⟨b, o, spot⟩ := A
  have hspot : spot = none := by simpa [Addr.add] using World.cell?_spot h00
  subst hspot
  refine ⟨b, o, n - 1, fun i k => (C i).getD k undef, rfl, ?_, fun i hi k f hkf => ?_⟩
  · have := lt_of_cell h00
    rw [add_block] at this
    exact this
  · obtain ⟨g1, g2⟩ := hC i hi k f hkf
    rw [off_add, ← Nat.add_assoc] at g1
    exact ⟨g1, g2⟩
theorem rows3_of {T E : TypeId} {fs : Array Field} {a : Option Addr} {len cap : Nat} {d : DataW H} {p : List MemPlace} (hT : Try.prog.underlying T = some (.slice E)) (hE : Try.prog.underlying E = some (.struct fs)) (hc : Try.prog.cellsOf E = 3) (hz : fs.size = 3)
    (hf : ∀ (k : Nat) (f : Field), fs[k]? = some f → f.offset = k ∧ f.type = 3) (h : DataW.Trod enc Try.prog W 0 (fun _ => true) true T (.slice a len cap) d p) :
    ∃ f0 f1 f2 : Nat → Int, len ≤ 9223372036854775807 ∧ Rows3 W a len f0 f1 f2 ∧ ∀ i, i < len → (Lit.int .i64 (f0 i)).wf = true ∧ (Lit.int .i64 (f1 i)).wf = true ∧ (Lit.int .i64 (f2 i)).wf = true := by
  have c3 : Try.prog.cellsOf 3 = 1 := by kernel_rfl
  obtain ⟨hl, h⟩ := rows_open hT hE hc (fun k f hk => ⟨(hf k f hk).1, by rw [(hf k f hk).2]; exact c3⟩) hz (by omega) h
  rcases h with h0 | ⟨b, o, n, V, rfl, hb, hel⟩
  · exact ⟨fun _ => 0, fun _ => 0, fun _ => 0, hl, .inl h0, fun i hi => by omega⟩
  have e1 : ∀ k, k < 3 → ∀ i, i < len → ∃ z : Int, V i k = .int .i64 z ∧ (Lit.int .i64 z).wf = true ∧ W.cell? ⟨b, o + i * 3 + k, none⟩ = some (.int .i64 z) := fun k hk i hi => by
    have hkf : fs[k]? = some (fs[k]'(by omega)) := Array.getElem?_eq_getElem _
    obtain ⟨hcell, y, hy⟩ := hel i hi k _ hkf
    rw [(hf k _ hkf).2] at hy
    obtain ⟨z, hz, _, hw⟩ := DataW.trod_int under3 hy
    have hzz : V i k = .int .i64 z := by simpa using hz
    exact ⟨z, hzz, hw, by rw [hcell, hzz]⟩
  obtain ⟨z0, h0⟩ := Go.Deep.choose_lt (e1 0 (by omega))
  obtain ⟨z1, h1⟩ := Go.Deep.choose_lt (e1 1 (by omega))
  obtain ⟨z2, h2⟩ := Go.Deep.choose_lt (e1 2 (by omega))
  exact ⟨z0, z1, z2, hl, .inr ⟨b, o, rfl, hb, fun i hi => ⟨(h0 i hi).2.2, (h1 i hi).2.2, (h2 i hi).2.2⟩⟩, fun i hi => ⟨(h0 i hi).2.1, (h1 i hi).2.1, (h2 i hi).2.1⟩⟩
theorem three_fields {fs : Array Field} {f0 f1 f2 : Field} (h : fs = #[f0, f1, f2]) (o0 : f0.offset = 0 ∧ f0.type = 3) (o1 : f1.offset = 1 ∧ f1.type = 3) (o2 : f2.offset = 2 ∧ f2.type = 3) (k : Nat) (f : Field) (hk : fs[k]? = some f) : f.offset = k ∧ f.type = 3 := by
  subst h
  match k, hk with
  | 0, hk => cases hk; exact o0
  | 1, hk => cases hk; exact o1
  | 2, hk => cases hk; exact o2
  | k + 3, hk => simp at hk
theorem draws_open {a : Option Addr} {len cap : Nat} {d : DataW H} {p : List MemPlace} (h : DataW.Trod enc Try.prog W 0 (fun _ => true) true 39 (.slice a len cap) d p) :
    ∃ f0 f1 f2 : Nat → Int, len ≤ 9223372036854775807 ∧ Rows3 W a len f0 f1 f2 ∧ ∀ i, i < len → (Lit.int .i64 (f0 i)).wf = true ∧ (Lit.int .i64 (f1 i)).wf = true ∧ (Lit.int .i64 (f2 i)).wf = true :=
  rows3_of Try.underlying39 Try.underlying44 (by kernel_rfl) rfl (three_fields rfl ⟨rfl, rfl⟩ ⟨rfl, rfl⟩ ⟨rfl, rfl⟩) h
theorem acts_open {a : Option Addr} {len cap : Nat} {d : DataW H} {p : List MemPlace} (h : DataW.Trod enc Try.prog W 0 (fun _ => true) true 50 (.slice a len cap) d p) :
    ∃ f0 f1 f2 : Nat → Int, len ≤ 9223372036854775807 ∧ Rows3 W a len f0 f1 f2 ∧ ∀ i, i < len → (Lit.int .i64 (f0 i)).wf = true ∧ (Lit.int .i64 (f1 i)).wf = true ∧ (Lit.int .i64 (f2 i)).wf = true :=
  rows3_of Try.underlying50 Try.underlying56 (by kernel_rfl) rfl (three_fields rfl ⟨rfl, rfl⟩ ⟨rfl, rfl⟩ ⟨rfl, rfl⟩) h
end
theorem source_row (s : Int) (W : World) (a : Option Addr) (len cap : Nat) (h : ∃ f0 f1 f2 : Nat → Int, len ≤ 9223372036854775807 ∧ Rows3 W a len f0 f1 f2 ∧ ∀ i, i < len → (Lit.int .i64 (f0 i)).wf = true ∧ (Lit.int .i64 (f1 i)).wf = true ∧ (Lit.int .i64 (f2 i)).wf = true) :
    Calls Try.prog 5 #[.int .u64 s, .slice a len cap] W fun e W' => e = .returned (.bool true) ∧ Below W.heap.size W W' := by
  obtain ⟨f0, f1, f2, hl, hr, hw⟩ := h
  exact source_law s W a len cap f0 f1 f2 hl hr (fun i hi => (bounds_i64 (hw i hi).2.1).2)
end Go.Proofs.Ytjcnmlfkdfpjmaa
