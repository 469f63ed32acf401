/- What comes in: rows of five integers. -/
import Derived.Test.YtklfppjejndclaaR
import Derived.Test.YtklfppjejndclaaO
import Derived.OpenShut
import Derived.ProofKit
import Derived.ChangeOld
import Derived.Deep.Slices
set_option linter.unusedVariables false
set_option linter.unusedSimpArgs false
namespace Go.Proofs.Ytklfppjejndclaa.P2
open Go.RowKit Go.ChangeShapes Go.WideShapes Go.ChangeAt
/-- rows of five integers that a slice shows -/
def Rows5 (W : World) (a : Option Addr) (len : Nat) (f : Nat → Nat → Int) : Prop :=
  len = 0 ∨ ∃ b o, a = some ⟨b, o, none⟩ ∧ b < W.heap.size ∧ ∀ i, i < len → ∀ k, k < 5 → W.cell? ⟨b, o + i * 5 + k, none⟩ = some (.int .i64 (f k i))
section
variable {H : Type} {enc : TypeId × Value → H} {P : Program} {W : World}
/-- A SLICE OF STRUCTS OF ONE-CELL FIELDS -/
theorem rows_open {T E : TypeId} {fs : Array Field} {sz : Nat} {a : Option Addr} {len cap : Nat} {d : DataW H} {p : List MemPlace} (hT : P.underlying T = some (.slice E)) (hE : P.underlying E = some (.struct fs)) (hc : P.cellsOf E = sz)
    (hf : ∀ (k : Nat) (f : Field), fs[k]? = some f → f.offset = k ∧ P.cellsOf f.type = 1) (hz : fs.size = sz) (hp : 0 < sz)
    (h : DataW.Trod enc P W 0 (fun _ => true) true T (.slice a len cap) d p) :
    len ≤ 9223372036854775807 ∧ (len = 0 ∨ ∃ (b o n : Nat) (V : Nat → Nat → Value), a = some ⟨b, o, none⟩ ∧ b < W.heap.size ∧ ∀ i, i < len → ∀ (k : Nat) (f : Field), fs[k]? = some f →
      W.cell? ⟨b, o + i * sz + k, none⟩ = some (V i k) ∧ ∃ y, DataW.trod enc P W 0 (fun _ => true) true n f.type [V i k] = some y) := by
  obtain ⟨fuel, h⟩ := h
  rcases Go.Deep.open_slice hT h with ⟨h0, _⟩ | ⟨A, l, c, m, n, D, Pl, hcs, _, hl, hm, hmm, hx, hel⟩
  · simp [Value.cells] at h0
    obtain ⟨rfl, rfl, rfl⟩ := h0
    exact ⟨by omega, .inl rfl⟩
  simp [Value.cells] at hcs
  obtain ⟨rfl, rfl, rfl⟩ := hcs
  unfold maxLen at hm
  refine ⟨by omega, ?_⟩
  by_cases h0 : len = 0
  · exact .inl h0
  right
  simp at hmm
  subst hmm
  have hd : d = .slice ((List.range len).map D) ((List.range (m - len)).map fun j => D (len + j)) := congrArg Prod.fst hx
  have each : ∀ i, i < len → ∃ cs : List Value, ∀ (k : Nat) (f : Field), fs[k]? = some f → W.cell? (A.add (i * sz + k)) = some (cs.getD k undef) ∧ ∃ y, DataW.trod enc P W 0 (fun _ => true) true (n - 1) f.type [cs.getD k undef] = some y := fun i hi => by
    obtain ⟨cs, h1, h2⟩ := hel i (by omega)
    rw [hc] at h1
    obtain ⟨_, hlen, hcell⟩ := World.cells?_some h1
    obtain ⟨xs, k', hk, hxy, _, hxl, hfs⟩ := DataW.trod_struct hE h2
    refine ⟨cs, fun k f hkf => ?_⟩
    obtain ⟨ho, hc1⟩ := hf k f hkf
    have hks : k < sz := by rw [← hz]; exact (Array.getElem?_eq_some_iff.1 hkf).1
    have hkc : k < cs.length := by omega
    have e0 := hcell k hks
    rw [Go.Deep.add_add, List.getElem?_eq_getElem hkc] at e0
    have hg : cs.getD k undef = cs[k] := by simp [List.getD, List.getElem?_eq_getElem hkc]
    rw [hg]
    refine ⟨e0, ?_⟩
    have e1 := hfs k f hkf
    rw [ho, hc1] at e1
    have e2 : (cs.drop k).take 1 = [cs[k]] := by
      rw [List.drop_eq_getElem_cons hkc]
      rfl
    rw [e2, List.getElem?_eq_getElem (by rw [hxl, hz]; exact hks)] at e1
    exact ⟨xs[k]'(by rw [hxl, hz]; exact hks), by rw [show n - 1 = k' by omega]; exact e1⟩
  obtain ⟨C, hC⟩ := Go.Deep.choose_lt each
  obtain ⟨f0, hf0⟩ : ∃ f, fs[0]? = some f := ⟨_, Array.getElem?_eq_getElem (by rw [hz]; exact hp)⟩
  have h00 := (hC 0 (by omega) 0 f0 hf0).1
  obtain ⟨b, o, spot⟩ := A
  have hspot : spot = none := by simpa [Addr.add] using World.cell?_spot h00
  subst hspot
  refine ⟨b, o, n - 1, fun i k => (C i).getD k undef, rfl, ?_, fun i hi k f hkf => ?_⟩
  · have := lt_of_cell h00
    rw [add_block] at this
    exact this
  · obtain ⟨g1, g2⟩ := hC i hi k f hkf
    rw [addr_add, ← Nat.add_assoc] at g1
    exact ⟨g1, g2⟩
theorem five_fields {fs : Array Field} {f0 f1 f2 f3 f4 : Field} (h : fs = #[f0, f1, f2, f3, f4]) (o0 : f0.offset = 0 ∧ f0.type = 3) (o1 : f1.offset = 1 ∧ f1.type = 3) (o2 : f2.offset = 2 ∧ f2.type = 3) (o3 : f3.offset = 3 ∧ f3.type = 3) (o4 : f4.offset = 4 ∧ f4.type = 3) (k : Nat) (f : Field) (hk : fs[k]? = some f) : f.offset = k ∧ f.type = 3 := by
  subst h
  match k, hk with
  | 0, hk => cases hk; exact o0
  | 1, hk => cases hk; exact o1
  | 2, hk => cases hk; exact o2
  | 3, hk => cases hk; exact o3
  | 4, hk => cases hk; exact o4
  | k + 5, hk => simp at hk
theorem rows5_of {T E : TypeId} {fs : Array Field} {a : Option Addr} {len cap : Nat} {d : DataW H} {p : List MemPlace} (hT : Try.prog.underlying T = some (.slice E)) (hE : Try.prog.underlying E = some (.struct fs)) (hc : Try.prog.cellsOf E = 5) (hz : fs.size = 5)
    (hf : ∀ (k : Nat) (f : Field), fs[k]? = some f → f.offset = k ∧ f.type = 3) (h : DataW.Trod enc Try.prog W 0 (fun _ => true) true T (.slice a len cap) d p) :
    ∃ f : Nat → Nat → Int, len ≤ 9223372036854775807 ∧ Rows5 W a len f ∧ ∀ i, i < len → ∀ k, k < 5 → (Lit.int .i64 (f k i)).wf = true := by
  have c3 : Try.prog.cellsOf 3 = 1 := by kernel_rfl
  obtain ⟨hl, h⟩ := rows_open hT hE hc (fun k f hk => ⟨(hf k f hk).1, by rw [(hf k f hk).2]; exact c3⟩) hz (by omega) h
  rcases h with h0 | ⟨b, o, n, V, rfl, hb, hel⟩
  · exact ⟨fun _ _ => 0, hl, .inl h0, fun i hi => by omega⟩
  have e1 : ∀ k, k < 5 → ∃ z : Nat → Int, ∀ i, i < len → (Lit.int .i64 (z i)).wf = true ∧ W.cell? ⟨b, o + i * 5 + k, none⟩ = some (.int .i64 (z i)) := fun k hk => by
   have hh : ∀ i, i < len → ∃ z : Int, (Lit.int .i64 z).wf = true ∧ W.cell? ⟨b, o + i * 5 + k, none⟩ = some (.int .i64 z) := fun i hi => by
    have hkf : fs[k]? = some (fs[k]'(by omega)) := Array.getElem?_eq_getElem _
    obtain ⟨hcell, y, hy⟩ := hel i hi k _ hkf
    rw [(hf k _ hkf).2] at hy
    obtain ⟨z, hz, _, hw⟩ := DataW.trod_int under3 hy
    have hzz : V i k = .int .i64 z := by simpa using hz
    exact ⟨z, hw, by rw [hcell, hzz]⟩
   exact Go.Deep.choose_lt hh
  obtain ⟨F, hF⟩ := Go.Deep.choose_lt e1
  exact ⟨F, hl, .inr ⟨b, o, rfl, hb, fun i hi k hk => (hF k hk i hi).2⟩, fun i hi k hk => (hF k hk i hi).1⟩
theorem acts_open {a : Option Addr} {len cap : Nat} {d : DataW H} {p : List MemPlace} (h : DataW.Trod enc Try.prog W 0 (fun _ => true) true 37 (.slice a len cap) d p) :
    ∃ f : Nat → Nat → Int, len ≤ 9223372036854775807 ∧ Rows5 W a len f ∧ ∀ i, i < len → ∀ k, k < 5 → (Lit.int .i64 (f k i)).wf = true :=
  rows5_of Try.underlying37 Try.underlying42 (by kernel_rfl) rfl (five_fields rfl ⟨rfl, rfl⟩ ⟨rfl, rfl⟩ ⟨rfl, rfl⟩ ⟨rfl, rfl⟩ ⟨rfl, rfl⟩) h
end
end Go.Proofs.Ytklfppjejndclaa.P2
