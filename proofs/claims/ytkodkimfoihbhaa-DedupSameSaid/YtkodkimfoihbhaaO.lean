/- What comes in: rows of structs; bytes; plays. -/
import Derived.Test.YtkodkimfoihbhaaH
import Derived.OpenShut
import Derived.ProofKit
import Derived.ChangeOld
import Derived.Deep.Slices
import Derived.SizedLaws
set_option linter.unusedVariables false
set_option linter.unusedSimpArgs false
namespace Go.Proofs.Ytkodkimfoihbhaa
open Go.RowKit Go.ChangeShapes Go.WideShapes Go.ChangeAt
section
variable {H : Type} {enc : TypeId × Value → H} {P : Program} {W : World}
theorem weights_all_mem {e : TypeId} {d : DataW H} {n : Nat} : ∀ {l : List (DataW H)}, d ∈ l → n ∈ d.weights P e → n ∈ DataW.weightsAll P e l
  | x :: l, h, hn => by
    simp only [DataW.weightsAll, List.mem_append]
    rcases List.mem_cons.1 h with rfl | h
    · exact .inl hn
    · exact .inr (weights_all_mem h hn)
/-- A SLICE OF STRUCTS OF ONE-CELL FIELDS -/
theorem rows_open {T E : TypeId} {fs : Array Field} {sz B : Nat} {a : Option Addr} {len cap : Nat} {d : DataW H} {p : List MemPlace} (hT : P.underlying T = some (.slice E)) (hE : P.underlying E = some (.struct fs)) (hc : P.cellsOf E = sz)
    (hf : ∀ (k : Nat) (f : Field), fs[k]? = some f → f.offset = k ∧ P.cellsOf f.type = 1) (hz : fs.size = sz) (hp : 0 < sz)
    (h : DataW.Trod enc P W 0 (fun _ => true) true T (.slice a len cap) d p) (hs : ∀ n ∈ d.weights P T, n ≤ B) :
    len ≤ 9223372036854775807 ∧ (len = 0 ∨ ∃ (b o n : Nat) (V : Nat → Nat → Value), a = some ⟨b, o, none⟩ ∧ b < W.heap.size ∧ ∀ i, i < len → ∀ (k : Nat) (f : Field), fs[k]? = some f →
      W.cell? ⟨b, o + i * sz + k, none⟩ = some (V i k) ∧ ∃ y, DataW.trod enc P W 0 (fun _ => true) true n f.type [V i k] = some y ∧ ∀ q ∈ y.1.weights P f.type, q ≤ B) := by
  obtain ⟨fuel, h⟩ := h
  rcases Go.Deep.open_slice hT h with ⟨h0, _⟩ | ⟨A, l, c, m, n, D, Pl, hcs, _, hl, hm, hmm, hx, hel⟩
  · simp [Value.cells] at h0
    obtain ⟨rfl, rfl, rfl⟩ := h0
    exact ⟨by omega, .inl rfl⟩
  simp [Value.cells] at hcs
  obtain ⟨rfl, rfl, rfl⟩ := hcs
  unfold maxLen at hm
  refine ⟨by omega, ?_⟩
  by_cases h0 : len = 0
  · exact .inl h0
  right
  simp at hmm
  subst hmm
  have hd : d = .slice ((List.range len).map D) ((List.range (m - len)).map fun j => D (len + j)) := congrArg Prod.fst hx
  have each : ∀ i, i < len → ∃ cs : List Value, ∀ (k : Nat) (f : Field), fs[k]? = some f → W.cell? (A.add (i * sz + k)) = some (cs.getD k undef) ∧ ∃ y, DataW.trod enc P W 0 (fun _ => true) true (n - 1) f.type [cs.getD k undef] = some y ∧ ∀ q ∈ y.1.weights P f.type, q ≤ B := fun i hi => by
    obtain ⟨cs, h1, h2⟩ := hel i (by omega)
    rw [hc] at h1
    obtain ⟨_, hlen, hcell⟩ := World.cells?_some h1
    obtain ⟨xs, k', hk, hxy, _, hxl, hfs⟩ := DataW.trod_struct hE h2
    refine ⟨cs, fun k f hkf => ?_⟩
    obtain ⟨ho, hc1⟩ := hf k f hkf
    have hks : k < sz := by rw [← hz]; exact (Array.getElem?_eq_some_iff.1 hkf).1
    have hkc : k < cs.length := by omega
    have e0 := hcell k hks
    rw [Go.Deep.add_add, List.getElem?_eq_getElem hkc] at e0
    have hg : cs.getD k undef = cs[k] := by simp [List.getD, List.getElem?_eq_getElem hkc]
    rw [hg]
    refine ⟨e0, ?_⟩
    have e1 := hfs k f hkf
    rw [ho, hc1] at e1
    have e2 : (cs.drop k).take 1 = [cs[k]] := by
      rw [List.drop_eq_getElem_cons hkc]
      rfl
    rw [e2, List.getElem?_eq_getElem (by rw [hxl, hz]; exact hks)] at e1
    refine ⟨xs[k]'(by rw [hxl, hz]; exact hks), by rw [show n - 1 = k' by omega]; exact e1, fun q hq => hs q ?_⟩
    rw [hd]
    simp only [DataW.weights, hT, List.mem_cons, List.mem_append]
    refine .inr (.inl (weights_all_mem (d := D i) (List.mem_map.2 ⟨i, List.mem_range.2 hi, rfl⟩) ?_))
    have hDi : D i = .agg (xs.map (·.1)) := congrArg Prod.fst hxy
    rw [hDi]
    simp only [DataW.weights, hE]
    refine DataW.weights_mem_each (j := k) (t := f.type) (d := (xs[k]'(by rw [hxl, hz]; exact hks)).1) ?_ ?_ q hq
    · rw [List.getElem?_map, Array.getElem?_toList, hkf]; rfl
    · rw [List.getElem?_map, List.getElem?_eq_getElem (by rw [hxl, hz]; exact hks)]; rfl
  obtain ⟨C, hC⟩ := Go.Deep.choose_lt each
  obtain ⟨f0, hf0⟩ : ∃ f, fs[0]? = some f := ⟨_, Array.getElem?_eq_getElem (by rw [hz]; exact hp)⟩
  have h00 := (hC 0 (by omega) 0 f0 hf0).1
  obtain ⟨b, o, spot⟩ := A
  have hspot : spot = none := by simpa [Addr.add] using World.cell?_spot h00
  subst hspot
  refine ⟨b, o, n - 1, fun i k => (C i).getD k undef, rfl, ?_, fun i hi k f hkf => ?_⟩
  · have := lt_of_cell h00
    rw [add_block] at this
    exact this
  · obtain ⟨g1, g2⟩ := hC i hi k f hkf
    rw [off_add, ← Nat.add_assoc] at g1
    exact ⟨g1, g2⟩
def byteOf : Value → UInt8 | .int _ z => UInt8.ofNat z.toNat | _ => 0
/-- BYTES -/
theorem bytes_open {T E : TypeId} {B n : Nat} {v : Value} {y : DataW H × List MemPlace} (hT : P.underlying T = some (.slice E)) (hE : P.underlying E = some (.int .u8)) (hc : P.cellsOf E = 1) (hb : P.bytesOf E = 1)
    (h : DataW.trod enc P W 0 (fun _ => true) true n T [v] = some y) (hs : ∀ q ∈ y.1.weights P T, q ≤ B) : ∃ q : List UInt8, RowB (From W.heap.size) W v (bs q) ∧ q.length ≤ B := by
  rcases Go.Deep.open_slice1 hT hc h with ⟨h0, _⟩ | ⟨A, len, cap, m, n, V, D, Pl, hcs, _, hl, hm, hmm, hx, hel⟩
  · simp at h0
    subst h0
    exact ⟨[], RowB.nil _ _, Nat.zero_le _⟩
  · simp at hcs
    subst hcs
    simp at hmm
    subst hmm
    have hv : ∀ i, i < len → V i = .int .u8 ((byteOf (V i)).toNat : Int) := fun i hi => by
      obtain ⟨z, hz, _, hw⟩ := DataW.trod_int hE (hel i (by omega)).2
      simp at hz
      rw [hz]
      have := bounds_u8 hw
      simp only [byteOf]
      congr 1
      simp [UInt8.toNat_ofNat]
      omega
    have hlen : (bs ((List.range len).map fun i => byteOf (V i))).length = len := by simp [bs]
    refine ⟨(List.range len).map fun i => byteOf (V i), ⟨some A, m, by rw [hlen], by rw [hlen]; exact hl, hm, fun h => (by cases h), fun a ha => ?_⟩, ?_⟩
    · cases ha
      refine ⟨fun hne e => ?_, fun j u hj => ?_⟩
      · have hpos : 0 < len := by
          apply Nat.pos_of_ne_zero
          intro h0
          apply hne
          rw [h0]; rfl
        have := lt_of_cell (hel 0 (by omega)).1
        rw [add_block] at this
        have e' : W.heap.size ≤ A.block := e
        omega
      · have hj' : j < len := by have := (List.getElem?_eq_some_iff.1 hj).1; rw [hlen] at this; exact this
        rw [(hel j (by omega)).1, hv j hj']
        simp [bs, List.getElem?_range hj'] at hj
        rw [← hj]
    · have hd : y.1 = .slice ((List.range len).map D) ((List.range (m - len)).map fun j => D (len + j)) := by rw [hx]
      have := hs _ (by rw [hd]; simp only [DataW.weights, hT]; exact List.mem_cons_self)
      rw [hb] at this
      simp at this ⊢
      omega
end
theorem acts_open {H : Type} {enc : TypeId × Value → H} {W : World} {a : Option Addr} {len cap : Nat} {d : DataW H} {p : List MemPlace} (h : DataW.Trod enc Try.prog W 0 (fun _ => true) true 22 (.slice a len cap) d p) (hs : ∀ n ∈ d.weights Try.prog 22, n ≤ reachBytes) :
    ∃ pl : Play, Acts W W.heap.size a len pl ∧ PlayOk len pl ∧ len ≤ 9223372036854775807 := by
  have c30 : Try.prog.cellsOf 30 = 1 := by kernel_rfl
  obtain ⟨hl, h⟩ := rows_open Try.underlying22 Try.underlying32 (sz := 4) (by kernel_rfl) (fun k f hk => by
    match k, hk with
    | 0, hk => cases hk; exact ⟨rfl, cells3⟩
    | 1, hk => cases hk; exact ⟨rfl, cells3⟩
    | 2, hk => cases hk; exact ⟨rfl, cells3⟩
    | 3, hk => cases hk; exact ⟨rfl, c30⟩
    | k + 4, hk => simp at hk) rfl (by omega) h hs
  rcases h with h0 | ⟨b, o, n, V, rfl, hb, hel⟩
  · exact ⟨⟨fun _ => 0, fun _ => 0, fun _ => 0, fun _ => undef, fun _ => []⟩, .inl h0, ⟨fun j hj => by omega, fun j hj => by omega, fun j hj => by omega, fun j hj => by omega⟩, hl⟩
  have e0 : ∀ i, i < len → ∃ z : Int, V i 0 = .int .i64 z := fun i hi => by
    obtain ⟨_, y, hy, _⟩ := hel i hi 0 _ rfl
    obtain ⟨z, hz, _, hw⟩ := DataW.trod_int under3 hy
    exact ⟨z, by simpa using hz⟩
  have e1 : ∀ k, k = 1 ∨ k = 2 → ∀ i, i < len → ∃ z : Int, V i k = .int .i64 z ∧ (Lit.int .i64 z).wf = true := fun k hk i hi => by
    rcases hk with rfl | rfl
    · obtain ⟨_, y, hy, _⟩ := hel i hi 1 _ rfl
      obtain ⟨z, hz, _, hw⟩ := DataW.trod_int under3 hy
      exact ⟨z, by simpa using hz, hw⟩
    · obtain ⟨_, y, hy, _⟩ := hel i hi 2 _ rfl
      obtain ⟨z, hz, _, hw⟩ := DataW.trod_int under3 hy
      exact ⟨z, by simpa using hz, hw⟩
  have e3 : ∀ i, i < len → ∃ q : List UInt8, RowB (From W.heap.size) W (V i 3) (bs q) ∧ q.length ≤ reachBytes := fun i hi => by
    obtain ⟨_, y, hy, hq⟩ := hel i hi 3 _ rfl
    exact bytes_open Try.underlying30 under5 (by kernel_rfl) (by kernel_rfl) hy hq
  obtain ⟨z0, h0⟩ := Go.Deep.choose_lt e0
  obtain ⟨z1, h1⟩ := Go.Deep.choose_lt (e1 1 (.inl rfl))
  obtain ⟨z2, h2⟩ := Go.Deep.choose_lt (e1 2 (.inr rfl))
  obtain ⟨q, h3⟩ := Go.Deep.choose_lt e3
  refine ⟨⟨z0, z1, z2, fun i => V i 3, fun i => bs (q i)⟩, .inr ⟨b, o, rfl, hb, fun j hj => ⟨?_, ?_, ?_, (hel j hj 3 _ rfl).1, (h3 j hj).1⟩⟩, ⟨fun j hj => (h1 j hj).2, fun j hj => (h2 j hj).2, fun j hj => ?_, fun j hj => bs_one _⟩, hl⟩
  · have := (hel j hj 0 _ rfl).1
    rw [Nat.add_zero, h0 j hj] at this
    exact this
  · rw [(hel j hj 1 _ rfl).1, (h1 j hj).1]
  · rw [(hel j hj 2 _ rfl).1, (h2 j hj).1]
  · have := (h3 j hj).2
    unfold reachBytes at this
    simp [bs]
    omega
end Go.Proofs.Ytkodkimfoihbhaa
