/- Acts out of the statement's own reading. -/
import Derived.Test.YtookojfigjdgcaaDoorRF
import Derived.Test.YtookojfigjdgcaaDoorV1
import Derived.Deep.Slices
import Derived.SizedLaws
set_option linter.unusedVariables false
set_option linter.unusedSimpArgs false
namespace Go.Proofs.YtookojfigjdgcaaDoor
open Go.RowKit Go.ChangeShapes Go.WideShapes
section
variable {H : Type} {enc : TypeId × Value → H} {P : Program} {W : World}
theorem weights_all_mem {e : TypeId} {d : DataW H} {n : Nat} : ∀ {l : List (DataW H)}, d ∈ l → n ∈ d.weights P e → n ∈ DataW.weightsAll P e l
  | x :: l, h, hn => by
    simp only [DataW.weightsAll, List.mem_append]
    rcases List.mem_cons.1 h with rfl | h
    · exact .inl hn
    · exact .inr (weights_all_mem h hn)
/-- the elements of a slice, each as a list of cells -/
theorem elems_open {T E : TypeId} {sz B : Nat} {a : Option Addr} {len cap : Nat} {d : DataW H} {p : List MemPlace} (hT : P.underlying T = some (.slice E)) (hc : P.cellsOf E = sz) (hp : 0 < sz)
    (h : DataW.Trod enc P W 0 (fun _ => true) true T (.slice a len cap) d p) (hs : ∀ n ∈ d.weights P T, n ≤ B) :
    len ≤ 9223372036854775807 ∧ (len = 0 ∨ ∃ (b o n : Nat), a = some ⟨b, o, none⟩ ∧ b < W.heap.size ∧ ∀ i, i < len → ∃ cs : List Value, cs.length = sz ∧ (∀ k, k < sz → W.cell? ⟨b, o + i * sz + k, none⟩ = some (cs.getD k undef)) ∧
      ∃ y, DataW.trod enc P W 0 (fun _ => true) true n E cs = some y ∧ ∀ q ∈ y.1.weights P E, q ≤ B) := by
  obtain ⟨fuel, h⟩ := h
  rcases Go.Deep.open_slice hT h with ⟨h0, _⟩ | ⟨A, l, c, m, n, D, Pl, hcs, _, hl, hm, hmm, hx, hel⟩
  · simp [Value.cells] at h0
    obtain ⟨rfl, rfl, rfl⟩ := h0
    exact ⟨by omega, .inl rfl⟩
  simp [Value.cells] at hcs
  obtain ⟨rfl, rfl, rfl⟩ := hcs
  unfold maxLen at hm
  refine ⟨by omega, ?_⟩
  by_cases h0 : len = 0
  · exact .inl h0
  right
  simp at hmm
  subst hmm
  have hd : d = .slice ((List.range len).map D) ((List.range (m - len)).map fun j => D (len + j)) := congrArg Prod.fst hx
  have each : ∀ i, i < len → ∃ cs : List Value, cs.length = sz ∧ (∀ k, k < sz → W.cell? (A.add (i * sz + k)) = some (cs.getD k undef)) ∧ ∃ y, DataW.trod enc P W 0 (fun _ => true) true n E cs = some y ∧ ∀ q ∈ y.1.weights P E, q ≤ B := fun i hi => by
    obtain ⟨cs, h1, h2⟩ := hel i (by omega)
    rw [hc] at h1
    obtain ⟨_, hlen, hcell⟩ := World.cells?_some h1
    refine ⟨cs, hlen, fun k hk => ?_, _, h2, fun q hq => hs q ?_⟩
    · have e0 := hcell k hk
      rw [Go.Deep.add_add, List.getElem?_eq_getElem (by omega)] at e0
      rw [e0]
      simp [List.getD, List.getElem?_eq_getElem (show k < cs.length by omega)]
    · rw [hd]
      simp only [DataW.weights, hT, List.mem_cons, List.mem_append]
      exact .inr (.inl (weights_all_mem (d := D i) (List.mem_map.2 ⟨i, List.mem_range.2 hi, rfl⟩) hq))
  obtain ⟨cs0, hl0, hc0, _⟩ := each 0 (by omega)
  have h00 := hc0 0 hp
  obtain ⟨b, o, spot⟩ := A
  have hspot : spot = none := by simpa [Addr.add] using World.cell?_spot h00
  subst hspot
  refine ⟨b, o, n, rfl, ?_, fun i hi => ?_⟩
  · have := lt_of_cell h00
    rw [add_block] at this
    exact this
  · obtain ⟨cs, g0, g1, g2⟩ := each i hi
    refine ⟨cs, g0, fun k hk => ?_, g2⟩
    have := g1 k hk
    rw [off_add, ← Nat.add_assoc] at this
    exact this
/-- a field of a struct -/
theorem field_open {E : TypeId} {fs : Array Field} {B n : Nat} {cs : List Value} {y : DataW H × List MemPlace} (hE : P.underlying E = some (.struct fs)) (h : DataW.trod enc P W 0 (fun _ => true) true n E cs = some y) (hs : ∀ q ∈ y.1.weights P E, q ≤ B) :
    ∃ m, ∀ (i : Nat) (f : Field), fs[i]? = some f → ∃ z, DataW.trod enc P W 0 (fun _ => true) true m f.type ((cs.drop f.offset).take (P.cellsOf f.type)) = some z ∧ ∀ q ∈ z.1.weights P f.type, q ≤ B := by
  obtain ⟨xs, k', hk, hxy, _, hxl, hfs⟩ := DataW.trod_struct hE h
  refine ⟨k', fun i f hf => ?_⟩
  have hi : i < xs.length := by rw [hxl]; exact (Array.getElem?_eq_some_iff.1 hf).1
  have e1 := hfs i f hf
  rw [List.getElem?_eq_getElem hi] at e1
  refine ⟨xs[i], e1, fun q hq => hs q ?_⟩
  have hDi : y.1 = .agg (xs.map (·.1)) := congrArg Prod.fst hxy
  rw [hDi]
  simp only [DataW.weights, hE]
  refine DataW.weights_mem_each (j := i) (t := f.type) (d := xs[i].1) ?_ ?_ q hq
  · rw [List.getElem?_map, Array.getElem?_toList, hf]; rfl
  · rw [List.getElem?_map, List.getElem?_eq_getElem hi]; rfl
end
theorem slice_form {H : Type} {enc : TypeId × Value → H} {W : World} {n : Nat} {v : Value} {y : DataW H × List MemPlace} (h : DataW.trod enc Tryd.prog W 0 (fun _ => true) true n 22 [v] = some y) (hs : ∀ q ∈ y.1.weights Tryd.prog 22, q ≤ reachBytes) :
    ∃ (a : Option Addr) (len cap : Nat) (l : List UInt8), v = .slice a len cap ∧ RowY W a l ∧ l.length = len ∧ len ≤ cap ∧ cap ≤ maxLen ∧ (a = none → len = 0 ∧ cap = 0) ∧ len ≤ 140737488355328 := by
  have key : ∃ (a : Option Addr) (len cap : Nat), v = .slice a len cap ∧ len ≤ 140737488355328 := by
    rcases Go.Deep.open_slice1 Tryd.underlying22 (by kernel_rfl) h with ⟨h0, _⟩ | ⟨A, len, cap, m, n, V, D, Pl, hcs, _, hl, hm, hmm, hx, hel⟩
    · simp at h0
      exact ⟨none, 0, 0, h0, by omega⟩
    · simp at hcs
      refine ⟨some A, len, cap, hcs, ?_⟩
      have hd : y.1 = .slice ((List.range len).map D) ((List.range (m - len)).map fun j => D (len + j)) := by rw [hx]
      have := hs _ (by rw [hd]; simp only [DataW.weights, Tryd.underlying22]; exact List.mem_cons_self)
      rw [show Tryd.prog.bytesOf 5 = 1 by kernel_rfl] at this
      unfold reachBytes at this
      simp at this
      omega
  obtain ⟨a, len, cap, rfl, hl⟩ := key
  obtain ⟨d, p⟩ := y
  obtain ⟨l, h1, h2, h3, h4, h5⟩ := bytes_open (a := a) (len := len) (cap := cap) ⟨n, h⟩
  exact ⟨a, len, cap, l, rfl, h1, h2, h3, h4, h5, hl⟩
theorem act_open {H : Type} {enc : TypeId × Value → H} {W : World} {n : Nat} {cs : List Value} {y : DataW H × List MemPlace} (hl : cs.length = 6) (h : DataW.trod enc Tryd.prog W 0 (fun _ => true) true n 53 cs = some y) (hs : ∀ q ∈ y.1.weights Tryd.prog 53, q ≤ reachBytes) :
    ∃ a : Ac, cs = (acv a).toList ∧ RowY W a.p.ao a.l ∧ a.l.length = a.p.dl ∧ a.p.dl ≤ a.p.cp ∧ a.p.cp ≤ maxLen ∧ (a.p.ao = none → a.p.dl = 0 ∧ a.p.cp = 0) ∧ a.p.dl ≤ 140737488355328 ∧ In64 a.p.id := by
  match cs, hl with
  | [v0, v1, v2, v3, v4, v5], _ =>
  obtain ⟨m, hf⟩ := field_open Tryd.underlying53 h hs
  obtain ⟨y0, h0, _⟩ := hf 0 _ rfl
  obtain ⟨y1, h1, hw1⟩ := hf 1 _ rfl
  have c3 : Tryd.prog.cellsOf 3 = 1 := by kernel_rfl
  have c34 : Tryd.prog.cellsOf 34 = 1 := by kernel_rfl
  have c22 : Tryd.prog.cellsOf 22 = 1 := by kernel_rfl
  have c36 : Tryd.prog.cellsOf 36 = 5 := by kernel_rfl
  have h0 : DataW.trod enc Tryd.prog W 0 (fun _ => true) true m 3 (List.take (Tryd.prog.cellsOf 3) [v0, v1, v2, v3, v4, v5]) = some y0 := h0
  have h1 : DataW.trod enc Tryd.prog W 0 (fun _ => true) true m 36 (List.take (Tryd.prog.cellsOf 36) [v1, v2, v3, v4, v5]) = some y1 := h1
  have hw1 : ∀ q ∈ y1.1.weights Tryd.prog 36, q ≤ reachBytes := hw1
  rw [c3] at h0
  rw [c36] at h1
  obtain ⟨z0, e0, _, w0⟩ := DataW.trod_int Tryd.underlying3 h0
  simp at e0
  obtain ⟨m2, hg⟩ := field_open Tryd.underlying36 h1 hw1
  obtain ⟨x0, g0, _⟩ := hg 0 _ rfl
  obtain ⟨x1, g1, _⟩ := hg 1 _ rfl
  obtain ⟨x2, g2, _⟩ := hg 2 _ rfl
  obtain ⟨x3, g3, _⟩ := hg 3 _ rfl
  obtain ⟨x4, g4, hw4⟩ := hg 4 _ rfl
  have g0 : DataW.trod enc Tryd.prog W 0 (fun _ => true) true m2 3 (List.take (Tryd.prog.cellsOf 3) [v1, v2, v3, v4, v5]) = some x0 := g0
  have g1 : DataW.trod enc Tryd.prog W 0 (fun _ => true) true m2 3 (List.take (Tryd.prog.cellsOf 3) [v2, v3, v4, v5]) = some x1 := g1
  have g2 : DataW.trod enc Tryd.prog W 0 (fun _ => true) true m2 3 (List.take (Tryd.prog.cellsOf 3) [v3, v4, v5]) = some x2 := g2
  have g3 : DataW.trod enc Tryd.prog W 0 (fun _ => true) true m2 34 (List.take (Tryd.prog.cellsOf 34) [v4, v5]) = some x3 := g3
  have g4 : DataW.trod enc Tryd.prog W 0 (fun _ => true) true m2 22 (List.take (Tryd.prog.cellsOf 22) [v5]) = some x4 := g4
  have hw4 : ∀ q ∈ x4.1.weights Tryd.prog 22, q ≤ reachBytes := hw4
  rw [c3] at g0 g1 g2
  rw [c34] at g3
  rw [c22] at g4
  obtain ⟨z1, e1, _, w1⟩ := DataW.trod_int Tryd.underlying3 g0
  obtain ⟨z2, e2, _, _⟩ := DataW.trod_int Tryd.underlying3 g1
  obtain ⟨z3, e3, _, _⟩ := DataW.trod_int Tryd.underlying3 g2
  obtain ⟨z4, e4, _, _⟩ := DataW.trod_int Tryd.underlying34 g3
  simp at e1 e2 e3 e4
  obtain ⟨a, len, cap, l, e5, r1, r2, r3, r4, r5, r6⟩ := slice_form (by simpa using g4) hw4
  subst e0 e1 e2 e3 e4 e5
  exact ⟨⟨z0, ⟨z1, z2, z3, z4, a, len, cap⟩, l⟩, rfl, r1, r2, r3, r4, r5, r6, wf_i64 w1⟩
instance : Inhabited Ac := ⟨⟨0, ⟨0, 0, 0, 0, none, 0, 0⟩, []⟩⟩
theorem acts_open {H : Type} {enc : TypeId × Value → H} {W : World} {a : Option Addr} {len cap : Nat} {d : DataW H} {p : List MemPlace} (h : DataW.Trod enc Tryd.prog W 0 (fun _ => true) true 47 (.slice a len cap) d p) (hs : ∀ n ∈ d.weights Tryd.prog 47, n ≤ reachBytes) :
    ∃ L : List Ac, ActsW W a len L ∧ len ≤ 9223372036854775807 := by
  obtain ⟨hl, h⟩ := elems_open Tryd.underlying47 (sz := 6) (by kernel_rfl) (by omega) h hs
  rcases h with h0 | ⟨b, o, n, rfl, hb, hel⟩
  · exact ⟨[], ⟨h0.symm, fun i a hi => by simp at hi, fun i a hi => by simp at hi⟩, by omega⟩
  have each : ∀ i, i < len → ∃ x : Ac, (∀ (j : Nat) (u : Value), (acv x)[j]? = some u → W.cell? ⟨b, o + i * 6 + j, none⟩ = some u) ∧ RowY W x.p.ao x.l ∧ x.l.length = x.p.dl ∧ x.p.dl ≤ x.p.cp ∧ x.p.cp ≤ maxLen ∧ (x.p.ao = none → x.p.dl = 0 ∧ x.p.cp = 0) ∧ x.p.dl ≤ 140737488355328 ∧ In64 x.p.id := fun i hi => by
    obtain ⟨cs, h1, h2, y, h3, h4⟩ := hel i hi
    obtain ⟨x, hx, hr⟩ := act_open h1 h3 h4
    refine ⟨x, fun j u hj => ?_, hr⟩
    have hj6 : j < 6 := by simpa [acv] using (Array.getElem?_eq_some_iff.1 hj).1
    rw [h2 j hj6, hx, List.getD_eq_getElem?_getD, Array.getElem?_toList, hj]
    rfl
  obtain ⟨F, hF⟩ := Go.Deep.choose_lt each
  refine ⟨(List.range len).map F, ⟨by simp, fun i a hi => ?_, fun i a hi => ?_⟩, by omega⟩
  · have hlt : i < len := by simpa using (List.getElem?_eq_some_iff.1 hi).1
    have e : F i = a := by simpa [List.getElem?_range hlt] using hi
    subst e
    exact ⟨b, o, rfl, hb, (hF i hlt).1⟩
  · have hlt : i < len := by simpa using (List.getElem?_eq_some_iff.1 hi).1
    have e : F i = a := by simpa [List.getElem?_range hlt] using hi
    subst e
    exact (hF i hlt).2
end Go.Proofs.YtookojfigjdgcaaDoor
