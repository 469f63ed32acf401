/- Rows of events that come in. -/
import Derived.Test.YtbdjnfkhdphhoaaDoorO
import Derived.Deep.Slices
set_option linter.unusedVariables false
set_option linter.unusedSimpArgs false
namespace Go.Proofs.YtbdjnfkhdphhoaaDoor
open Go.RowKit Go.ChangeShapes Go.WideShapes Go.ChangeAt
def bs (q : List UInt8) : List Value := q.map fun b => .int .u8 (b.toNat : Int)
section
variable {H : Type} {enc : TypeId × Value → H} {P : Program} {W : World}
theorem weights_all_mem {e : TypeId} {d : DataW H} {n : Nat} : ∀ {l : List (DataW H)}, d ∈ l → n ∈ d.weights P e → n ∈ DataW.weightsAll P e l
  | x :: l, h, hn => by
    simp only [DataW.weightsAll, List.mem_append]
    rcases List.mem_cons.1 h with rfl | h
    · exact .inl hn
    · exact .inr (weights_all_mem h hn)
/-- A SLICE OF STRUCTS OF ONE-CELL FIELDS -/
theorem rows_open {T E : TypeId} {fs : Array Field} {sz B : Nat} {a : Option Addr} {len cap : Nat} {d : DataW H} {p : List MemPlace} (hT : P.underlying T = some (.slice E)) (hE : P.underlying E = some (.struct fs)) (hc : P.cellsOf E = sz)
    (hf : ∀ (k : Nat) (f : Field), fs[k]? = some f → f.offset = k ∧ P.cellsOf f.type = 1) (hz : fs.size = sz) (hp : 0 < sz)
    (h : DataW.Trod enc P W 0 (fun _ => true) true T (.slice a len cap) d p) (hs : ∀ n ∈ d.weights P T, n ≤ B) :
    len ≤ cap ∧ cap ≤ 9223372036854775807 ∧ (len = 0 ∨ ∃ (b o n : Nat) (V : Nat → Nat → Value), a = some ⟨b, o, none⟩ ∧ b < W.heap.size ∧ ∀ i, i < len → ∀ (k : Nat) (f : Field), fs[k]? = some f →
      W.cell? ⟨b, o + i * sz + k, none⟩ = some (V i k) ∧ ∃ y, DataW.trod enc P W 0 (fun _ => true) true n f.type [V i k] = some y ∧ ∀ q ∈ y.1.weights P f.type, q ≤ B) := by
  obtain ⟨fuel, h⟩ := h
  rcases Go.Deep.open_slice hT h with ⟨h0, _⟩ | ⟨A, l, c, m, n, D, Pl, hcs, _, hl, hm, hmm, hx, hel⟩
  · simp [Value.cells] at h0
    obtain ⟨rfl, rfl, rfl⟩ := h0
    exact ⟨by omega, by omega, .inl rfl⟩
  simp [Value.cells] at hcs
  obtain ⟨rfl, rfl, rfl⟩ := hcs
  unfold maxLen at hm
  refine ⟨by omega, by omega, ?_⟩
  by_cases h0 : len = 0
  · exact .inl h0
  right
  simp at hmm
  subst hmm
  have hd : d = .slice ((List.range len).map D) ((List.range (m - len)).map fun j => D (len + j)) := congrArg Prod.fst hx
  have each : ∀ i, i < len → ∃ cs : List Value, ∀ (k : Nat) (f : Field), fs[k]? = some f → W.cell? (A.add (i * sz + k)) = some (cs.getD k undef) ∧ ∃ y, DataW.trod enc P W 0 (fun _ => true) true (n - 1) f.type [cs.getD k undef] = some y ∧ ∀ q ∈ y.1.weights P f.type, q ≤ B := fun i hi => by
    obtain ⟨cs, h1, h2⟩ := hel i (by omega)
    rw [hc] at h1
    obtain ⟨_, hlen, hcell⟩ := World.cells?_some h1
    obtain ⟨xs, k', hk, hxy, _, hxl, hfs⟩ := DataW.trod_struct hE h2
    refine ⟨cs, fun k f hkf => ?_⟩
    obtain ⟨ho, hc1⟩ := hf k f hkf
    have hks : k < sz := by rw [← hz]; exact (Array.getElem?_eq_some_iff.1 hkf).1
    have hkc : k < cs.length := by omega
    have e0 := hcell k hks
    rw [Go.Deep.add_add, List.getElem?_eq_getElem hkc] at e0
    have hg : cs.getD k undef = cs[k] := by simp [List.getD, List.getElem?_eq_getElem hkc]
    rw [hg]
    refine ⟨e0, ?_⟩
    have e1 := hfs k f hkf
    rw [ho, hc1] at e1
    have e2 : (cs.drop k).take 1 = [cs[k]] := by
      rw [List.drop_eq_getElem_cons hkc]
      rfl
    rw [e2, List.getElem?_eq_getElem (by rw [hxl, hz]; exact hks)] at e1
    refine ⟨xs[k]'(by rw [hxl, hz]; exact hks), by rw [show n - 1 = k' by omega]; exact e1, fun q hq => hs q ?_⟩
    rw [hd]
    simp only [DataW.weights, hT, List.mem_cons, List.mem_append]
    refine .inr (.inl (weights_all_mem (d := D i) (List.mem_map.2 ⟨i, List.mem_range.2 hi, rfl⟩) ?_))
    have hDi : D i = .agg (xs.map (·.1)) := congrArg Prod.fst hxy
    rw [hDi]
    simp only [DataW.weights, hE]
    refine DataW.weights_mem_each (j := k) (t := f.type) (d := (xs[k]'(by rw [hxl, hz]; exact hks)).1) ?_ ?_ q hq
    · rw [List.getElem?_map, Array.getElem?_toList, hkf]; rfl
    · rw [List.getElem?_map, List.getElem?_eq_getElem (by rw [hxl, hz]; exact hks)]; rfl
  obtain ⟨C, hC⟩ := Go.Deep.choose_lt each
  obtain ⟨f0, hf0⟩ : ∃ f, fs[0]? = some f := ⟨_, Array.getElem?_eq_getElem (by rw [hz]; exact hp)⟩
  have h00 := (hC 0 (by omega) 0 f0 hf0).1
  obtain ⟨b, o, spot⟩ := A
  have hspot : spot = none := by simpa [Addr.add] using World.cell?_spot h00
  subst hspot
  refine ⟨b, o, n - 1, fun i k => (C i).getD k undef, rfl, ?_, fun i hi k f hkf => ?_⟩
  · have := lt_of_cell h00
    rw [add_block] at this
    exact this
  · obtain ⟨g1, g2⟩ := hC i hi k f hkf
    rw [off_add, ← Nat.add_assoc] at g1
    exact ⟨g1, g2⟩
def byteOf : Value → UInt8 | .int _ z => UInt8.ofNat z.toNat | _ => 0
/-- BYTES -/
theorem bytes_open {T E : TypeId} {B n : Nat} {v : Value} {y : DataW H × List MemPlace} (hT : P.underlying T = some (.slice E)) (hE : P.underlying E = some (.int .u8)) (hc : P.cellsOf E = 1) (hb : P.bytesOf E = 1)
    (h : DataW.trod enc P W 0 (fun _ => true) true n T [v] = some y) (hs : ∀ q ∈ y.1.weights P T, q ≤ B) : ∃ q : List UInt8, RowB (fun k => W.heap.size ≤ k) W v (bs q) ∧ q.length ≤ B := by
  rcases Go.Deep.open_slice1 hT hc h with ⟨h0, _⟩ | ⟨A, len, cap, m, n, V, D, Pl, hcs, _, hl, hm, hmm, hx, hel⟩
  · simp at h0
    subst h0
    exact ⟨[], RowB.nil _ _, Nat.zero_le _⟩
  · simp at hcs
    subst hcs
    simp at hmm
    subst hmm
    have hv : ∀ i, i < len → V i = .int .u8 ((byteOf (V i)).toNat : Int) := fun i hi => by
      obtain ⟨z, hz, _, hw⟩ := DataW.trod_int hE (hel i (by omega)).2
      simp at hz
      rw [hz]
      have := bounds_u8 hw
      simp only [byteOf]
      congr 1
      simp [UInt8.toNat_ofNat]
      omega
    have hlen : (bs ((List.range len).map fun i => byteOf (V i))).length = len := by simp [bs]
    refine ⟨(List.range len).map fun i => byteOf (V i), ⟨some A, m, by rw [hlen], by rw [hlen]; exact hl, hm, fun h => (by cases h), fun a ha => ?_⟩, ?_⟩
    · cases ha
      refine ⟨fun hne e => ?_, fun j u hj => ?_⟩
      · have hpos : 0 < len := by
          apply Nat.pos_of_ne_zero
          intro h0
          apply hne
          rw [h0]; rfl
        have := lt_of_cell (hel 0 (by omega)).1
        rw [add_block] at this
        have e' : W.heap.size ≤ A.block := e
        omega
      · have hj' : j < len := by have := (List.getElem?_eq_some_iff.1 hj).1; rw [hlen] at this; exact this
        rw [(hel j (by omega)).1, hv j hj']
        simp [bs, List.getElem?_range hj'] at hj
        rw [← hj]
    · have hd : y.1 = .slice ((List.range len).map D) ((List.range (m - len)).map fun j => D (len + j)) := by rw [hx]
      have := hs _ (by rw [hd]; simp only [DataW.weights, hT]; exact List.mem_cons_self)
      rw [hb] at this
      simp at this ⊢
      omega
end
theorem under5 : Tryd.prog.underlying 5 = some (.int .u8) := Tryd.underlying5
/-- each event's data are bytes -/
def DataOk (W : World) (l : List Ev) : Prop := ∀ e ∈ l, ∃ q : List UInt8, RowB (fun k => W.heap.size ≤ k) W (.slice e.ao e.dl e.cp) (bs q)
def evOf (V : Nat → Value) : Ev :=
  ⟨(match V 0 with | .int _ z => z | _ => 0), (match V 1 with | .int _ z => z | _ => 0), (match V 2 with | .int _ z => z | _ => 0), (match V 3 with | .int _ z => z | _ => 0), (match V 4 with | .int _ z => z | _ => 0), (match V 5 with | .int _ z => z | _ => 0),
    (match V 6 with | .slice a _ _ => a | _ => none), (match V 6 with | .slice _ n _ => n | _ => 0), (match V 6 with | .slice _ _ c => c | _ => 0)⟩
set_option maxRecDepth 100000 in
theorem evs_open {H : Type} {enc : TypeId × Value → H} {W : World} {a : Option Addr} {len cap : Nat} {d : DataW H} {p : List MemPlace} (h : DataW.Trod enc Tryd.prog W 0 (fun _ => true) true 30 (.slice a len cap) d p) (hs : ∀ n ∈ d.weights Tryd.prog 30, n ≤ reachBytes) :
    ∃ l : List Ev, l.length = len ∧ RowV W a l ∧ DataOk W l ∧ len ≤ cap ∧ cap ≤ 9223372036854775807 := by
  have c3 : Tryd.prog.cellsOf 3 = 1 := by kernel_rfl
  have c22 : Tryd.prog.cellsOf 22 = 1 := by kernel_rfl
  obtain ⟨hl, hcm, h⟩ := rows_open Tryd.underlying30 Tryd.underlying24 (sz := 7) (by kernel_rfl) (fun k f hk => by
    match k, hk with
    | 0, hk => cases hk; exact ⟨rfl, c3⟩
    | 1, hk => cases hk; exact ⟨rfl, c3⟩
    | 2, hk => cases hk; exact ⟨rfl, c3⟩
    | 3, hk => cases hk; exact ⟨rfl, c3⟩
    | 4, hk => cases hk; exact ⟨rfl, c3⟩
    | 5, hk => cases hk; exact ⟨rfl, c3⟩
    | 6, hk => cases hk; exact ⟨rfl, c22⟩
    | k + 7, hk => simp at hk) rfl (by omega) h hs
  rcases h with h0 | ⟨b, o, n, V, rfl, hb, hel⟩
  · exact ⟨[], by simp [h0], .inl rfl, fun e he => (by cases he), hl, hcm⟩
  have e0 : ∀ i, i < len → ∀ k, k < 6 → ∃ z : Int, V i k = .int .i64 z := fun i hi k hk => by
    have : ∃ f : Field, (match Tryd.prog.underlying 24 with | some (.struct fs) => fs[k]? | _ => none) = some f ∧ f.type = 3 := by
      rw [Tryd.underlying24]
      have : k = 0 ∨ k = 1 ∨ k = 2 ∨ k = 3 ∨ k = 4 ∨ k = 5 := by omega
      rcases this with rfl | rfl | rfl | rfl | rfl | rfl <;> exact ⟨_, rfl, rfl⟩
    obtain ⟨f, hf, ht⟩ := this
    rw [Tryd.underlying24] at hf
    obtain ⟨_, y, hy, _⟩ := hel i hi k f hf
    rw [ht] at hy
    obtain ⟨z, hz, _, hw⟩ := DataW.trod_int under3 hy
    exact ⟨z, by simpa using hz⟩
  have e6 : ∀ i, i < len → ∃ q : List UInt8, RowB (fun k => W.heap.size ≤ k) W (V i 6) (bs q) := fun i hi => by
    obtain ⟨_, y, hy, hq⟩ := hel i hi 6 _ rfl
    obtain ⟨q, h1, _⟩ := bytes_open Tryd.underlying22 under5 (by kernel_rfl) (by kernel_rfl) hy hq
    exact ⟨q, h1⟩
  have hev : ∀ i, i < len → ∀ j v, (evc (evOf (V i)))[j]? = some v → V i j = v := fun i hi j v hj => by
    have hj7 : j = 0 ∨ j = 1 ∨ j = 2 ∨ j = 3 ∨ j = 4 ∨ j = 5 ∨ j = 6 := by
      have := (Array.getElem?_eq_some_iff.1 hj).1
      simp [evc] at this
      omega
    rcases hj7 with rfl | rfl | rfl | rfl | rfl | rfl | rfl
    all_goals (first
      | (obtain ⟨z, hz⟩ := e0 i hi _ (by omega : (0 : Nat) < 6); simp only [evc, evOf, hz, List.getElem?_toArray, List.getElem?_cons_zero, List.getElem?_cons_succ, Option.some.injEq] at hj; rw [hz]; exact hj)
      | (obtain ⟨z, hz⟩ := e0 i hi _ (by omega : (1 : Nat) < 6); simp only [evc, evOf, hz, List.getElem?_toArray, List.getElem?_cons_zero, List.getElem?_cons_succ, Option.some.injEq] at hj; rw [hz]; exact hj)
      | (obtain ⟨z, hz⟩ := e0 i hi _ (by omega : (2 : Nat) < 6); simp only [evc, evOf, hz, List.getElem?_toArray, List.getElem?_cons_zero, List.getElem?_cons_succ, Option.some.injEq] at hj; rw [hz]; exact hj)
      | (obtain ⟨z, hz⟩ := e0 i hi _ (by omega : (3 : Nat) < 6); simp only [evc, evOf, hz, List.getElem?_toArray, List.getElem?_cons_zero, List.getElem?_cons_succ, Option.some.injEq] at hj; rw [hz]; exact hj)
      | (obtain ⟨z, hz⟩ := e0 i hi _ (by omega : (4 : Nat) < 6); simp only [evc, evOf, hz, List.getElem?_toArray, List.getElem?_cons_zero, List.getElem?_cons_succ, Option.some.injEq] at hj; rw [hz]; exact hj)
      | (obtain ⟨z, hz⟩ := e0 i hi _ (by omega : (5 : Nat) < 6); simp only [evc, evOf, hz, List.getElem?_toArray, List.getElem?_cons_zero, List.getElem?_cons_succ, Option.some.injEq] at hj; rw [hz]; exact hj)
      | (obtain ⟨q, ao, cp, hz, _⟩ := e6 i hi; simp only [evc, evOf, hz, List.getElem?_toArray, List.getElem?_cons_zero, List.getElem?_cons_succ, Option.some.injEq] at hj; rw [hz]; exact hj))
  have hfs : ∀ j, j < 7 → ∃ f : Field, (match Tryd.prog.underlying 24 with | some (.struct fs) => fs[j]? | _ => none) = some f := fun j hj => by
    rw [Tryd.underlying24]
    have : j = 0 ∨ j = 1 ∨ j = 2 ∨ j = 3 ∨ j = 4 ∨ j = 5 ∨ j = 6 := by omega
    rcases this with rfl | rfl | rfl | rfl | rfl | rfl | rfl <;> exact ⟨_, rfl⟩
  refine ⟨(List.range len).map fun i => evOf (V i), by simp, .inr ⟨b, o, rfl, hb, fun i e he j v hj => ?_⟩, fun e he => ?_, hl, hcm⟩
  · rw [List.getElem?_map] at he
    obtain ⟨i', hi', rfl⟩ := Option.map_eq_some_iff.1 he
    obtain ⟨hi, rfl⟩ := by simpa using List.getElem?_eq_some_iff.1 hi'
    have hj7 : j < 7 := by
      have := (Array.getElem?_eq_some_iff.1 hj).1
      simpa [evc] using this
    obtain ⟨f, hf⟩ := hfs j hj7
    rw [Tryd.underlying24] at hf
    rw [(hel i hi j f hf).1, hev i hi j v hj]
  · obtain ⟨i, hi, rfl⟩ := List.mem_map.1 he
    have hi := List.mem_range.1 hi
    obtain ⟨q, hq⟩ := e6 i hi
    refine ⟨q, ?_⟩
    rw [show Value.slice (evOf (V i)).ao (evOf (V i)).dl (evOf (V i)).cp = V i 6 from (hev i hi 6 _ rfl).symm]
    exact hq
end Go.Proofs.YtbdjnfkhdphhoaaDoor
