/- Rows of bytes of one's own; rows of pieces. -/
import Derived.Test.YtookojfigjdgcaaDoorA2
import Derived.Deep.AppendLies
import Derived.Deep.Upon
import Derived.Shelf.SlMaps.Clone
set_option linter.unusedVariables false
set_option linter.unusedSimpArgs false
namespace Go.Proofs.YtookojfigjdgcaaDoor
open Go.RowKit
def yv (xs : List UInt8) : List Value := xs.map fun x => Value.int .u8 (x.toNat : Int)
/-- a row of integers of the call's own -/
def OwnY (W : World) (B : Nat) (v : Value) (xs : List UInt8) : Prop := W.ownsRow B 5 1 v xs.length (yv xs)
theorem RowY.take {W : World} {ao : Option Addr} {xs : List UInt8} (h : RowY W ao xs) (n : Nat) : RowY W ao (xs.take n) := by
  rcases h with h | ⟨b, o, rfl, h2, h3⟩
  · exact .inl (by rw [h]; simp)
  · refine .inr ⟨b, o, rfl, h2, fun i x hx => h3 i x ?_⟩
    rw [List.getElem?_take] at hx
    split at hx
    · exact hx
    · cases hx
theorem RowY.drop {W : World} {b o : Nat} {xs : List UInt8} (h : RowY W (some ⟨b, o, none⟩) xs) (n : Nat) : RowY W (some ⟨b, o + n, none⟩) (xs.drop n) := by
  rcases h with h | ⟨b', o', e, h2, h3⟩
  · exact .inl (by rw [h]; simp)
  · cases e
    refine .inr ⟨b, o + n, rfl, h2, fun i x hx => ?_⟩
    rw [List.getElem?_drop] at hx
    rw [show o + n + i = o + (n + i) by omega]
    exact h3 _ x hx
theorem OwnY.form {W : World} {B : Nat} {v : Value} {xs : List UInt8} (h : OwnY W B v xs) : (v = .slice none 0 0 ∧ xs = []) ∨ ∃ g cap, v = .slice (some ⟨g, 0, none⟩) xs.length cap ∧ B ≤ g ∧ g < W.heap.size ∧ xs.length ≤ cap ∧ cap ≤ maxLen ∧ ∀ i x, xs[i]? = some x → W.cell? ⟨g, i, none⟩ = some (.int .u8 (x.toNat : Int)) := by
  obtain ⟨hl, ⟨h1, h2⟩ | ⟨g, cap, cur, h1, hb, hgb, hn, hcap, hcs, hct⟩⟩ := h
  · exact .inl ⟨h1, List.eq_nil_of_length_eq_zero h2⟩
  · refine .inr ⟨g, cap, h1, hb, (Array.getElem?_eq_some_iff.1 hgb).1, hn, hcap, fun i x hx => ?_⟩
    have hi := (List.getElem?_eq_some_iff.1 hx).1
    have : (cur.toList.take (xs.length * 1))[i]? = some (.int .u8 (x.toNat : Int)) := by rw [hct]; unfold yv; rw [List.getElem?_map, hx]; rfl
    rw [Nat.mul_one, List.getElem?_take_of_lt hi, Array.getElem?_toList] at this
    simp only [World.cell?, hgb, Option.isSome_none, Bool.false_eq_true, if_false]
    exact this
theorem OwnY.row {W : World} {B : Nat} {v : Value} {xs : List UInt8} (h : OwnY W B v xs) : ∃ ao cap, v = .slice ao xs.length cap ∧ xs.length ≤ cap ∧ cap ≤ maxLen ∧ RowY W ao xs ∧ ∀ a, ao = some a → v.ownBlock = some a.block := by
  rcases h.form with ⟨rfl, rfl⟩ | ⟨g, cap, rfl, _, hlt, hn, hm, hc⟩
  · exact ⟨none, 0, rfl, Nat.le_refl _, by decide, .inl rfl, fun a e => by cases e⟩
  · exact ⟨_, cap, rfl, hn, hm, .inr ⟨g, 0, rfl, hlt, fun i x hx => by rw [Nat.zero_add]; exact hc i x hx⟩, fun a e => by cases e; rfl⟩
theorem OwnY.fr {S : Nat → Prop} {W W' : World} {B : Nat} {v : Value} {xs : List UInt8} (h : OwnY W B v xs) (hf : Fr S W W') (hS : ∀ k, v.ownBlock = some k → ¬ S k) : OwnY W' B v xs := by
  obtain ⟨hl, hown⟩ := h
  refine ⟨hl, ?_⟩
  rcases hown with h1 | ⟨g', cp', cur, h1, hb, hgb, r⟩
  · exact .inl h1
  · exact .inr ⟨g', cp', cur, h1, hb, (hf.block g' (Array.getElem?_eq_some_iff.1 hgb).1 (hS g' (by rw [h1]; rfl))).trans hgb, r⟩
theorem OwnY.ob {W : World} {B : Nat} {v : Value} {xs : List UInt8} (h : OwnY W B v xs) {k : Nat} (hk : v.ownBlock = some k) : B ≤ k ∧ k < W.heap.size ∧ ∃ cs, W.heap[k]? = some (.cells cs 5 (0, 0)) := by
  obtain ⟨hl, hown⟩ := h
  rcases hown with ⟨h1, _⟩ | ⟨g', cp', cur, h1, hb, hgb, r⟩
  · rw [h1] at hk; cases hk
  · rw [h1] at hk
    cases hk
    exact ⟨hb, (Array.getElem?_eq_some_iff.1 hgb).1, cur, hgb⟩
theorem OwnY.none (W : World) (B : Nat) : OwnY W B (.slice none 0 0) [] := ⟨rfl, .inl ⟨rfl, rfl⟩⟩
theorem OwnY.empty (W : World) (B : Nat) (hB : B ≤ W.heap.size) : OwnY (W.alloc (.cells #[] 5)) B (.slice (some ⟨W.heap.size, 0, Option.none⟩) 0 0) [] :=
  ⟨rfl, .inr ⟨_, 0, #[], rfl, hB, World.alloc_heap_new _ _, Nat.le_refl _, by decide, rfl, rfl⟩⟩
theorem infoY : (Tryd.prog.info? 5).map (fun i => (i.zero.map Value.cells, i.size, i.bytes)) = some (some #[.int .u8 0], 1, 1) := by kernel_rfl
theorem infoY' : ∃ (i : TypeInfo) (z : Value), Tryd.prog.info? 5 = some i ∧ i.zero = some z ∧ i.size = 1 ∧ i.bytes = 1 ∧ z.cells.size = 1 := by
  have h := infoY
  cases hi : Tryd.prog.info? 5 with
  | none => rw [hi] at h; cases h
  | some i =>
    rw [hi] at h
    simp only [Option.map_some, Option.some.injEq, Prod.mk.injEq] at h
    obtain ⟨h1, h2, h3⟩ := h
    cases hz : i.zero with
    | none => rw [hz] at h1; cases h1
    | some z =>
      rw [hz] at h1
      simp only [Option.map_some, Option.some.injEq] at h1
      exact ⟨i, z, rfl, hz, h2, h3, by rw [h1]; rfl⟩
/-- integers behind a row of one's own -/
theorem app_y (W : World) (B : Nat) (v : Value) (xs ys : List UInt8) (ty : TypeId) (hB : B ≤ W.heap.size) (hown : OwnY W B v xs) (ao : Option Addr) (cp m : Nat) (hr : RowY W ao ys) (hm : ys.length = m) (hn : xs.length + m ≤ 10000000) :
    ∃ (v' : Value) (W' : World), (Builtin.append_ #[22, 22] ty #[v, .slice ao m cp]).run Tryd.prog W = .ok v' W' ∧ OwnY W' B v' (xs ++ ys) ∧ Fr (fun k => v.ownBlock = some k) W W' ∧ (v'.ownBlock = v.ownBlock ∨ v'.ownBlock = some W.heap.size) := by
  subst hm
  obtain ⟨i, z, hi, hz, hs, hby, hzs⟩ := infoY'
  cases ys with
  | nil =>
    refine ⟨v, W, ?_, by rw [List.append_nil]; exact hown, Fr.refl _ _, .inl rfl⟩
    have hsrc : Go.Src Tryd.prog i.size 22 (.slice ao 0 cp) 0 [] W := by
      cases ao with
      | none => exact Go.Src.ofNil _ Tryd.underlying22 cp
      | some a => exact Go.Src.ofSlice _ Tryd.underlying22 a 0 cp [] (by simp) (by simp) (by simp)
    rcases hown.form with ⟨rfl, rfl⟩ | ⟨g, cap, rfl, _, _, h4, _⟩
    · exact Go.run_append_nothing W 22 22 ty 5 i Tryd.underlying22 hi Option.none 0 0 (Nat.le_refl _) _ hsrc
    · exact Go.run_append_nothing W 22 22 ty 5 i Tryd.underlying22 hi _ _ cap h4 _ hsrc
  | cons y ys =>
    rcases hr with h | ⟨b, o, rfl, hbl, hc⟩
    · cases h
    obtain ⟨g, cap, W', h1, h2, h3, h4, h5⟩ := Go.run_append_lies (P := Tryd.prog) W 22 ty B 5 i z 1 1 Tryd.underlying22 hi hz hs hby hzs (by omega) v xs.length (yv xs) hown ⟨b, o, Option.none⟩ (y :: ys).length cp (yv (y :: ys)) (by simp [yv]) (fun j u hj => by
      unfold yv at hj
      rw [List.getElem?_map] at hj
      cases hx : (y :: ys)[j]? with
      | none => rw [hx] at hj; cases hj
      | some x => rw [hx] at hj; cases hj; rw [off_add]; exact hc j x hx) (by unfold yv; intro u hu; obtain ⟨x, _, rfl⟩ := List.mem_map.1 hu; rfl) (by simp) (by unfold maxLen; omega) (by omega) hB _ rfl
    refine ⟨_, W', h1, ?_, Fr.grown h3 (fun k e => e), ?_⟩
    · have e1 : yv xs ++ yv (y :: ys) = yv (xs ++ (y :: ys)) := by simp [yv]
      have e2 : xs.length + (y :: ys).length = (xs ++ (y :: ys)).length := by simp
      rw [e1, e2] at h2
      unfold OwnY
      rw [e2]
      exact h2
    · rcases h4 with h4 | h4
      · exact .inl h4.symm
      · exact .inr (by rw [h4]; rfl)
theorem OwnY.to {S : Nat → Prop} {W W2 : World} {B B2 : Nat} {v : Value} {xs : List UInt8} (h : OwnY W B v xs) (hB : B2 ≤ B) (hf : Fr S W W2) (hS : ∀ k, v.ownBlock = some k → ¬ S k) : OwnY W2 B2 v xs := by
  have h2 := h.fr hf hS
  obtain ⟨hl, hown⟩ := h2
  refine ⟨hl, ?_⟩
  rcases hown with h1 | ⟨g, cp, cur, h1, hb, r⟩
  · exact .inl h1
  · exact .inr ⟨g, cp, cur, h1, Nat.le_trans hB hb, r⟩
theorem OwnY.notBlk {W : World} {B : Nat} {v : Value} {xs : List UInt8} (h : OwnY W B v xs) {b : Nat} {t : TypeId} {cs : Array Value} (hb : Blk W b t cs) (ht : t ≠ 5) : ¬ v.ownBlock = some b := fun e => by
  obtain ⟨_, _, cs', h3⟩ := h.ob e
  have := hb.symm.trans h3
  cases this
  exact ht rfl
theorem wp_append_runY {P : Program} {o : Oper} {a : Act} {K : Act → World → Prop} {Q : Exit → Act → World → Prop} {w w' : World} (s x : Operand) (t : TypeId) (ho : o.op = .call { callee := .builtin .append, args := #[s, x], argTypes := #[t, t] }) (v y r : Value) (hs : a.eval s = v) (hx : a.eval x = y)
    (hr : (Builtin.append_ #[t, t] o.type #[v, y]).run P w = .ok r w') (h : K (a.put o.dst r) w') : o.wp P a w K Q := by
  unfold Oper.wp execOp
  simp only [ho, resolve, invoke, builtin, Sem.run_bind, Sem.run_pure, Result.andThen_ok, List.map_toArray, List.map_cons, List.map_nil, hs, hx, hr]
  exact h
theorem wpList_appRun {P : Program} {ops : Array Oper} {rest : List Oper} {o : Oper} {a : Act} {Q : Exit → Act → World → Prop} {w w' : World} (hgd : o.guard = none) (s x : Operand) (t : TypeId) (ho : o.op = .call { callee := .builtin .append, args := #[s, x], argTypes := #[t, t] }) (v y r : Value) (hs : a.eval s = v) (hx : a.eval x = y)
    (hr : (Builtin.append_ #[t, t] o.type #[v, y]).run P w = .ok r w') (h : wpList P ops Q rest (a.put o.dst r) w') : wpList P ops Q (o :: rest) a w :=
  wpList_plain hgd fun _ hK => wp_append_runY s x t ho v y r hs hx hr (hK _ _ h)
/-- a piece -/
structure Pc where
  id : Int
  at_ : Int
  total : Int
  sum : Int
  ao : Option Addr
  dl : Nat
  cp : Nat
def pcv (p : Pc) : Array Value := #[.int .i64 p.id, .int .i64 p.at_, .int .i64 p.total, .int .u32 p.sum, .slice p.ao p.dl p.cp]
def flatP (l : List Pc) : List Value := l.flatMap (fun e => (pcv e).toList)
theorem flatP_len : ∀ l : List Pc, (flatP l).length = l.length * 5
  | [] => rfl
  | e :: l => by
    show ((pcv e).toList ++ flatP l).length = _
    rw [List.length_append, flatP_len l]
    simp [pcv]
    omega
theorem flatP_at : ∀ (l : List Pc) (i : Nat) (e : Pc) (j : Nat) (v : Value), l[i]? = some e → (pcv e)[j]? = some v → (flatP l)[i * 5 + j]? = some v
  | [], i, e, j, v, h, _ => by simp at h
  | a :: l, 0, e, j, v, h, hj => by
    obtain rfl : a = e := by simpa using h
    show ((pcv a).toList ++ flatP l)[0 * 5 + j]? = _
    have hlt : j < 5 := by simpa [pcv] using (Array.getElem?_eq_some_iff.1 hj).1
    rw [Nat.zero_mul, Nat.zero_add, List.getElem?_append_left (by simpa [pcv] using hlt), Array.getElem?_toList]
    exact hj
  | a :: l, i + 1, e, j, v, h, hj => by
    show ((pcv a).toList ++ flatP l)[(i + 1) * 5 + j]? = _
    have hl : (pcv a).toList.length = 5 := by simp [pcv]
    rw [List.getElem?_append_right (by omega), hl, show (i + 1) * 5 + j - 5 = i * 5 + j by omega]
    exact flatP_at l i e j v (by simpa using h) hj
theorem pcv_one (e : Pc) : ∀ u ∈ (pcv e).toList, u.oneCell' = true := by
  intro u hu
  simp [pcv] at hu
  rcases hu with rfl | rfl | rfl | rfl | rfl <;> rfl
/-- a row of pieces of one's own, of elements of type E -/
def OwnP (W : World) (B : Nat) (E : TypeId) (v : Value) (l : List Pc) : Prop := W.ownsRow B E 5 v l.length (flatP l)
theorem OwnP.nil0 (W : World) (B : Nat) (E : TypeId) : OwnP W B E (.slice none 0 0) [] := ⟨rfl, .inl ⟨rfl, rfl⟩⟩
theorem OwnP.form {W : World} {B : Nat} {E : TypeId} {v : Value} {l : List Pc} (h : OwnP W B E v l) : (v = .slice none 0 0 ∧ l = []) ∨ ∃ g cap, v = .slice (some ⟨g, 0, Option.none⟩) l.length cap ∧ B ≤ g ∧ g < W.heap.size ∧ l.length ≤ cap ∧ cap ≤ maxLen ∧ (∃ cs, W.heap[g]? = some (.cells cs E (0, 0))) ∧ ∀ i e, l[i]? = some e → ∀ j u, (pcv e)[j]? = some u → W.cell? ⟨g, i * 5 + j, Option.none⟩ = some u := by
  obtain ⟨hl, ⟨h1, h2⟩ | ⟨g, cap, cur, h1, hb, hgb, hn, hcap, hcs, hct⟩⟩ := h
  · exact .inl ⟨h1, List.eq_nil_of_length_eq_zero h2⟩
  · refine .inr ⟨g, cap, h1, hb, (Array.getElem?_eq_some_iff.1 hgb).1, hn, hcap, ⟨cur, hgb⟩, fun i e he j u hj => ?_⟩
    have hf := flatP_at l i e j u he hj
    have hlt : i * 5 + j < l.length * 5 := by
      have h1 := (List.getElem?_eq_some_iff.1 he).1
      have h2 : j < 5 := by simpa [pcv] using (Array.getElem?_eq_some_iff.1 hj).1
      omega
    rw [← hct, List.getElem?_take_of_lt hlt, Array.getElem?_toList] at hf
    simp only [World.cell?, hgb, Option.isSome_none, Bool.false_eq_true, if_false]
    exact hf
theorem OwnP.ob {W : World} {B : Nat} {E : TypeId} {v : Value} {l : List Pc} (h : OwnP W B E v l) {k : Nat} (hk : v.ownBlock = some k) : B ≤ k ∧ k < W.heap.size ∧ ∃ cs, W.heap[k]? = some (.cells cs E (0, 0)) := by
  obtain ⟨hl, hown⟩ := h
  rcases hown with ⟨h1, _⟩ | ⟨g', cp', cur, h1, hb, hgb, r⟩
  · rw [h1] at hk; cases hk
  · rw [h1] at hk
    cases hk
    exact ⟨hb, (Array.getElem?_eq_some_iff.1 hgb).1, cur, hgb⟩
theorem OwnP.fr {S : Nat → Prop} {W W2 : World} {B : Nat} {E : TypeId} {v : Value} {l : List Pc} (h : OwnP W B E v l) (hf : Fr S W W2) (hS : ∀ k, v.ownBlock = some k → ¬ S k) : OwnP W2 B E v l := by
  obtain ⟨hl, hown⟩ := h
  refine ⟨hl, ?_⟩
  rcases hown with h1 | ⟨g', cp', cur, h1, hb, hgb, r⟩
  · exact .inl h1
  · exact .inr ⟨g', cp', cur, h1, hb, (hf.block g' (Array.getElem?_eq_some_iff.1 hgb).1 (hS g' (by rw [h1]; rfl))).trans hgb, r⟩
theorem infoP36 : (Tryd.prog.info? 36).map (fun i => (i.zero.map Value.cells, i.size, i.bytes)) = some (some #[.int .i64 0, .int .i64 0, .int .i64 0, .int .u32 0, .slice none 0 0], 5, 56) := by kernel_rfl
theorem infoP37 : (Tryd.prog.info? 37).map (fun i => (i.zero.map Value.cells, i.size, i.bytes)) = some (some #[.int .i64 0, .int .i64 0, .int .i64 0, .int .u32 0, .slice none 0 0], 5, 56) := by kernel_rfl
theorem infoP {E : TypeId} (h : (Tryd.prog.info? E).map (fun i => (i.zero.map Value.cells, i.size, i.bytes)) = some (some #[.int .i64 0, .int .i64 0, .int .i64 0, .int .u32 0, .slice none 0 0], 5, 56)) : ∃ (i : TypeInfo) (z : Value), Tryd.prog.info? E = some i ∧ i.zero = some z ∧ i.size = 5 ∧ i.bytes = 56 ∧ z.cells.size = 5 := by
  cases hi : Tryd.prog.info? E with
  | none => rw [hi] at h; cases h
  | some i =>
    rw [hi] at h
    simp only [Option.map_some, Option.some.injEq, Prod.mk.injEq] at h
    obtain ⟨h1, h2, h3⟩ := h
    cases hz : i.zero with
    | none => rw [hz] at h1; cases h1
    | some z =>
      rw [hz] at h1
      simp only [Option.map_some, Option.some.injEq] at h1
      exact ⟨i, z, rfl, hz, h2, h3, by rw [h1]; rfl⟩
/-- a piece behind a row of one's own -/
theorem app_p (T E ty : TypeId) (hT : Tryd.prog.underlying T = some (.slice E)) (hE : (Tryd.prog.info? E).map (fun i => (i.zero.map Value.cells, i.size, i.bytes)) = some (some #[.int .i64 0, .int .i64 0, .int .i64 0, .int .u32 0, .slice none 0 0], 5, 56))
    (W : World) (B : Nat) (v : Value) (xs : List Pc) (p : Pc) (hB : B ≤ W.heap.size) (hown : OwnP W B E v xs) (b : Nat) (hb : Blk W b E (pcv p)) (hn : xs.length + 1 ≤ 10000000) :
    ∃ (v' : Value) (W' : World), (Builtin.append_ #[T, T] ty #[v, .slice (some ⟨b, 0, none⟩) 1 1]).run Tryd.prog W = .ok v' W' ∧ OwnP W' B E v' (xs ++ [p]) ∧ Fr (fun k => v.ownBlock = some k) W W' ∧ (v'.ownBlock = v.ownBlock ∨ v'.ownBlock = some W.heap.size) := by
  obtain ⟨i, z, hi, hz, hs, hby, hzs⟩ := infoP hE
  obtain ⟨g, cap, W', h1, h2, h3, h4, h5⟩ := Go.run_append_lies (P := Tryd.prog) W T ty B E i z 5 56 hT hi hz hs hby hzs (by omega) v xs.length (flatP xs) hown ⟨b, 0, Option.none⟩ 1 1 (flatP [p]) (flatP_len [p]) (fun j u hj => by
    rw [off_add, Nat.zero_add, hb.cell]
    have e : flatP [p] = (pcv p).toList := by simp [flatP]
    rw [e, Array.getElem?_toList] at hj
    exact hj) (fun u hu => pcv_one p u (by simpa [flatP] using hu)) (by decide) (by unfold maxLen; omega) (by omega) hB _ rfl
  refine ⟨_, W', h1, ?_, Fr.grown h3 (fun k e => e), ?_⟩
  · have e1 : flatP xs ++ flatP [p] = flatP (xs ++ [p]) := by simp [flatP]
    rw [e1] at h2
    unfold OwnP
    rw [List.length_append]
    exact h2
  · rcases h4 with h4 | h4
    · exact .inl h4.symm
    · exact .inr (by rw [h4]; rfl)
set_option maxRecDepth 100000 in
/-- the library's Clone of bytes -/
theorem clone_any (W : World) (ao : Option Addr) (cp n : Nat) (l : List UInt8) (hl : RowY W ao l) (hn : l.length = n) (hm : n ≤ 1000000) (h0 : ao = none → n = 0 ∧ cp = 0) :
    Calls Tryd.prog 22 #[.slice ao n cp] W fun r W' => ∃ v, r = .returned v ∧ OwnY W' W.heap.size v l ∧ Fr (fun _ => False) W W' := by
  have hnil := fun W => Lib.run_eql_slice_nil (P := Tryd.prog) W 22 5 ao n cp 0 0 Tryd.underlying22
  cases ao with
  | none =>
    obtain ⟨rfl, rfl⟩ := h0 rfl
    simp only [Option.isNone_none] at hnil
    clear h0
    obtain rfl := List.eq_nil_of_length_eq_zero hn
    go_enter Tryd.func22, Tryd.ntmps22
    go_wp2
    go_ret
    exact ⟨_, rfl, OwnY.none _ _, Fr.refl _ _⟩
  | some a =>
    simp only [Option.isNone_some] at hnil
    have ho := OwnY.empty W W.heap.size (Nat.le_refl _)
    have hf : Fr (fun _ => False) W (W.alloc (.cells #[] 5)) := Fr.alloc _ _ _
    have hl2 := hl.fr0 hf
    have hs : W.heap.size ≤ (W.alloc (.cells #[] 5)).heap.size := hf.size
    obtain ⟨w1, hw1⟩ : ∃ w, W.alloc (.cells #[] 5) = w := ⟨_, rfl⟩
    rw [hw1] at ho hf hl2 hs
    obtain ⟨g, hg⟩ : ∃ g, W.heap.size = g := ⟨_, rfl⟩
    rw [hg] at ho hs ⊢
    obtain ⟨v', w2, hrun, hown, hfr, _⟩ := app_y w1 g (.slice (some ⟨g, 0, none⟩) 0 0) [] l 22 hs ho (some a) cp n hl2 hn (by simp; omega)
    rw [List.nil_append] at hown
    have hne : ∀ k, k < W.heap.size → ¬ (Value.slice (some ⟨g, 0, Option.none⟩) 0 0).ownBlock = some k := fun k hk e => by
      have e2 : g = k := by simpa [Value.ownBlock] using e
      omega
    have HFR : Hid (Fr (fun _ => False) W w2) := Lib.hid ⟨hfr.os.trans hf.os, hfr.tape.trans hf.tape, hfr.output.trans hf.output, Nat.le_trans hf.size hfr.size, fun k hk _ => (hfr.block k (Nat.lt_of_lt_of_le hk hf.size) (fun e => hne k hk e)).trans (hf.block k hk id)⟩
    have HOW := Lib.hid hown
    clear hown hfr ho hf hl2 hs
    go_enter Tryd.func22, Tryd.ntmps22
    go_wp2_with (at_builtin; (try rw [hw1]); (try rw [hg]); refine wpList_appRun rfl _ _ _ rfl _ _ _ rfl rfl hrun ?_)
    go_ret
    exact ⟨_, rfl, HOW.out, HFR.out⟩
end Go.Proofs.YtookojfigjdgcaaDoor
