/- Kept worlds, a region's own lemma, the reference's lists in memory. -/
import Derived.Test.YtklfppjejndclaaE
import Derived.Deep.RegionHeld3
import Derived.Deep.MidRow
import Derived.Deep.Cut
import Derived.Deep.CutBlock
import Derived.Deep.DeepCutAuto
import Derived.Maps.AppendAt
import Derived.Laws.AppendOwnNone
set_option linter.unusedVariables false
set_option linter.unusedSimpArgs false
namespace Go.Proofs.Ytklfppjejndclaa
open Go.RowKit Go.Maps
/-- all blocks but those of S are as they were -/
structure Fr (S : Nat → Prop) (w w' : World) : Prop where
  os : w'.os = w.os
  tape : w'.tape = w.tape
  output : w'.output = w.output
  size : w.heap.size ≤ w'.heap.size
  block : ∀ k, k < w.heap.size → ¬ S k → w'.heap[k]? = w.heap[k]?
theorem Fr.refl (S : Nat → Prop) (w : World) : Fr S w w := ⟨rfl, rfl, rfl, Nat.le_refl _, fun _ _ _ => rfl⟩
theorem Fr.trans {S : Nat → Prop} {a b c : World} (h : Fr S a b) (k : Fr S b c) : Fr S a c :=
  ⟨k.os.trans h.os, k.tape.trans h.tape, k.output.trans h.output, Nat.le_trans h.size k.size, fun i hi hs => (k.block i (Nat.lt_of_lt_of_le hi h.size) hs).trans (h.block i hi hs)⟩
theorem Fr.mono {S S' : Nat → Prop} {w w' : World} (h : Fr S w w') (hs : ∀ k, S k → S' k) : Fr S' w w' := ⟨h.os, h.tape, h.output, h.size, fun k hk hn => h.block k hk (fun e => hn (hs k e))⟩
theorem Fr.grown {S : Nat → Prop} {w w' : World} {row : Option Nat} (hg : w.grownBy w' row) (hr : ∀ k, row = some k → S k) : Fr S w w' :=
  ⟨hg.os, hg.tape, hg.output, hg.size, fun k hk hn => hg.block k hk (fun e => hn (hr k e.symm))⟩
theorem Fr.drewN (S : Nat → Prop) (w : World) (n : Nat) : Fr S w (w.drewN n) := ⟨rfl, rfl, rfl, Nat.le_refl _, fun _ _ _ => rfl⟩
theorem Fr.alloc (S : Nat → Prop) (w : World) (o : Obj) : Fr S w (w.alloc o) := .grown (World.grownBy_alloc w o none) (fun k e => nomatch e)
theorem Fr.below {S : Nat → Prop} {w w' : World} {B : Nat} (h : Fr S w w') (hB : B ≤ w.heap.size) (hs : ∀ k, S k → B ≤ k) : Below B w w' :=
  ⟨h.os, h.tape, h.output, h.size, fun k hk => h.block k (by omega) (fun e => by have := hs k e; omega)⟩
theorem Blk.fr {S : Nat → Prop} {W W' : World} {B : Nat} {t : TypeId} {cs : Array Value} (h : Blk W B t cs) (hg : Fr S W W') (hne : ¬ S B) : Blk W' B t cs := (hg.block B h.lt hne).trans h
theorem add_block (a : Addr) (k : Nat) : (a.add k).block = a.block := by
  unfold Addr.add
  by_cases h : k = 0 <;> simp [h]
theorem Mp.fr {P : Program} {k : TypeId} {κ : Type} [DecidableEq κ] {E : KE P k κ} {S : Nat → Prop} {W W' : World} {b c : Nat} {F : κ → Option Value} (h : Mp E W b c F) (hg : Fr S W W') (hne : ¬ S b) : Mp E W' b c F := by
  obtain ⟨D, ⟨es, clock, hb, r⟩, s⟩ := h
  exact ⟨D, ⟨es, clock, (hg.block b (Array.getElem?_eq_some_iff.1 hb).1 hne).trans hb, r⟩, s⟩
theorem setCell_self {w : World} {a : Addr} {u : Value} (v : Value) (h : w.cell? a = some u) : (w.setCell a v).cell? a = some v := World.cell?_setCell_same w a v h
theorem setCell_block {w : World} {a b : Addr} (v : Value) (h : a.block ≠ b.block) : (w.setCell a v).cell? b = w.cell? b := World.cell?_setCell_other w a b v (fun e => h (by rw [e]))
theorem Blk.set {W : World} {B : Nat} {t : TypeId} {cs : Array Value} (k : Nat) (v : Value) (h : Blk W B t cs) : Blk (W.setCell ⟨B, k, none⟩ v) B t (cs.setIfInBounds k v) := by
  obtain ⟨hlt, hk⟩ := Array.getElem?_eq_some_iff.1 h
  show (W.heap.modify B _)[B]? = _
  rw [Array.getElem?_eq_getElem (by rw [Array.size_modify]; exact hlt), Array.getElem_modify_self, hk]
  rfl
theorem Fr.setCell {S : Nat → Prop} (w : World) (a : Addr) (v : Value) (h : S a.block) : Fr S w (w.setCell a v) :=
  ⟨rfl, rfl, rfl, Nat.le_of_eq (by simp [World.setCell]), fun k hk hn => Below.heap_setCell _ _ _ k (fun e => hn (by rw [e]; exact h))⟩
theorem Fr.by_own {w w1 w2 : World} {v : Value} (h1 : Fr (fun _ => False) w w1) (hg : w1.grownBy w2 v.ownBlock) (hv : ∀ k, v.ownBlock = some k → w.heap.size ≤ k) : Fr (fun _ => False) w w2 :=
  ⟨hg.os.trans h1.os, hg.tape.trans h1.tape, hg.output.trans h1.output, Nat.le_trans h1.size hg.size, fun k hk hn => (hg.block k (Nat.lt_of_lt_of_le hk h1.size) (fun e => by have := hv k e.symm; omega)).trans (h1.block k hk hn)⟩
namespace P2
theorem lt_of_cell {W : World} {a : Addr} {v : Value} (h : W.cell? a = some v) : a.block < W.heap.size := by
  apply Classical.byContradiction
  intro hn
  have : W.heap[a.block]? = none := Array.getElem?_eq_none (by omega)
  simp [World.cell?, this] at h
section
variable {P : Program} {ops : Array Oper} {Q : Exit → Act → World → Prop} {md : Region.Mode} {S : World → Prop} {t : Nat}
/-- whatever order is picked from here on; S behind each but t -/
def wpT (P : Program) (md : Region.Mode) (ops : Array Oper) (Q : Exit → Act → World → Prop) (S : World → Prop) (t : Nat) : Nat → Array Bool → Act → World → Prop
  | 0, done, a, w => Region.ready md ops done = [] ∧ Q .normal a w
  | n + 1, done, a, w => (Region.ready md ops done = [] → Q .normal a w) ∧ ∀ i ∈ Region.ready md ops done, wpOp P ops Q i (fun a' w' => (i ≠ t → S w') ∧ wpT P md ops Q S t n (done.setIfInBounds i true) a' w') a w
theorem wpT.any : ∀ (n : Nat) (done : Array Bool) (a : Act) (w : World), wpT P md ops Q S t n done a w → wpAny P md ops Q n done a w
  | 0, _, _, _, h => h
  | n + 1, _, _, _, h => ⟨h.1, fun i hi => wpOp_mono (fun a' w' h' => wpT.any n _ a' w' h'.2) (h.2 i hi)⟩
/-- t waits for i -/
def waits (md : Region.Mode) (ops : Array Oper) (t i : Nat) : Bool := match ops[t]? with | some o => o.after.any (fun e => Region.binds md e && e.on == i) | none => true
theorem waits_out {i j : Nat} {done : Array Bool} (h : waits md ops t i = true) (hi : i ∈ Region.ready md ops done) (hj : j ∈ Region.ready md ops done) : j ≠ t := by
  rintro rfl
  obtain ⟨_, o, ho, hall⟩ := mem_ready.1 hj
  unfold waits at h
  rw [ho] at h
  obtain ⟨e, he, hb⟩ := Array.any_eq_true'.1 h
  simp only [Bool.and_eq_true, beq_iff_eq] at hb
  have h1 := hall e he hb.1
  rw [hb.2] at h1
  have h0 := (mem_ready.1 hi).1
  rcases Nat.lt_or_ge i done.size with h' | h'
  · simp [h'] at h0 h1
    rw [h0] at h1; cases h1
  · simp [Array.getElem?_eq_none h'] at h1
theorem wpT.first {i : Nat} {oi : Oper} {v : Value} (hi : ops[i]? = some oi) (hno : Region.noSelect ops = true) (ht : waits md ops t i = true)
    (hQ : ∀ c a w, Q (.panic c) (a.put oi.dst v) w → Q (.panic c) a w) : ∀ (n : Nat) (done : Array Bool) (a : Act) (w : World),
      (∀ j oj, ops[j]? = some oj → j ≠ i → done.getD j true = false → (∀ e ∈ oj.after, Region.binds md e = true → e.on ≠ i) → oi.apart ops oj = true) →
      i ∈ Region.ready md ops done → YieldsIf P ops S oi v a → S w → wpT P md ops Q S t n (done.setIfInBounds i true) (a.put oi.dst v) w → wpT P md ops Q S t (n + 1) done a w
  | 0, done, a, w, _, hr, hy, hS, H => by
    refine ⟨fun h => (by rw [h] at hr; cases hr), fun j hj => ?_⟩
    by_cases e : j = i
    · subst e; exact hy.wpOp hi hS ⟨fun _ => hS, H⟩
    · have hm := ready_mono hj e
      rw [H.1] at hm
      cases hm
  | n + 1, done, a, w, hfree, hr, hy, hS, H => by
    refine ⟨fun h => (by rw [h] at hr; cases hr), fun j hj => ?_⟩
    by_cases e : j = i
    · subst e; exact hy.wpOp hi hS ⟨fun _ => hS, H⟩
    obtain ⟨hjun, oj, hoj, hall⟩ := mem_ready.1 hj
    have hjt : j ≠ t := waits_out ht hr hj
    have hnot : ∀ e ∈ oj.after, Region.binds md e = true → e.on ≠ i := fun e' he hb heq => by
      have h1 := hall e' he hb
      have h0 := (mem_ready.1 hr).1
      rw [heq] at h1
      rcases Nat.lt_or_ge i done.size with h' | h'
      · simp [h'] at h0 h1; rw [h0] at h1; cases h1
      · simp [Array.getElem?_eq_none h'] at h1
    have h2 := wpOp_putIf hoj (hfree j oj hoj e hjun hnot) (fun cs b => Region.noSelect_spec hno i oi cs b hi) (fun cs b => Region.noSelect_spec hno j oj cs b hoj) hQ hy (H.2 j (ready_mono hj e))
    refine wpOp_mono (fun a' w' h3 => ⟨h3.2.1, wpT.first hi hno ht hQ n (done.setIfInBounds j true) a' w' (fun k ok hk hki hun hk2 => hfree k ok hk hki ?_ hk2) (ready_mono hr (Ne.symm e)) h3.1 (h3.2.1 hjt) ?_⟩) h2
    · by_cases hjk : j = k
      · subst hjk; exact hjun
      · rw [getD_set_ne true hjk] at hun; exact hun
    · rw [Array.setIfInBounds_comm _ _ e]
      exact h3.2.2
theorem wpT.take {i : Nat} {oi : Oper} {v : Value} {n : Nat} {done : Array Bool} {a : Act} {w : World} (hi : ops[i]? = some oi) (hs : Region.noSelect ops = true) (ht : waits md ops t i = true) (hf : Region.free md ops done i = true)
    (hr : (Region.ready md ops done).contains i = true) (hQ : ∀ c a w, Q (.panic c) (a.put oi.dst v) w → Q (.panic c) a w) (hy : YieldsIf P ops S oi v a) (hS : S w)
    (h : wpT P md ops Q S t n (done.setIfInBounds i true) (a.put oi.dst v) w) : wpT P md ops Q S t (n + 1) done a w :=
  wpT.first hi hs ht hQ n done a w (Region.free_spec hi hf) (by simpa using hr) hy hS h
/-- one comes up -/
theorem wpT.one {i n : Nat} {o : Oper} {done : Array Bool} {a : Act} {w : World} (hr : Region.ready md ops done = [i]) (ho : ops[i]? = some o)
    (h : ∀ K' : Act → World → Prop, Shut (∀ a w, (i ≠ t → S w) → wpT P md ops Q S t n (done.setIfInBounds i true) a w → K' a w) → if Region.wanted o (yielded ops a.tmps) = true then Oper.wp P o a w K' Q else K' (a.put o.dst undef) w) :
    wpT P md ops Q S t (n + 1) done a w := by
  refine ⟨fun h0 => (by rw [hr] at h0; cases h0), fun j hj => ?_⟩
  rw [hr] at hj
  obtain rfl := List.mem_singleton.1 hj
  exact wpOp_step ho (fun K' hK => h K' (fun a w hS hW => hK a w ⟨hS, hW⟩))
theorem wpT.done {done : Array Bool} {a : Act} {w : World} (hr : Region.ready md ops done = []) (h : Q .normal a w) : ∀ n, wpT P md ops Q S t n done a w
  | 0 => ⟨hr, h⟩
  | _ + 1 => ⟨fun _ => h, by rw [hr]; simp⟩
theorem wp_region_t {id : Nat} {a : Act} {w : World} (hm : P.follows .mixedOrders = true) (h : wpT P .any ops Q S t ops.size (Array.replicate ops.size false) a w.drew) : (Code.region id ops true).wp P Q a w :=
  wp_region_any hm (wpT.any _ _ _ _ h)
end
def flat (L : List (Int × Int)) : List Value := L.flatMap (fun p => [.int .i64 p.1, .int .i64 p.2])
theorem flat_cons (p : Int × Int) (L : List (Int × Int)) : flat (p :: L) = .int .i64 p.1 :: .int .i64 p.2 :: flat L := rfl
theorem flat_append (L M : List (Int × Int)) : flat (L ++ M) = flat L ++ flat M := List.flatMap_append ..
theorem flat_len (L : List (Int × Int)) : (flat L).length = L.length * 2 := by
  induction L with
  | nil => rfl
  | cons p L ih => rw [flat_cons, List.length_cons, List.length_cons, ih, List.length_cons]; omega
theorem flat_drop (L : List (Int × Int)) : ∀ k, flat (L.drop k) = (flat L).drop (k * 2) := by
  induction L with
  | nil => intro k; simp [flat]
  | cons p L ih =>
    intro k
    cases k with
    | zero => rfl
    | succ k =>
      rw [List.drop_succ_cons, ih k, flat_cons, show (k + 1) * 2 = k * 2 + 1 + 1 by omega, List.drop_succ_cons, List.drop_succ_cons]
theorem flat_take (L : List (Int × Int)) : ∀ k, flat (L.take k) = (flat L).take (k * 2) := by
  induction L with
  | nil => intro k; simp [flat]
  | cons p L ih =>
    intro k
    cases k with
    | zero => simp [flat]
    | succ k =>
      rw [List.take_succ_cons, flat_cons, ih k, flat_cons, show (k + 1) * 2 = k * 2 + 1 + 1 by omega, List.take_succ_cons, List.take_succ_cons]
theorem flat_at {L : List (Int × Int)} {j : Nat} {p : Int × Int} (h : L[j]? = some p) : (flat L)[j * 2]? = some (.int .i64 p.1) ∧ (flat L)[j * 2 + 1]? = some (.int .i64 p.2) := by
  have h1 : L.drop j = p :: L.drop (j + 1) := by
    obtain ⟨hj, hp⟩ := List.getElem?_eq_some_iff.1 h
    rw [List.drop_eq_getElem_cons hj, hp]
  have h2 := flat_drop L j
  rw [h1, flat_cons] at h2
  have e0 : ((flat L).drop (j * 2))[0]? = some (.int .i64 p.1) := by rw [← h2]; rfl
  have e1 : ((flat L).drop (j * 2))[1]? = some (.int .i64 p.2) := by rw [← h2]; rfl
  rw [List.getElem?_drop] at e0 e1
  exact ⟨e0, e1⟩
theorem flat_one (L : List (Int × Int)) : ∀ u ∈ flat L, u.oneCell' = true := by
  intro u hu
  obtain ⟨p, _, hp⟩ := List.mem_flatMap.1 hu
  simp at hp
  rcases hp with rfl | rfl <;> rfl
/-- THE REFERENCE'S CLOCK: the struct in block rb, its row at or behind B0 -/
structure RC (W : World) (rb B0 : Nat) (T : Int) (L : List (Int × Int)) : Prop where
  s : ∃ sv, Blk W rb 64 #[.int .i64 T, sv] ∧ W.ownsRow B0 66 2 sv L.length (flat L)
  d : rb < B0 ∧ B0 ≤ W.heap.size
variable {W : World} {rb B0 : Nat} {T : Int} {L : List (Int × Int)}
theorem owns_fr {S : Nat → Prop} {W W' : World} {sv : Value} {n : Nat} {xs : List Value} (h : W.ownsRow B0 66 2 sv n xs) (hf : Fr S W W') (hS : ∀ k, S k → k < B0) : W'.ownsRow B0 66 2 sv n xs := by
  refine ⟨h.1, ?_⟩
  rcases h.2 with h2 | ⟨g, cap, cur, h1, h2, h3, h4⟩
  · exact .inl h2
  · exact .inr ⟨g, cap, cur, h1, h2, (hf.block g (Array.getElem?_eq_some_iff.1 h3).1 (fun e => by have := hS g e; omega)).trans h3, h4⟩
theorem RC.fr {S : Nat → Prop} {W' : World} (h : RC W rb B0 T L) (hf : Fr S W W') (h1 : ¬ S rb) (hS : ∀ k, S k → k < B0) : RC W' rb B0 T L := by
  obtain ⟨sv, h2, h3⟩ := h.s
  exact ⟨⟨sv, h2.fr hf h1, owns_fr h3 hf hS⟩, h.d.1, Nat.le_trans h.d.2 hf.size⟩
theorem RC.kept {W' : World} (h : RC W rb B0 T L) (hf : Fr (fun _ => False) W W') : RC W' rb B0 T L := h.fr hf id (fun _ e => e.elim)
/-- the slice's form, its cells -/
theorem RC.open (h : RC W rb B0 T L) : ∃ ao cp, Blk W rb 64 #[.int .i64 T, .slice ao L.length cp] ∧ L.length ≤ cp ∧ cp ≤ maxLen ∧ ((ao = none ∧ L = [] ∧ cp = 0) ∨ ∃ g, ao = some ⟨g, 0, none⟩ ∧ B0 ≤ g ∧ (∀ j u, (flat L)[j]? = some u → W.cell? ⟨g, j, none⟩ = some u)) := by
  obtain ⟨sv, h1, h2⟩ := h.s
  have hcs := h2
  rcases h2.2 with ⟨rfl, h0⟩ | ⟨g, cp, cur, rfl, hb, hgb, hnc, hcm, _, _⟩
  · exact ⟨none, 0, by rw [h0]; exact h1, by omega, by decide, .inl ⟨rfl, List.eq_nil_of_length_eq_zero h0, rfl⟩⟩
  · refine ⟨some ⟨g, 0, none⟩, cp, h1, hnc, hcm, .inr ⟨g, rfl, hb, fun j u hj => ?_⟩⟩
    have hjl := (List.getElem?_eq_some_iff.1 hj).1
    rw [flat_len] at hjl
    rw [hcs.cellAt j hjl, hj]
theorem infoA : (Try.prog.info? 66).map (fun i => (i.zero, i.size, i.bytes)) = some (some (.agg #[.int .i64 0, .int .i64 0]), 2, 16) := by kernel_rfl
theorem upon_append {P : Program} {o : Oper} {a : Act} {w w' : World} {K : Act → World → Prop} {Q : Exit → Act → World → Prop} {s x : Operand} {t : TypeId} (ho : o.op = .call { callee := .builtin .append, args := #[s, x], argTypes := #[t, t] }) {v xv v' : Value} (hs : a.eval s = v) (hx : a.eval x = xv)
    (hr : (Builtin.append_ #[t, t] o.type #[v, xv]).run P w = .ok v' w') (hK : K (a.put o.dst v') w') : o.wp P a w K Q := by
  unfold Oper.wp execOp
  simp only [ho, resolve, invoke, builtin, Sem.run_bind, Sem.run_pure, Result.andThen_ok, List.map_toArray, List.map_cons, List.map_nil, hs, hx, hr]
  exact hK
theorem app66 {ops : Array Oper} {rest : List Oper} {o : Oper} {A : Act} {Q : Exit → Act → World → Prop} (hgd : o.guard = none) (s x : Operand) (ho : o.op = .call { callee := .builtin .append, args := #[s, x], argTypes := #[62, 62] })
    {base n m c : Nat} {v : Value} {xs news : List Value} {ad : Addr} (hs : A.eval s = v) (hx : A.eval x = .slice (some ad) m c) (hown : W.ownsRow base 66 2 v n xs) (hn : news.length = m * 2) (hnews : ∀ j u, news[j]? = some u → W.cell? (ad.add j) = some u)
    (h1 : ∀ u ∈ news, u.oneCell' = true) (hle : n + m ≤ 100000) (hbase : base ≤ W.heap.size)
    (h : ∀ v' W', W'.ownsRow base 66 2 v' (n + m) (xs ++ news) → W.grownBy W' v.ownBlock → wpList Try.prog ops Q rest (A.put o.dst v') W') : wpList Try.prog ops Q (o :: rest) A W := by
  obtain ⟨i0, hi, hz0, hz1, hz2⟩ := info_parts infoA
  exact wpList_append_own_at W hgd s x 62 ho base 66 i0 _ 2 16 Try.underlying62 hi hz0 hz1 hz2 rfl (by omega) v n xs hs hown ad m c news hx hn hnews h1 (by unfold maxLen; omega) (by omega) hbase (fun v' w' h2 h3 _ _ => h v' w' h2 h3)
theorem app66_nil {ops : Array Oper} {rest : List Oper} {o : Oper} {A : Act} {Q : Exit → Act → World → Prop} (hgd : o.guard = none) (s x : Operand) (ho : o.op = .call { callee := .builtin .append, args := #[s, x], argTypes := #[62, 62] })
    {base n : Nat} {v : Value} {xs : List Value} (hs : A.eval s = v) (hx : A.eval x = .slice none 0 0) (hown : W.ownsRow base 66 2 v n xs) (h : wpList Try.prog ops Q rest (A.put o.dst v) W) : wpList Try.prog ops Q (o :: rest) A W := by
  obtain ⟨i0, hi, hz0, hz1, hz2⟩ := info_parts infoA
  exact wpList_append_own_none hgd s x 62 ho base 66 i0 2 Try.underlying62 hi v n xs hs hown hx h
theorem owns_empty (W : World) : (W.alloc (.cells #[] 66)).ownsRow W.heap.size 66 2 (.slice (some ⟨W.heap.size, 0, none⟩) 0 0) 0 [] := ⟨rfl, .inr ⟨_, 0, #[], rfl, Nat.le_refl _, World.alloc_heap_new W _, Nat.le_refl _, by decide, rfl, rfl⟩⟩
theorem owns_slice {W : World} {base n : Nat} {v : Value} {xs : List Value} (h : W.ownsRow base 66 2 v n xs) : ∃ ao cp, v = .slice ao n cp := by
  rcases h.2 with ⟨rfl, rfl⟩ | ⟨g, cap, cur, rfl, _⟩
  · exact ⟨_, _, rfl⟩
  · exact ⟨_, _, rfl⟩
/-- the struct is given its new row -/
theorem RC.put (h : RC W rb B0 T L) {W2 : World} (hf : Fr (fun _ => False) W W2) {base : Nat} (hb : W.heap.size ≤ base) {M : List (Int × Int)} {sv : Value} (ho : W2.ownsRow base 66 2 sv M.length (flat M)) :
    RC (W2.setCell ⟨rb, 1, none⟩ sv) rb B0 T M ∧ Fr (fun k => k = rb) W (W2.setCell ⟨rb, 1, none⟩ sv) := by
  obtain ⟨s0, hs, _⟩ := h.s
  have hs2 := (hs.fr hf id).set 1 sv
  have hf3 := Fr.setCell (S := fun k => k = rb) W2 ⟨rb, 1, none⟩ sv rfl
  have hd := h.d
  refine ⟨⟨⟨sv, by simpa using hs2, owns_fr ?_ hf3 (fun k e => by omega)⟩, hd.1, Nat.le_trans (Nat.le_trans hd.2 hf.size) hf3.size⟩, (hf.mono fun _ e => e.elim).trans hf3⟩
  refine ⟨ho.1, ?_⟩
  rcases ho.2 with h | ⟨g', cap', cur', h1, h2, h3⟩
  · exact .inl h
  · exact .inr ⟨g', cap', cur', h1, by omega, h3⟩
theorem ownsG_fr {S : Nat → Prop} {W W' : World} {base e size : Nat} {sv : Value} {n : Nat} {xs : List Value} (h : W.ownsRow base e size sv n xs) (hf : Fr S W W') (hS : ∀ k, S k → sv.ownBlock ≠ some k) : W'.ownsRow base e size sv n xs := by
  refine ⟨h.1, ?_⟩
  rcases h.2 with h2 | ⟨g, cap, cur, h1, h2, h3, h4⟩
  · exact .inl h2
  · exact .inr ⟨g, cap, cur, h1, h2, (hf.block g (Array.getElem?_eq_some_iff.1 h3).1 (fun e => hS g e (by rw [h1]; rfl))).trans h3, h4⟩
theorem ownsG_base {W : World} {b1 b2 e size : Nat} {sv : Value} {n : Nat} {xs : List Value} (h : W.ownsRow b1 e size sv n xs) (hb : b2 ≤ b1) : W.ownsRow b2 e size sv n xs := by
  refine ⟨h.1, ?_⟩
  rcases h.2 with h2 | ⟨g, cap, cur, h1, h2, h3⟩
  · exact .inl h2
  · exact .inr ⟨g, cap, cur, h1, Nat.le_trans hb h2, h3⟩
end P2
end Go.Proofs.Ytklfppjejndclaa
