/- Open: the Ids of what is open, told by the program. -/
import Derived.Test.YtbdjnfkhdphhoaaDoorN4
import Derived.Test.YtbdjnfkhdphhoaaDoorN2
import Derived.Deep.RegionHeld3
set_option linter.unusedVariables false
set_option linter.unusedSimpArgs false
namespace Go.Proofs.YtbdjnfkhdphhoaaDoor
open Go.RowKit Go.Maps
theorem wp_append_runO {P : Program} {o : Oper} {a : Act} {K : Act → World → Prop} {Q : Exit → Act → World → Prop} {w w' : World} (s x : Operand) (t : TypeId) (ho : o.op = .call { callee := .builtin .append, args := #[s, x], argTypes := #[t, t] }) (v y r : Value) (hs : a.eval s = v) (hx : a.eval x = y)
    (hr : (Builtin.append_ #[t, t] o.type #[v, y]).run P w = .ok r w') (h : K (a.put o.dst r) w') : o.wp P a w K Q := by
  unfold Oper.wp execOp
  simp only [ho, resolve, invoke, builtin, Sem.run_bind, Sem.run_pure, Result.andThen_ok, List.map_toArray, List.map_cons, List.map_nil, hs, hx, hr]
  exact h
theorem szA (w : World) (o : Obj) : (w.alloc o).heap.size = w.heap.size + 1 := by
  show (w.heap.push o).size = _
  rw [Array.size_push]
theorem ranges_at {w : World} {P : Program} {k : TypeId} {R : Value → Option (DataW Value × List MemPlace)} {b r n : Nat} {D : DataW Value} {left : Lit → Bool} {cnt : Nat} (h : w.ranges P k R b r n D left cnt) {cs : Array Value} {t : TypeId} {z : Nat × Nat} : w.heap[r]? ≠ some (.cells cs t z) ∧ w.heap[b]? ≠ some (.cells cs t z) ∧ r < w.heap.size ∧ b < w.heap.size := by
  obtain ⟨es, clock, since, seen, c0, h1, h2, h3, h4, h5, h6⟩ := h
  exact ⟨fun e => (by rw [h5] at e; cases e), fun e => (by rw [h1] at e; cases e), (Array.getElem?_eq_some_iff.1 h5).1, (Array.getElem?_eq_some_iff.1 h1).1⟩
theorem load47 (w : World) (q : Nat) (v : Value) (h : w.cell? ⟨q, 0, none⟩ = some v) : (loadVar 47 ⟨q, 0, none⟩).run Tryd.prog w = .ok v w := by
  simp [loadVar, Sem.run_bind, Tryd.isAgg47, h]
theorem results3 (fn : Func) (h : fn.results = #[ResultVar.cell 2 47, ResultVar.cell 3 47, ResultVar.cell 4 47]) (tmps : Array Value) (w : World) (q0 q1 q2 : Nat) (v0 v1 v2 : Value) (h0 : tmps.getD 2 undef = .pointer (some ⟨q0, 0, none⟩)) (h1 : tmps.getD 3 undef = .pointer (some ⟨q1, 0, none⟩)) (h2 : tmps.getD 4 undef = .pointer (some ⟨q2, 0, none⟩))
    (e0 : w.cell? ⟨q0, 0, none⟩ = some v0) (e1 : w.cell? ⟨q1, 0, none⟩ = some v1) (e2 : w.cell? ⟨q2, 0, none⟩ = some v2) : (results fn tmps).run Tryd.prog w = .ok (.tuple #[v0, v1, v2]) w := by
  have h0' : tmps[2]?.getD undef = .pointer (some ⟨q0, 0, none⟩) := by simpa using h0
  have h1' : tmps[3]?.getD undef = .pointer (some ⟨q1, 0, none⟩) := by simpa using h1
  have h2' : tmps[4]?.getD undef = .pointer (some ⟨q2, 0, none⟩) := by simpa using h2
  simp [results, h, h0', h1', h2', asAddr, load47 w _ _ e0, load47 w _ _ e1, load47 w _ _ e2]
theorem OwnI.to {S : Nat → Prop} {W W2 : World} {B B2 : Nat} {v : Value} {xs : List Int} (h : OwnI W B v xs) (hB : B2 ≤ B) (hf : Fr S W W2) (hS : ∀ k, v.ownBlock = some k → ¬ S k) : OwnI W2 B2 v xs := by
  have h2 := h.fr hf hS
  obtain ⟨hl, hown⟩ := h2
  refine ⟨hl, ?_⟩
  rcases hown with h1 | ⟨g, cp, cur, h1, hb, r⟩
  · exact .inl h1
  · exact .inr ⟨g, cp, cur, h1, Nat.le_trans hB hb, r⟩
theorem OwnI.notBlk {W : World} {B : Nat} {v : Value} {xs : List Int} (h : OwnI W B v xs) {b : Nat} {t : TypeId} {cs : Array Value} (hb : Blk W b t cs) (ht : t ≠ 3) : ¬ v.ownBlock = some b := fun e => by
  obtain ⟨_, _, cs', h3⟩ := h.ob e
  have := hb.symm.trans h3
  cases this
  exact ht rfl
theorem OwnI.notMp {W : World} {B : Nat} {v : Value} {xs : List Int} (h : OwnI W B v xs) {b c : Nat} {F : Int → Option Value} (hM : Mp iKE W b c F) : ¬ v.ownBlock = some b := fun e => by
  obtain ⟨_, _, cs', h3⟩ := h.ob e
  obtain ⟨D, ⟨es, clock, hb', _⟩, _⟩ := hM
  have := hb'.symm.trans h3
  cases this
theorem HS.frO {W W' : World} {hb kb ib ob fb B : Nat} {h : Hi} {v : Value} {xs : List Int} (hs : HS W hb kb ib ob fb h) (ho : OwnI W B v xs) (hf : Fr (fun k => v.ownBlock = some k) W W') : HS W' hb kb ib ob fb h :=
  hs.fr hf (ho.notBlk hs.b (by decide)) (by obtain ⟨c, _, hM⟩ := hs.k; exact ho.notMp hM) (by obtain ⟨c, _, hM⟩ := hs.i; exact ho.notMp hM) (by obtain ⟨c, _, hM⟩ := hs.o; exact ho.notMp hM) (by obtain ⟨c, _, hM⟩ := hs.f; exact ho.notMp hM)
theorem HS.frB {W W' : World} {hb kb ib ob fb q : Nat} {h : Hi} {cs : Array Value} (hs : HS W hb kb ib ob fb h) (hq : Blk W q 47 cs) (hf : Fr (fun k => k = q) W W') : HS W' hb kb ib ob fb h :=
  hs.fr hf (fun e => by subst e; have := hs.b.symm.trans hq; cases this) (by obtain ⟨c, _, hM⟩ := hs.k; exact fun e => mp_ne hM hq e.symm) (by obtain ⟨c, _, hM⟩ := hs.i; exact fun e => mp_ne hM hq e.symm) (by obtain ⟨c, _, hM⟩ := hs.o; exact fun e => mp_ne hM hq e.symm) (by obtain ⟨c, _, hM⟩ := hs.f; exact fun e => mp_ne hM hq e.symm)
theorem blkI {W : World} {b : Nat} {x : Int} (h : Blk W b 3 #[.int .i64 x]) : RowI W (some ⟨b, 0, none⟩) [x] :=
  .inr ⟨b, 0, rfl, h.lt, fun i y hy => by
    rcases i with _ | i
    · cases hy; exact h.cell 0
    · simp at hy⟩
set_option maxRecDepth 100000 in
set_option maxHeartbeats 8000000 in
theorem open_any (W : World) (ao : Option Addr) (cp n : Nat) (l : List Ev) (hl : RowV W ao l) (hnl : l.length = n) (hn : n ≤ 1000) (hg : Good l l.length) :
    Calls Tryd.prog 25 #[.slice ao n cp] W fun r W' => ∃ v0 v1 v2 : Value, r = .returned (.tuple #[v0, v1, v2]) ∧ OwnI W' W.heap.size v0 (tells l 0) ∧ OwnI W' W.heap.size v1 (tells l 1) ∧ OwnI W' W.heap.size v2 (tells l 2) ∧ Fr (fun _ => False) W W' := by
  have HNL := Lib.hid hnl
  have HN := Lib.hid hn
  have HROW := Lib.hid hl
  have HGD := Lib.hid hg
  have hb0 : Blk (((W.alloc (.cells #[.slice none 0 0] 47)).alloc (.cells #[.slice none 0 0] 47)).alloc (.cells #[.slice none 0 0] 47)) W.heap.size 47 #[.slice none 0 0] := ((Blk.new W 47 _).alloc _).alloc _
  have hb1 : Blk (((W.alloc (.cells #[.slice none 0 0] 47)).alloc (.cells #[.slice none 0 0] 47)).alloc (.cells #[.slice none 0 0] 47)) (W.heap.size + 1) 47 #[.slice none 0 0] := by
    have := (Blk.new (W.alloc (.cells #[.slice none 0 0] 47)) 47 #[.slice none 0 0]).alloc (.cells #[.slice none 0 0] 47)
    rwa [show (W.alloc (.cells #[.slice none 0 0] 47)).heap.size = W.heap.size + 1 from szA _ _] at this
  have hb2 : Blk (((W.alloc (.cells #[.slice none 0 0] 47)).alloc (.cells #[.slice none 0 0] 47)).alloc (.cells #[.slice none 0 0] 47)) (W.heap.size + 2) 47 #[.slice none 0 0] := by
    have := Blk.new ((W.alloc (.cells #[.slice none 0 0] 47)).alloc (.cells #[.slice none 0 0] 47)) 47 #[.slice none 0 0]
    rwa [show ((W.alloc (.cells #[.slice none 0 0] 47)).alloc (.cells #[.slice none 0 0] 47)).heap.size = W.heap.size + 2 from (szA _ _).trans (by rw [szA])] at this
  have hf3 : Fr (fun _ => False) W (((W.alloc (.cells #[.slice none 0 0] 47)).alloc (.cells #[.slice none 0 0] 47)).alloc (.cells #[.slice none 0 0] 47)) := ((Fr.alloc _ _ _).trans (Fr.alloc _ _ _)).trans (Fr.alloc _ _ _)
  have hsz : (((W.alloc (.cells #[.slice none 0 0] 47)).alloc (.cells #[.slice none 0 0] 47)).alloc (.cells #[.slice none 0 0] 47)).heap.size = W.heap.size + 3 := (szA _ _).trans (by rw [szA, szA])
  obtain ⟨w3, hw3⟩ : ∃ w3, (((W.alloc (.cells #[.slice none 0 0] 47)).alloc (.cells #[.slice none 0 0] 47)).alloc (.cells #[.slice none 0 0] 47)) = w3 := ⟨_, rfl⟩
  rw [hw3] at hb0 hb1 hb2 hf3 hsz
  obtain ⟨B, hB⟩ : ∃ B, W.heap.size = B := ⟨_, rfl⟩
  rw [hB] at hb0 hb1 hb2 hsz ⊢
  have HB := Lib.hid hB
  have HB0 := Lib.hid hb0
  have HB1 := Lib.hid hb1
  have HB2 := Lib.hid hb2
  have HF3 := Lib.hid hf3
  have HSZ := Lib.hid hsz
  clear hnl hn hl hg hb0 hb1 hb2 hf3 hsz
  go_enter Tryd.func25, Tryd.ntmps25
  go_upto_region 1 with (fail)
  try rw [hw3]
  try rw [hB]
  clear hw3 hB
  rw [show B + 2 = B + 1 + 1 from rfl] at HB2
  obtain ⟨q0, hq0⟩ : ∃ q, q = B := ⟨_, rfl⟩
  obtain ⟨q1, hq1⟩ : ∃ q, q = B + 1 := ⟨_, rfl⟩
  obtain ⟨q2, hq2⟩ : ∃ q, q = q1 + 1 := ⟨_, rfl⟩
  rw [← hq1, ← hq2] at HB2
  rw [← hq1] at HB1
  rw [← hq0] at HB0
  have HQ := Lib.hid (And.intro hq0 (And.intro hq1 hq2))
  have HST : Hid (∀ w', Fr (fun k => B + 3 ≤ k) w3 w' → Blk w' q0 47 #[.slice none 0 0] ∧ Blk w' q1 47 #[.slice none 0 0] ∧ Blk w' q2 47 #[.slice none 0 0]) := Lib.hid (fun w' hf => ⟨HB0.out.fr hf (by omega), HB1.out.fr hf (by omega), HB2.out.fr hf (by omega)⟩)
  rw [← hq1, ← hq2, ← hq0]
  clear hq0 hq1 hq2 HB0 HB1 HB2
  go_upto_region 2 with (first | (go_at_call 33; refine (begin_any _).mono ?_; rintro r w1 ⟨hb, kb, ib, ob, fb, rfl, h1, h2, h3, h4, h5, hs, hf1⟩) | go_in)
  have HLE : Hid (B + 3 ≤ hb ∧ B + 3 ≤ kb ∧ B + 3 ≤ ib ∧ B + 3 ≤ ob ∧ B + 3 ≤ fb) := Lib.hid (by rw [HSZ.out] at h1 h2 h3 h4 h5; exact ⟨h1, h2, h3, h4, h5⟩)
  have HS1 := Lib.hid hs
  have HF1 := Lib.hid hf1
  clear h1 h2 h3 h4 h5 hs hf1
  go_wp2_with fail
  go_loopw [16] (fun iv wr => ∃ i : Nat, i ≤ n ∧ iv = .int .i64 i ∧ HS wr hb kb ib ob fb (feed hi0 (l.take i)) ∧ Fr (fun k => B + 3 ≤ k) w3 wr) (fun iv _ => n - (intOf iv).toNat)
  case atStart => exact ⟨0, by omega, rfl, HS1.out, HF1.out.mono fun _ e => e.elim⟩
  case round =>
    obtain ⟨i, hi, rfl, hs, hf⟩ := hrel
    have HS := Lib.hid hs
    have HF := Lib.hid hf
    clear HS1 HF1 hs hf
    by_cases hlt : i < n
    · have p0 : decide ((i : Int) < n) = true := decide_eq_true (by omega)
      obtain ⟨e, he⟩ : ∃ e, l[i]? = some e := ⟨_, List.getElem?_eq_getElem (by rw [HNL.out]; exact hlt)⟩
      have HE := Lib.hid he
      have hfa0 : faultC (feed hi0 (l.take i)) e = 0 := HGD.out i e (by rw [HNL.out]; exact hlt) he
      have hrow := HROW.out
      rcases hrow with hrow | ⟨b, o, rfl, hbl, hcc⟩
      · rw [hrow] at he; simp at he
      have hwf : Fr (fun k => B ≤ k) W wr := (HF3.out.mono fun _ e => e.elim).trans (HF.out.mono fun k e => by omega)
      have hcell : ∀ j v, (evc e)[j]? = some v → wr.cell? ⟨b, o + i * 7 + j, none⟩ = some v := fun j v hj => (World.cell?_of_block (hwf.block b hbl (by have := HB.out; show ¬ B ≤ b; omega))).trans (hcc i e he j v hj)
      have c0 := hcell 0 (.int .i64 e.k) rfl
      have c1 := hcell 1 (.int .i64 e.at_) rfl
      have c2 := hcell 2 (.int .i64 e.ref) rfl
      have c3 := hcell 3 (.int .i64 e.id) rfl
      have c4 := hcell 4 (.int .i64 e.list) rfl
      have c5 := hcell 5 (.int .i64 e.n) rfl
      have c6 := hcell 6 (.slice e.ao e.dl e.cp) rfl
      rw [Nat.add_zero] at c0
      clear hcell hcc he hwf
      go_upto_region 5 with (fail)
      have hfa : Fr (fun _ => False) wr (wr.alloc (.cells (evc e) 24)) := Fr.alloc _ _ _
      obtain ⟨s, hs⟩ : ∃ s, feed hi0 (l.take i) = s := ⟨_, rfl⟩
      have hsn : s.n ≤ i := by
        have := feed_n_le (l.take i) hi0
        rw [hs, List.length_take] at this
        simp [hi0] at this
        omega
      have HSA := HS.out.fr0 hfa
      rw [hs] at HSA hfa0
      have hadd := add_any (wr.alloc (.cells (evc e) 24)) hb kb ib ob fb s HSA (by have := HN.out; omega) e
      rw [hfa0] at hadd
      have e0 : ((0 : Nat) == 0) = true := rfl
      rw [e0] at hadd
      have HADD := Lib.hid hadd
      simp only [evc] at HADD
      have HFA : Hid (Fr (fun k => B + 3 ≤ k) w3 (wr.alloc (.cells (evc e) 24))) := Lib.hid (HF.out.trans (hfa.mono fun _ e => e.elim))
      simp only [evc] at HFA
      have HSS := Lib.hid hs
      have HI := Lib.hid (And.intro hi hlt)
      clear HSA hfa hsn hs hadd hfa0 e0 c0 c1 c2 c3 c4 c5 c6
      go_upto_region 6 with (first | (go_at_call 34; refine HADD.out.mono ?_; rintro r2 w6 ⟨rfl, hs6, hf6⟩) | go_in)
      have HS6 := Lib.hid hs6
      have HF6 : Hid (Fr (fun k => B + 3 ≤ k) w3 w6) := Lib.hid (HFA.out.trans (hf6.mono fun k hk => by obtain ⟨h1, h2, h3, h4, h5⟩ := HLE.out; rcases hk with rfl | rfl | rfl | rfl | rfl <;> assumption))
      clear hs6 hf6 HADD HFA hbl hlt hi
      have HWS := Lib.hid (wrap_succ i (by have := HI.out; have := HN.out; omega))
      go_wp2
      go_roundw
      case rel =>
        have hi := HI.out
        refine ⟨i + 1, by omega, by rw [HWS.out], ?_, HF6.out⟩
        rw [feed_take hi0 l i e HE.out, HSS.out]; exact HS6.out
      case measure => rw [HWS.out]; clear HWS; have := HI.out; simp [intOf]; omega
    · obtain rfl : i = n := by omega
      have p0 : decide ((i : Int) < i) = false := decide_eq_false (by omega)
      have htk : l.take i = l := by rw [← HNL.out]; exact List.take_length
      rw [htk] at HS
      clear htk
      obtain ⟨s, hs⟩ : ∃ s, feed hi0 l = s := ⟨_, rfl⟩
      rw [hs] at HS
      have HSS := Lib.hid hs
      clear hs
      have hbb := HS.out.b
      have c3 := hbb.cell 3
      simp only [hcells, List.getElem?_toArray, List.getElem?_cons_zero, List.getElem?_cons_succ] at c3
      obtain ⟨c, hc, D, hown, hsize, hD⟩ := HS.out.k
      have HDD := Lib.hid hD
      obtain ⟨RB, hrb⟩ : ∃ z, wr.heap.size = z := ⟨_, rfl⟩
      have hltall := HS.out.lt
      rw [hrb] at hltall
      have HLT := Lib.hid hltall
      have hst := HST.out wr
      clear hD hlt hi hbb hltall
      go_upto_region 8 with (at_range; refine wpList_range_own _ rfl _ 80 rfl 3 3 (int_keyed under3) Tryd.underlying80 rawR kb c D rfl hown ?_; intro w7 hrg7 hg7 hs7)
      rw [hrb] at hrg7 hs7 ⊢
      have hcb : Maps.size D ≤ 1000 := by
        have h1 := feed_n_le l hi0
        rw [HSS.out, HNL.out] at h1
        have := HN.out
        simp [hi0] at h1
        have := hsize
        omega
      have hf7 : Fr (fun _ => False) _ w7 := Fr.grown hg7 (fun k e => nomatch e)
      have h7 := HST.out w7 (HF.out.trans (hf7.mono fun _ e => e.elim))
      have HO7 : Hid (OpenSt w7 B (fun kl => Maps.has D kl) s (fun _ => .slice none 0 0) (fun _ => [])) := Lib.hid ⟨fun c hc => by
          obtain ⟨h1, h2, h3⟩ := HQ.out
          obtain ⟨b0, b1, b2⟩ := h7
          have : c = 0 ∨ c = 1 ∨ c = 2 := by omega
          rcases this with rfl | rfl | rfl
          · rw [← h1.trans (Nat.add_zero B).symm]; exact b0
          · rw [← h2]; exact b1
          · rw [show B + 2 = q2 by omega]; exact b2, fun c _ => OwnI.none _ _, fun c _ => ⟨[], List.nodup_nil, fun p => ⟨fun h => (by cases h), fun h => by
          obtain ⟨⟨v, h1, _⟩, h2⟩ := h
          have hok : iKE.ok p := by have := HS.out.dk p v h1; have := HS.out.few; exact wf_of (by omega) (by omega)
          have h3 := (HDD.out p hok).1
          have e : Maps.has D (.int .i64 p) = (mI s.kinds p).isSome := h3
          have h2 : Maps.has D (.int .i64 p) = false := h2
          rw [e] at h2
          unfold mI at h2
          rw [h1] at h2
          simp at h2⟩, rfl⟩, fun c d k _ _ _ h => by cases h⟩
      have HH7 := Lib.hid (HS.out.fr0 hf7)
      have HF7 : Hid (Fr (fun k => B ≤ k) W w7) := Lib.hid (((HF3.out.mono fun _ e => e.elim).trans (HF.out.mono fun k e => by omega)).trans (hf7.mono fun _ e => e.elim))
      clear hf7 h7 HST HF HF3 HSZ HROW hown
      have HCB := Lib.hid hcb
      have HRG7 := Lib.hid hrg7
      clear hrg7 hg7 hs7 hcb c3 hst HS hsize hc
      go_wp2_with fail
      go_frame
      go_loopw [9] (fun _ wz => ∃ (left : Lit → Bool) (cnt : Nat) (V : Nat → Value) (X : Nat → List Int), wz.ranges Tryd.prog 3 rawR kb RB c D left cnt ∧ OpenSt wz B left s V X ∧ HS wz hb kb ib ob fb s ∧ (∀ c, c < 3 → (X c).length + cnt ≤ Maps.size D) ∧ Fr (fun k => B ≤ k) W wz) (fun _ wz => wz.rangeLeft kb RB)
      case atStart => exact ⟨_, _, _, _, HRG7.out, HO7.out, HH7.out, fun c _ => by simp, HF7.out⟩
      case round =>
        obtain ⟨left, cnt, V, X, hrg, hO, hH, hX, hF⟩ := hrel
        have HO := Lib.hid hO
        have HH := Lib.hid hH
        have HX := Lib.hid hX
        have HF := Lib.hid hF
        have HRG := Lib.hid hrg
        clear hO hH hX hF HO7 HH7 HF7 HRG7
        go_wp2_with (at_next; refine wpList_next_ranges _ rfl _ rfl 3 (int_keyed under3) rawR (Value.int .i64) _root_.id (fun key kl h => by obtain ⟨x, rfl, _⟩ := Maps.keyOf_int_inv under3 h; exact ⟨x, rfl⟩) (fun v y _ => ⟨v, rfl⟩) kb RB c D left cnt rfl hrg ?_ ?_)
        case _ =>
          intro hc0 hl0
          have HL0 := Lib.hid hl0
          have hq0 := HQ.out
          have hb0 : Blk wr q0 47 #[V 0] := by have := HO.out.b 0 (by decide); rwa [show B + 0 = q0 by omega] at this
          have hb1 : Blk wr q1 47 #[V 1] := by have := HO.out.b 1 (by decide); rwa [show B + 1 = q1 by omega] at this
          have hb2 : Blk wr q2 47 #[V 2] := by have := HO.out.b 2 (by decide); rwa [show B + 2 = q2 by omega] at this
          have ho0 := HO.out.o 0 (by decide)
          have ho1 := HO.out.o 1 (by decide)
          have ho2 := HO.out.o 2 (by decide)
          have hd01 := fun k => HO.out.d 0 1 k (by decide) (by decide) (by decide)
          have hd02 := fun k => HO.out.d 0 2 k (by decide) (by decide) (by decide)
          have hd12 := fun k => HO.out.d 1 2 k (by decide) (by decide) (by decide)
          have HG0 := Lib.hid (HO.out.g 0 (by decide))
          have HG1 := Lib.hid (HO.out.g 1 (by decide))
          have HG2 := Lib.hid (HO.out.g 2 (by decide))
          obtain ⟨y0, k0, hv0, _⟩ := ho0.row
          obtain ⟨y1, k1, hv1, _⟩ := ho1.row
          obtain ⟨y2, k2, hv2, _⟩ := ho2.row
          rw [hv0] at ho0 hb0 hd01 hd02
          rw [hv1] at ho1 hb1 hd01 hd12
          rw [hv2] at ho2 hb2 hd02 hd12
          have hx0 := HX.out 0 (by decide)
          have hx1 := HX.out 1 (by decide)
          have hx2 := HX.out 2 (by decide)
          have hcb := HCB.out
          have HXL : Hid ((X 0).length ≤ 1000 ∧ (X 1).length ≤ 1000 ∧ (X 2).length ≤ 1000) := Lib.hid (by omega)
          obtain ⟨n0, hn0⟩ : ∃ m, (X 0).length = m := ⟨_, rfl⟩
          obtain ⟨n1, hn1⟩ : ∃ m, (X 1).length = m := ⟨_, rfl⟩
          obtain ⟨n2, hn2⟩ : ∃ m, (X 2).length = m := ⟨_, rfl⟩
          rw [hn0] at ho0 hb0 hd01 hd02
          rw [hn1] at ho1 hb1 hd01 hd12
          rw [hn2] at ho2 hb2 hd02 hd12
          have HD := Lib.hid (And.intro hd01 (And.intro hd02 hd12))
          have e0 := hb0.cell 0
          have e1 := hb1.cell 0
          have e2 := hb2.cell 0
          simp only [List.getElem?_toArray, List.getElem?_cons_zero] at e0 e1 e2
          have hbA := Blk.new wr 47 #[.slice y0 n0 k0, .slice y1 n1 k1, .slice y2 n2 k2]
          have hfA : Fr (fun _ => False) wr (wr.alloc (.cells #[.slice y0 n0 k0, .slice y1 n1 k1, .slice y2 n2 k2] 47)) := Fr.alloc _ _ _
          obtain ⟨gb, hgb⟩ : ∃ g, wr.heap.size = g := ⟨_, rfl⟩
          obtain ⟨wA, hwA⟩ : ∃ w, wr.alloc (.cells #[.slice y0 n0 k0, .slice y1 n1 k1, .slice y2 n2 k2] 47) = w := ⟨_, rfl⟩
          rw [hwA] at hbA hfA
          rw [hgb] at hbA
          have HBA := Lib.hid hbA
          have HFA : Hid (Fr (fun k => B ≤ k) W wA) := Lib.hid (HF.out.trans (hfA.mono fun _ e => e.elim))
          have HB0 := Lib.hid (hb0.fr hfA (fun e => e))
          have HB1 := Lib.hid (hb1.fr hfA (fun e => e))
          have HB2 := Lib.hid (hb2.fr hfA (fun e => e))
          have HO0 := Lib.hid (ho0.fr hfA (fun _ _ e => e))
          have HO1 := Lib.hid (ho1.fr hfA (fun _ _ e => e))
          have HO2 := Lib.hid (ho2.fr hfA (fun _ _ e => e))
          clear hc0 hl0 hrg hq0 hb0 hb1 hb2 hx0 hx1 hx2 hcb hbA hfA HH HO HX HF ho0 ho1 ho2 hd01 hd02 hd12 hv0 hv1 hv2 hn0 hn1 hn2
          go_wp2_with fail
          try rw [hwA]
          try rw [hgb]
          clear hwA hgb e0 e1 e2
          have d0 := HBA.out.cell 0
          have d1 := HBA.out.cell 1
          have d2 := HBA.out.cell 2
          simp only [List.getElem?_toArray, List.getElem?_cons_zero, List.getElem?_cons_succ] at d0 d1 d2
          refine wp_loop_rounds 4 ?_
          rw [rounds_succ]
          go_wp2_with fail
          refine (sort_any wA (B + 3) (.slice y0 n0 k0) (X 0) HO0.out (by have := HXL.out; omega)).mono ?_
          rintro r5 w5 ⟨rfl, ho5, hf5⟩
          have HP0 := Lib.hid ho5
          have HP1 := Lib.hid (HO1.out.fr hf5 (fun k e => fun e' => HD.out.1 k e' e))
          have HP2 := Lib.hid (HO2.out.fr hf5 (fun k e => fun e' => HD.out.2.1 k e' e))
          have HC0 := Lib.hid (HB0.out.fr hf5 (HO0.out.notBlk HB0.out (by decide)))
          have HC1 := Lib.hid (HB1.out.fr hf5 (HO0.out.notBlk HB1.out (by decide)))
          have HC2 := Lib.hid (HB2.out.fr hf5 (HO0.out.notBlk HB2.out (by decide)))
          have HCA := Lib.hid (HBA.out.fr hf5 (HO0.out.notBlk HBA.out (by decide)))
          have HFB : Hid (Fr (fun k => B ≤ k) W w5) := Lib.hid (HFA.out.trans (hf5.mono fun k e => by have := (HO0.out.ob e).1; omega))
          clear d0 d1 d2 HO0 HO1 HO2 HB0 HB1 HB2 HBA HFA ho5 hf5
          have d0 := HCA.out.cell 0
          have d1 := HCA.out.cell 1
          have d2 := HCA.out.cell 2
          simp only [List.getElem?_toArray, List.getElem?_cons_zero, List.getElem?_cons_succ] at d0 d1 d2
          go_wp2_with fail
          rw [rounds_succ]
          go_wp2_with fail
          refine (sort_any w5 (B + 3) (.slice y1 n1 k1) (X 1) HP1.out (by have := HXL.out; omega)).mono ?_
          rintro r6 w6 ⟨rfl, ho6, hf6⟩
          have HQ1 := Lib.hid ho6
          have HQ0 := Lib.hid (HP0.out.fr hf6 (fun k e => fun e' => HD.out.1 k e e'))
          have HQ2 := Lib.hid (HP2.out.fr hf6 (fun k e => fun e' => HD.out.2.2 k e' e))
          have HE0 := Lib.hid (HC0.out.fr hf6 (HP1.out.notBlk HC0.out (by decide)))
          have HE1 := Lib.hid (HC1.out.fr hf6 (HP1.out.notBlk HC1.out (by decide)))
          have HE2 := Lib.hid (HC2.out.fr hf6 (HP1.out.notBlk HC2.out (by decide)))
          have HEA := Lib.hid (HCA.out.fr hf6 (HP1.out.notBlk HCA.out (by decide)))
          have HFC : Hid (Fr (fun k => B ≤ k) W w6) := Lib.hid (HFB.out.trans (hf6.mono fun k e => by have := (HP1.out.ob e).1; omega))
          clear d0 d1 d2 HP0 HP1 HP2 HC0 HC1 HC2 HCA HFB ho6 hf6
          have d0 := HEA.out.cell 0
          have d1 := HEA.out.cell 1
          have d2 := HEA.out.cell 2
          simp only [List.getElem?_toArray, List.getElem?_cons_zero, List.getElem?_cons_succ] at d0 d1 d2
          go_wp2_with fail
          rw [rounds_succ]
          go_wp2_with fail
          refine (sort_any w6 (B + 3) (.slice y2 n2 k2) (X 2) HQ2.out (by have := HXL.out; omega)).mono ?_
          rintro r7 w7 ⟨rfl, ho7, hf7⟩
          have HR2 := Lib.hid ho7
          have HR0 := Lib.hid (HQ0.out.fr hf7 (fun k e => fun e' => HD.out.2.1 k e e'))
          have HR1 := Lib.hid (HQ1.out.fr hf7 (fun k e => fun e' => HD.out.2.2 k e e'))
          have HT0 := Lib.hid (HE0.out.fr hf7 (HQ2.out.notBlk HE0.out (by decide)))
          have HT1 := Lib.hid (HE1.out.fr hf7 (HQ2.out.notBlk HE1.out (by decide)))
          have HT2 := Lib.hid (HE2.out.fr hf7 (HQ2.out.notBlk HE2.out (by decide)))
          have HFD : Hid (Fr (fun k => B ≤ k) W w7) := Lib.hid (HFC.out.trans (hf7.mono fun k e => by have := (HQ2.out.ob e).1; omega))
          clear d0 d1 d2 HQ0 HQ1 HQ2 HE0 HE1 HE2 HEA HFC ho7 hf7
          go_wp2_with fail
          rw [rounds_succ]
          have e0 := HT0.out.cell 0
          have e1 := HT1.out.cell 0
          have e2 := HT2.out.cell 0
          have f0 := HT0.out.frozen 0
          have f1 := HT1.out.frozen 0
          have f2 := HT2.out.frozen 0
          simp only [List.getElem?_toArray, List.getElem?_cons_zero] at e0 e1 e2
          have n01 : q0 ≠ q1 := by have := HQ.out; omega
          have n02 : q0 ≠ q2 := by have := HQ.out; omega
          have n12 : q1 ≠ q2 := by have := HQ.out; omega
          have n10 : q1 ≠ q0 := fun e => n01 e.symm
          have n20 : q2 ≠ q0 := fun e => n02 e.symm
          have n21 : q2 ≠ q1 := fun e => n12 e.symm
          go_wp2_with fail
          have hfx : Fr (fun k => k = q0 ∨ k = q1 ∨ k = q2) w7 (((w7.setCell ⟨q0, 0, none⟩ (.slice y0 n0 k0)).setCell ⟨q1, 0, none⟩ (.slice y1 n1 k1)).setCell ⟨q2, 0, none⟩ (.slice y2 n2 k2)) := ((Fr.setCell _ _ _ (.inl rfl)).trans (Fr.setCell _ _ _ (.inr (.inl rfl)))).trans (Fr.setCell _ _ _ (.inr (.inr rfl)))
          have ht0 : Blk (((w7.setCell ⟨q0, 0, none⟩ (.slice y0 n0 k0)).setCell ⟨q1, 0, none⟩ (.slice y1 n1 k1)).setCell ⟨q2, 0, none⟩ (.slice y2 n2 k2)) q0 47 #[.slice y0 n0 k0] :=
            ((HT0.out.set 0 (.slice y0 n0 k0)).fr (Fr.setCell (S := fun k => k = q1) _ _ _ rfl) n01).fr (Fr.setCell (S := fun k => k = q2) _ _ _ rfl) n02
          have ht1 : Blk (((w7.setCell ⟨q0, 0, none⟩ (.slice y0 n0 k0)).setCell ⟨q1, 0, none⟩ (.slice y1 n1 k1)).setCell ⟨q2, 0, none⟩ (.slice y2 n2 k2)) q1 47 #[.slice y1 n1 k1] :=
            ((HT1.out.fr (Fr.setCell (S := fun k => k = q0) _ _ _ rfl) n10).set 0 (.slice y1 n1 k1)).fr (Fr.setCell (S := fun k => k = q2) _ _ _ rfl) n12
          have ht2 : Blk (((w7.setCell ⟨q0, 0, none⟩ (.slice y0 n0 k0)).setCell ⟨q1, 0, none⟩ (.slice y1 n1 k1)).setCell ⟨q2, 0, none⟩ (.slice y2 n2 k2)) q2 47 #[.slice y2 n2 k2] :=
            ((HT2.out.fr (Fr.setCell (S := fun k => k = q0) _ _ _ rfl) n20).fr (Fr.setCell (S := fun k => k = q1) _ _ _ rfl) n21).set 0 (.slice y2 n2 k2)
          obtain ⟨w8, hw8⟩ : ∃ w, ((w7.setCell ⟨q0, 0, none⟩ (.slice y0 n0 k0)).setCell ⟨q1, 0, none⟩ (.slice y1 n1 k1)).setCell ⟨q2, 0, none⟩ (.slice y2 n2 k2) = w := ⟨_, rfl⟩
          rw [hw8] at hfx ht0 ht1 ht2
          rw [hw8]
          clear hw8 e0 e1 e2 f0 f1 f2 n01 n02 n12 n10 n20 n21
          have e0 := ht0.cell 0
          have e1 := ht1.cell 0
          have e2 := ht2.cell 0
          simp only [List.getElem?_toArray, List.getElem?_cons_zero] at e0 e1 e2
          (try simp only [Exit.inBlock, Exit.then])
          refine bodyPost_ret (results3 Tryd.f25 rfl _ _ q0 q1 q2 _ _ _ rfl rfl rfl e0 e1 e2) rfl ?_
          have hl : ∀ p v, (feed hi0 l).kinds p = some v → left (.int .i64 p) = false := fun p v _ => HL0.out _
          have g0 := HG0.out
          have g1 := HG1.out
          have g2 := HG2.out
          rw [← HSS.out] at g0 g1 g2
          have t0 := tells_of HGD.out g0 hl
          have t1 := tells_of HGD.out g1 hl
          have t2 := tells_of HGD.out g2 hl
          have nx : ∀ (v : Value) (xs : List Int), OwnI w7 (B + 3) v xs → OwnI w8 B v xs := fun v xs ho => ho.to (by omega) hfx (fun k e h => by
            obtain ⟨h1, _⟩ := ho.ob e
            have := HQ.out
            omega)
          refine ⟨_, _, _, rfl, ?_, ?_, ?_, ?_⟩
          · rw [← t0]; exact nx _ _ HR0.out
          · rw [← t1]; exact nx _ _ HR1.out
          · rw [← t2]; exact nx _ _ HR2.out
          · exact (Fr.refl (fun _ => False) W).above (HFD.out.trans (hfx.mono fun k e => by have := HQ.out; show B ≤ k; omega)) (fun k hk => by have := HB.out; omega)
        case _ =>
          intro x cv kl y1 y2 w8 cnt8 hkey hlk hR hat hrg8 hlt8 hg8 hs8 hen
          obtain ⟨rfl, hxk, t, rfl, hxt⟩ := next_val HDD.out hkey hR hat
          have hf8 : Fr (fun k => k = RB) _ w8 := Fr.grown hg8 (fun k e => (Option.some.inj e).symm)
          have hrat := fun {cs : Array Value} {t : TypeId} {z : Nat × Nat} => ranges_at HRG.out (cs := cs) (t := t) (z := z)
          have HH8 : Hid (HS w8 hb kb ib ob fb s) := Lib.hid (by
            obtain ⟨l1, l2, l3, l4, l5⟩ := HLT.out
            exact HH.out.fr hf8 (by show ¬ hb = RB; omega) (by show ¬ kb = RB; omega) (by show ¬ ib = RB; omega) (by show ¬ ob = RB; omega) (by show ¬ fb = RB; omega))
          have HO8 : Hid (OpenSt w8 B left s V X) := Lib.hid (HO.out.fr hf8 (fun c hc e => by
              have h1 := HO.out.b c hc
              rw [e] at h1
              exact hrat.1 h1) (fun c k hc hk e => by
              obtain ⟨_, _, cs, h1⟩ := (HO.out.o c hc).ob hk
              rw [e] at h1
              exact hrat.1 h1))
          have HF8 : Hid (Fr (fun k => B ≤ k) W w8) := Lib.hid (HF.out.trans (hf8.mono fun k e => by
            show B ≤ k
            have h1 := HLT.out.1
            have h2 := HLE.out.1
            omega))
          have HRG8 := Lib.hid hrg8
          have HLT8 := Lib.hid hlt8
          have HXT := Lib.hid hxt
          have HXK := Lib.hid hxk
          have HLK := Lib.hid hlk
          have c4 := HH8.out.b.cell 4
          simp only [hcells, List.getElem?_toArray, List.getElem?_cons_zero, List.getElem?_cons_succ] at c4
          clear c4
          obtain ⟨z, hz⟩ : ∃ z, (s.ids x).getD 0 = z := ⟨_, rfl⟩
          have HZ := Lib.hid hz
          clear hkey hlk hR hat hrg8 hg8 hs8 hxt hrg hlt8 hxk hf8 hrat hz
          by_cases h12 : t = 12
          · have ht := h12
            have HCL : Hid (cls t = 1) := Lib.hid (by first | (subst ht; rfl) | (unfold cls; rw [if_neg h12, if_neg h17]))
            have HQC : Hid (q1 = B + 1) := Lib.hid (by have := HQ.out; omega)
            have hbq : ∀ w', OpenSt w' B left s V X → Blk w' q1 47 #[V 1] := fun w' h => by have := h.b 1 (by decide); rwa [← HQC.out] at this
            have HBQ := Lib.hid hbq
            clear hbq
            go_upto_region 16 with (fail)
            have hfd : Fr (fun _ => False) w8 w8.drew := Fr.drewN _ w8 1
            have FACT : Hid (∀ w', HS w' hb kb ib ob fb s → w'.cell? ⟨hb, 4, none⟩ = some (.map (some ib)) ∧ (Instr.lookup 80 (.map (some ib)) (.int .i64 x) false).run Tryd.prog w' = .ok (.int .i64 z) w') := Lib.hid (fun w' hh => by
              have c4 := hh.b.cell 4
              have hm := mlook hh.i HXK.out
              rw [HZ.out] at hm
              exact ⟨c4, hm⟩)
            have HHD := Lib.hid (HH8.out.fr0 hfd)
            have HOD := Lib.hid (HO8.out.fr hfd (fun _ _ e => e) (fun _ _ _ _ e => e))
            refine wp_region_held_drew (S := fun (w' : World) => w'.cell? ⟨hb, 4, none⟩ = some (.map (some ib)) ∧ (Instr.lookup 80 (.map (some ib)) (.int .i64 x) false).run Tryd.prog w' = .ok (.int .i64 z) w') (by kernel_rfl) (FACT.out _ HHD.out) (fun hHeld => ?_)
            have HFD : Hid (Fr (fun k => B ≤ k) W w8.drew) := Lib.hid (HF8.out.trans (hfd.mono fun _ e => e.elim))
            have HRD := Lib.hid (ranges_fr HRG8.out hfd (fun e => e) (fun e => e))
            obtain ⟨wd, hwd⟩ : ∃ w, w8.drew = w := ⟨_, rfl⟩
            rw [hwd] at hHeld HHD HOD HFD HRD ⊢
            clear hwd hfd HH8 HO8 HF8 HRG8
            refine wpAnyH_take (i := 0) (oi := _) (v := ?va1_0) rfl (by kernel_rfl) (by kernel_rfl) (by kernel_rfl) (fun _ _ _ h => h) (Or.inl ⟨by rfl, ?ya1_0⟩) (by assumption) ?ra1_0
            case ya1_0 => intro w1 hSw; obtain ⟨s2, s3⟩ := hSw; go_simp; try with_reducible rfl
            try simp only [List.getElem_toArray, List.getElem_cons_zero, List.getElem_cons_succ, Act.put, List.setIfInBounds_toArray, List.set_cons_zero, List.set_cons_succ]
            refine wpAnyH_take (i := 1) (oi := _) (v := ?va1_1) rfl (by kernel_rfl) (by kernel_rfl) (by kernel_rfl) (fun _ _ _ h => h) (Or.inl ⟨by rfl, ?ya1_1⟩) (by assumption) ?ra1_1
            case ya1_1 => intro w1 hSw; obtain ⟨s2, s3⟩ := hSw; go_simp; try with_reducible rfl
            try simp only [List.getElem_toArray, List.getElem_cons_zero, List.getElem_cons_succ, Act.put, List.setIfInBounds_toArray, List.set_cons_zero, List.set_cons_succ]
            refine wpAnyH_take (i := 2) (oi := _) (v := ?va1_2) rfl (by kernel_rfl) (by kernel_rfl) (by kernel_rfl) (fun _ _ _ h => h) (Or.inl ⟨by rfl, ?ya1_2⟩) (by assumption) ?ra1_2
            case ya1_2 => intro w1 hSw; obtain ⟨s2, s3⟩ := hSw; go_simp; try with_reducible rfl
            try simp only [List.getElem_toArray, List.getElem_cons_zero, List.getElem_cons_succ, Act.put, List.setIfInBounds_toArray, List.set_cons_zero, List.set_cons_succ]
            refine wpAnyH_take (i := 4) (oi := _) (v := ?va1_4) rfl (by kernel_rfl) (by kernel_rfl) (by kernel_rfl) (fun _ _ _ h => h) (Or.inl ⟨by rfl, ?ya1_4⟩) (by assumption) ?ra1_4
            case ya1_4 => intro w1 hSw; obtain ⟨s2, s3⟩ := hSw; go_simp; try with_reducible rfl
            try simp only [List.getElem_toArray, List.getElem_cons_zero, List.getElem_cons_succ, Act.put, List.setIfInBounds_toArray, List.set_cons_zero, List.set_cons_succ]
            refine wpAnyH_take (i := 5) (oi := _) (v := ?va1_5) rfl (by kernel_rfl) (by kernel_rfl) (by kernel_rfl) (fun _ _ _ h => h) (Or.inl ⟨by rfl, ?ya1_5⟩) (by assumption) ?ra1_5
            case ya1_5 => intro w1 hSw; obtain ⟨s2, s3⟩ := hSw; go_simp; try with_reducible rfl
            try simp only [List.getElem_toArray, List.getElem_cons_zero, List.getElem_cons_succ, Act.put, List.setIfInBounds_toArray, List.set_cons_zero, List.set_cons_succ]
            refine wpAnyH_take (i := 6) (oi := _) (v := ?va1_6) rfl (by kernel_rfl) (by kernel_rfl) (by kernel_rfl) (fun _ _ _ h => h) (Or.inl ⟨by rfl, ?ya1_6⟩) (by assumption) ?ra1_6
            case ya1_6 => intro w1 hSw; obtain ⟨s2, s3⟩ := hSw; go_simp; try with_reducible rfl
            try simp only [List.getElem_toArray, List.getElem_cons_zero, List.getElem_cons_succ, Act.put, List.setIfInBounds_toArray, List.set_cons_zero, List.set_cons_succ]
            refine wpAnyH_take (i := 7) (oi := _) (v := ?va1_7) rfl (by kernel_rfl) (by kernel_rfl) (by kernel_rfl) (fun _ _ _ h => h) (Or.inl ⟨by rfl, ?ya1_7⟩) (by assumption) ?ra1_7
            case ya1_7 => intro w1 hSw; obtain ⟨s2, s3⟩ := hSw; go_simp; try with_reducible rfl
            try simp only [List.getElem_toArray, List.getElem_cons_zero, List.getElem_cons_succ, Act.put, List.setIfInBounds_toArray, List.set_cons_zero, List.set_cons_succ]
            refine wpAnyH_take (i := 8) (oi := _) (v := ?va1_8) rfl (by kernel_rfl) (by kernel_rfl) (by kernel_rfl) (fun _ _ _ h => h) (Or.inl ⟨by rfl, ?ya1_8⟩) (by assumption) ?ra1_8
            case ya1_8 => intro w1 hSw; obtain ⟨s2, s3⟩ := hSw; go_simp; try with_reducible rfl
            try simp only [List.getElem_toArray, List.getElem_cons_zero, List.getElem_cons_succ, Act.put, List.setIfInBounds_toArray, List.set_cons_zero, List.set_cons_succ]
            refine wpAnyH_take (i := 9) (oi := _) (v := ?va1_9) rfl (by kernel_rfl) (by kernel_rfl) (by kernel_rfl) (fun _ _ _ h => h) (Or.inl ⟨by rfl, ?ya1_9⟩) (by assumption) ?ra1_9
            case ya1_9 => intro w1 hSw; obtain ⟨s2, s3⟩ := hSw; go_simp; try with_reducible rfl
            try simp only [List.getElem_toArray, List.getElem_cons_zero, List.getElem_cons_succ, Act.put, List.setIfInBounds_toArray, List.set_cons_zero, List.set_cons_succ]
            refine wpAnyH_ready (rs := [3, 10]) (by kernel_rfl) (by simp) ?_
            refine AllReadyH.cons (o := _) rfl (fun K hK => ?_) (AllReadyH.cons (o := _) rfl (fun K hK => ?_) AllReadyH.nil)
            · rw [if_pos (by rfl)]
              try simp only [List.getElem_toArray, List.getElem_cons_zero, List.getElem_cons_succ]
              have cq := (HBQ.out _ HOD.out).cell 0
              simp only [List.getElem?_toArray, List.getElem?_cons_zero] at cq
              go_simp
              clear cq
              refine hK.out _ _ (FACT.out _ HHD.out) (fun hHL => ?_)
              clear hK K hHL
              try simp only [List.getElem_toArray, List.getElem_cons_zero, List.getElem_cons_succ, Act.put, List.setIfInBounds_toArray, List.set_cons_zero, List.set_cons_succ]
              refine wpAnyH_ready (rs := [10]) (by kernel_rfl) (by simp) ?_
              refine AllReadyH.cons (o := _) rfl (fun K hK => ?_) AllReadyH.nil
              rw [if_pos (by rfl)]
              try simp only [List.getElem_toArray, List.getElem_cons_zero, List.getElem_cons_succ]
              go_simp
              have hbA := Blk.new wd 3 #[.int .i64 z]
              have hfA : Fr (fun _ => False) wd (wd.alloc (.cells #[.int .i64 z] 3)) := Fr.alloc _ _ _
              obtain ⟨g1, hg1⟩ : ∃ g, wd.heap.size = g := ⟨_, rfl⟩
              obtain ⟨wA, hwA⟩ : ∃ w, wd.alloc (.cells #[.int .i64 z] 3) = w := ⟨_, rfl⟩
              rw [hwA] at hbA hfA ⊢
              rw [hg1] at hbA ⊢
              have HBA := Lib.hid hbA
              have HHA := Lib.hid (HHD.out.fr0 hfA)
              have HOA := Lib.hid (HOD.out.fr hfA (fun _ _ e => e) (fun _ _ _ _ e => e))
              have HFA : Hid (Fr (fun k => B ≤ k) W wA) := Lib.hid (HFD.out.trans (hfA.mono fun _ e => e.elim))
              have HRA := Lib.hid (ranges_fr HRD.out hfA (fun e => e) (fun e => e))
              clear hbA hfA hwA hg1 HHD HOD HFD HRD
              refine hK.out _ _ (FACT.out _ HHA.out) (fun hHA => ?_)
              clear hK K
              try simp only [List.getElem_toArray, List.getElem_cons_zero, List.getElem_cons_succ, Act.put, List.setIfInBounds_toArray, List.set_cons_zero, List.set_cons_succ]
              refine wpAnyH_ready (rs := [11]) (by kernel_rfl) (by simp) ?_
              refine AllReadyH.cons (o := _) rfl (fun K hK => ?_) AllReadyH.nil
              rw [if_pos (by rfl)]
              try simp only [List.getElem_toArray, List.getElem_cons_zero, List.getElem_cons_succ]
              obtain ⟨v', wB, hrun, hown, hfB, hob⟩ := app_i wA (B + 3) (V 1) (X 1) [z] 47 (by have h1 := HOA.out.b 2 (by decide); have := h1.lt; omega) (HOA.out.o 1 (by decide)) (some ⟨g1, 0, none⟩) 1 1 (blkI HBA.out) rfl (by have := HX.out 1 (by decide); have := HCB.out; omega)
              obtain ⟨ao4, cp4, rfl, _⟩ := hown.row
              obtain ⟨m4, hm4⟩ : ∃ m, (X 1 ++ [z]).length = m := ⟨_, rfl⟩
              rw [hm4] at hrun hown hob
              refine wp_append_runO _ _ _ rfl _ _ _ rfl rfl hrun ?_
              have HHB := Lib.hid (HHA.out.frO (HOA.out.o 1 (by decide)) hfB)
              have HBB : Hid (Blk wB q1 47 #[V 1]) := Lib.hid ((HBQ.out _ HOA.out).fr hfB ((HOA.out.o 1 (by decide)).notBlk (HBQ.out _ HOA.out) (by decide)))
              have HRB : Hid (wB.ranges Tryd.prog 3 rawR kb RB c D _ cnt8) := Lib.hid (ranges_fr HRA.out hfB (fun e => by
                  obtain ⟨_, _, cs, h1⟩ := (HOA.out.o 1 (by decide)).ob e
                  exact (ranges_at HRA.out).2.1 h1) (fun e => by
                  obtain ⟨_, _, cs, h1⟩ := (HOA.out.o 1 (by decide)).ob e
                  exact (ranges_at HRA.out).1 h1))
              have HFB : Hid (Fr (fun k => B ≤ k) W wB) := Lib.hid (HFA.out.trans (hfB.mono fun k e => by have := ((HOA.out.o 1 (by decide)).ob e).1; omega))
              have HST := Lib.hid (fun w3 hw3 => HOA.out.step 1 (by decide) x t HXT.out HCL.out HLK.out (left' := fun z => left z && !z.sameKey (.int .i64 x)) (fun y => by simp [Lit.sameKey]; rfl) (.slice ao4 m4 cp4) (by rw [HZ.out]; exact hown) hfB (by
                rcases hob with h | h
                · exact .inl h
                · exact .inr ⟨_, h, Nat.le_refl _⟩) (W3 := w3) hw3)
              clear hown hfB hob hrun HHA HRA HFA HOA HBA
              refine hK.out _ _ (FACT.out _ HHB.out) (fun hHB => ?_)
              clear hK K
              try simp only [List.getElem_toArray, List.getElem_cons_zero, List.getElem_cons_succ, Act.put, List.setIfInBounds_toArray, List.set_cons_zero, List.set_cons_succ]
              refine wpAnyH_take (i := 12) (oi := _) (v := ?vb1_12) rfl (by kernel_rfl) (by kernel_rfl) (by kernel_rfl) (fun _ _ _ h => h) (Or.inl ⟨by rfl, ?yb1_12⟩) (by assumption) ?rb1_12
              case yb1_12 => intro w1 hSw; obtain ⟨s2, s3⟩ := hSw; go_simp; try with_reducible rfl
              try simp only [List.getElem_toArray, List.getElem_cons_zero, List.getElem_cons_succ, Act.put, List.setIfInBounds_toArray, List.set_cons_zero, List.set_cons_succ]
              have cq := HBB.out.cell 0
              have fq := HBB.out.frozen 0
              simp only [List.getElem?_toArray, List.getElem?_cons_zero] at cq
              refine wpAnyH_ready (rs := [13]) (by kernel_rfl) (by simp) ?_
              refine AllReadyH.cons (o := _) rfl (fun K hK => ?_) AllReadyH.nil
              rw [if_pos (by rfl)]
              try simp only [List.getElem_toArray, List.getElem_cons_zero, List.getElem_cons_succ]
              go_simp
              obtain ⟨wC, hwC⟩ : ∃ w, wB.setCell ⟨q1, 0, none⟩ (.slice ao4 m4 cp4) = w := ⟨_, rfl⟩
              rw [hwC]
              have hfC : Fr (fun k => k = q1) wB wC := by rw [← hwC]; exact Fr.setCell _ _ _ rfl
              have HHC := Lib.hid (HHB.out.frB HBB.out hfC)
              have HOC := Lib.hid (HST.out wC (by rw [← HQC.out]; exact hwC.symm))
              have HRC : Hid (wC.ranges Tryd.prog 3 rawR kb RB c D _ cnt8) := Lib.hid (ranges_fr HRB.out hfC (fun e => (ranges_at HRB.out).2.1 (e ▸ HBB.out)) (fun e => (ranges_at HRB.out).1 (e ▸ HBB.out)))
              have HFC : Hid (Fr (fun k => B ≤ k) W wC) := Lib.hid (HFB.out.trans (hfC.mono fun k e => by have := HQC.out; omega))
              clear hwC hfC HRB HFB HHB HBB HST cq fq
              refine hK.out _ _ (FACT.out _ HHC.out) (fun hHC2 => ?_)
              clear hK K hHC2
              try simp only [List.getElem_toArray, List.getElem_cons_zero, List.getElem_cons_succ, Act.put, List.setIfInBounds_toArray, List.set_cons_zero, List.set_cons_succ]
              refine wpAnyH_done (by kernel_rfl) ?_ _
              clear FACT HBQ
              go_wp2
              go_roundw
              case rel =>
                refine ⟨_, _, _, _, HRC.out, HOC.out, HHC.out, fun d hd => ?_, HFC.out⟩
                have h1 := HX.out d hd
                have h2 := HLT8.out
                unfold upc
                by_cases hdc : d = 1
                · subst hdc; rw [if_pos rfl, List.length_append]; simp; omega
                · rw [if_neg hdc]; omega
              case measure => rw [HRC.out.left_eq, HRG.out.left_eq]; exact HLT8.out
            · rw [if_pos (by rfl)]
              try simp only [List.getElem_toArray, List.getElem_cons_zero, List.getElem_cons_succ]
              go_simp
              have hbA := Blk.new wd 3 #[.int .i64 z]
              have hfA : Fr (fun _ => False) wd (wd.alloc (.cells #[.int .i64 z] 3)) := Fr.alloc _ _ _
              obtain ⟨g1, hg1⟩ : ∃ g, wd.heap.size = g := ⟨_, rfl⟩
              obtain ⟨wA, hwA⟩ : ∃ w, wd.alloc (.cells #[.int .i64 z] 3) = w := ⟨_, rfl⟩
              rw [hwA] at hbA hfA ⊢
              rw [hg1] at hbA ⊢
              have HBA := Lib.hid hbA
              have HHA := Lib.hid (HHD.out.fr0 hfA)
              have HOA := Lib.hid (HOD.out.fr hfA (fun _ _ e => e) (fun _ _ _ _ e => e))
              have HFA : Hid (Fr (fun k => B ≤ k) W wA) := Lib.hid (HFD.out.trans (hfA.mono fun _ e => e.elim))
              have HRA := Lib.hid (ranges_fr HRD.out hfA (fun e => e) (fun e => e))
              clear hbA hfA hwA hg1 HHD HOD HFD HRD
              refine hK.out _ _ (FACT.out _ HHA.out) (fun hHA => ?_)
              clear hK K
              try simp only [List.getElem_toArray, List.getElem_cons_zero, List.getElem_cons_succ, Act.put, List.setIfInBounds_toArray, List.set_cons_zero, List.set_cons_succ]
              refine wpAnyH_ready (rs := [3]) (by kernel_rfl) (by simp) ?_
              refine AllReadyH.cons (o := _) rfl (fun K hK => ?_) AllReadyH.nil
              rw [if_pos (by rfl)]
              try simp only [List.getElem_toArray, List.getElem_cons_zero, List.getElem_cons_succ]
              have cq := (HBQ.out _ HOA.out).cell 0
              simp only [List.getElem?_toArray, List.getElem?_cons_zero] at cq
              go_simp
              clear cq
              refine hK.out _ _ (FACT.out _ HHA.out) (fun hHL => ?_)
              clear hK K hHL
              try simp only [List.getElem_toArray, List.getElem_cons_zero, List.getElem_cons_succ, Act.put, List.setIfInBounds_toArray, List.set_cons_zero, List.set_cons_succ]
              refine wpAnyH_ready (rs := [11]) (by kernel_rfl) (by simp) ?_
              refine AllReadyH.cons (o := _) rfl (fun K hK => ?_) AllReadyH.nil
              rw [if_pos (by rfl)]
              try simp only [List.getElem_toArray, List.getElem_cons_zero, List.getElem_cons_succ]
              obtain ⟨v', wB, hrun, hown, hfB, hob⟩ := app_i wA (B + 3) (V 1) (X 1) [z] 47 (by have h1 := HOA.out.b 2 (by decide); have := h1.lt; omega) (HOA.out.o 1 (by decide)) (some ⟨g1, 0, none⟩) 1 1 (blkI HBA.out) rfl (by have := HX.out 1 (by decide); have := HCB.out; omega)
              obtain ⟨ao4, cp4, rfl, _⟩ := hown.row
              obtain ⟨m4, hm4⟩ : ∃ m, (X 1 ++ [z]).length = m := ⟨_, rfl⟩
              rw [hm4] at hrun hown hob
              refine wp_append_runO _ _ _ rfl _ _ _ rfl rfl hrun ?_
              have HHB := Lib.hid (HHA.out.frO (HOA.out.o 1 (by decide)) hfB)
              have HBB : Hid (Blk wB q1 47 #[V 1]) := Lib.hid ((HBQ.out _ HOA.out).fr hfB ((HOA.out.o 1 (by decide)).notBlk (HBQ.out _ HOA.out) (by decide)))
              have HRB : Hid (wB.ranges Tryd.prog 3 rawR kb RB c D _ cnt8) := Lib.hid (ranges_fr HRA.out hfB (fun e => by
                  obtain ⟨_, _, cs, h1⟩ := (HOA.out.o 1 (by decide)).ob e
                  exact (ranges_at HRA.out).2.1 h1) (fun e => by
                  obtain ⟨_, _, cs, h1⟩ := (HOA.out.o 1 (by decide)).ob e
                  exact (ranges_at HRA.out).1 h1))
              have HFB : Hid (Fr (fun k => B ≤ k) W wB) := Lib.hid (HFA.out.trans (hfB.mono fun k e => by have := ((HOA.out.o 1 (by decide)).ob e).1; omega))
              have HST := Lib.hid (fun w3 hw3 => HOA.out.step 1 (by decide) x t HXT.out HCL.out HLK.out (left' := fun z => left z && !z.sameKey (.int .i64 x)) (fun y => by simp [Lit.sameKey]; rfl) (.slice ao4 m4 cp4) (by rw [HZ.out]; exact hown) hfB (by
                rcases hob with h | h
                · exact .inl h
                · exact .inr ⟨_, h, Nat.le_refl _⟩) (W3 := w3) hw3)
              clear hown hfB hob hrun HHA HRA HFA HOA HBA
              refine hK.out _ _ (FACT.out _ HHB.out) (fun hHB => ?_)
              clear hK K
              try simp only [List.getElem_toArray, List.getElem_cons_zero, List.getElem_cons_succ, Act.put, List.setIfInBounds_toArray, List.set_cons_zero, List.set_cons_succ]
              refine wpAnyH_take (i := 12) (oi := _) (v := ?vc1_12) rfl (by kernel_rfl) (by kernel_rfl) (by kernel_rfl) (fun _ _ _ h => h) (Or.inl ⟨by rfl, ?yc1_12⟩) (by assumption) ?rc1_12
              case yc1_12 => intro w1 hSw; obtain ⟨s2, s3⟩ := hSw; go_simp; try with_reducible rfl
              try simp only [List.getElem_toArray, List.getElem_cons_zero, List.getElem_cons_succ, Act.put, List.setIfInBounds_toArray, List.set_cons_zero, List.set_cons_succ]
              have cq := HBB.out.cell 0
              have fq := HBB.out.frozen 0
              simp only [List.getElem?_toArray, List.getElem?_cons_zero] at cq
              refine wpAnyH_ready (rs := [13]) (by kernel_rfl) (by simp) ?_
              refine AllReadyH.cons (o := _) rfl (fun K hK => ?_) AllReadyH.nil
              rw [if_pos (by rfl)]
              try simp only [List.getElem_toArray, List.getElem_cons_zero, List.getElem_cons_succ]
              go_simp
              obtain ⟨wC, hwC⟩ : ∃ w, wB.setCell ⟨q1, 0, none⟩ (.slice ao4 m4 cp4) = w := ⟨_, rfl⟩
              rw [hwC]
              have hfC : Fr (fun k => k = q1) wB wC := by rw [← hwC]; exact Fr.setCell _ _ _ rfl
              have HHC := Lib.hid (HHB.out.frB HBB.out hfC)
              have HOC := Lib.hid (HST.out wC (by rw [← HQC.out]; exact hwC.symm))
              have HRC : Hid (wC.ranges Tryd.prog 3 rawR kb RB c D _ cnt8) := Lib.hid (ranges_fr HRB.out hfC (fun e => (ranges_at HRB.out).2.1 (e ▸ HBB.out)) (fun e => (ranges_at HRB.out).1 (e ▸ HBB.out)))
              have HFC : Hid (Fr (fun k => B ≤ k) W wC) := Lib.hid (HFB.out.trans (hfC.mono fun k e => by have := HQC.out; omega))
              clear hwC hfC HRB HFB HHB HBB HST cq fq
              refine hK.out _ _ (FACT.out _ HHC.out) (fun hHC2 => ?_)
              clear hK K hHC2
              try simp only [List.getElem_toArray, List.getElem_cons_zero, List.getElem_cons_succ, Act.put, List.setIfInBounds_toArray, List.set_cons_zero, List.set_cons_succ]
              refine wpAnyH_done (by kernel_rfl) ?_ _
              clear FACT HBQ
              go_wp2
              go_roundw
              case rel =>
                refine ⟨_, _, _, _, HRC.out, HOC.out, HHC.out, fun d hd => ?_, HFC.out⟩
                have h1 := HX.out d hd
                have h2 := HLT8.out
                unfold upc
                by_cases hdc : d = 1
                · subst hdc; rw [if_pos rfl, List.length_append]; simp; omega
                · rw [if_neg hdc]; omega
              case measure => rw [HRC.out.left_eq, HRG.out.left_eq]; exact HLT8.out
          by_cases h17 : t = 17
          · have ht := h17
            have HCL : Hid (cls t = 2) := Lib.hid (by first | (subst ht; rfl) | (unfold cls; rw [if_neg h12, if_neg h17]))
            have HQC : Hid (q2 = B + 2) := Lib.hid (by have := HQ.out; omega)
            have hbq : ∀ w', OpenSt w' B left s V X → Blk w' q2 47 #[V 2] := fun w' h => by have := h.b 2 (by decide); rwa [← HQC.out] at this
            have HBQ := Lib.hid hbq
            clear hbq
            go_upto_region 16 with (fail)
            have hfd : Fr (fun _ => False) w8 w8.drew := Fr.drewN _ w8 1
            have FACT : Hid (∀ w', HS w' hb kb ib ob fb s → w'.cell? ⟨hb, 4, none⟩ = some (.map (some ib)) ∧ (Instr.lookup 80 (.map (some ib)) (.int .i64 x) false).run Tryd.prog w' = .ok (.int .i64 z) w') := Lib.hid (fun w' hh => by
              have c4 := hh.b.cell 4
              have hm := mlook hh.i HXK.out
              rw [HZ.out] at hm
              exact ⟨c4, hm⟩)
            have HHD := Lib.hid (HH8.out.fr0 hfd)
            have HOD := Lib.hid (HO8.out.fr hfd (fun _ _ e => e) (fun _ _ _ _ e => e))
            refine wp_region_held_drew (S := fun (w' : World) => w'.cell? ⟨hb, 4, none⟩ = some (.map (some ib)) ∧ (Instr.lookup 80 (.map (some ib)) (.int .i64 x) false).run Tryd.prog w' = .ok (.int .i64 z) w') (by kernel_rfl) (FACT.out _ HHD.out) (fun hHeld => ?_)
            have HFD : Hid (Fr (fun k => B ≤ k) W w8.drew) := Lib.hid (HF8.out.trans (hfd.mono fun _ e => e.elim))
            have HRD := Lib.hid (ranges_fr HRG8.out hfd (fun e => e) (fun e => e))
            obtain ⟨wd, hwd⟩ : ∃ w, w8.drew = w := ⟨_, rfl⟩
            rw [hwd] at hHeld HHD HOD HFD HRD ⊢
            clear hwd hfd HH8 HO8 HF8 HRG8
            refine wpAnyH_take (i := 0) (oi := _) (v := ?va2_0) rfl (by kernel_rfl) (by kernel_rfl) (by kernel_rfl) (fun _ _ _ h => h) (Or.inl ⟨by rfl, ?ya2_0⟩) (by assumption) ?ra2_0
            case ya2_0 => intro w1 hSw; obtain ⟨s2, s3⟩ := hSw; go_simp; try with_reducible rfl
            try simp only [List.getElem_toArray, List.getElem_cons_zero, List.getElem_cons_succ, Act.put, List.setIfInBounds_toArray, List.set_cons_zero, List.set_cons_succ]
            refine wpAnyH_take (i := 1) (oi := _) (v := ?va2_1) rfl (by kernel_rfl) (by kernel_rfl) (by kernel_rfl) (fun _ _ _ h => h) (Or.inl ⟨by rfl, ?ya2_1⟩) (by assumption) ?ra2_1
            case ya2_1 => intro w1 hSw; obtain ⟨s2, s3⟩ := hSw; go_simp; try with_reducible rfl
            try simp only [List.getElem_toArray, List.getElem_cons_zero, List.getElem_cons_succ, Act.put, List.setIfInBounds_toArray, List.set_cons_zero, List.set_cons_succ]
            refine wpAnyH_take (i := 2) (oi := _) (v := ?va2_2) rfl (by kernel_rfl) (by kernel_rfl) (by kernel_rfl) (fun _ _ _ h => h) (Or.inl ⟨by rfl, ?ya2_2⟩) (by assumption) ?ra2_2
            case ya2_2 => intro w1 hSw; obtain ⟨s2, s3⟩ := hSw; go_simp; try with_reducible rfl
            try simp only [List.getElem_toArray, List.getElem_cons_zero, List.getElem_cons_succ, Act.put, List.setIfInBounds_toArray, List.set_cons_zero, List.set_cons_succ]
            refine wpAnyH_take (i := 4) (oi := _) (v := ?va2_4) rfl (by kernel_rfl) (by kernel_rfl) (by kernel_rfl) (fun _ _ _ h => h) (Or.inl ⟨by rfl, ?ya2_4⟩) (by assumption) ?ra2_4
            case ya2_4 => intro w1 hSw; obtain ⟨s2, s3⟩ := hSw; go_simp; try with_reducible rfl
            try simp only [List.getElem_toArray, List.getElem_cons_zero, List.getElem_cons_succ, Act.put, List.setIfInBounds_toArray, List.set_cons_zero, List.set_cons_succ]
            refine wpAnyH_take (i := 5) (oi := _) (v := ?va2_5) rfl (by kernel_rfl) (by kernel_rfl) (by kernel_rfl) (fun _ _ _ h => h) (Or.inl ⟨by rfl, ?ya2_5⟩) (by assumption) ?ra2_5
            case ya2_5 => intro w1 hSw; obtain ⟨s2, s3⟩ := hSw; go_simp; try with_reducible rfl
            try simp only [List.getElem_toArray, List.getElem_cons_zero, List.getElem_cons_succ, Act.put, List.setIfInBounds_toArray, List.set_cons_zero, List.set_cons_succ]
            refine wpAnyH_take (i := 6) (oi := _) (v := ?va2_6) rfl (by kernel_rfl) (by kernel_rfl) (by kernel_rfl) (fun _ _ _ h => h) (Or.inl ⟨by rfl, ?ya2_6⟩) (by assumption) ?ra2_6
            case ya2_6 => intro w1 hSw; obtain ⟨s2, s3⟩ := hSw; go_simp; try with_reducible rfl
            try simp only [List.getElem_toArray, List.getElem_cons_zero, List.getElem_cons_succ, Act.put, List.setIfInBounds_toArray, List.set_cons_zero, List.set_cons_succ]
            refine wpAnyH_take (i := 7) (oi := _) (v := ?va2_7) rfl (by kernel_rfl) (by kernel_rfl) (by kernel_rfl) (fun _ _ _ h => h) (Or.inl ⟨by rfl, ?ya2_7⟩) (by assumption) ?ra2_7
            case ya2_7 => intro w1 hSw; obtain ⟨s2, s3⟩ := hSw; go_simp; try with_reducible rfl
            try simp only [List.getElem_toArray, List.getElem_cons_zero, List.getElem_cons_succ, Act.put, List.setIfInBounds_toArray, List.set_cons_zero, List.set_cons_succ]
            refine wpAnyH_take (i := 8) (oi := _) (v := ?va2_8) rfl (by kernel_rfl) (by kernel_rfl) (by kernel_rfl) (fun _ _ _ h => h) (Or.inl ⟨by rfl, ?ya2_8⟩) (by assumption) ?ra2_8
            case ya2_8 => intro w1 hSw; obtain ⟨s2, s3⟩ := hSw; go_simp; try with_reducible rfl
            try simp only [List.getElem_toArray, List.getElem_cons_zero, List.getElem_cons_succ, Act.put, List.setIfInBounds_toArray, List.set_cons_zero, List.set_cons_succ]
            refine wpAnyH_take (i := 9) (oi := _) (v := ?va2_9) rfl (by kernel_rfl) (by kernel_rfl) (by kernel_rfl) (fun _ _ _ h => h) (Or.inl ⟨by rfl, ?ya2_9⟩) (by assumption) ?ra2_9
            case ya2_9 => intro w1 hSw; obtain ⟨s2, s3⟩ := hSw; go_simp; try with_reducible rfl
            try simp only [List.getElem_toArray, List.getElem_cons_zero, List.getElem_cons_succ, Act.put, List.setIfInBounds_toArray, List.set_cons_zero, List.set_cons_succ]
            refine wpAnyH_ready (rs := [3, 10]) (by kernel_rfl) (by simp) ?_
            refine AllReadyH.cons (o := _) rfl (fun K hK => ?_) (AllReadyH.cons (o := _) rfl (fun K hK => ?_) AllReadyH.nil)
            · rw [if_pos (by rfl)]
              try simp only [List.getElem_toArray, List.getElem_cons_zero, List.getElem_cons_succ]
              have cq := (HBQ.out _ HOD.out).cell 0
              simp only [List.getElem?_toArray, List.getElem?_cons_zero] at cq
              go_simp
              clear cq
              refine hK.out _ _ (FACT.out _ HHD.out) (fun hHL => ?_)
              clear hK K hHL
              try simp only [List.getElem_toArray, List.getElem_cons_zero, List.getElem_cons_succ, Act.put, List.setIfInBounds_toArray, List.set_cons_zero, List.set_cons_succ]
              refine wpAnyH_ready (rs := [10]) (by kernel_rfl) (by simp) ?_
              refine AllReadyH.cons (o := _) rfl (fun K hK => ?_) AllReadyH.nil
              rw [if_pos (by rfl)]
              try simp only [List.getElem_toArray, List.getElem_cons_zero, List.getElem_cons_succ]
              go_simp
              have hbA := Blk.new wd 3 #[.int .i64 z]
              have hfA : Fr (fun _ => False) wd (wd.alloc (.cells #[.int .i64 z] 3)) := Fr.alloc _ _ _
              obtain ⟨g1, hg1⟩ : ∃ g, wd.heap.size = g := ⟨_, rfl⟩
              obtain ⟨wA, hwA⟩ : ∃ w, wd.alloc (.cells #[.int .i64 z] 3) = w := ⟨_, rfl⟩
              rw [hwA] at hbA hfA ⊢
              rw [hg1] at hbA ⊢
              have HBA := Lib.hid hbA
              have HHA := Lib.hid (HHD.out.fr0 hfA)
              have HOA := Lib.hid (HOD.out.fr hfA (fun _ _ e => e) (fun _ _ _ _ e => e))
              have HFA : Hid (Fr (fun k => B ≤ k) W wA) := Lib.hid (HFD.out.trans (hfA.mono fun _ e => e.elim))
              have HRA := Lib.hid (ranges_fr HRD.out hfA (fun e => e) (fun e => e))
              clear hbA hfA hwA hg1 HHD HOD HFD HRD
              refine hK.out _ _ (FACT.out _ HHA.out) (fun hHA => ?_)
              clear hK K
              try simp only [List.getElem_toArray, List.getElem_cons_zero, List.getElem_cons_succ, Act.put, List.setIfInBounds_toArray, List.set_cons_zero, List.set_cons_succ]
              refine wpAnyH_ready (rs := [11]) (by kernel_rfl) (by simp) ?_
              refine AllReadyH.cons (o := _) rfl (fun K hK => ?_) AllReadyH.nil
              rw [if_pos (by rfl)]
              try simp only [List.getElem_toArray, List.getElem_cons_zero, List.getElem_cons_succ]
              obtain ⟨v', wB, hrun, hown, hfB, hob⟩ := app_i wA (B + 3) (V 2) (X 2) [z] 47 (by have h1 := HOA.out.b 2 (by decide); have := h1.lt; omega) (HOA.out.o 2 (by decide)) (some ⟨g1, 0, none⟩) 1 1 (blkI HBA.out) rfl (by have := HX.out 2 (by decide); have := HCB.out; omega)
              obtain ⟨ao4, cp4, rfl, _⟩ := hown.row
              obtain ⟨m4, hm4⟩ : ∃ m, (X 2 ++ [z]).length = m := ⟨_, rfl⟩
              rw [hm4] at hrun hown hob
              refine wp_append_runO _ _ _ rfl _ _ _ rfl rfl hrun ?_
              have HHB := Lib.hid (HHA.out.frO (HOA.out.o 2 (by decide)) hfB)
              have HBB : Hid (Blk wB q2 47 #[V 2]) := Lib.hid ((HBQ.out _ HOA.out).fr hfB ((HOA.out.o 2 (by decide)).notBlk (HBQ.out _ HOA.out) (by decide)))
              have HRB : Hid (wB.ranges Tryd.prog 3 rawR kb RB c D _ cnt8) := Lib.hid (ranges_fr HRA.out hfB (fun e => by
                  obtain ⟨_, _, cs, h1⟩ := (HOA.out.o 2 (by decide)).ob e
                  exact (ranges_at HRA.out).2.1 h1) (fun e => by
                  obtain ⟨_, _, cs, h1⟩ := (HOA.out.o 2 (by decide)).ob e
                  exact (ranges_at HRA.out).1 h1))
              have HFB : Hid (Fr (fun k => B ≤ k) W wB) := Lib.hid (HFA.out.trans (hfB.mono fun k e => by have := ((HOA.out.o 2 (by decide)).ob e).1; omega))
              have HST := Lib.hid (fun w3 hw3 => HOA.out.step 2 (by decide) x t HXT.out HCL.out HLK.out (left' := fun z => left z && !z.sameKey (.int .i64 x)) (fun y => by simp [Lit.sameKey]; rfl) (.slice ao4 m4 cp4) (by rw [HZ.out]; exact hown) hfB (by
                rcases hob with h | h
                · exact .inl h
                · exact .inr ⟨_, h, Nat.le_refl _⟩) (W3 := w3) hw3)
              clear hown hfB hob hrun HHA HRA HFA HOA HBA
              refine hK.out _ _ (FACT.out _ HHB.out) (fun hHB => ?_)
              clear hK K
              try simp only [List.getElem_toArray, List.getElem_cons_zero, List.getElem_cons_succ, Act.put, List.setIfInBounds_toArray, List.set_cons_zero, List.set_cons_succ]
              refine wpAnyH_take (i := 12) (oi := _) (v := ?vb2_12) rfl (by kernel_rfl) (by kernel_rfl) (by kernel_rfl) (fun _ _ _ h => h) (Or.inl ⟨by rfl, ?yb2_12⟩) (by assumption) ?rb2_12
              case yb2_12 => intro w1 hSw; obtain ⟨s2, s3⟩ := hSw; go_simp; try with_reducible rfl
              try simp only [List.getElem_toArray, List.getElem_cons_zero, List.getElem_cons_succ, Act.put, List.setIfInBounds_toArray, List.set_cons_zero, List.set_cons_succ]
              have cq := HBB.out.cell 0
              have fq := HBB.out.frozen 0
              simp only [List.getElem?_toArray, List.getElem?_cons_zero] at cq
              refine wpAnyH_ready (rs := [13]) (by kernel_rfl) (by simp) ?_
              refine AllReadyH.cons (o := _) rfl (fun K hK => ?_) AllReadyH.nil
              rw [if_pos (by rfl)]
              try simp only [List.getElem_toArray, List.getElem_cons_zero, List.getElem_cons_succ]
              go_simp
              obtain ⟨wC, hwC⟩ : ∃ w, wB.setCell ⟨q2, 0, none⟩ (.slice ao4 m4 cp4) = w := ⟨_, rfl⟩
              rw [hwC]
              have hfC : Fr (fun k => k = q2) wB wC := by rw [← hwC]; exact Fr.setCell _ _ _ rfl
              have HHC := Lib.hid (HHB.out.frB HBB.out hfC)
              have HOC := Lib.hid (HST.out wC (by rw [← HQC.out]; exact hwC.symm))
              have HRC : Hid (wC.ranges Tryd.prog 3 rawR kb RB c D _ cnt8) := Lib.hid (ranges_fr HRB.out hfC (fun e => (ranges_at HRB.out).2.1 (e ▸ HBB.out)) (fun e => (ranges_at HRB.out).1 (e ▸ HBB.out)))
              have HFC : Hid (Fr (fun k => B ≤ k) W wC) := Lib.hid (HFB.out.trans (hfC.mono fun k e => by have := HQC.out; omega))
              clear hwC hfC HRB HFB HHB HBB HST cq fq
              refine hK.out _ _ (FACT.out _ HHC.out) (fun hHC2 => ?_)
              clear hK K hHC2
              try simp only [List.getElem_toArray, List.getElem_cons_zero, List.getElem_cons_succ, Act.put, List.setIfInBounds_toArray, List.set_cons_zero, List.set_cons_succ]
              refine wpAnyH_done (by kernel_rfl) ?_ _
              clear FACT HBQ
              go_wp2
              go_roundw
              case rel =>
                refine ⟨_, _, _, _, HRC.out, HOC.out, HHC.out, fun d hd => ?_, HFC.out⟩
                have h1 := HX.out d hd
                have h2 := HLT8.out
                unfold upc
                by_cases hdc : d = 2
                · subst hdc; rw [if_pos rfl, List.length_append]; simp; omega
                · rw [if_neg hdc]; omega
              case measure => rw [HRC.out.left_eq, HRG.out.left_eq]; exact HLT8.out
            · rw [if_pos (by rfl)]
              try simp only [List.getElem_toArray, List.getElem_cons_zero, List.getElem_cons_succ]
              go_simp
              have hbA := Blk.new wd 3 #[.int .i64 z]
              have hfA : Fr (fun _ => False) wd (wd.alloc (.cells #[.int .i64 z] 3)) := Fr.alloc _ _ _
              obtain ⟨g1, hg1⟩ : ∃ g, wd.heap.size = g := ⟨_, rfl⟩
              obtain ⟨wA, hwA⟩ : ∃ w, wd.alloc (.cells #[.int .i64 z] 3) = w := ⟨_, rfl⟩
              rw [hwA] at hbA hfA ⊢
              rw [hg1] at hbA ⊢
              have HBA := Lib.hid hbA
              have HHA := Lib.hid (HHD.out.fr0 hfA)
              have HOA := Lib.hid (HOD.out.fr hfA (fun _ _ e => e) (fun _ _ _ _ e => e))
              have HFA : Hid (Fr (fun k => B ≤ k) W wA) := Lib.hid (HFD.out.trans (hfA.mono fun _ e => e.elim))
              have HRA := Lib.hid (ranges_fr HRD.out hfA (fun e => e) (fun e => e))
              clear hbA hfA hwA hg1 HHD HOD HFD HRD
              refine hK.out _ _ (FACT.out _ HHA.out) (fun hHA => ?_)
              clear hK K
              try simp only [List.getElem_toArray, List.getElem_cons_zero, List.getElem_cons_succ, Act.put, List.setIfInBounds_toArray, List.set_cons_zero, List.set_cons_succ]
              refine wpAnyH_ready (rs := [3]) (by kernel_rfl) (by simp) ?_
              refine AllReadyH.cons (o := _) rfl (fun K hK => ?_) AllReadyH.nil
              rw [if_pos (by rfl)]
              try simp only [List.getElem_toArray, List.getElem_cons_zero, List.getElem_cons_succ]
              have cq := (HBQ.out _ HOA.out).cell 0
              simp only [List.getElem?_toArray, List.getElem?_cons_zero] at cq
              go_simp
              clear cq
              refine hK.out _ _ (FACT.out _ HHA.out) (fun hHL => ?_)
              clear hK K hHL
              try simp only [List.getElem_toArray, List.getElem_cons_zero, List.getElem_cons_succ, Act.put, List.setIfInBounds_toArray, List.set_cons_zero, List.set_cons_succ]
              refine wpAnyH_ready (rs := [11]) (by kernel_rfl) (by simp) ?_
              refine AllReadyH.cons (o := _) rfl (fun K hK => ?_) AllReadyH.nil
              rw [if_pos (by rfl)]
              try simp only [List.getElem_toArray, List.getElem_cons_zero, List.getElem_cons_succ]
              obtain ⟨v', wB, hrun, hown, hfB, hob⟩ := app_i wA (B + 3) (V 2) (X 2) [z] 47 (by have h1 := HOA.out.b 2 (by decide); have := h1.lt; omega) (HOA.out.o 2 (by decide)) (some ⟨g1, 0, none⟩) 1 1 (blkI HBA.out) rfl (by have := HX.out 2 (by decide); have := HCB.out; omega)
              obtain ⟨ao4, cp4, rfl, _⟩ := hown.row
              obtain ⟨m4, hm4⟩ : ∃ m, (X 2 ++ [z]).length = m := ⟨_, rfl⟩
              rw [hm4] at hrun hown hob
              refine wp_append_runO _ _ _ rfl _ _ _ rfl rfl hrun ?_
              have HHB := Lib.hid (HHA.out.frO (HOA.out.o 2 (by decide)) hfB)
              have HBB : Hid (Blk wB q2 47 #[V 2]) := Lib.hid ((HBQ.out _ HOA.out).fr hfB ((HOA.out.o 2 (by decide)).notBlk (HBQ.out _ HOA.out) (by decide)))
              have HRB : Hid (wB.ranges Tryd.prog 3 rawR kb RB c D _ cnt8) := Lib.hid (ranges_fr HRA.out hfB (fun e => by
                  obtain ⟨_, _, cs, h1⟩ := (HOA.out.o 2 (by decide)).ob e
                  exact (ranges_at HRA.out).2.1 h1) (fun e => by
                  obtain ⟨_, _, cs, h1⟩ := (HOA.out.o 2 (by decide)).ob e
                  exact (ranges_at HRA.out).1 h1))
              have HFB : Hid (Fr (fun k => B ≤ k) W wB) := Lib.hid (HFA.out.trans (hfB.mono fun k e => by have := ((HOA.out.o 2 (by decide)).ob e).1; omega))
              have HST := Lib.hid (fun w3 hw3 => HOA.out.step 2 (by decide) x t HXT.out HCL.out HLK.out (left' := fun z => left z && !z.sameKey (.int .i64 x)) (fun y => by simp [Lit.sameKey]; rfl) (.slice ao4 m4 cp4) (by rw [HZ.out]; exact hown) hfB (by
                rcases hob with h | h
                · exact .inl h
                · exact .inr ⟨_, h, Nat.le_refl _⟩) (W3 := w3) hw3)
              clear hown hfB hob hrun HHA HRA HFA HOA HBA
              refine hK.out _ _ (FACT.out _ HHB.out) (fun hHB => ?_)
              clear hK K
              try simp only [List.getElem_toArray, List.getElem_cons_zero, List.getElem_cons_succ, Act.put, List.setIfInBounds_toArray, List.set_cons_zero, List.set_cons_succ]
              refine wpAnyH_take (i := 12) (oi := _) (v := ?vc2_12) rfl (by kernel_rfl) (by kernel_rfl) (by kernel_rfl) (fun _ _ _ h => h) (Or.inl ⟨by rfl, ?yc2_12⟩) (by assumption) ?rc2_12
              case yc2_12 => intro w1 hSw; obtain ⟨s2, s3⟩ := hSw; go_simp; try with_reducible rfl
              try simp only [List.getElem_toArray, List.getElem_cons_zero, List.getElem_cons_succ, Act.put, List.setIfInBounds_toArray, List.set_cons_zero, List.set_cons_succ]
              have cq := HBB.out.cell 0
              have fq := HBB.out.frozen 0
              simp only [List.getElem?_toArray, List.getElem?_cons_zero] at cq
              refine wpAnyH_ready (rs := [13]) (by kernel_rfl) (by simp) ?_
              refine AllReadyH.cons (o := _) rfl (fun K hK => ?_) AllReadyH.nil
              rw [if_pos (by rfl)]
              try simp only [List.getElem_toArray, List.getElem_cons_zero, List.getElem_cons_succ]
              go_simp
              obtain ⟨wC, hwC⟩ : ∃ w, wB.setCell ⟨q2, 0, none⟩ (.slice ao4 m4 cp4) = w := ⟨_, rfl⟩
              rw [hwC]
              have hfC : Fr (fun k => k = q2) wB wC := by rw [← hwC]; exact Fr.setCell _ _ _ rfl
              have HHC := Lib.hid (HHB.out.frB HBB.out hfC)
              have HOC := Lib.hid (HST.out wC (by rw [← HQC.out]; exact hwC.symm))
              have HRC : Hid (wC.ranges Tryd.prog 3 rawR kb RB c D _ cnt8) := Lib.hid (ranges_fr HRB.out hfC (fun e => (ranges_at HRB.out).2.1 (e ▸ HBB.out)) (fun e => (ranges_at HRB.out).1 (e ▸ HBB.out)))
              have HFC : Hid (Fr (fun k => B ≤ k) W wC) := Lib.hid (HFB.out.trans (hfC.mono fun k e => by have := HQC.out; omega))
              clear hwC hfC HRB HFB HHB HBB HST cq fq
              refine hK.out _ _ (FACT.out _ HHC.out) (fun hHC2 => ?_)
              clear hK K hHC2
              try simp only [List.getElem_toArray, List.getElem_cons_zero, List.getElem_cons_succ, Act.put, List.setIfInBounds_toArray, List.set_cons_zero, List.set_cons_succ]
              refine wpAnyH_done (by kernel_rfl) ?_ _
              clear FACT HBQ
              go_wp2
              go_roundw
              case rel =>
                refine ⟨_, _, _, _, HRC.out, HOC.out, HHC.out, fun d hd => ?_, HFC.out⟩
                have h1 := HX.out d hd
                have h2 := HLT8.out
                unfold upc
                by_cases hdc : d = 2
                · subst hdc; rw [if_pos rfl, List.length_append]; simp; omega
                · rw [if_neg hdc]; omega
              case measure => rw [HRC.out.left_eq, HRG.out.left_eq]; exact HLT8.out
          have HCL : Hid (cls t = 0) := Lib.hid (by first | (subst ht; rfl) | (unfold cls; rw [if_neg h12, if_neg h17]))
          have HQC : Hid (q0 = B + 0) := Lib.hid (by have := HQ.out; omega)
          have hbq : ∀ w', OpenSt w' B left s V X → Blk w' q0 47 #[V 0] := fun w' h => by have := h.b 0 (by decide); rwa [← HQC.out] at this
          have HBQ := Lib.hid hbq
          clear hbq
          go_upto_region 16 with (fail)
          have hfd : Fr (fun _ => False) w8 w8.drew := Fr.drewN _ w8 1
          have FACT : Hid (∀ w', HS w' hb kb ib ob fb s → w'.cell? ⟨hb, 4, none⟩ = some (.map (some ib)) ∧ (Instr.lookup 80 (.map (some ib)) (.int .i64 x) false).run Tryd.prog w' = .ok (.int .i64 z) w') := Lib.hid (fun w' hh => by
            have c4 := hh.b.cell 4
            have hm := mlook hh.i HXK.out
            rw [HZ.out] at hm
            exact ⟨c4, hm⟩)
          have HHD := Lib.hid (HH8.out.fr0 hfd)
          have HOD := Lib.hid (HO8.out.fr hfd (fun _ _ e => e) (fun _ _ _ _ e => e))
          refine wp_region_held_drew (S := fun (w' : World) => w'.cell? ⟨hb, 4, none⟩ = some (.map (some ib)) ∧ (Instr.lookup 80 (.map (some ib)) (.int .i64 x) false).run Tryd.prog w' = .ok (.int .i64 z) w') (by kernel_rfl) (FACT.out _ HHD.out) (fun hHeld => ?_)
          have HFD : Hid (Fr (fun k => B ≤ k) W w8.drew) := Lib.hid (HF8.out.trans (hfd.mono fun _ e => e.elim))
          have HRD := Lib.hid (ranges_fr HRG8.out hfd (fun e => e) (fun e => e))
          obtain ⟨wd, hwd⟩ : ∃ w, w8.drew = w := ⟨_, rfl⟩
          rw [hwd] at hHeld HHD HOD HFD HRD ⊢
          clear hwd hfd HH8 HO8 HF8 HRG8
          refine wpAnyH_take (i := 0) (oi := _) (v := ?va0_0) rfl (by kernel_rfl) (by kernel_rfl) (by kernel_rfl) (fun _ _ _ h => h) (Or.inl ⟨by rfl, ?ya0_0⟩) (by assumption) ?ra0_0
          case ya0_0 => intro w1 hSw; obtain ⟨s2, s3⟩ := hSw; go_simp; try with_reducible rfl
          try simp only [List.getElem_toArray, List.getElem_cons_zero, List.getElem_cons_succ, Act.put, List.setIfInBounds_toArray, List.set_cons_zero, List.set_cons_succ]
          refine wpAnyH_take (i := 1) (oi := _) (v := ?va0_1) rfl (by kernel_rfl) (by kernel_rfl) (by kernel_rfl) (fun _ _ _ h => h) (Or.inl ⟨by rfl, ?ya0_1⟩) (by assumption) ?ra0_1
          case ya0_1 => intro w1 hSw; obtain ⟨s2, s3⟩ := hSw; go_simp; try with_reducible rfl
          try simp only [List.getElem_toArray, List.getElem_cons_zero, List.getElem_cons_succ, Act.put, List.setIfInBounds_toArray, List.set_cons_zero, List.set_cons_succ]
          refine wpAnyH_take (i := 2) (oi := _) (v := ?va0_2) rfl (by kernel_rfl) (by kernel_rfl) (by kernel_rfl) (fun _ _ _ h => h) (Or.inl ⟨by rfl, ?ya0_2⟩) (by assumption) ?ra0_2
          case ya0_2 => intro w1 hSw; obtain ⟨s2, s3⟩ := hSw; go_simp; try with_reducible rfl
          try simp only [List.getElem_toArray, List.getElem_cons_zero, List.getElem_cons_succ, Act.put, List.setIfInBounds_toArray, List.set_cons_zero, List.set_cons_succ]
          refine wpAnyH_take (i := 4) (oi := _) (v := ?va0_4) rfl (by kernel_rfl) (by kernel_rfl) (by kernel_rfl) (fun _ _ _ h => h) (Or.inl ⟨by rfl, ?ya0_4⟩) (by assumption) ?ra0_4
          case ya0_4 => intro w1 hSw; obtain ⟨s2, s3⟩ := hSw; go_simp; try with_reducible rfl
          try simp only [List.getElem_toArray, List.getElem_cons_zero, List.getElem_cons_succ, Act.put, List.setIfInBounds_toArray, List.set_cons_zero, List.set_cons_succ]
          refine wpAnyH_take (i := 5) (oi := _) (v := ?va0_5) rfl (by kernel_rfl) (by kernel_rfl) (by kernel_rfl) (fun _ _ _ h => h) (Or.inl ⟨by rfl, ?ya0_5⟩) (by assumption) ?ra0_5
          case ya0_5 => intro w1 hSw; obtain ⟨s2, s3⟩ := hSw; go_simp; try with_reducible rfl
          try simp only [List.getElem_toArray, List.getElem_cons_zero, List.getElem_cons_succ, Act.put, List.setIfInBounds_toArray, List.set_cons_zero, List.set_cons_succ]
          refine wpAnyH_take (i := 6) (oi := _) (v := ?va0_6) rfl (by kernel_rfl) (by kernel_rfl) (by kernel_rfl) (fun _ _ _ h => h) (Or.inl ⟨by rfl, ?ya0_6⟩) (by assumption) ?ra0_6
          case ya0_6 => intro w1 hSw; obtain ⟨s2, s3⟩ := hSw; go_simp; try with_reducible rfl
          try simp only [List.getElem_toArray, List.getElem_cons_zero, List.getElem_cons_succ, Act.put, List.setIfInBounds_toArray, List.set_cons_zero, List.set_cons_succ]
          refine wpAnyH_take (i := 7) (oi := _) (v := ?va0_7) rfl (by kernel_rfl) (by kernel_rfl) (by kernel_rfl) (fun _ _ _ h => h) (Or.inl ⟨by rfl, ?ya0_7⟩) (by assumption) ?ra0_7
          case ya0_7 => intro w1 hSw; obtain ⟨s2, s3⟩ := hSw; go_simp; try with_reducible rfl
          try simp only [List.getElem_toArray, List.getElem_cons_zero, List.getElem_cons_succ, Act.put, List.setIfInBounds_toArray, List.set_cons_zero, List.set_cons_succ]
          refine wpAnyH_take (i := 8) (oi := _) (v := ?va0_8) rfl (by kernel_rfl) (by kernel_rfl) (by kernel_rfl) (fun _ _ _ h => h) (Or.inl ⟨by rfl, ?ya0_8⟩) (by assumption) ?ra0_8
          case ya0_8 => intro w1 hSw; obtain ⟨s2, s3⟩ := hSw; go_simp; try with_reducible rfl
          try simp only [List.getElem_toArray, List.getElem_cons_zero, List.getElem_cons_succ, Act.put, List.setIfInBounds_toArray, List.set_cons_zero, List.set_cons_succ]
          refine wpAnyH_take (i := 9) (oi := _) (v := ?va0_9) rfl (by kernel_rfl) (by kernel_rfl) (by kernel_rfl) (fun _ _ _ h => h) (Or.inl ⟨by rfl, ?ya0_9⟩) (by assumption) ?ra0_9
          case ya0_9 => intro w1 hSw; obtain ⟨s2, s3⟩ := hSw; go_simp; try with_reducible rfl
          try simp only [List.getElem_toArray, List.getElem_cons_zero, List.getElem_cons_succ, Act.put, List.setIfInBounds_toArray, List.set_cons_zero, List.set_cons_succ]
          refine wpAnyH_ready (rs := [3, 10]) (by kernel_rfl) (by simp) ?_
          refine AllReadyH.cons (o := _) rfl (fun K hK => ?_) (AllReadyH.cons (o := _) rfl (fun K hK => ?_) AllReadyH.nil)
          · rw [if_pos (by rfl)]
            try simp only [List.getElem_toArray, List.getElem_cons_zero, List.getElem_cons_succ]
            have cq := (HBQ.out _ HOD.out).cell 0
            simp only [List.getElem?_toArray, List.getElem?_cons_zero] at cq
            go_simp
            clear cq
            refine hK.out _ _ (FACT.out _ HHD.out) (fun hHL => ?_)
            clear hK K hHL
            try simp only [List.getElem_toArray, List.getElem_cons_zero, List.getElem_cons_succ, Act.put, List.setIfInBounds_toArray, List.set_cons_zero, List.set_cons_succ]
            refine wpAnyH_ready (rs := [10]) (by kernel_rfl) (by simp) ?_
            refine AllReadyH.cons (o := _) rfl (fun K hK => ?_) AllReadyH.nil
            rw [if_pos (by rfl)]
            try simp only [List.getElem_toArray, List.getElem_cons_zero, List.getElem_cons_succ]
            go_simp
            have hbA := Blk.new wd 3 #[.int .i64 z]
            have hfA : Fr (fun _ => False) wd (wd.alloc (.cells #[.int .i64 z] 3)) := Fr.alloc _ _ _
            obtain ⟨g1, hg1⟩ : ∃ g, wd.heap.size = g := ⟨_, rfl⟩
            obtain ⟨wA, hwA⟩ : ∃ w, wd.alloc (.cells #[.int .i64 z] 3) = w := ⟨_, rfl⟩
            rw [hwA] at hbA hfA ⊢
            rw [hg1] at hbA ⊢
            have HBA := Lib.hid hbA
            have HHA := Lib.hid (HHD.out.fr0 hfA)
            have HOA := Lib.hid (HOD.out.fr hfA (fun _ _ e => e) (fun _ _ _ _ e => e))
            have HFA : Hid (Fr (fun k => B ≤ k) W wA) := Lib.hid (HFD.out.trans (hfA.mono fun _ e => e.elim))
            have HRA := Lib.hid (ranges_fr HRD.out hfA (fun e => e) (fun e => e))
            clear hbA hfA hwA hg1 HHD HOD HFD HRD
            refine hK.out _ _ (FACT.out _ HHA.out) (fun hHA => ?_)
            clear hK K
            try simp only [List.getElem_toArray, List.getElem_cons_zero, List.getElem_cons_succ, Act.put, List.setIfInBounds_toArray, List.set_cons_zero, List.set_cons_succ]
            refine wpAnyH_ready (rs := [11]) (by kernel_rfl) (by simp) ?_
            refine AllReadyH.cons (o := _) rfl (fun K hK => ?_) AllReadyH.nil
            rw [if_pos (by rfl)]
            try simp only [List.getElem_toArray, List.getElem_cons_zero, List.getElem_cons_succ]
            obtain ⟨v', wB, hrun, hown, hfB, hob⟩ := app_i wA (B + 3) (V 0) (X 0) [z] 47 (by have h1 := HOA.out.b 2 (by decide); have := h1.lt; omega) (HOA.out.o 0 (by decide)) (some ⟨g1, 0, none⟩) 1 1 (blkI HBA.out) rfl (by have := HX.out 0 (by decide); have := HCB.out; omega)
            obtain ⟨ao4, cp4, rfl, _⟩ := hown.row
            obtain ⟨m4, hm4⟩ : ∃ m, (X 0 ++ [z]).length = m := ⟨_, rfl⟩
            rw [hm4] at hrun hown hob
            refine wp_append_runO _ _ _ rfl _ _ _ rfl rfl hrun ?_
            have HHB := Lib.hid (HHA.out.frO (HOA.out.o 0 (by decide)) hfB)
            have HBB : Hid (Blk wB q0 47 #[V 0]) := Lib.hid ((HBQ.out _ HOA.out).fr hfB ((HOA.out.o 0 (by decide)).notBlk (HBQ.out _ HOA.out) (by decide)))
            have HRB : Hid (wB.ranges Tryd.prog 3 rawR kb RB c D _ cnt8) := Lib.hid (ranges_fr HRA.out hfB (fun e => by
                obtain ⟨_, _, cs, h1⟩ := (HOA.out.o 0 (by decide)).ob e
                exact (ranges_at HRA.out).2.1 h1) (fun e => by
                obtain ⟨_, _, cs, h1⟩ := (HOA.out.o 0 (by decide)).ob e
                exact (ranges_at HRA.out).1 h1))
            have HFB : Hid (Fr (fun k => B ≤ k) W wB) := Lib.hid (HFA.out.trans (hfB.mono fun k e => by have := ((HOA.out.o 0 (by decide)).ob e).1; omega))
            have HST := Lib.hid (fun w3 hw3 => HOA.out.step 0 (by decide) x t HXT.out HCL.out HLK.out (left' := fun z => left z && !z.sameKey (.int .i64 x)) (fun y => by simp [Lit.sameKey]; rfl) (.slice ao4 m4 cp4) (by rw [HZ.out]; exact hown) hfB (by
              rcases hob with h | h
              · exact .inl h
              · exact .inr ⟨_, h, Nat.le_refl _⟩) (W3 := w3) hw3)
            clear hown hfB hob hrun HHA HRA HFA HOA HBA
            refine hK.out _ _ (FACT.out _ HHB.out) (fun hHB => ?_)
            clear hK K
            try simp only [List.getElem_toArray, List.getElem_cons_zero, List.getElem_cons_succ, Act.put, List.setIfInBounds_toArray, List.set_cons_zero, List.set_cons_succ]
            refine wpAnyH_take (i := 12) (oi := _) (v := ?vb0_12) rfl (by kernel_rfl) (by kernel_rfl) (by kernel_rfl) (fun _ _ _ h => h) (Or.inl ⟨by rfl, ?yb0_12⟩) (by assumption) ?rb0_12
            case yb0_12 => intro w1 hSw; obtain ⟨s2, s3⟩ := hSw; go_simp; try with_reducible rfl
            try simp only [List.getElem_toArray, List.getElem_cons_zero, List.getElem_cons_succ, Act.put, List.setIfInBounds_toArray, List.set_cons_zero, List.set_cons_succ]
            have cq := HBB.out.cell 0
            have fq := HBB.out.frozen 0
            simp only [List.getElem?_toArray, List.getElem?_cons_zero] at cq
            refine wpAnyH_ready (rs := [13]) (by kernel_rfl) (by simp) ?_
            refine AllReadyH.cons (o := _) rfl (fun K hK => ?_) AllReadyH.nil
            rw [if_pos (by rfl)]
            try simp only [List.getElem_toArray, List.getElem_cons_zero, List.getElem_cons_succ]
            go_simp
            obtain ⟨wC, hwC⟩ : ∃ w, wB.setCell ⟨q0, 0, none⟩ (.slice ao4 m4 cp4) = w := ⟨_, rfl⟩
            rw [hwC]
            have hfC : Fr (fun k => k = q0) wB wC := by rw [← hwC]; exact Fr.setCell _ _ _ rfl
            have HHC := Lib.hid (HHB.out.frB HBB.out hfC)
            have HOC := Lib.hid (HST.out wC (by rw [← HQC.out]; exact hwC.symm))
            have HRC : Hid (wC.ranges Tryd.prog 3 rawR kb RB c D _ cnt8) := Lib.hid (ranges_fr HRB.out hfC (fun e => (ranges_at HRB.out).2.1 (e ▸ HBB.out)) (fun e => (ranges_at HRB.out).1 (e ▸ HBB.out)))
            have HFC : Hid (Fr (fun k => B ≤ k) W wC) := Lib.hid (HFB.out.trans (hfC.mono fun k e => by have := HQC.out; omega))
            clear hwC hfC HRB HFB HHB HBB HST cq fq
            refine hK.out _ _ (FACT.out _ HHC.out) (fun hHC2 => ?_)
            clear hK K hHC2
            try simp only [List.getElem_toArray, List.getElem_cons_zero, List.getElem_cons_succ, Act.put, List.setIfInBounds_toArray, List.set_cons_zero, List.set_cons_succ]
            refine wpAnyH_done (by kernel_rfl) ?_ _
            clear FACT HBQ
            go_wp2
            go_roundw
            case rel =>
              refine ⟨_, _, _, _, HRC.out, HOC.out, HHC.out, fun d hd => ?_, HFC.out⟩
              have h1 := HX.out d hd
              have h2 := HLT8.out
              unfold upc
              by_cases hdc : d = 0
              · subst hdc; rw [if_pos rfl, List.length_append]; simp; omega
              · rw [if_neg hdc]; omega
            case measure => rw [HRC.out.left_eq, HRG.out.left_eq]; exact HLT8.out
          · rw [if_pos (by rfl)]
            try simp only [List.getElem_toArray, List.getElem_cons_zero, List.getElem_cons_succ]
            go_simp
            have hbA := Blk.new wd 3 #[.int .i64 z]
            have hfA : Fr (fun _ => False) wd (wd.alloc (.cells #[.int .i64 z] 3)) := Fr.alloc _ _ _
            obtain ⟨g1, hg1⟩ : ∃ g, wd.heap.size = g := ⟨_, rfl⟩
            obtain ⟨wA, hwA⟩ : ∃ w, wd.alloc (.cells #[.int .i64 z] 3) = w := ⟨_, rfl⟩
            rw [hwA] at hbA hfA ⊢
            rw [hg1] at hbA ⊢
            have HBA := Lib.hid hbA
            have HHA := Lib.hid (HHD.out.fr0 hfA)
            have HOA := Lib.hid (HOD.out.fr hfA (fun _ _ e => e) (fun _ _ _ _ e => e))
            have HFA : Hid (Fr (fun k => B ≤ k) W wA) := Lib.hid (HFD.out.trans (hfA.mono fun _ e => e.elim))
            have HRA := Lib.hid (ranges_fr HRD.out hfA (fun e => e) (fun e => e))
            clear hbA hfA hwA hg1 HHD HOD HFD HRD
            refine hK.out _ _ (FACT.out _ HHA.out) (fun hHA => ?_)
            clear hK K
            try simp only [List.getElem_toArray, List.getElem_cons_zero, List.getElem_cons_succ, Act.put, List.setIfInBounds_toArray, List.set_cons_zero, List.set_cons_succ]
            refine wpAnyH_ready (rs := [3]) (by kernel_rfl) (by simp) ?_
            refine AllReadyH.cons (o := _) rfl (fun K hK => ?_) AllReadyH.nil
            rw [if_pos (by rfl)]
            try simp only [List.getElem_toArray, List.getElem_cons_zero, List.getElem_cons_succ]
            have cq := (HBQ.out _ HOA.out).cell 0
            simp only [List.getElem?_toArray, List.getElem?_cons_zero] at cq
            go_simp
            clear cq
            refine hK.out _ _ (FACT.out _ HHA.out) (fun hHL => ?_)
            clear hK K hHL
            try simp only [List.getElem_toArray, List.getElem_cons_zero, List.getElem_cons_succ, Act.put, List.setIfInBounds_toArray, List.set_cons_zero, List.set_cons_succ]
            refine wpAnyH_ready (rs := [11]) (by kernel_rfl) (by simp) ?_
            refine AllReadyH.cons (o := _) rfl (fun K hK => ?_) AllReadyH.nil
            rw [if_pos (by rfl)]
            try simp only [List.getElem_toArray, List.getElem_cons_zero, List.getElem_cons_succ]
            obtain ⟨v', wB, hrun, hown, hfB, hob⟩ := app_i wA (B + 3) (V 0) (X 0) [z] 47 (by have h1 := HOA.out.b 2 (by decide); have := h1.lt; omega) (HOA.out.o 0 (by decide)) (some ⟨g1, 0, none⟩) 1 1 (blkI HBA.out) rfl (by have := HX.out 0 (by decide); have := HCB.out; omega)
            obtain ⟨ao4, cp4, rfl, _⟩ := hown.row
            obtain ⟨m4, hm4⟩ : ∃ m, (X 0 ++ [z]).length = m := ⟨_, rfl⟩
            rw [hm4] at hrun hown hob
            refine wp_append_runO _ _ _ rfl _ _ _ rfl rfl hrun ?_
            have HHB := Lib.hid (HHA.out.frO (HOA.out.o 0 (by decide)) hfB)
            have HBB : Hid (Blk wB q0 47 #[V 0]) := Lib.hid ((HBQ.out _ HOA.out).fr hfB ((HOA.out.o 0 (by decide)).notBlk (HBQ.out _ HOA.out) (by decide)))
            have HRB : Hid (wB.ranges Tryd.prog 3 rawR kb RB c D _ cnt8) := Lib.hid (ranges_fr HRA.out hfB (fun e => by
                obtain ⟨_, _, cs, h1⟩ := (HOA.out.o 0 (by decide)).ob e
                exact (ranges_at HRA.out).2.1 h1) (fun e => by
                obtain ⟨_, _, cs, h1⟩ := (HOA.out.o 0 (by decide)).ob e
                exact (ranges_at HRA.out).1 h1))
            have HFB : Hid (Fr (fun k => B ≤ k) W wB) := Lib.hid (HFA.out.trans (hfB.mono fun k e => by have := ((HOA.out.o 0 (by decide)).ob e).1; omega))
            have HST := Lib.hid (fun w3 hw3 => HOA.out.step 0 (by decide) x t HXT.out HCL.out HLK.out (left' := fun z => left z && !z.sameKey (.int .i64 x)) (fun y => by simp [Lit.sameKey]; rfl) (.slice ao4 m4 cp4) (by rw [HZ.out]; exact hown) hfB (by
              rcases hob with h | h
              · exact .inl h
              · exact .inr ⟨_, h, Nat.le_refl _⟩) (W3 := w3) hw3)
            clear hown hfB hob hrun HHA HRA HFA HOA HBA
            refine hK.out _ _ (FACT.out _ HHB.out) (fun hHB => ?_)
            clear hK K
            try simp only [List.getElem_toArray, List.getElem_cons_zero, List.getElem_cons_succ, Act.put, List.setIfInBounds_toArray, List.set_cons_zero, List.set_cons_succ]
            refine wpAnyH_take (i := 12) (oi := _) (v := ?vc0_12) rfl (by kernel_rfl) (by kernel_rfl) (by kernel_rfl) (fun _ _ _ h => h) (Or.inl ⟨by rfl, ?yc0_12⟩) (by assumption) ?rc0_12
            case yc0_12 => intro w1 hSw; obtain ⟨s2, s3⟩ := hSw; go_simp; try with_reducible rfl
            try simp only [List.getElem_toArray, List.getElem_cons_zero, List.getElem_cons_succ, Act.put, List.setIfInBounds_toArray, List.set_cons_zero, List.set_cons_succ]
            have cq := HBB.out.cell 0
            have fq := HBB.out.frozen 0
            simp only [List.getElem?_toArray, List.getElem?_cons_zero] at cq
            refine wpAnyH_ready (rs := [13]) (by kernel_rfl) (by simp) ?_
            refine AllReadyH.cons (o := _) rfl (fun K hK => ?_) AllReadyH.nil
            rw [if_pos (by rfl)]
            try simp only [List.getElem_toArray, List.getElem_cons_zero, List.getElem_cons_succ]
            go_simp
            obtain ⟨wC, hwC⟩ : ∃ w, wB.setCell ⟨q0, 0, none⟩ (.slice ao4 m4 cp4) = w := ⟨_, rfl⟩
            rw [hwC]
            have hfC : Fr (fun k => k = q0) wB wC := by rw [← hwC]; exact Fr.setCell _ _ _ rfl
            have HHC := Lib.hid (HHB.out.frB HBB.out hfC)
            have HOC := Lib.hid (HST.out wC (by rw [← HQC.out]; exact hwC.symm))
            have HRC : Hid (wC.ranges Tryd.prog 3 rawR kb RB c D _ cnt8) := Lib.hid (ranges_fr HRB.out hfC (fun e => (ranges_at HRB.out).2.1 (e ▸ HBB.out)) (fun e => (ranges_at HRB.out).1 (e ▸ HBB.out)))
            have HFC : Hid (Fr (fun k => B ≤ k) W wC) := Lib.hid (HFB.out.trans (hfC.mono fun k e => by have := HQC.out; omega))
            clear hwC hfC HRB HFB HHB HBB HST cq fq
            refine hK.out _ _ (FACT.out _ HHC.out) (fun hHC2 => ?_)
            clear hK K hHC2
            try simp only [List.getElem_toArray, List.getElem_cons_zero, List.getElem_cons_succ, Act.put, List.setIfInBounds_toArray, List.set_cons_zero, List.set_cons_succ]
            refine wpAnyH_done (by kernel_rfl) ?_ _
            clear FACT HBQ
            go_wp2
            go_roundw
            case rel =>
              refine ⟨_, _, _, _, HRC.out, HOC.out, HHC.out, fun d hd => ?_, HFC.out⟩
              have h1 := HX.out d hd
              have h2 := HLT8.out
              unfold upc
              by_cases hdc : d = 0
              · subst hdc; rw [if_pos rfl, List.length_append]; simp; omega
              · rw [if_neg hdc]; omega
            case measure => rw [HRC.out.left_eq, HRG.out.left_eq]; exact HLT8.out
end Go.Proofs.YtbdjnfkhdphhoaaDoor
