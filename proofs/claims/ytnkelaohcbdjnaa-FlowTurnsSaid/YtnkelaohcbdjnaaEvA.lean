/- Histories: what is open, in blocks; what is used. -/
import Derived.Test.YtnkelaohcbdjnaaK
import Derived.Maps.RangeWalk
import Derived.Deep.RegionHeld3
import Derived.Deep.Cut
import Derived.Deep.DeepCutAuto
import Derived.WideKeyEntry
set_option linter.unusedVariables false
set_option linter.unusedSimpArgs false
namespace Go.Proofs.Ytnkelaohcbdjnaa.Ev
open Go.RowKit Go.Maps
theorem wf_of {x : Int} (h1 : -9223372036854775808 ≤ x) (h2 : x ≤ 9223372036854775807) : (Lit.int .i64 x).wf = true := WalkArith.wf_i64 ⟨h1, h2⟩
theorem zero3 (W : World) : (zeroValue 3).run Try.prog W = .ok (.int .i64 0) W := by kernel_rfl
/-- an event: its numbers, its data's slice -/
structure Ev where
  k : Int
  at_ : Int
  ref : Int
  id : Int
  list : Int
  n : Int
  ao : Option Addr
  dl : Nat
  cp : Nat
def evc (e : Ev) : Array Value := #[.int .i64 e.k, .int .i64 e.at_, .int .i64 e.ref, .int .i64 e.id, .int .i64 e.list, .int .i64 e.n, .slice e.ao e.dl e.cp]
/-- what is known of a history -/
structure Hi where
  n : Nat
  at_ : Int
  closed : Int
  task : Int
  begun : Bool
  kinds : Int → Option Int
  ids : Int → Option Int
  of_ : Int → Option Int
  from_ : Int → Option Int
def hcells (h : Hi) (kb ib ob fb : Nat) : Array Value := #[.int .i64 h.n, .int .i64 h.at_, .int .i64 h.closed, .map (some kb), .map (some ib), .int .i64 h.task, .bool h.begun, .map (some ob), .map (some fb)]
def mI (G : Int → Option Int) : Int → Option Value := fun x => (G x).map (Value.int .i64)
def put1 (G : Int → Option Int) (x : Int) (v : Option Int) : Int → Option Int := fun y => if y = x then v else G y
theorem put1_map (G : Int → Option Int) (x : Int) (v : Option Int) : upd (mI G) x (v.map (Value.int .i64)) = mI (put1 G x v) := by
  funext y
  unfold upd mI put1
  split <;> rfl
/-- THE HISTORY in block hb, its maps in kb, ib, ob, fb -/
structure HS (W : World) (hb kb ib ob fb : Nat) (h : Hi) : Prop where
  b : Blk W hb 134 (hcells h kb ib ob fb)
  k : ∃ c, c ≤ h.n ∧ Mp iKE W kb c (mI h.kinds)
  i : ∃ c, c ≤ h.n ∧ Mp iKE W ib c (mI h.ids)
  o : ∃ c, c ≤ h.n ∧ Mp iKE W ob c (mI h.of_)
  f : ∃ c, c ≤ h.n ∧ Mp iKE W fb c (mI h.from_)
  ne : kb ≠ ib ∧ kb ≠ ob ∧ kb ≠ fb ∧ ib ≠ ob ∧ ib ≠ fb ∧ ob ≠ fb
  few : h.n ≤ 1000000
  dk : ∀ x v, h.kinds x = some v → 1 ≤ x ∧ x ≤ h.n
  dv : ∀ x v, h.of_ x = some v → 0 ≤ v ∧ v ≤ 1099511627776
theorem mp_ne {W : World} {b c B : Nat} {F : Int → Option Value} {t : TypeId} {cs : Array Value} (h : Mp iKE W b c F) (hb : Blk W B t cs) : B ≠ b := by
  rintro rfl
  obtain ⟨D, ⟨es, clock, hb', _⟩, _⟩ := h
  have := hb.symm.trans hb'
  cases this
theorem HS.fr {S : Nat → Prop} {W W' : World} {hb kb ib ob fb : Nat} {h : Hi} (hs : HS W hb kb ib ob fb h) (hf : Fr S W W') (h1 : ¬ S hb) (h2 : ¬ S kb) (h3 : ¬ S ib) (h4 : ¬ S ob) (h5 : ¬ S fb) : HS W' hb kb ib ob fb h :=
  ⟨hs.b.fr hf h1, by obtain ⟨c, hc, hM⟩ := hs.k; exact ⟨c, hc, hM.fr hf h2⟩, by obtain ⟨c, hc, hM⟩ := hs.i; exact ⟨c, hc, hM.fr hf h3⟩, by obtain ⟨c, hc, hM⟩ := hs.o; exact ⟨c, hc, hM.fr hf h4⟩, by obtain ⟨c, hc, hM⟩ := hs.f; exact ⟨c, hc, hM.fr hf h5⟩, hs.ne, hs.few, hs.dk, hs.dv⟩
theorem HS.fr0 {W W' : World} {hb kb ib ob fb : Nat} {h : Hi} (hs : HS W hb kb ib ob fb h) (hf : Fr (fun _ => False) W W') : HS W' hb kb ib ob fb h := hs.fr hf id id id id id
theorem HS.lt {W : World} {hb kb ib ob fb : Nat} {h : Hi} (hs : HS W hb kb ib ob fb h) : hb < W.heap.size ∧ kb < W.heap.size ∧ ib < W.heap.size ∧ ob < W.heap.size ∧ fb < W.heap.size := by
  obtain ⟨_, _, h1⟩ := hs.k
  obtain ⟨_, _, h2⟩ := hs.i
  obtain ⟨_, _, h3⟩ := hs.o
  obtain ⟨_, _, h4⟩ := hs.f
  exact ⟨hs.b.lt, h1.lt, h2.lt, h3.lt, h4.lt⟩
theorem mlook {W : World} {b N : Nat} {G : Int → Option Int} (h : ∃ c, c ≤ N ∧ Mp iKE W b c (mI G)) {x : Int} (hx : iKE.ok x) : (Instr.lookup 132 (.map (some b)) (.int .i64 x) false).run Try.prog W = .ok (.int .i64 ((G x).getD 0)) W := by
  obtain ⟨c, _, hM⟩ := h
  have := hM.look Try.underlying132 (zero3 _) hx
  rw [show (iKE.kv x) = .int .i64 x from rfl] at this
  rw [this]
  unfold mI
  cases G x <;> rfl
theorem mlook_ok {W : World} {b N : Nat} {G : Int → Option Int} (h : ∃ c, c ≤ N ∧ Mp iKE W b c (mI G)) {x : Int} (hx : iKE.ok x) : (Instr.lookup 132 (.map (some b)) (.int .i64 x) true).run Try.prog W = .ok (.tuple #[.int .i64 ((G x).getD 0), .bool (G x).isSome]) W := by
  obtain ⟨c, _, hM⟩ := h
  have := hM.look_ok Try.underlying132 (zero3 _) hx
  rw [show (iKE.kv x) = .int .i64 x from rfl] at this
  rw [this]
  unfold mI
  cases G x <;> rfl
theorem frM {W W' : World} {b : Nat} (h : W.mapTurned W' b) : Fr (fun k => k = b) W W' := .grown h.grown (fun k e => (Option.some.inj e).symm)
theorem mdrop {W : World} {b N : Nat} {G : Int → Option Int} (h : ∃ c, c ≤ N ∧ Mp iKE W b c (mI G)) {x : Int} (hx : iKE.ok x) (ty : TypeId) :
    ∃ W', (Builtin.delete_ #[132, 3] ty #[.map (some b), .int .i64 x]).run Try.prog W = .ok (.tuple #[]) W' ∧ (∃ c, c ≤ N ∧ Mp iKE W' b c (mI (put1 G x none))) ∧ Fr (fun k => k = b) W W' := by
  obtain ⟨c, hc, hM⟩ := h
  obtain ⟨W', hrun, hM', ht⟩ := hM.drop Try.underlying132 hx ty
  have hM2 := hM'
  rw [show upd (mI G) x none = _ from put1_map G x none] at hM2
  exact ⟨W', hrun, ⟨_, (by split <;> omega), hM2⟩, frM ht⟩
open Go.ChangeMaps Go.WideShapes in
/-- the two halves of a store into a map, keys of one kind -/
theorem halves {P : Program} {t k e : TypeId} {w : World} {b : Nat} {es : Array MapEntry} {clock : Nat} {R : Value → Option (DataW Value × List MemPlace)} (K : Keyed P k) (ht : P.underlying t = some (.map k e)) {z : Value} (hz : ∀ u : World, (zeroValue e).run P u = .ok z u) (hb : w.heap[b]? = some (.map es clock)) (F : Go.WideElems.Fit P k R es clock)
    {key : Value} {kl : Lit} (hkey : keyOf P k key = some kl) :
    ∃ (v0 : Value) (st : Nat) (es1 : Array MapEntry) (clock1 : Nat), (Instr.mapEntry t (.map (some b)) key).run P w = .ok (.tuple #[v0, goInt st]) (setBlock w b (.map es1 clock1)) ∧
      ∀ (w2 : World) (val : Value), w2.heap[b]? = some (.map es1 clock1) → ∃ es' clock', (Instr.entryStore t (.map (some b)) (goInt st) val).run P w2 = .ok () (setBlock w2 b (.map es' clock')) ∧
        (Instr.mapUpdate t (.map (some b)) key val).run P w = .ok () (setBlock w b (.map es' clock')) := by
  obtain ⟨s1, s2, _⟩ := F.stamped
  have hck := K.check w false hkey
  have hst := K.stays w hkey
  rcases K.find w hkey es.toList F.keys with ⟨h1, _⟩ | ⟨j, e0, h1, h2, h3⟩
  · have hlast : (es.push ⟨key, z, clock⟩).findIdx? (fun e => ((e.born : Nat) : Int) == ((clock : Nat) : Int)) = some es.size := by
      rw [Go.WideElems.findIdx_arr]
      refine Go.WideElems.findIdx_born (e0 := ⟨key, z, clock⟩) ?_ (by simp)
      rw [Array.toList_push, List.map_append, List.nodup_append]
      refine ⟨s2, by simp, fun a ha c hc e1 => ?_⟩
      simp only [List.map_cons, List.map_nil, List.mem_singleton] at hc
      obtain ⟨x, hx, rfl⟩ := List.mem_map.1 ha
      have := s1 x hx
      omega
    refine ⟨z, clock, es.push ⟨key, z, clock⟩, clock + 1, ?_, fun w2 val hw2 => ⟨es.push ⟨key, val, clock⟩, clock + 1, ?_, ?_⟩⟩
    · simp [Instr.mapEntry, run_underlying ht, MapKept.run_getObj_map hb, hck, h1, hz, MapKept.run_setObj_map _ hb, Result.andThen, setBlock]
    · have hm : (es.push ⟨key, z, clock⟩).modify es.size (fun e => { e with val := val }) = es.push ⟨key, val, clock⟩ := by
        apply Array.ext'
        rw [Array.toList_modify, Array.toList_push, Array.toList_push, ← Array.length_toList, Go.WideElems.modify_last]
      simp [Instr.entryStore, MapKept.run_getObj_map hw2, asInt, asIntOf, goInt, hlast, hm, MapKept.run_setObj_map _ hw2, Result.andThen, setBlock]
    · simp [Instr.mapUpdate, run_underlying ht, MapKept.run_getObj_map hb, hck, h1, MapKept.run_setObj_map _ hb, Result.andThen, setBlock]
  · have hj : es[j]? = some e0 := by simpa using h2
    have hsame : es.modify j (fun e => { e with key := key }) = es := by
      apply Array.ext'
      rw [Array.toList_modify, modify_eq_set _ _ _ _ h2, show ({ e0 with key := key } : MapEntry) = e0 by rw [← h3]]
      exact Go.WideElems.set_self _ _ _ h2
    refine ⟨e0.val, e0.born, es, clock, ?_, fun w2 val hw2 => ⟨es.modify j (fun e' => { e' with key := key, val := val }), clock, ?_, ?_⟩⟩
    · simp [Instr.mapEntry, run_underlying ht, MapKept.run_getObj_map hb, hck, h1, hj, h3, hst, hsame, MapKept.run_setObj_map _ hb, Result.andThen, setBlock]
    · have hi : es.findIdx? (fun e => ((e.born : Nat) : Int) == ((e0.born : Nat) : Int)) = some j := by
        rw [Go.WideElems.findIdx_arr]
        exact Go.WideElems.findIdx_born s2 h2
      have hm : es.modify j (fun e => { e with val := val }) = es.modify j (fun e' => { e' with key := key, val := val }) := by
        apply Array.ext'
        rw [Array.toList_modify, Array.toList_modify, modify_eq_set _ _ _ _ h2, modify_eq_set _ _ _ _ h2, ← h3]
      simp [Instr.entryStore, MapKept.run_getObj_map hw2, asInt, asIntOf, goInt, hi, hm, MapKept.run_setObj_map _ hw2, Result.andThen, setBlock]
    · simp [Instr.mapUpdate, run_underlying ht, MapKept.run_getObj_map hb, hck, h1, hj, h3, hst, MapKept.run_setObj_map _ hb, Result.andThen, setBlock]
open Go.ChangeMaps in
/-- an entry, then what is stored in it -/
theorem mentry {W : World} {b N : Nat} {G : Int → Option Int} (h : ∃ c, c ≤ N ∧ Mp iKE W b c (mI G)) (hN : N ≤ 1000000) {x : Int} (hx : iKE.ok x) :
    ∃ (v0 : Value) (st : Nat) (W1 : World), (Instr.mapEntry 132 (.map (some b)) (.int .i64 x)).run Try.prog W = .ok (.tuple #[v0, .int .i64 (st : Int)]) W1 ∧ Fr (fun k => k = b) W W1 ∧
      ∀ (w2 : World) (v : Int), Fr (fun k => k ≠ b) W1 w2 → ∃ W', (Instr.entryStore 132 (.map (some b)) (.int .i64 (st : Int)) (.int .i64 v)).run Try.prog w2 = .ok () W' ∧ Fr (fun k => k = b) w2 W' ∧ ∃ c, c ≤ N + 1 ∧ Mp iKE W' b c (mI (put1 G x (some v))) := by
  obtain ⟨c, hc, hM⟩ := h
  have hM0 := hM
  obtain ⟨D, ⟨es, clock, hb, Fi, hs, hDe⟩, hsz, hD⟩ := hM
  obtain ⟨v0, st, es1, clock1, h1, h3⟩ := halves (int_keyed under3) Try.underlying132 zero3 hb Fi (iKE.hk x hx)
  have hfr : Fr (fun k => k = b) W (setBlock W b (.map es1 clock1)) := frM ⟨es, clock, es1, clock1, hb, rfl⟩
  have hb1 : (setBlock W b (.map es1 clock1)).heap[b]? = some (.map es1 clock1) := heap_setBlock_same hb _
  refine ⟨v0, st, _, h1, hfr, fun w2 v hf => ?_⟩
  have hb2 : w2.heap[b]? = some (.map es1 clock1) := (hf.block b (Array.getElem?_eq_some_iff.1 hb1).1 (fun e => e rfl)).trans hb1
  obtain ⟨es', clock', h4, h5⟩ := h3 w2 (.int .i64 v) hb2
  refine ⟨_, h4, frM ⟨_, _, es', clock', hb2, rfl⟩, ?_⟩
  obtain ⟨W', hrun, hM', ht⟩ := hM0.store Try.underlying132 (by unfold maxLen; omega) hx (.int .i64 v)
  have e1 : W' = setBlock W b (.map es' clock') := by
    have := hrun.symm.trans h5
    injection this
  subst e1
  rw [show upd (mI G) x (some (Value.int .i64 v)) = _ from put1_map G x (some v)] at hM'
  obtain ⟨D', ⟨es2, clock2, hb3, r⟩, s⟩ := hM'
  refine ⟨_, (by split <;> omega), D', ⟨es2, clock2, ?_, r⟩, s⟩
  rw [heap_setBlock_same hb] at hb3
  rw [heap_setBlock_same hb2]
  exact hb3
theorem next_val {D : DataW Value} {F : Int → Option Int} (hD : ∀ x, iKE.ok x → Maps.has D (iKE.kl x) = (mI F x).isSome ∧ ∀ z, D.atKey (iKE.kl x) z = (match mI F x with | some v => .held v | none => z)) {x : Int} {cv : Value} {kl : Lit} {y : DataW Value × List MemPlace}
    (hkey : keyOf Try.prog 3 (.int .i64 x) = some kl) (hR : rawR cv = some y) (hat : ∀ zd, D.atKey kl zd = y.1) : kl = .int .i64 x ∧ iKE.ok x ∧ ∃ t, cv = .int .i64 t ∧ F x = some t := by
  obtain ⟨x', ex, rfl, hw⟩ := Maps.keyOf_int_inv under3 hkey
  cases ex
  refine ⟨rfl, hw, ?_⟩
  have h2 := (hD x hw).2
  have hy : y = (.held cv, []) := (Option.some.inj hR).symm
  subst hy
  unfold mI at h2
  cases hF : F x with
  | none =>
    have e1 := (h2 (.held undef)).symm.trans (hat (.held undef))
    have e2 := (h2 (.map [])).symm.trans (hat (.map []))
    rw [hF] at e2
    cases e2
  | some t =>
    have e1 := (h2 (.map [])).symm.trans (hat (.map []))
    rw [hF] at e1
    injection e1 with e1
    exact ⟨t, e1.symm, rfl⟩
/-- has an open one of a kind an Id? -/
noncomputable def usesB (s : Hi) (k id : Int) : Bool := @decide (∃ x, s.kinds x = some k ∧ (s.ids x).getD 0 = id) (Classical.propDecidable _)
theorem usesB_true {s : Hi} {k id : Int} (h : ∃ x, s.kinds x = some k ∧ (s.ids x).getD 0 = id) : usesB s k id = true := @decide_eq_true _ (Classical.propDecidable _) h
theorem usesB_false {s : Hi} {k id : Int} (h : ¬ ∃ x, s.kinds x = some k ∧ (s.ids x).getD 0 = id) : usesB s k id = false := @decide_eq_false _ (Classical.propDecidable _) h
set_option maxRecDepth 100000 in
set_option maxHeartbeats 1000000 in
theorem uses_any (W : World) (hb kb ib ob fb : Nat) (s : Hi) (h : HS W hb kb ib ob fb s) (k id : Int) :
    Calls Try.prog 107 #[.pointer (some ⟨hb, 0, none⟩), .int .i64 k, .int .i64 id] W fun e W' => e = .returned (.bool (usesB s k id)) ∧ Fr (fun _ => False) W W' := by
  have c3 := h.b.cell 3
  have c4 := h.b.cell 4
  simp only [hcells, List.getElem?_toArray, List.getElem?_cons_zero, List.getElem?_cons_succ] at c3 c4
  obtain ⟨c, hc, D, hown, hsize, hD⟩ := h.k
  have HDD := Lib.hid hD
  have HH := Lib.hid h
  have HLT := Lib.hid h.lt
  clear hD h
  go_enter Try.func107, Try.ntmps107
  go_wp2_with (at_range; refine wpList_range_own _ rfl _ 132 rfl 3 3 (int_keyed under3) Try.underlying132 rawR kb c D rfl hown ?_; intro w7 hrg7 hg7 hs7)
  go_frame
  go_loopw [7] (fun _ wz => ∃ left cnt, wz.ranges Try.prog 3 rawR kb W.heap.size c D left cnt ∧ (∀ x v, s.kinds x = some v → left (.int .i64 x) = false → ¬ (v = k ∧ (s.ids x).getD 0 = id)) ∧ Fr (fun _ => False) W wz) (fun _ wz => wz.rangeLeft kb W.heap.size)
  case atStart =>
    refine ⟨_, _, hrg7, fun x v hx hl => ?_, Fr.grown hg7 (fun k e => nomatch e)⟩
    have hok : iKE.ok x := by have := HH.out.dk x v hx; have := HH.out.few; exact wf_of (by omega) (by omega)
    have := (HDD.out x hok).1
    have e : Maps.has D (.int .i64 x) = (mI s.kinds x).isSome := this
    rw [e] at hl
    unfold mI at hl
    rw [hx] at hl
    simp at hl
  case round =>
    obtain ⟨left, cnt, hrg, hC, hf7⟩ := hrel
    clear hrg7 hg7 hs7
    have HF7 := Lib.hid hf7
    have HC := Lib.hid hC
    clear hf7 hC
    go_wp2_with (at_next; refine wpList_next_ranges _ rfl _ rfl 3 (int_keyed under3) rawR (Value.int .i64) _root_.id (fun key kl h => by obtain ⟨x, rfl, _⟩ := Maps.keyOf_int_inv under3 h; exact ⟨x, rfl⟩) (fun v y _ => ⟨v, rfl⟩) kb W.heap.size c D left cnt rfl hrg ?_ ?_)
    case _ =>
      intro hc0 hl0
      have hu : usesB s k id = false := usesB_false (by rintro ⟨x, h1, h2⟩; exact HC.out x k h1 (hl0 _) ⟨rfl, h2⟩)
      have HU := Lib.hid hu
      clear hc0 hl0 hown hu
      go_wp2
      go_ret
      exact ⟨by rw [HU.out]; rfl, HF7.out⟩
    case _ =>
      intro x cv kl y1 y2 w8 cnt8 hkey hlk hR hat hrg8 hlt8 hg8 hs8 hen
      obtain ⟨rfl, hxk, t, rfl, hxt⟩ := next_val HDD.out hkey hR hat
      have hlt := HLT.out
      have HF8 : Hid (Fr (fun _ => False) W w8) := Lib.hid (⟨hg8.os.trans HF7.out.os, hg8.tape.trans HF7.out.tape, hg8.output.trans HF7.out.output, Nat.le_trans HF7.out.size hg8.size, fun k hk hn => (hg8.block k (Nat.lt_of_lt_of_le hk HF7.out.size) (fun e => by have := Option.some.inj e; omega)).trans (HF7.out.block k hk hn)⟩)
      have HH8 := Lib.hid (HH.out.fr0 HF8.out)
      have c4' := HH8.out.b.cell 4
      simp only [hcells, List.getElem?_toArray, List.getElem?_cons_zero, List.getElem?_cons_succ] at c4'
      have hml := mlook HH8.out.i hxk
      have HRG8 := Lib.hid hrg8
      have HLT8 := Lib.hid hlt8
      have HRG := Lib.hid hrg
      have HXT := Lib.hid hxt
      clear hkey hlk hR hat hrg8 hg8 hs8 hxt hrg hlt8 hown c3 c4 hlt
      obtain ⟨z, hz⟩ : ∃ z, (s.ids x).getD 0 = z := ⟨_, rfl⟩
      rw [hz] at hml
      have HZ := Lib.hid hz
      clear hz
      by_cases h1 : t = k
      · subst h1
        have p1 : (t == t) = true := by simp
        by_cases h2 : z = id
        · subst h2
          have p2 : (z == z) = true := by simp
          have HU := Lib.hid (usesB_true (s := s) ⟨x, HXT.out, HZ.out⟩)
          go_wp2
          go_ret
          exact ⟨by rw [HU.out]; rfl, HF8.out⟩
        · have p2 : (z == id) = false := by simp [h2]
          go_wp2
          go_roundw
          case rel =>
            refine ⟨_, _, HRG8.out, fun y v hy hl hm => ?_, HF8.out⟩
            by_cases e : y = x
            · subst e
              have := HXT.out.symm.trans hy
              cases this
              exact h2 (HZ.out.symm.trans hm.2)
            · refine HC.out y v hy ?_ hm
              have hk : (Lit.int .i64 y).sameKey (.int .i64 x) = false := by simp [Lit.sameKey, e]
              simpa [hk] using hl
          case measure => rw [HRG8.out.left_eq, HRG.out.left_eq]; exact HLT8.out
      · have p1 : (t == k) = false := by simp [h1]
        go_wp2
        go_roundw
        case rel =>
          refine ⟨_, _, HRG8.out, fun y v hy hl hm => ?_, HF8.out⟩
          by_cases e : y = x
          · subst e
            have := HXT.out.symm.trans hy
            cases this
            exact h1 hm.1
          · refine HC.out y v hy ?_ hm
            have hk : (Lit.int .i64 y).sameKey (.int .i64 x) = false := by simp [Lit.sameKey, e]
            simpa [hk] using hl
        case measure => rw [HRG8.out.left_eq, HRG.out.left_eq]; exact HLT8.out
end Go.Proofs.Ytnkelaohcbdjnaa.Ev
