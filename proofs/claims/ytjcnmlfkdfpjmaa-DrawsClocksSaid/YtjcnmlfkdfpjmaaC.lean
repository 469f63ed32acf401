/- The clock: NewClock, Now, Tick, Set, Drop. -/
import Derived.Test.YtjcnmlfkdfpjmaaB
set_option linter.unusedVariables false
set_option linter.unusedSimpArgs false
namespace Go.Proofs.Ytjcnmlfkdfpjmaa
open Go.RowKit Go.Maps
/-- A CLOCK: the struct in block cb, its alarms in block mb -/
structure CK (W : World) (cb mb : Nat) (now : Int) (N : Nat) (F : Int → Option Int) : Prop where
  s : Blk W cb 63 #[.int .i64 now, .map (some mb)]
  m : ∃ c, c ≤ N ∧ Mp iKE W mb c (fun x => (F x).map (Value.int .i64))
  d : cb ≠ mb
variable {W : World} {cb mb N : Nat} {now : Int} {F : Int → Option Int}
theorem CK.fr {S : Nat → Prop} {W' : World} (h : CK W cb mb now N F) (hf : Fr S W W') (h1 : ¬ S cb) (h2 : ¬ S mb) : CK W' cb mb now N F :=
  ⟨h.s.fr hf h1, by obtain ⟨c, hc, hM⟩ := h.m; exact ⟨c, hc, hM.fr hf h2⟩, h.d⟩
theorem CK.kept {W' : World} (h : CK W cb mb now N F) (hf : Fr (fun _ => False) W W') : CK W' cb mb now N F := h.fr hf id id
theorem CK.congr {F' : Int → Option Int} (h : CK W cb mb now N F) (e : ∀ x, F x = F' x) : CK W cb mb now N F' := by
  have : F = F' := funext e
  rw [← this]; exact h
theorem CK.more {N' : Nat} (h : CK W cb mb now N F) (hN : N ≤ N') : CK W cb mb now N' F := ⟨h.s, by obtain ⟨c, hc, hM⟩ := h.m; exact ⟨c, by omega, hM⟩, h.d⟩
theorem CK.lt (h : CK W cb mb now N F) : cb < W.heap.size ∧ mb < W.heap.size := ⟨h.s.lt, by obtain ⟨c, hc, hM⟩ := h.m; exact hM.lt⟩
def put1 (F : Int → Option Int) (x : Int) (v : Option Int) : Int → Option Int := fun y => if y = x then v else F y
theorem put1_map (F : Int → Option Int) (x : Int) (v : Option Int) : upd (fun x => (F x).map (Value.int .i64)) x (v.map (Value.int .i64)) = fun y => (put1 F x v y).map (Value.int .i64) := by
  funext y
  unfold upd put1
  by_cases e : y = x
  · rw [if_pos e, if_pos e]
  · rw [if_neg e, if_neg e]
theorem newClock_any (W : World) : Calls Try.prog 12 #[] W fun e W' => e = .returned (.pointer (some ⟨W.heap.size + 1, 0, none⟩)) ∧ CK W' (W.heap.size + 1) W.heap.size 0 0 (fun _ => none) ∧ Fr (fun _ => False) W W' := by
  have hmm := @run_makeMap Try.prog
  go_enter Try.func12, Try.ntmps12
  go_wp2
  go_ret
  refine ⟨rfl, ⟨?_, ⟨0, Nat.le_refl _, ?_⟩, by omega⟩, (Fr.alloc _ _ _).trans (Fr.alloc _ _ _)⟩
  · have := Blk.new (W.alloc (.map #[] 0)) 63 #[.int .i64 0, .map (some W.heap.size)]
    rw [World.size_alloc] at this
    exact this
  · exact (Mp.made iKE W).alloc _
theorem now_any (h : CK W cb mb now N F) : Calls Try.prog 17 #[.pointer (some ⟨cb, 0, none⟩)] W fun e W' => e = .returned (.int .i64 now) ∧ W = W' := by
  have c0 := h.s.cell 0
  simp only [List.getElem?_toArray, List.getElem?_cons_zero, List.getElem?_cons_succ] at c0
  clear h
  go_enter Try.func17, Try.ntmps17
  go_wp2
  go_ret
  exact ⟨rfl, rfl⟩
def tickF (now n : Int) : Int := if 1 ≤ n ∧ n ≤ 1048576 then now + n else now
set_option maxRecDepth 100000 in
theorem tick_any (h : CK W cb mb now N F) (h0 : 0 ≤ now) (h1 : now ≤ 1000000000000000) (n : Int) :
    Calls Try.prog 14 #[.pointer (some ⟨cb, 0, none⟩), .int .i64 n] W fun e W' => e = .returned (.int .i64 (tickF now n)) ∧ CK W' cb mb (tickF now n) N F ∧ Fr (fun k => k = cb) W W' := by
  have c0 := h.s.cell 0
  have f0 := h.s.frozen 0
  simp only [List.getElem?_toArray, List.getElem?_cons_zero, List.getElem?_cons_succ] at c0
  have H := Lib.hid h
  unfold tickF
  by_cases g1 : 1 ≤ n
  · have p1 : decide (1 ≤ n) = true := decide_eq_true g1
    by_cases g2 : n ≤ 1048576
    · have p2 : decide (n ≤ 1048576) = true := decide_eq_true g2
      rw [if_pos ⟨g1, g2⟩]
      have hw : IntKind.i64.wrap (now + n) = now + n := IntWalk.i64_in _ (by omega)
      clear h
      go_enter Try.func14, Try.ntmps14
      go_wp2
      go_ret
      have hf := Fr.setCell (S := fun k => k = cb) W ⟨cb, 0, none⟩ (.int .i64 (now + n)) rfl
      refine ⟨rfl, ⟨?_, ?_, H.out.d⟩, hf⟩
      · have := H.out.s.set 0 (.int .i64 (now + n))
        simpa using this
      · obtain ⟨c, hc, hM⟩ := H.out.m
        exact ⟨c, hc, hM.fr hf (fun e => H.out.d e.symm)⟩
    · have p2 : decide (n ≤ 1048576) = false := decide_eq_false g2
      rw [if_neg (fun e => g2 e.2)]
      clear h
      go_enter Try.func14, Try.ntmps14
      go_wp2
      go_ret
      exact ⟨rfl, H.out, Fr.refl _ _⟩
  · have p1 : decide (1 ≤ n) = false := decide_eq_false g1
    rw [if_neg (fun e => g1 e.1)]
    clear h
    go_enter Try.func14, Try.ntmps14
    go_wp2
    go_ret
    exact ⟨rfl, H.out, Fr.refl _ _⟩
theorem frM {W W' : World} (ht : W.mapTurned W' mb) : Fr (fun k => k = mb) W W' := Fr.grown ht.grown (fun k e => (Option.some.inj e).symm)
theorem CK.drop (h : CK W cb mb now N F) {x : Int} (hx : iKE.ok x) (ty : TypeId) :
    ∃ W', (Builtin.delete_ #[32, 3] ty #[.map (some mb), .int .i64 x]).run Try.prog W = .ok (.tuple #[]) W' ∧ CK W' cb mb now N (put1 F x none) ∧ Fr (fun k => k = mb) W W' := by
  obtain ⟨c, hc, hM⟩ := h.m
  obtain ⟨W', hrun, hM', ht⟩ := hM.drop Try.underlying32 hx ty
  have hM2 := hM'
  rw [show upd (fun x => (F x).map (Value.int .i64)) x none = _ from put1_map F x none] at hM2
  exact ⟨W', hrun, ⟨h.s.fr (frM ht) h.d, ⟨_, (by split <;> omega), hM2⟩, h.d⟩, frM ht⟩
theorem CK.store (h : CK W cb mb now N F) (hN : N < maxLen) {x : Int} (hx : iKE.ok x) (v : Int) :
    ∃ W', (Instr.mapUpdate 32 (.map (some mb)) (.int .i64 x) (.int .i64 v)).run Try.prog W = .ok () W' ∧ CK W' cb mb now (N + 1) (put1 F x (some v)) ∧ Fr (fun k => k = mb) W W' := by
  obtain ⟨c, hc, hM⟩ := h.m
  obtain ⟨W', hrun, hM', ht⟩ := hM.store Try.underlying32 (by omega) hx (.int .i64 v)
  have hM2 := hM'
  rw [show upd (fun x => (F x).map (Value.int .i64)) x (some (Value.int .i64 v)) = _ from put1_map F x (some v)] at hM2
  exact ⟨W', hrun, ⟨h.s.fr (frM ht) h.d, ⟨_, (by split <;> omega), hM2⟩, h.d⟩, frM ht⟩
theorem CK.look (h : CK W cb mb now N F) {x : Int} (hx : iKE.ok x) : (Instr.lookup 32 (.map (some mb)) (.int .i64 x) false).run Try.prog W = .ok (.int .i64 ((F x).getD 0)) W := by
  obtain ⟨c, hc, hM⟩ := h.m
  have := hM.look Try.underlying32 (zero3 _) hx
  rw [show (iKE.kv x) = .int .i64 x from rfl] at this
  rw [this]
  cases F x <;> rfl
theorem CK.lookOk (h : CK W cb mb now N F) {x : Int} (hx : iKE.ok x) : (Instr.lookup 32 (.map (some mb)) (.int .i64 x) true).run Try.prog W = .ok (.tuple #[.int .i64 ((F x).getD 0), .bool (F x).isSome]) W := by
  obtain ⟨c, hc, hM⟩ := h.m
  have := hM.look_ok Try.underlying32 (zero3 _) hx
  rw [show (iKE.kv x) = .int .i64 x from rfl] at this
  rw [this]
  cases F x <;> rfl
set_option maxRecDepth 100000 in
theorem drop_any (h : CK W cb mb now N F) (x : Int) (hx : iKE.ok x) :
    Calls Try.prog 26 #[.pointer (some ⟨cb, 0, none⟩), .int .i64 x] W fun e W' => e = .returned (.bool (F x).isSome) ∧ CK W' cb mb now N (put1 F x none) ∧ Fr (fun k => k = mb) W W' := by
  have c0 := h.s.cell 0
  have c1 := h.s.cell 1
  simp only [List.getElem?_toArray, List.getElem?_cons_zero, List.getElem?_cons_succ] at c0 c1
  have hl := h.lookOk hx
  obtain ⟨W1, hrun, h1, hf1⟩ := h.drop hx 0
  have H1 := Lib.hid h1
  have HF := Lib.hid hf1
  obtain ⟨q, hq⟩ : ∃ q, (F x).isSome = q := ⟨_, rfl⟩
  rw [hq] at hl ⊢
  clear h h1 hf1 hq hx
  go_enter Try.func26, Try.ntmps26
  go_wp2
  go_ret
  exact ⟨rfl, H1.out, HF.out⟩
def setB (now at_ : Int) : Bool := decide (now < at_ ∧ at_ ≤ 1099511627776)
def setF (now : Int) (F : Int → Option Int) (x at_ : Int) : Int → Option Int := put1 F x (if now < at_ ∧ at_ ≤ 1099511627776 then some at_ else none)
set_option maxRecDepth 100000 in
theorem set_any (h : CK W cb mb now N F) (hN : N < maxLen) (x at_ : Int) (hx : iKE.ok x) :
    Calls Try.prog 13 #[.pointer (some ⟨cb, 0, none⟩), .int .i64 x, .int .i64 at_] W fun e W' => e = .returned (.bool (setB now at_)) ∧ CK W' cb mb now (N + 1) (setF now F x at_) ∧ Fr (fun k => k = mb) W W' := by
  have c1 := h.s.cell 1
  simp only [List.getElem?_toArray, List.getElem?_cons_zero, List.getElem?_cons_succ] at c1
  obtain ⟨W1, hrun, h1, hf1⟩ := h.drop hx 0
  have d0 := h1.s.cell 0
  have d1 := h1.s.cell 1
  simp only [List.getElem?_toArray, List.getElem?_cons_zero, List.getElem?_cons_succ] at d0 d1
  obtain ⟨W2, hrun2, h2, hf2⟩ := h1.store hN hx at_
  have H1 := Lib.hid h1
  have HF := Lib.hid hf1
  have H2 := Lib.hid h2
  have HF2 := Lib.hid (hf1.trans hf2)
  unfold setB setF
  clear h h1 h2 hf1 hf2 hx
  by_cases g1 : at_ ≤ now
  · have p1 : decide (at_ ≤ now) = true := decide_eq_true g1
    rw [decide_eq_false (by omega), if_neg (by omega)]
    go_enter Try.func13, Try.ntmps13
    go_wp2
    go_ret
    exact ⟨rfl, H1.out.more (Nat.le_succ _), HF.out⟩
  have p1 : decide (at_ ≤ now) = false := decide_eq_false g1
  by_cases g2 : 1099511627776 < at_
  · have p2 : decide (1099511627776 < at_) = true := decide_eq_true g2
    rw [decide_eq_false (by omega), if_neg (by omega)]
    go_enter Try.func13, Try.ntmps13
    go_wp2
    go_ret
    exact ⟨rfl, H1.out.more (Nat.le_succ _), HF.out⟩
  have p2 : decide (1099511627776 < at_) = false := decide_eq_false g2
  rw [decide_eq_true (by omega), if_pos (by omega)]
  go_enter Try.func13, Try.ntmps13
  go_wp2
  go_ret
  refine ⟨rfl, H2.out.congr (fun y => ?_), HF2.out⟩
  unfold put1
  by_cases e : y = x
  · rw [if_pos e, if_pos e]
  · rw [if_neg e, if_neg e, if_neg e]
end Go.Proofs.Ytjcnmlfkdfpjmaa
