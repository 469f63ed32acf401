/- Lists of tasks: rows in a map. -/
import Derived.Test.YtklfppjejndclaaM
import Derived.Test.YtklfppjejndclaaChecked
import Derived.ArgAppend
import Derived.RowKit2
import Derived.OwnWalk
import Derived.Maps.AppendAt
import Derived.WalkSpells
import Derived.Deep.QuietTactic
import Derived.BigQuiet
import Derived.LoopTactic
set_option linter.unusedVariables false
set_option linter.unusedSimpArgs false
namespace Go.Proofs.Ytklfppjejndclaa
open Go.RowKit Go.Maps
/-- a whole block -/
def Blk (W : World) (B : Nat) (t : TypeId) (cs : Array Value) : Prop := W.heap[B]? = some (.cells cs t (0, 0))
theorem Blk.lt {W : World} {B : Nat} {t : TypeId} {cs : Array Value} (h : Blk W B t cs) : B < W.heap.size := (Array.getElem?_eq_some_iff.1 h).1
theorem Blk.kept {W W' : World} {row : Option Nat} {B : Nat} {t : TypeId} {cs : Array Value} (h : Blk W B t cs) (hg : W.grownBy W' row) (hne : some B ≠ row) : Blk W' B t cs := (hg.block B h.lt hne).trans h
theorem Blk.alloc {W : World} {B : Nat} {t : TypeId} {cs : Array Value} (h : Blk W B t cs) (o : Obj) : Blk (W.alloc o) B t cs := h.kept (World.grownBy_alloc W o none) (by simp)
theorem Blk.new (W : World) (t : TypeId) (cs : Array Value) : Blk (W.alloc (.cells cs t)) W.heap.size t cs := World.alloc_heap_new W _
theorem Blk.cell {W : World} {B : Nat} {t : TypeId} {cs : Array Value} (h : Blk W B t cs) (o : Nat) : W.cell? ⟨B, o, none⟩ = cs[o]? := by simp [World.cell?, show W.heap[B]? = _ from h]
theorem Blk.frozen {W : World} {B : Nat} {t : TypeId} {cs : Array Value} (h : Blk W B t cs) (o : Nat) : W.frozen? ⟨B, o, none⟩ = false := by simp [World.frozen?, show W.heap[B]? = _ from h]
theorem off_add (b off k : Nat) : (⟨b, off, none⟩ : Addr).add k = ⟨b, off + k, none⟩ := by
  unfold Addr.add
  by_cases h : k = 0 <;> simp [h]
theorem lt_of_cell {W : World} {b o : Nat} {v : Value} (h : W.cell? ⟨b, o, none⟩ = some v) : b < W.heap.size := by
  apply Classical.byContradiction
  intro hn
  have : W.heap[b]? = none := Array.getElem?_eq_none (by omega)
  simp [World.cell?, this] at h
theorem under3 : Try.prog.underlying 3 = some (.int .i64) := Try.underlying3
noncomputable def iKE : KE Try.prog 3 Int := intKE Try.prog 3 under3
/-- A SLICE THAT SHOWS A ROW: nil where there is nothing; its cells lie not in block mb -/
def RowV (W : World) (mb : Nat) (f : Option Value) (l : List Value) : Prop :=
  (f = none ∧ l = []) ∨ ∃ b o cap, f = some (.slice (some ⟨b, o, none⟩) l.length cap) ∧ l ≠ [] ∧ l.length ≤ cap ∧ cap ≤ maxLen ∧ b ≠ mb ∧ ∀ j v, l[j]? = some v → W.cell? ⟨b, o + j, none⟩ = some v
theorem RowV.kept {W W' : World} {mb : Nat} {f : Option Value} {l : List Value} (h : RowV W mb f l) (hg : W.grownBy W' (some mb)) : RowV W' mb f l := by
  rcases h with h | ⟨b, o, cap, h1, h2, h3, h4, h5, h6⟩
  · exact .inl h
  · refine .inr ⟨b, o, cap, h1, h2, h3, h4, h5, fun j v hj => ?_⟩
    have := h6 j v hj
    have hb := hg.block b (lt_of_cell this) (by simpa using h5)
    rw [← this]
    unfold World.cell?
    rw [hb]
theorem grownBy_trans' {A B C : World} {r : Option Nat} (h : A.grownBy B r) (k : B.grownBy C r) : A.grownBy C r := h.trans k
def NewRow (W : World) (n : Nat) (l : List Value) (e : Ending) (W' : World) : Prop :=
  ∃ g cp, e = .returned (.slice (some ⟨g, 0, none⟩) n cp) ∧ n ≤ cp ∧ cp ≤ maxLen ∧ W.heap.size ≤ g ∧ (∀ j v, l[j]? = some v → W'.cell? ⟨g, j, none⟩ = some v) ∧ W.grownBy W' none
/-- THE LISTS: the struct in block sb, the map in block mb -/
structure LS (TS : TypeId) (W : World) (sb mb : Nat) (most : Int) (N : Nat) (L : Int → List Value) : Prop where
  s : Blk W sb TS #[.int .i64 most, .map (some mb)]
  m : ∃ c F, c ≤ N ∧ Mp iKE W mb c F ∧ ∀ x, iKE.ok x → RowV W mb (F x) (L x)
  one : ∀ x, iKE.ok x → ∀ v ∈ L x, v.oneCell' = true
theorem LS.kept {TS : TypeId} {W W' : World} {sb mb : Nat} {most : Int} {N : Nat} {L : Int → List Value} (h : LS TS W sb mb most N L) (hg : W.grownBy W' none) : LS TS W' sb mb most N L := by
  have hg' : W.grownBy W' (some mb) := ⟨hg.os, hg.tape, hg.output, hg.size, fun k h1 _ => hg.block k h1 (by simp)⟩
  obtain ⟨c, F, hc, hM, hr⟩ := h.m
  exact ⟨h.s.kept hg (by simp), ⟨c, F, hc, hM.kept hg (by simp), fun x hx => (hr x hx).kept hg'⟩, h.one⟩

/-! instance I -/
theorem zeroIL (W : World) : (zeroValue 22).run Try.prog W = .ok (.slice none 0 0) W := by kernel_rfl
theorem infoIE : (Try.prog.info? 3).map (fun i => (i.zero, i.size, i.bytes)) = some (some (.int .i64 0), 1, 8) := by kernel_rfl
set_option maxRecDepth 100000 in
theorem lenI_any (W : World) (sb mb : Nat) (most : Int) (N : Nat) (L : Int → List Value) (h : LS 55 W sb mb most N L) (x : Int) (hx : iKE.ok x) :
    Calls Try.prog 9 #[.pointer (some ⟨sb, 0, none⟩), .int .i64 x] W fun e W' => e = .returned (.int .i64 ((L x).length : Int)) ∧ W = W' := by
  have c1 := h.s.cell 1
  simp only [List.getElem?_toArray, List.getElem?_cons_zero, List.getElem?_cons_succ] at c1
  obtain ⟨c, F, hc, hM, hr⟩ := h.m
  rcases hr x hx with ⟨hF, hL⟩ | ⟨b, o, cap, hF, h1, h2, h3, h4, h5⟩
  · have hu : (F x).getD (.slice none 0 0) = .slice none 0 0 := by rw [hF]; rfl
    have HL := Lib.hid hL
    clear hF hL hr
    go_enter Try.func9, Try.ntmps9
    go_wp2_with (at_lookup; refine wpLook rfl _ _ rfl Try.underlying53 (zeroIL _) hM rfl (x := x) rfl hx hu ?_)
    go_ret
    exact ⟨by rw [HL.out]; rfl, rfl⟩
  · have hu : (F x).getD (.slice none 0 0) = .slice (some ⟨b, o, none⟩) (L x).length cap := by rw [hF]; rfl
    clear hF hr
    go_enter Try.func9, Try.ntmps9
    go_wp2_with (at_lookup; refine wpLook rfl _ _ rfl Try.underlying53 (zeroIL _) hM rfl (x := x) rfl hx hu ?_)
    go_ret
    exact ⟨rfl, rfl⟩
set_option maxRecDepth 100000 in
theorem fullI_any (W : World) (sb mb : Nat) (most : Int) (N : Nat) (L : Int → List Value) (h : LS 55 W sb mb most N L) (x : Int) (hx : iKE.ok x) :
    Calls Try.prog 28 #[.pointer (some ⟨sb, 0, none⟩), .int .i64 x] W fun e W' => e = .returned (.bool (decide (most ≤ (L x).length))) ∧ ∃ n, W' = W.drewN n := by
  have c0 := h.s.cell 0
  simp only [List.getElem?_toArray, List.getElem?_cons_zero, List.getElem?_cons_succ] at c0
  have H : Hid (∀ n, LS 55 (W.drewN n) sb mb most N L) := Lib.hid (fun n => h.kept ⟨rfl, rfl, rfl, Nat.le_refl _, fun _ _ _ => rfl⟩)
  clear h
  go_enter Try.func28, Try.ntmps28
  go_wp2
  go_quiet ((go_at_call 9; exact Calls.quiet_of_same ((lenI_any _ sb mb most N L (H.out _) x hx).mono (fun _ _ h => ⟨h.1, h.2.symm⟩))))
  go_wp2
  go_ret
  exact ⟨rfl, _, rfl⟩
set_option maxRecDepth 100000 in
theorem clipI_any (W : World) (ao : Option Addr) (n cap : Nat) (hn : n ≤ cap) (hc : cap ≤ 9223372036854775807) (h0 : ao = none → n = 0 ∧ cap = 0) :
    Calls Try.prog 30 #[.slice ao n cap] W fun e W' => e = .returned (.slice ao n n) ∧ W = W' := by
  cases ao with
  | none =>
    obtain ⟨rfl, rfl⟩ := h0 rfl
    go_enter Try.func30, Try.ntmps30
    go_wp2
    go_ret
    exact ⟨rfl, rfl⟩
  | some a =>
    clear h0
    go_enter Try.func30, Try.ntmps30
    go_wp2
    go_ret
    exact ⟨rfl, rfl⟩
set_option maxRecDepth 100000 in
/-- a list is given a row -/
theorem setI_any (W : World) (sb mb : Nat) (most : Int) (N : Nat) (L : Int → List Value) (h : LS 55 W sb mb most N L) (hN : N < maxLen) (x : Int) (hx : iKE.ok x) (ao : Option Addr) (n cap : Nat) (l : List Value) (hl : l.length = n) (hcap : n ≤ cap ∧ cap ≤ maxLen) (hone : ∀ v ∈ l, v.oneCell' = true)
    (hrow : n ≠ 0 → ∃ b o, ao = some ⟨b, o, none⟩ ∧ b ≠ mb ∧ ∀ j v, l[j]? = some v → W.cell? ⟨b, o + j, none⟩ = some v) :
    Calls Try.prog 29 #[.pointer (some ⟨sb, 0, none⟩), .int .i64 x, .slice ao n cap] W fun e W' => e = .returned (.tuple #[]) ∧ LS 55 W' sb mb most (N + 1) (fun y => if y = x then l else L y) ∧ W.grownBy W' (some mb) := by
  have c1 := h.s.cell 1
  simp only [List.getElem?_toArray, List.getElem?_cons_zero, List.getElem?_cons_succ] at c1
  have hs := h.s
  obtain ⟨c, F, hc, hM, hr⟩ := h.m
  have hsm : sb ≠ mb := fun e => by
    obtain ⟨D, ⟨es, cl, hb, _⟩, _⟩ := hM
    have := hs
    unfold Blk at this
    rw [e] at this
    rw [this] at hb
    cases hb
  have hcm : c < maxLen := by omega
  have HONE : Hid ((∀ v ∈ l, v.oneCell' = true) ∧ ∀ y, iKE.ok y → ∀ v ∈ L y, v.oneCell' = true) := Lib.hid ⟨hone, h.one⟩
  have HR := Lib.hid hr
  have HROW := Lib.hid hrow
  have HL := Lib.hid hl
  clear hr hrow hl hone
  by_cases h0 : n = 0
  · have p0 : ((n : Int) == 0) = true := by rw [beq_iff_eq]; omega
    have H0 := Lib.hid h0
    clear h0
    go_enter Try.func29, Try.ntmps29
    go_wp2_with (at_delete; refine wpDrop rfl _ _ _ _ rfl rfl Try.underlying53 hM rfl (x := x) rfl hx ?_; intro W1 hM1 ht1)
    refine bodyPost_ret (results_none rfl _ _ _) rfl ⟨rfl, ?_, ht1.grown⟩
    have hg := ht1.grown
    refine ⟨hs.kept hg (fun e => hsm (Option.some.inj e)), ⟨_, _, ?_, hM1, fun y hy => ?_⟩, fun y hy => ?_⟩
    · split <;> omega
    · by_cases e : y = x
      · subst e
        rw [upd_same]
        simp only [if_true]
        exact .inl ⟨rfl, List.eq_nil_of_length_eq_zero (by rw [HL.out]; exact H0.out)⟩
      · rw [upd_other _ _ _ _ e]
        simp only [e, if_false]
        exact (HR.out y hy).kept hg
    · by_cases e : y = x
      · simp only [e, if_true]; exact HONE.out.1
      · simp only [e, if_false]; exact HONE.out.2 y hy
  · have p0 : ((n : Int) == 0) = false := by rw [beq_eq_false_iff_ne]; omega
    obtain ⟨b, o, hao, hbm, hcell⟩ := HROW.out h0
    have HC := Lib.hid hcell
    have H0 := Lib.hid h0
    clear hcell h0
    subst hao
    go_enter Try.func29, Try.ntmps29
    go_wp2_with (at_mapUpdate; refine wpStore rfl _ _ _ rfl Try.underlying53 hM hcm rfl (x := x) rfl hx rfl ?_; intro W1 hM1 ht1)
    go_end0
    have hg := ht1.grown
    refine ⟨rfl, ⟨hs.kept hg (fun e => hsm (Option.some.inj e)), ⟨_, _, ?_, hM1, fun y hy => ?_⟩, fun y hy => ?_⟩, hg⟩
    · split <;> omega
    · by_cases e : y = x
      · subst e
        rw [upd_same]
        simp only [if_true]
        refine .inr ⟨b, o, cap, by rw [HL.out]; rfl, fun e => H0.out (by rw [← HL.out, e]; rfl), by rw [HL.out]; exact hcap.1, hcap.2, hbm, fun j v hj => ?_⟩
        rw [mapTurned_cell ht1 _ hbm]
        exact HC.out j v hj
      · rw [upd_other _ _ _ _ e]
        simp only [e, if_false]
        exact (HR.out y hy).kept hg
    · by_cases e : y = x
      · simp only [e, if_true]; exact HONE.out.1
      · simp only [e, if_false]; exact HONE.out.2 y hy

/-- a copy of a row: nil of a nil one, else a row of its own -/
theorem appI {W : World} {ops : Array Oper} {rest : List Oper} {o : Oper} {A : Act} {Q : Exit → Act → World → Prop} (hgd : o.guard = none) (s x : Operand)
    (ho : o.op = .call { callee := .builtin .append, args := #[s, x], argTypes := #[22, 22] }) {ao : Option Addr} {n cap m c : Nat} {ad : Addr} {olds news : List Value} (hs : A.eval s = .slice ao n cap) (hx : A.eval x = .slice (some ad) m c)
    (hnone : ao = none → n = 0 ∧ cap = 0) (hlo : olds.length = n) (holds : ∀ b, ao = some b → ∀ j u, olds[j]? = some u → W.cell? (b.add j) = some u)
    (hn : news.length = m) (hc : ∀ j u, news[j]? = some u → W.cell? (ad.add j) = some u) (h1 : ∀ u ∈ news, u.oneCell' = true) (hfull : cap < n + m) (hle : n + m ≤ 1000000)
    (h : ∀ g cp W', (∀ j u, (olds ++ news)[j]? = some u → W'.cell? ⟨g, j, none⟩ = some u) → W.heap.size ≤ g → n + m ≤ cp → cp ≤ maxLen → W.grownBy W' none → wpList Try.prog ops Q rest (A.put o.dst (.slice (some ⟨g, 0, none⟩) (n + m) cp)) W') : wpList Try.prog ops Q (o :: rest) A W := by
  obtain ⟨i0, hi, hz0, hz1, hz2⟩ := info_parts infoIE
  refine wpList_append_grows W hgd s x 22 ho 3 i0 (.int .i64 0) 1 8 Try.underlying22 hi hz0 hz1 hz2 rfl (by decide) ao n cap olds hs hnone (by rw [Nat.mul_one]; exact hlo) holds ad m c news hx (by rw [Nat.mul_one]; exact hn) hc h1 hfull (by unfold maxLen; omega) (by omega) (fun v' W' hown hg => ?_)
  obtain ⟨hl, hown⟩ := hown
  rcases hown with ⟨_, h0⟩ | ⟨g, cp, cur, rfl, hb, hgb, hnc, hcm, hsz, ht⟩
  · omega
  · refine h g cp W' (fun j u hj => ?_) hb hnc hcm hg
    rw [← ht] at hj
    have hj' : j < (n + m) * 1 := by have := (List.getElem?_eq_some_iff.1 hj).1; simp at this; omega
    rw [List.getElem?_take_of_lt hj'] at hj
    simp only [World.cell?, hgb]
    simpa using hj
set_option maxRecDepth 100000 in
theorem cloneI_any (W : World) (b o n cap : Nat) (l : List Value) (hl : l.length = n) (hle : n ≤ 500000) (hone : ∀ u ∈ l, u.oneCell' = true) (hc : ∀ j v, l[j]? = some v → W.cell? ⟨b, o + j, none⟩ = some v) :
    Calls Try.prog 32 #[.slice (some ⟨b, o, none⟩) n cap] W (NewRow W n l) := by
  have hnil := fun W => Lib.run_eql_slice_nil (P := Try.prog) W 22 3 (some ⟨b, o, none⟩) n cap 0 0 Try.underlying22
  simp only [Option.isNone_some] at hnil
  by_cases h0 : n = 0
  · obtain ⟨i0, hi, hz0, hz1, hz2⟩ := info_parts infoIE
    have hl0 : l = [] := List.eq_nil_of_length_eq_zero (by omega)
    have hown : (W.alloc (.cells #[] 3)).ownsRow W.heap.size 3 1 (.slice (some ⟨W.heap.size, 0, none⟩) 0 0) 0 [] := ⟨rfl, .inr ⟨_, 0, #[], rfl, Nat.le_refl _, World.alloc_heap_new _ _, Nat.le_refl _, by decide, rfl, rfl⟩⟩
    subst h0
    have HL0 := Lib.hid hl0
    clear hl hl0 hc hone hle
    have hnews : ∀ (j : Nat) (u : Value), ([] : List Value)[j]? = some u → (W.alloc (.cells #[] 3)).cell? ((⟨b, o, none⟩ : Addr).add j) = some u := fun j u h => by simp at h
    have hsz : W.heap.size ≤ (W.alloc (.cells #[] 3)).heap.size := by simp
    go_enter Try.func32, Try.ntmps32
    go_wp2_with (at_builtin; refine wpList_append_own _ rfl _ _ _ rfl W.heap.size 3 i0 (.int .i64 0) 1 8 Try.underlying22 hi hz0 hz1 hz2 rfl Nat.zero_lt_one (.slice (some ⟨W.heap.size, 0, none⟩) 0 0) 0 [] rfl hown ⟨b, o, none⟩ 0 cap [] rfl rfl hnews (fun u h => absurd h List.not_mem_nil) (Nat.zero_le _) (Nat.zero_le _) hsz ?_; intro v' W1 hown1 hgrow1 hnil1)
    go_ret
    obtain ⟨_, hown2⟩ := hown1
    rcases hown2 with ⟨h1, _⟩ | ⟨g, cp, cur, h1, hb, hgb, hnc, hcm, hsz', ht⟩
    · have := hnil1.1 h1
      simp at this
    · refine ⟨g, cp, by rw [← h1]; rfl, Nat.zero_le _, hcm, hb, fun j v hj => by rw [HL0.out] at hj; simp at hj, ?_⟩
      exact ⟨hgrow1.os, hgrow1.tape, hgrow1.output, Nat.le_trans hsz hgrow1.size, fun k hk _ => (hgrow1.block k (by simp; omega) (fun e => by have := Option.some.inj e; simp at this; omega)).trans (Below.heap_alloc W _ k hk)⟩
  · have hn : 0 < n := by omega
    have hfull : 0 < 0 + n := by omega
    have hle' : 0 + n ≤ 1000000 := by omega
    have hnews : ∀ (j : Nat) (u : Value), l[j]? = some u → (W.alloc (.cells #[] 3)).cell? ((⟨b, o, none⟩ : Addr).add j) = some u := fun j u h => by
      rw [off_add]
      have h2 := hc j u h
      rw [← h2]
      unfold World.cell?
      rw [Below.heap_alloc W _ b (lt_of_cell h2)]
    have HN := Lib.hid hnews
    have HL := Lib.hid hl
    have HO := Lib.hid hone
    clear h0 hc hnews hl hone
    go_enter Try.func32, Try.ntmps32
    go_wp2_with (at_builtin; refine appI rfl _ _ rfl (ao := some ⟨W.heap.size, 0, none⟩) (olds := []) rfl rfl (fun h => nomatch h) rfl (fun b _ j u h => absurd h (by simp)) HL.out HN.out HO.out hfull hle' ?_; intro g cp W1 hc1 hg1 hncp hcpm hgrow1; have HC1 := Lib.hid hc1; clear hc1)
    go_ret
    refine ⟨g, cp, by simp, by omega, hcpm, Nat.le_trans (by simp) hg1, fun j v hj => HC1.out j v (by simpa using hj), (World.grownBy_alloc W _ none).trans hgrow1⟩

theorem peekI_none (W : World) (sb mb : Nat) (most : Int) (N : Nat) (L : Int → List Value) (h : LS 55 W sb mb most N L) (x : Int) (hx : iKE.ok x) (hL : L x = []) :
    Calls Try.prog 31 #[.pointer (some ⟨sb, 0, none⟩), .int .i64 x] W fun e W' => e = .returned (.tuple #[.int .i64 0, .bool false]) ∧ W = W' := by
  have c1 := h.s.cell 1
  simp only [List.getElem?_toArray, List.getElem?_cons_zero, List.getElem?_cons_succ] at c1
  obtain ⟨c, F, hc, hM, hr⟩ := h.m
  rcases hr x hx with ⟨hF, _⟩ | ⟨b, o, cap, hF, h1, _⟩
  · have hu : (F x).getD (.slice none 0 0) = .slice none 0 0 := by rw [hF]; rfl
    clear hF hL hr
    go_enter Try.func31, Try.ntmps31
    go_wp2_with (at_lookup; refine wpLook rfl _ _ rfl Try.underlying53 (zeroIL _) hM rfl (x := x) rfl hx hu ?_)
    refine wp_loop_rounds 1 ?_
    rw [rounds_succ]
    go_wp2
    go_ret2
    exact ⟨rfl, rfl⟩
  · exact absurd hL h1
theorem peekI_some (W : World) (sb mb : Nat) (most : Int) (N : Nat) (L : Int → List Value) (h : LS 55 W sb mb most N L) (x : Int) (hx : iKE.ok x) (v : Value) (l : List Value) (hL : L x = v :: l) :
    Calls Try.prog 31 #[.pointer (some ⟨sb, 0, none⟩), .int .i64 x] W fun e W' => e = .returned (.tuple #[v, .bool true]) ∧ W = W' := by
  have c1 := h.s.cell 1
  simp only [List.getElem?_toArray, List.getElem?_cons_zero, List.getElem?_cons_succ] at c1
  obtain ⟨c, F, hc, hM, hr⟩ := h.m
  rcases hr x hx with ⟨hF, h0⟩ | ⟨b, o, cap, hF, h1, h2, h3, h4, h5⟩
  · rw [hL] at h0; cases h0
  · have hu : (F x).getD (.slice none 0 0) = .slice (some ⟨b, o, none⟩) (l.length + 1) cap := by rw [hF, hL]; rfl
    have c0 : W.cell? ⟨b, o, none⟩ = some v := h5 0 v (by rw [hL]; rfl)
    have hlen : (0 : Int) < ((l.length + 1 : Nat) : Int) := by omega
    have hd : decide ((0 : Int) < (l.length : Int) + 1) = true := decide_eq_true (by omega)
    rw [hL] at h2
    simp only [List.length_cons] at h2
    unfold maxLen at h3
    have hlb : (l.length : Int) + 1 ≤ 9223372036854775807 := by omega
    clear hF hL hr h5 h1
    go_enter Try.func31, Try.ntmps31
    go_wp2_with (at_lookup; refine wpLook rfl _ _ rfl Try.underlying53 (zeroIL _) hM rfl (x := x) rfl hx hu ?_)
    refine wp_loop_rounds 1 ?_
    rw [rounds_succ]
    go_wp2
    go_ret2
    exact ⟨rfl, rfl⟩

set_option maxRecDepth 100000 in
theorem popI_none (W : World) (sb mb : Nat) (most : Int) (N : Nat) (L : Int → List Value) (h : LS 55 W sb mb most N L) (x : Int) (hx : iKE.ok x) (hL : L x = []) :
    Calls Try.prog 10 #[.pointer (some ⟨sb, 0, none⟩), .int .i64 x] W fun e W' => e = .returned (.tuple #[.int .i64 0, .bool false]) ∧ W = W' := by
  have hc := peekI_none W sb mb most N L h x hx hL
  have HC := Lib.hid hc
  clear hc h hL
  go_enter Try.func10, Try.ntmps10
  go_wp2_with (go_at_call 31; refine HC.out.mono ?_; rintro e w' ⟨rfl, rfl⟩)
  go_ret2
  exact ⟨rfl, rfl⟩
set_option maxRecDepth 100000 in
theorem popI_some (W : World) (sb mb : Nat) (most : Int) (N : Nat) (L : Int → List Value) (h : LS 55 W sb mb most N L) (hN : N < maxLen) (x : Int) (hx : iKE.ok x) (v : Value) (l : List Value) (hL : L x = v :: l) (hle : l.length ≤ 500000) :
    Calls Try.prog 10 #[.pointer (some ⟨sb, 0, none⟩), .int .i64 x] W fun e W' => e = .returned (.tuple #[v, .bool true]) ∧ LS 55 W' sb mb most (N + 1) (fun y => if y = x then l else L y) ∧ W.grownBy W' (some mb) := by
  have HC := Lib.hid (peekI_some W sb mb most N L h x hx v l hL)
  have H := Lib.hid h
  have hone : ∀ u ∈ l, u.oneCell' = true := fun u hu => h.one x hx u (by rw [hL]; exact List.mem_cons_of_mem _ hu)
  have c1 := h.s.cell 1
  simp only [List.getElem?_toArray, List.getElem?_cons_zero, List.getElem?_cons_succ] at c1
  obtain ⟨c, F, hc, hM, hr⟩ := h.m
  rcases hr x hx with ⟨hF, h0⟩ | ⟨b, o, cap, hF, h1, h2, h3, h4, h5⟩
  · rw [hL] at h0; cases h0
  have hu : (F x).getD (.slice none 0 0) = .slice (some ⟨b, o, none⟩) (l.length + 1) cap := by rw [hF, hL]; rfl
  rw [hL] at h2
  simp only [List.length_cons] at h2
  unfold maxLen at h3
  have htl : ∀ j u, l[j]? = some u → W.cell? ⟨b, o + 1 + j, none⟩ = some u := fun j u hj => by
    have := h5 (j + 1) u (by rw [hL]; exact hj)
    rw [show o + 1 + j = o + (j + 1) from by omega]; exact this
  have Hone := Lib.hid hone
  have Htl := Lib.hid htl
  have HS : Hid (∀ W2 g cp, (∀ j u, l[j]? = some u → W2.cell? ⟨g, j, none⟩ = some u) → l.length ≤ cp → cp ≤ maxLen → g ≠ mb → W.grownBy W2 none → Calls Try.prog 29 #[.pointer (some ⟨sb, 0, none⟩), .int .i64 x, .slice (some ⟨g, 0, none⟩) l.length cp] W2 fun e W' => e = .returned (.tuple #[]) ∧ LS 55 W' sb mb most (N + 1) (fun y => if y = x then l else L y) ∧ W2.grownBy W' (some mb)) :=
    Lib.hid (fun W2 g cp hcl hl1 hl2 hg hgr => setI_any W2 sb mb most N L (h.kept hgr) hN x hx (some ⟨g, 0, none⟩) l.length cp l rfl ⟨hl1, hl2⟩ hone (fun _ => ⟨g, 0, rfl, hg, fun j u hj => by rw [Nat.zero_add]; exact hcl j u hj⟩))
  have hmlt := hM.lt
  clear hF hr h5 h1 htl hone h hL hc
  by_cases hcap : 1 < cap
  · have hcl := Lib.hid (cloneI_any W b (o + 1) l.length (cap - 1) l rfl hle Hone.out Htl.out)
    go_enter Try.func10, Try.ntmps10
    go_wp2_with (first | (go_at_call 31; refine HC.out.mono ?_; rintro e w' ⟨rfl, rfl⟩) | (at_lookup; refine wpLook rfl _ _ rfl Try.underlying53 (zeroIL _) hM rfl (x := x) rfl hx hu ?_))
    refine hcl.out.mono ?_
    rintro e W2 ⟨g, cp, rfl, g1, g2, g3, g4, g5⟩
    have hset := Lib.hid (HS.out W2 g cp g4 g1 g2 (by omega) g5)
    clear g4
    go_wp2_with fail
    refine hset.out.mono ?_
    rintro e W3 ⟨rfl, hls, hg3⟩
    go_wp2
    go_ret2
    exact ⟨rfl, hls, (show W.grownBy W2 (some mb) from ⟨g5.os, g5.tape, g5.output, g5.size, fun k h1 _ => g5.block k h1 (by simp)⟩).trans hg3⟩
  · obtain rfl : cap = 1 := by omega
    have hl0 : l.length = 0 := by omega
    have hlnil : l = [] := List.eq_nil_of_length_eq_zero hl0
    subst hlnil
    have hcl := Lib.hid (cloneI_any W b o 0 0 [] rfl (by omega) (fun u hu => absurd hu List.not_mem_nil) (fun j v hj => by simp at hj))
    clear hl0
    simp only [List.length_nil, Nat.zero_add] at hu
    go_enter Try.func10, Try.ntmps10
    go_wp2_with (first | (go_at_call 31; refine HC.out.mono ?_; rintro e w' ⟨rfl, rfl⟩) | (at_lookup; refine wpLook rfl _ _ rfl Try.underlying53 (zeroIL _) hM rfl (x := x) rfl hx hu ?_))
    refine hcl.out.mono ?_
    rintro e W2 ⟨g, cp, rfl, g1, g2, g3, g4, g5⟩
    have hset := Lib.hid (HS.out W2 g cp g4 g1 g2 (by omega) g5)
    clear g4
    go_wp2_with fail
    refine hset.out.mono ?_
    rintro e W3 ⟨rfl, hls, hg3⟩
    go_wp2
    go_ret2
    exact ⟨rfl, hls, (show W.grownBy W2 (some mb) from ⟨g5.os, g5.tape, g5.output, g5.size, fun k h1 _ => g5.block k h1 (by simp)⟩).trans hg3⟩

set_option maxRecDepth 100000 in
theorem pushI_full (W : World) (sb mb : Nat) (most : Int) (N : Nat) (L : Int → List Value) (h : LS 55 W sb mb most N L) (x : Int) (hx : iKE.ok x) (t : Int) (hf : most ≤ (L x).length) :
    Calls Try.prog 8 #[.pointer (some ⟨sb, 0, none⟩), .int .i64 x, Value.int .i64 t] W fun e W' => e = .returned (.int .i64 4) ∧ ∃ n, W' = W.drewN n := by
  have hd : decide (most ≤ (L x).length) = true := decide_eq_true hf
  have HC := Lib.hid (fullI_any W sb mb most N L h x hx)
  rw [hd] at HC
  clear h hf hd
  go_enter Try.func8, Try.ntmps8
  go_wp2_with (go_at_call 28; refine HC.out.mono ?_; rintro e w' ⟨rfl, n, rfl⟩)
  go_ret
  exact ⟨rfl, _, rfl⟩
set_option maxRecDepth 100000 in
theorem pushI_room (W : World) (sb mb : Nat) (most : Int) (N : Nat) (L : Int → List Value) (h : LS 55 W sb mb most N L) (hN : N < maxLen) (hm : most ≤ 65536) (x : Int) (hx : iKE.ok x) (t : Int) (hf : ¬ most ≤ (L x).length) :
    Calls Try.prog 8 #[.pointer (some ⟨sb, 0, none⟩), .int .i64 x, Value.int .i64 t] W fun e W' => e = .returned (.int .i64 0) ∧ LS 55 W' sb mb most (N + 1) (fun y => if y = x then L x ++ [Value.int .i64 t] else L y) ∧ W.grownBy W' (some mb) := by
  have hd : decide (most ≤ (L x).length) = false := decide_eq_false hf
  have HC := Lib.hid (fullI_any W sb mb most N L h x hx)
  rw [hd] at HC
  have hlen : (L x).length ≤ 65536 := by omega
  have hone : ∀ v ∈ L x ++ [Value.int .i64 t], v.oneCell' = true := fun v hv => by
    rcases List.mem_append.1 hv with h1 | h1
    · exact h.one x hx v h1
    · rw [List.mem_singleton.1 h1]; rfl
  have HS : Hid (∀ W2 g cp n, n = (L x).length + 1 → (∀ j u, (L x ++ [Value.int .i64 t])[j]? = some u → W2.cell? ⟨g, j, none⟩ = some u) → n ≤ cp → cp ≤ maxLen → g ≠ mb → W.grownBy W2 none → Calls Try.prog 29 #[.pointer (some ⟨sb, 0, none⟩), .int .i64 x, .slice (some ⟨g, 0, none⟩) n cp] W2 fun e W' => e = .returned (.tuple #[]) ∧ LS 55 W' sb mb most (N + 1) (fun y => if y = x then L x ++ [Value.int .i64 t] else L y) ∧ W2.grownBy W' (some mb)) :=
    Lib.hid (fun W2 g cp n hn hcl hl1 hl2 hg hgr => setI_any W2 sb mb most N L (h.kept hgr) hN x hx (some ⟨g, 0, none⟩) n cp _ (by rw [hn]; simp) ⟨hl1, hl2⟩ hone (fun _ => ⟨g, 0, rfl, hg, fun j u hj => by rw [Nat.zero_add]; exact hcl j u hj⟩))
  have HH : Hid (∀ n, LS 55 (W.drewN n) sb mb most N L) := Lib.hid (fun n => h.kept ⟨rfl, rfl, rfl, Nat.le_refl _, fun _ _ _ => rfl⟩)
  have c1 := h.s.cell 1
  simp only [List.getElem?_toArray, List.getElem?_cons_zero, List.getElem?_cons_succ] at c1
  obtain ⟨c, F, hc, hM, hr⟩ := h.m
  have hmlt := hM.lt
  have hMd : ∀ n, Mp iKE (W.drewN n) mb c F := fun n => hM.kept (row := none) ⟨rfl, rfl, rfl, Nat.le_refl _, fun _ _ _ => rfl⟩ (by simp)
  have HMd := Lib.hid hMd
  clear hM hMd hd hone h hc hf
  rcases hr x hx with ⟨hF, h0⟩ | ⟨b, o, cap, hF, h1, h2, h3, h4, h5⟩
  · have hu : (F x).getD (.slice none 0 0) = .slice none 0 0 := by rw [hF]; rfl
    have HL0 := Lib.hid h0
    clear hF hr h0
    have hnews : ∀ n, ∀ (j : Nat) (u : Value), [Value.int .i64 t][j]? = some u → ((W.drewN n).alloc (.cells #[Value.int .i64 t] 3)).cell? ((⟨W.heap.size, 0, none⟩ : Addr).add j) = some u := fun n => cell_one_new (W.drewN n) (Value.int .i64 t) 3
    have HN := Lib.hid hnews
    clear hnews
    go_enter Try.func8, Try.ntmps8
    go_wp2_with (first | (go_at_call 28; refine HC.out.mono ?_; rintro e w' ⟨rfl, nd, rfl⟩) | (at_lookup; refine wpLook rfl _ _ rfl Try.underlying53 (zeroIL _) (HMd.out _) rfl (x := x) rfl hx hu ?_) | (go_at_call 30; refine (clipI_any _ none 0 0 (Nat.le_refl _) (Nat.zero_le _) (fun _ => ⟨rfl, rfl⟩)).mono ?_; rintro e w' ⟨rfl, rfl⟩) | (at_builtin; refine appI rfl _ _ rfl (olds := []) (news := [Value.int .i64 t]) rfl rfl (fun _ => ⟨rfl, rfl⟩) rfl (fun b h => nomatch h) rfl (HN.out _) (fun u hu => by rw [List.mem_singleton.1 hu]; rfl) Nat.zero_lt_one (by decide) ?_; intro g cp W1 hc1 hg1 hncp hcpm hgrow1; have HC1 := Lib.hid hc1; clear hc1))
    have hgr : W.grownBy W1 none := (show W.grownBy ((W.drewN nd).alloc (.cells #[Value.int .i64 t] 3)) none from (show W.grownBy (W.drewN nd) none from ⟨rfl, rfl, rfl, Nat.le_refl _, fun _ _ _ => rfl⟩).trans (World.grownBy_alloc _ _ none)).trans hgrow1
    have hgm : g ≠ mb := by
      have : W.heap.size ≤ g := Nat.le_trans (by simp) hg1
      omega
    refine (HS.out W1 g cp 1 (by rw [HL0.out]; rfl) (fun j u hj => HC1.out j u (by rw [HL0.out] at hj; simpa using hj)) hncp hcpm hgm hgr).mono ?_
    rintro e W3 ⟨rfl, hls, hg3⟩
    go_wp2
    go_ret
    exact ⟨rfl, hls, (show W.grownBy W1 (some mb) from ⟨hgr.os, hgr.tape, hgr.output, hgr.size, fun k h1 _ => hgr.block k h1 (by simp)⟩).trans hg3⟩
  · have hu : (F x).getD (.slice none 0 0) = .slice (some ⟨b, o, none⟩) (L x).length cap := by rw [hF]; rfl
    have hold : ∀ n, ∀ (ad : Addr), some (⟨b, o, none⟩ : Addr) = some ad → ∀ (j : Nat) (u : Value), (L x)[j]? = some u → ((W.drewN n).alloc (.cells #[Value.int .i64 t] 3)).cell? (ad.add j) = some u := fun n ad e j u hj => by
      obtain rfl := Option.some.inj e
      rw [off_add]
      have h6 := h5 j u hj
      rw [← h6]
      unfold World.cell?
      rw [Below.heap_alloc (W.drewN n) _ b (lt_of_cell h6)]
      rfl
    have HO := Lib.hid hold
    have hnews : ∀ n, ∀ (j : Nat) (u : Value), [Value.int .i64 t][j]? = some u → ((W.drewN n).alloc (.cells #[Value.int .i64 t] 3)).cell? ((⟨W.heap.size, 0, none⟩ : Addr).add j) = some u := fun n => cell_one_new (W.drewN n) (Value.int .i64 t) 3
    have HN := Lib.hid hnews
    unfold maxLen at h3
    have hfull : (L x).length < (L x).length + 1 := Nat.lt_succ_self _
    have hle : (L x).length + 1 ≤ 1000000 := by omega
    clear hnews hold hF hr h5 h1
    go_enter Try.func8, Try.ntmps8
    go_wp2_with (first | (go_at_call 28; refine HC.out.mono ?_; rintro e w' ⟨rfl, nd, rfl⟩) | (at_lookup; refine wpLook rfl _ _ rfl Try.underlying53 (zeroIL _) (HMd.out _) rfl (x := x) rfl hx hu ?_) | (go_at_call 30; refine (clipI_any _ (some ⟨b, o, none⟩) (L x).length cap h2 h3 (fun h => nomatch h)).mono ?_; rintro e w' ⟨rfl, rfl⟩) | (at_builtin; refine appI rfl _ _ rfl (olds := L x) (news := [Value.int .i64 t]) rfl rfl (fun h => nomatch h) rfl (HO.out _) rfl (HN.out _) (fun u hu => by rw [List.mem_singleton.1 hu]; rfl) hfull hle ?_; intro g cp W1 hc1 hg1 hncp hcpm hgrow1; have HC1 := Lib.hid hc1; clear hc1))
    have hgr : W.grownBy W1 none := (show W.grownBy ((W.drewN nd).alloc (.cells #[Value.int .i64 t] 3)) none from (show W.grownBy (W.drewN nd) none from ⟨rfl, rfl, rfl, Nat.le_refl _, fun _ _ _ => rfl⟩).trans (World.grownBy_alloc _ _ none)).trans hgrow1
    have hgm : g ≠ mb := by
      have : W.heap.size ≤ g := Nat.le_trans (by simp) hg1
      omega
    refine (HS.out W1 g cp ((L x).length + 1) (rfl) (HC1.out) hncp hcpm hgm hgr).mono ?_
    rintro e W3 ⟨rfl, hls, hg3⟩
    go_wp2
    go_ret
    exact ⟨rfl, hls, (show W.grownBy W1 (some mb) from ⟨hgr.os, hgr.tape, hgr.output, hgr.size, fun k h1 _ => hgr.block k h1 (by simp)⟩).trans hg3⟩
/-- new lists -/
theorem newI_yes (W : World) (most : Int) (h1 : 1 ≤ most) (h2 : most ≤ 65536) :
    Calls Try.prog 7 #[.int .i64 most] W fun e W' => e = .returned (.tuple #[.pointer (some ⟨W.heap.size + 1, 0, none⟩), .int .i64 0]) ∧ LS 55 W' (W.heap.size + 1) W.heap.size most 0 (fun _ => []) ∧ W' = (W.alloc (.map #[] 0)).alloc (.cells #[.int .i64 most, .map (some W.heap.size)] 55) := by
  have hmm := @run_makeMap Try.prog
  have p1 : decide (most < 1) = false := decide_eq_false (by omega)
  have p2 : decide (65536 < most) = false := decide_eq_false (by omega)
  have hB := Blk.new (W.alloc (.map #[] 0)) 55 #[.int .i64 most, .map (some W.heap.size)]
  rw [World.size_alloc] at hB
  have hls : LS 55 ((W.alloc (.map #[] 0)).alloc (.cells #[.int .i64 most, .map (some W.heap.size)] 55)) (W.heap.size + 1) W.heap.size most 0 (fun _ => []) :=
    ⟨hB, ⟨0, _, Nat.le_refl _, (Mp.made iKE W).alloc _, fun x _ => .inl ⟨rfl, rfl⟩⟩, fun x _ v hv => absurd hv List.not_mem_nil⟩
  have HLS := Lib.hid hls
  clear hls hB
  go_enter Try.func7, Try.ntmps7
  go_wp2
  go_ret2
  exact ⟨rfl, HLS.out, rfl⟩

/-! instance S -/
theorem zeroSL (W : World) : (zeroValue 75).run Try.prog W = .ok (.slice none 0 0) W := by kernel_rfl
theorem infoSE : (Try.prog.info? 9).map (fun i => (i.zero, i.size, i.bytes)) = some (some (.string ByteArray.empty), 1, 16) := by kernel_rfl
set_option maxRecDepth 100000 in
theorem lenS_any (W : World) (sb mb : Nat) (most : Int) (N : Nat) (L : Int → List Value) (h : LS 73 W sb mb most N L) (x : Int) (hx : iKE.ok x) :
    Calls Try.prog 26 #[.pointer (some ⟨sb, 0, none⟩), .int .i64 x] W fun e W' => e = .returned (.int .i64 ((L x).length : Int)) ∧ W = W' := by
  have c1 := h.s.cell 1
  simp only [List.getElem?_toArray, List.getElem?_cons_zero, List.getElem?_cons_succ] at c1
  obtain ⟨c, F, hc, hM, hr⟩ := h.m
  rcases hr x hx with ⟨hF, hL⟩ | ⟨b, o, cap, hF, h1, h2, h3, h4, h5⟩
  · have hu : (F x).getD (.slice none 0 0) = .slice none 0 0 := by rw [hF]; rfl
    have HL := Lib.hid hL
    clear hF hL hr
    go_enter Try.func26, Try.ntmps26
    go_wp2_with (at_lookup; refine wpLook rfl _ _ rfl Try.underlying71 (zeroSL _) hM rfl (x := x) rfl hx hu ?_)
    go_ret
    exact ⟨by rw [HL.out]; rfl, rfl⟩
  · have hu : (F x).getD (.slice none 0 0) = .slice (some ⟨b, o, none⟩) (L x).length cap := by rw [hF]; rfl
    clear hF hr
    go_enter Try.func26, Try.ntmps26
    go_wp2_with (at_lookup; refine wpLook rfl _ _ rfl Try.underlying71 (zeroSL _) hM rfl (x := x) rfl hx hu ?_)
    go_ret
    exact ⟨rfl, rfl⟩
set_option maxRecDepth 100000 in
theorem fullS_any (W : World) (sb mb : Nat) (most : Int) (N : Nat) (L : Int → List Value) (h : LS 73 W sb mb most N L) (x : Int) (hx : iKE.ok x) :
    Calls Try.prog 27 #[.pointer (some ⟨sb, 0, none⟩), .int .i64 x] W fun e W' => e = .returned (.bool (decide (most ≤ (L x).length))) ∧ ∃ n, W' = W.drewN n := by
  have c0 := h.s.cell 0
  simp only [List.getElem?_toArray, List.getElem?_cons_zero, List.getElem?_cons_succ] at c0
  have H : Hid (∀ n, LS 73 (W.drewN n) sb mb most N L) := Lib.hid (fun n => h.kept ⟨rfl, rfl, rfl, Nat.le_refl _, fun _ _ _ => rfl⟩)
  clear h
  go_enter Try.func27, Try.ntmps27
  go_wp2
  go_quiet ((go_at_call 26; exact Calls.quiet_of_same ((lenS_any _ sb mb most N L (H.out _) x hx).mono (fun _ _ h => ⟨h.1, h.2.symm⟩))))
  go_wp2
  go_ret
  exact ⟨rfl, _, rfl⟩
set_option maxRecDepth 100000 in
theorem clipS_any (W : World) (ao : Option Addr) (n cap : Nat) (hn : n ≤ cap) (hc : cap ≤ 9223372036854775807) (h0 : ao = none → n = 0 ∧ cap = 0) :
    Calls Try.prog 40 #[.slice ao n cap] W fun e W' => e = .returned (.slice ao n n) ∧ W = W' := by
  cases ao with
  | none =>
    obtain ⟨rfl, rfl⟩ := h0 rfl
    go_enter Try.func40, Try.ntmps40
    go_wp2
    go_ret
    exact ⟨rfl, rfl⟩
  | some a =>
    clear h0
    go_enter Try.func40, Try.ntmps40
    go_wp2
    go_ret
    exact ⟨rfl, rfl⟩
set_option maxRecDepth 100000 in
/-- a list is given a row -/
theorem setS_any (W : World) (sb mb : Nat) (most : Int) (N : Nat) (L : Int → List Value) (h : LS 73 W sb mb most N L) (hN : N < maxLen) (x : Int) (hx : iKE.ok x) (ao : Option Addr) (n cap : Nat) (l : List Value) (hl : l.length = n) (hcap : n ≤ cap ∧ cap ≤ maxLen) (hone : ∀ v ∈ l, v.oneCell' = true)
    (hrow : n ≠ 0 → ∃ b o, ao = some ⟨b, o, none⟩ ∧ b ≠ mb ∧ ∀ j v, l[j]? = some v → W.cell? ⟨b, o + j, none⟩ = some v) :
    Calls Try.prog 39 #[.pointer (some ⟨sb, 0, none⟩), .int .i64 x, .slice ao n cap] W fun e W' => e = .returned (.tuple #[]) ∧ LS 73 W' sb mb most (N + 1) (fun y => if y = x then l else L y) ∧ W.grownBy W' (some mb) := by
  have c1 := h.s.cell 1
  simp only [List.getElem?_toArray, List.getElem?_cons_zero, List.getElem?_cons_succ] at c1
  have hs := h.s
  obtain ⟨c, F, hc, hM, hr⟩ := h.m
  have hsm : sb ≠ mb := fun e => by
    obtain ⟨D, ⟨es, cl, hb, _⟩, _⟩ := hM
    have := hs
    unfold Blk at this
    rw [e] at this
    rw [this] at hb
    cases hb
  have hcm : c < maxLen := by omega
  have HONE : Hid ((∀ v ∈ l, v.oneCell' = true) ∧ ∀ y, iKE.ok y → ∀ v ∈ L y, v.oneCell' = true) := Lib.hid ⟨hone, h.one⟩
  have HR := Lib.hid hr
  have HROW := Lib.hid hrow
  have HL := Lib.hid hl
  clear hr hrow hl hone
  by_cases h0 : n = 0
  · have p0 : ((n : Int) == 0) = true := by rw [beq_iff_eq]; omega
    have H0 := Lib.hid h0
    clear h0
    go_enter Try.func39, Try.ntmps39
    go_wp2_with (at_delete; refine wpDrop rfl _ _ _ _ rfl rfl Try.underlying71 hM rfl (x := x) rfl hx ?_; intro W1 hM1 ht1)
    refine bodyPost_ret (results_none rfl _ _ _) rfl ⟨rfl, ?_, ht1.grown⟩
    have hg := ht1.grown
    refine ⟨hs.kept hg (fun e => hsm (Option.some.inj e)), ⟨_, _, ?_, hM1, fun y hy => ?_⟩, fun y hy => ?_⟩
    · split <;> omega
    · by_cases e : y = x
      · subst e
        rw [upd_same]
        simp only [if_true]
        exact .inl ⟨rfl, List.eq_nil_of_length_eq_zero (by rw [HL.out]; exact H0.out)⟩
      · rw [upd_other _ _ _ _ e]
        simp only [e, if_false]
        exact (HR.out y hy).kept hg
    · by_cases e : y = x
      · simp only [e, if_true]; exact HONE.out.1
      · simp only [e, if_false]; exact HONE.out.2 y hy
  · have p0 : ((n : Int) == 0) = false := by rw [beq_eq_false_iff_ne]; omega
    obtain ⟨b, o, hao, hbm, hcell⟩ := HROW.out h0
    have HC := Lib.hid hcell
    have H0 := Lib.hid h0
    clear hcell h0
    subst hao
    go_enter Try.func39, Try.ntmps39
    go_wp2_with (at_mapUpdate; refine wpStore rfl _ _ _ rfl Try.underlying71 hM hcm rfl (x := x) rfl hx rfl ?_; intro W1 hM1 ht1)
    go_end0
    have hg := ht1.grown
    refine ⟨rfl, ⟨hs.kept hg (fun e => hsm (Option.some.inj e)), ⟨_, _, ?_, hM1, fun y hy => ?_⟩, fun y hy => ?_⟩, hg⟩
    · split <;> omega
    · by_cases e : y = x
      · subst e
        rw [upd_same]
        simp only [if_true]
        refine .inr ⟨b, o, cap, by rw [HL.out]; rfl, fun e => H0.out (by rw [← HL.out, e]; rfl), by rw [HL.out]; exact hcap.1, hcap.2, hbm, fun j v hj => ?_⟩
        rw [mapTurned_cell ht1 _ hbm]
        exact HC.out j v hj
      · rw [upd_other _ _ _ _ e]
        simp only [e, if_false]
        exact (HR.out y hy).kept hg
    · by_cases e : y = x
      · simp only [e, if_true]; exact HONE.out.1
      · simp only [e, if_false]; exact HONE.out.2 y hy

/-- a copy of a row: nil of a nil one, else a row of its own -/
theorem appS {W : World} {ops : Array Oper} {rest : List Oper} {o : Oper} {A : Act} {Q : Exit → Act → World → Prop} (hgd : o.guard = none) (s x : Operand)
    (ho : o.op = .call { callee := .builtin .append, args := #[s, x], argTypes := #[75, 75] }) {ao : Option Addr} {n cap m c : Nat} {ad : Addr} {olds news : List Value} (hs : A.eval s = .slice ao n cap) (hx : A.eval x = .slice (some ad) m c)
    (hnone : ao = none → n = 0 ∧ cap = 0) (hlo : olds.length = n) (holds : ∀ b, ao = some b → ∀ j u, olds[j]? = some u → W.cell? (b.add j) = some u)
    (hn : news.length = m) (hc : ∀ j u, news[j]? = some u → W.cell? (ad.add j) = some u) (h1 : ∀ u ∈ news, u.oneCell' = true) (hfull : cap < n + m) (hle : n + m ≤ 1000000)
    (h : ∀ g cp W', (∀ j u, (olds ++ news)[j]? = some u → W'.cell? ⟨g, j, none⟩ = some u) → W.heap.size ≤ g → n + m ≤ cp → cp ≤ maxLen → W.grownBy W' none → wpList Try.prog ops Q rest (A.put o.dst (.slice (some ⟨g, 0, none⟩) (n + m) cp)) W') : wpList Try.prog ops Q (o :: rest) A W := by
  obtain ⟨i0, hi, hz0, hz1, hz2⟩ := info_parts infoSE
  refine wpList_append_grows W hgd s x 75 ho 9 i0 (.string ByteArray.empty) 1 16 Try.underlying75 hi hz0 hz1 hz2 rfl (by decide) ao n cap olds hs hnone (by rw [Nat.mul_one]; exact hlo) holds ad m c news hx (by rw [Nat.mul_one]; exact hn) hc h1 hfull (by unfold maxLen; omega) (by omega) (fun v' W' hown hg => ?_)
  obtain ⟨hl, hown⟩ := hown
  rcases hown with ⟨_, h0⟩ | ⟨g, cp, cur, rfl, hb, hgb, hnc, hcm, hsz, ht⟩
  · omega
  · refine h g cp W' (fun j u hj => ?_) hb hnc hcm hg
    rw [← ht] at hj
    have hj' : j < (n + m) * 1 := by have := (List.getElem?_eq_some_iff.1 hj).1; simp at this; omega
    rw [List.getElem?_take_of_lt hj'] at hj
    simp only [World.cell?, hgb]
    simpa using hj
set_option maxRecDepth 100000 in
theorem cloneS_any (W : World) (b o n cap : Nat) (l : List Value) (hl : l.length = n) (hle : n ≤ 500000) (hone : ∀ u ∈ l, u.oneCell' = true) (hc : ∀ j v, l[j]? = some v → W.cell? ⟨b, o + j, none⟩ = some v) :
    Calls Try.prog 41 #[.slice (some ⟨b, o, none⟩) n cap] W (NewRow W n l) := by
  have hnil := fun W => Lib.run_eql_slice_nil (P := Try.prog) W 75 9 (some ⟨b, o, none⟩) n cap 0 0 Try.underlying75
  simp only [Option.isNone_some] at hnil
  by_cases h0 : n = 0
  · obtain ⟨i0, hi, hz0, hz1, hz2⟩ := info_parts infoSE
    have hl0 : l = [] := List.eq_nil_of_length_eq_zero (by omega)
    have hown : (W.alloc (.cells #[] 9)).ownsRow W.heap.size 9 1 (.slice (some ⟨W.heap.size, 0, none⟩) 0 0) 0 [] := ⟨rfl, .inr ⟨_, 0, #[], rfl, Nat.le_refl _, World.alloc_heap_new _ _, Nat.le_refl _, by decide, rfl, rfl⟩⟩
    subst h0
    have HL0 := Lib.hid hl0
    clear hl hl0 hc hone hle
    have hnews : ∀ (j : Nat) (u : Value), ([] : List Value)[j]? = some u → (W.alloc (.cells #[] 9)).cell? ((⟨b, o, none⟩ : Addr).add j) = some u := fun j u h => by simp at h
    have hsz : W.heap.size ≤ (W.alloc (.cells #[] 9)).heap.size := by simp
    go_enter Try.func41, Try.ntmps41
    go_wp2_with (at_builtin; refine wpList_append_own _ rfl _ _ _ rfl W.heap.size 9 i0 (.string ByteArray.empty) 1 16 Try.underlying75 hi hz0 hz1 hz2 rfl Nat.zero_lt_one (.slice (some ⟨W.heap.size, 0, none⟩) 0 0) 0 [] rfl hown ⟨b, o, none⟩ 0 cap [] rfl rfl hnews (fun u h => absurd h List.not_mem_nil) (Nat.zero_le _) (Nat.zero_le _) hsz ?_; intro v' W1 hown1 hgrow1 hnil1)
    go_ret
    obtain ⟨_, hown2⟩ := hown1
    rcases hown2 with ⟨h1, _⟩ | ⟨g, cp, cur, h1, hb, hgb, hnc, hcm, hsz', ht⟩
    · have := hnil1.1 h1
      simp at this
    · refine ⟨g, cp, by rw [← h1]; rfl, Nat.zero_le _, hcm, hb, fun j v hj => by rw [HL0.out] at hj; simp at hj, ?_⟩
      exact ⟨hgrow1.os, hgrow1.tape, hgrow1.output, Nat.le_trans hsz hgrow1.size, fun k hk _ => (hgrow1.block k (by simp; omega) (fun e => by have := Option.some.inj e; simp at this; omega)).trans (Below.heap_alloc W _ k hk)⟩
  · have hn : 0 < n := by omega
    have hfull : 0 < 0 + n := by omega
    have hle' : 0 + n ≤ 1000000 := by omega
    have hnews : ∀ (j : Nat) (u : Value), l[j]? = some u → (W.alloc (.cells #[] 9)).cell? ((⟨b, o, none⟩ : Addr).add j) = some u := fun j u h => by
      rw [off_add]
      have h2 := hc j u h
      rw [← h2]
      unfold World.cell?
      rw [Below.heap_alloc W _ b (lt_of_cell h2)]
    have HN := Lib.hid hnews
    have HL := Lib.hid hl
    have HO := Lib.hid hone
    clear h0 hc hnews hl hone
    go_enter Try.func41, Try.ntmps41
    go_wp2_with (at_builtin; refine appS rfl _ _ rfl (ao := some ⟨W.heap.size, 0, none⟩) (olds := []) rfl rfl (fun h => nomatch h) rfl (fun b _ j u h => absurd h (by simp)) HL.out HN.out HO.out hfull hle' ?_; intro g cp W1 hc1 hg1 hncp hcpm hgrow1; have HC1 := Lib.hid hc1; clear hc1)
    go_ret
    refine ⟨g, cp, by simp, by omega, hcpm, Nat.le_trans (by simp) hg1, fun j v hj => HC1.out j v (by simpa using hj), (World.grownBy_alloc W _ none).trans hgrow1⟩

theorem peekS_none (W : World) (sb mb : Nat) (most : Int) (N : Nat) (L : Int → List Value) (h : LS 73 W sb mb most N L) (x : Int) (hx : iKE.ok x) (hL : L x = []) :
    Calls Try.prog 25 #[.pointer (some ⟨sb, 0, none⟩), .int .i64 x] W fun e W' => e = .returned (.tuple #[.string ByteArray.empty, .bool false]) ∧ W = W' := by
  have c1 := h.s.cell 1
  simp only [List.getElem?_toArray, List.getElem?_cons_zero, List.getElem?_cons_succ] at c1
  obtain ⟨c, F, hc, hM, hr⟩ := h.m
  rcases hr x hx with ⟨hF, _⟩ | ⟨b, o, cap, hF, h1, _⟩
  · have hu : (F x).getD (.slice none 0 0) = .slice none 0 0 := by rw [hF]; rfl
    clear hF hL hr
    go_enter Try.func25, Try.ntmps25
    go_wp2_with (at_lookup; refine wpLook rfl _ _ rfl Try.underlying71 (zeroSL _) hM rfl (x := x) rfl hx hu ?_)
    refine wp_loop_rounds 1 ?_
    rw [rounds_succ]
    go_wp2
    go_ret2
    exact ⟨rfl, rfl⟩
  · exact absurd hL h1
theorem peekS_some (W : World) (sb mb : Nat) (most : Int) (N : Nat) (L : Int → List Value) (h : LS 73 W sb mb most N L) (x : Int) (hx : iKE.ok x) (v : Value) (l : List Value) (hL : L x = v :: l) :
    Calls Try.prog 25 #[.pointer (some ⟨sb, 0, none⟩), .int .i64 x] W fun e W' => e = .returned (.tuple #[v, .bool true]) ∧ W = W' := by
  have c1 := h.s.cell 1
  simp only [List.getElem?_toArray, List.getElem?_cons_zero, List.getElem?_cons_succ] at c1
  obtain ⟨c, F, hc, hM, hr⟩ := h.m
  rcases hr x hx with ⟨hF, h0⟩ | ⟨b, o, cap, hF, h1, h2, h3, h4, h5⟩
  · rw [hL] at h0; cases h0
  · have hu : (F x).getD (.slice none 0 0) = .slice (some ⟨b, o, none⟩) (l.length + 1) cap := by rw [hF, hL]; rfl
    have c0 : W.cell? ⟨b, o, none⟩ = some v := h5 0 v (by rw [hL]; rfl)
    have hlen : (0 : Int) < ((l.length + 1 : Nat) : Int) := by omega
    have hd : decide ((0 : Int) < (l.length : Int) + 1) = true := decide_eq_true (by omega)
    rw [hL] at h2
    simp only [List.length_cons] at h2
    unfold maxLen at h3
    have hlb : (l.length : Int) + 1 ≤ 9223372036854775807 := by omega
    clear hF hL hr h5 h1
    go_enter Try.func25, Try.ntmps25
    go_wp2_with (at_lookup; refine wpLook rfl _ _ rfl Try.underlying71 (zeroSL _) hM rfl (x := x) rfl hx hu ?_)
    refine wp_loop_rounds 1 ?_
    rw [rounds_succ]
    go_wp2
    go_ret2
    exact ⟨rfl, rfl⟩

set_option maxRecDepth 100000 in
theorem popS_none (W : World) (sb mb : Nat) (most : Int) (N : Nat) (L : Int → List Value) (h : LS 73 W sb mb most N L) (x : Int) (hx : iKE.ok x) (hL : L x = []) :
    Calls Try.prog 24 #[.pointer (some ⟨sb, 0, none⟩), .int .i64 x] W fun e W' => e = .returned (.tuple #[.string ByteArray.empty, .bool false]) ∧ W = W' := by
  have hc := peekS_none W sb mb most N L h x hx hL
  have HC := Lib.hid hc
  clear hc h hL
  go_enter Try.func24, Try.ntmps24
  go_wp2_with (go_at_call 25; refine HC.out.mono ?_; rintro e w' ⟨rfl, rfl⟩)
  go_ret2
  exact ⟨rfl, rfl⟩
set_option maxRecDepth 100000 in
theorem popS_some (W : World) (sb mb : Nat) (most : Int) (N : Nat) (L : Int → List Value) (h : LS 73 W sb mb most N L) (hN : N < maxLen) (x : Int) (hx : iKE.ok x) (v : Value) (l : List Value) (hL : L x = v :: l) (hle : l.length ≤ 500000) :
    Calls Try.prog 24 #[.pointer (some ⟨sb, 0, none⟩), .int .i64 x] W fun e W' => e = .returned (.tuple #[v, .bool true]) ∧ LS 73 W' sb mb most (N + 1) (fun y => if y = x then l else L y) ∧ W.grownBy W' (some mb) := by
  have HC := Lib.hid (peekS_some W sb mb most N L h x hx v l hL)
  have H := Lib.hid h
  have hone : ∀ u ∈ l, u.oneCell' = true := fun u hu => h.one x hx u (by rw [hL]; exact List.mem_cons_of_mem _ hu)
  have c1 := h.s.cell 1
  simp only [List.getElem?_toArray, List.getElem?_cons_zero, List.getElem?_cons_succ] at c1
  obtain ⟨c, F, hc, hM, hr⟩ := h.m
  rcases hr x hx with ⟨hF, h0⟩ | ⟨b, o, cap, hF, h1, h2, h3, h4, h5⟩
  · rw [hL] at h0; cases h0
  have hu : (F x).getD (.slice none 0 0) = .slice (some ⟨b, o, none⟩) (l.length + 1) cap := by rw [hF, hL]; rfl
  rw [hL] at h2
  simp only [List.length_cons] at h2
  unfold maxLen at h3
  have htl : ∀ j u, l[j]? = some u → W.cell? ⟨b, o + 1 + j, none⟩ = some u := fun j u hj => by
    have := h5 (j + 1) u (by rw [hL]; exact hj)
    rw [show o + 1 + j = o + (j + 1) from by omega]; exact this
  have Hone := Lib.hid hone
  have Htl := Lib.hid htl
  have HS : Hid (∀ W2 g cp, (∀ j u, l[j]? = some u → W2.cell? ⟨g, j, none⟩ = some u) → l.length ≤ cp → cp ≤ maxLen → g ≠ mb → W.grownBy W2 none → Calls Try.prog 39 #[.pointer (some ⟨sb, 0, none⟩), .int .i64 x, .slice (some ⟨g, 0, none⟩) l.length cp] W2 fun e W' => e = .returned (.tuple #[]) ∧ LS 73 W' sb mb most (N + 1) (fun y => if y = x then l else L y) ∧ W2.grownBy W' (some mb)) :=
    Lib.hid (fun W2 g cp hcl hl1 hl2 hg hgr => setS_any W2 sb mb most N L (h.kept hgr) hN x hx (some ⟨g, 0, none⟩) l.length cp l rfl ⟨hl1, hl2⟩ hone (fun _ => ⟨g, 0, rfl, hg, fun j u hj => by rw [Nat.zero_add]; exact hcl j u hj⟩))
  have hmlt := hM.lt
  clear hF hr h5 h1 htl hone h hL hc
  by_cases hcap : 1 < cap
  · have hcl := Lib.hid (cloneS_any W b (o + 1) l.length (cap - 1) l rfl hle Hone.out Htl.out)
    go_enter Try.func24, Try.ntmps24
    go_wp2_with (first | (go_at_call 25; refine HC.out.mono ?_; rintro e w' ⟨rfl, rfl⟩) | (at_lookup; refine wpLook rfl _ _ rfl Try.underlying71 (zeroSL _) hM rfl (x := x) rfl hx hu ?_))
    refine hcl.out.mono ?_
    rintro e W2 ⟨g, cp, rfl, g1, g2, g3, g4, g5⟩
    have hset := Lib.hid (HS.out W2 g cp g4 g1 g2 (by omega) g5)
    clear g4
    go_wp2_with fail
    refine hset.out.mono ?_
    rintro e W3 ⟨rfl, hls, hg3⟩
    go_wp2
    go_ret2
    exact ⟨rfl, hls, (show W.grownBy W2 (some mb) from ⟨g5.os, g5.tape, g5.output, g5.size, fun k h1 _ => g5.block k h1 (by simp)⟩).trans hg3⟩
  · obtain rfl : cap = 1 := by omega
    have hl0 : l.length = 0 := by omega
    have hlnil : l = [] := List.eq_nil_of_length_eq_zero hl0
    subst hlnil
    have hcl := Lib.hid (cloneS_any W b o 0 0 [] rfl (by omega) (fun u hu => absurd hu List.not_mem_nil) (fun j v hj => by simp at hj))
    clear hl0
    simp only [List.length_nil, Nat.zero_add] at hu
    go_enter Try.func24, Try.ntmps24
    go_wp2_with (first | (go_at_call 25; refine HC.out.mono ?_; rintro e w' ⟨rfl, rfl⟩) | (at_lookup; refine wpLook rfl _ _ rfl Try.underlying71 (zeroSL _) hM rfl (x := x) rfl hx hu ?_))
    refine hcl.out.mono ?_
    rintro e W2 ⟨g, cp, rfl, g1, g2, g3, g4, g5⟩
    have hset := Lib.hid (HS.out W2 g cp g4 g1 g2 (by omega) g5)
    clear g4
    go_wp2_with fail
    refine hset.out.mono ?_
    rintro e W3 ⟨rfl, hls, hg3⟩
    go_wp2
    go_ret2
    exact ⟨rfl, hls, (show W.grownBy W2 (some mb) from ⟨g5.os, g5.tape, g5.output, g5.size, fun k h1 _ => g5.block k h1 (by simp)⟩).trans hg3⟩

set_option maxRecDepth 100000 in
theorem pushS_full (W : World) (sb mb : Nat) (most : Int) (N : Nat) (L : Int → List Value) (h : LS 73 W sb mb most N L) (x : Int) (hx : iKE.ok x) (t : ByteArray) (hf : most ≤ (L x).length) :
    Calls Try.prog 23 #[.pointer (some ⟨sb, 0, none⟩), .int .i64 x, Value.string t] W fun e W' => e = .returned (.int .i64 4) ∧ ∃ n, W' = W.drewN n := by
  have hd : decide (most ≤ (L x).length) = true := decide_eq_true hf
  have HC := Lib.hid (fullS_any W sb mb most N L h x hx)
  rw [hd] at HC
  clear h hf hd
  go_enter Try.func23, Try.ntmps23
  go_wp2_with (go_at_call 27; refine HC.out.mono ?_; rintro e w' ⟨rfl, n, rfl⟩)
  go_ret
  exact ⟨rfl, _, rfl⟩
set_option maxRecDepth 100000 in
theorem pushS_room (W : World) (sb mb : Nat) (most : Int) (N : Nat) (L : Int → List Value) (h : LS 73 W sb mb most N L) (hN : N < maxLen) (hm : most ≤ 65536) (x : Int) (hx : iKE.ok x) (t : ByteArray) (hf : ¬ most ≤ (L x).length) :
    Calls Try.prog 23 #[.pointer (some ⟨sb, 0, none⟩), .int .i64 x, Value.string t] W fun e W' => e = .returned (.int .i64 0) ∧ LS 73 W' sb mb most (N + 1) (fun y => if y = x then L x ++ [Value.string t] else L y) ∧ W.grownBy W' (some mb) := by
  have hd : decide (most ≤ (L x).length) = false := decide_eq_false hf
  have HC := Lib.hid (fullS_any W sb mb most N L h x hx)
  rw [hd] at HC
  have hlen : (L x).length ≤ 65536 := by omega
  have hone : ∀ v ∈ L x ++ [Value.string t], v.oneCell' = true := fun v hv => by
    rcases List.mem_append.1 hv with h1 | h1
    · exact h.one x hx v h1
    · rw [List.mem_singleton.1 h1]; rfl
  have HS : Hid (∀ W2 g cp n, n = (L x).length + 1 → (∀ j u, (L x ++ [Value.string t])[j]? = some u → W2.cell? ⟨g, j, none⟩ = some u) → n ≤ cp → cp ≤ maxLen → g ≠ mb → W.grownBy W2 none → Calls Try.prog 39 #[.pointer (some ⟨sb, 0, none⟩), .int .i64 x, .slice (some ⟨g, 0, none⟩) n cp] W2 fun e W' => e = .returned (.tuple #[]) ∧ LS 73 W' sb mb most (N + 1) (fun y => if y = x then L x ++ [Value.string t] else L y) ∧ W2.grownBy W' (some mb)) :=
    Lib.hid (fun W2 g cp n hn hcl hl1 hl2 hg hgr => setS_any W2 sb mb most N L (h.kept hgr) hN x hx (some ⟨g, 0, none⟩) n cp _ (by rw [hn]; simp) ⟨hl1, hl2⟩ hone (fun _ => ⟨g, 0, rfl, hg, fun j u hj => by rw [Nat.zero_add]; exact hcl j u hj⟩))
  have HH : Hid (∀ n, LS 73 (W.drewN n) sb mb most N L) := Lib.hid (fun n => h.kept ⟨rfl, rfl, rfl, Nat.le_refl _, fun _ _ _ => rfl⟩)
  have c1 := h.s.cell 1
  simp only [List.getElem?_toArray, List.getElem?_cons_zero, List.getElem?_cons_succ] at c1
  obtain ⟨c, F, hc, hM, hr⟩ := h.m
  have hmlt := hM.lt
  have hMd : ∀ n, Mp iKE (W.drewN n) mb c F := fun n => hM.kept (row := none) ⟨rfl, rfl, rfl, Nat.le_refl _, fun _ _ _ => rfl⟩ (by simp)
  have HMd := Lib.hid hMd
  clear hM hMd hd hone h hc hf
  rcases hr x hx with ⟨hF, h0⟩ | ⟨b, o, cap, hF, h1, h2, h3, h4, h5⟩
  · have hu : (F x).getD (.slice none 0 0) = .slice none 0 0 := by rw [hF]; rfl
    have HL0 := Lib.hid h0
    clear hF hr h0
    have hnews : ∀ n, ∀ (j : Nat) (u : Value), [Value.string t][j]? = some u → ((W.drewN n).alloc (.cells #[Value.string t] 9)).cell? ((⟨W.heap.size, 0, none⟩ : Addr).add j) = some u := fun n => cell_one_new (W.drewN n) (Value.string t) 9
    have HN := Lib.hid hnews
    clear hnews
    go_enter Try.func23, Try.ntmps23
    go_wp2_with (first | (go_at_call 27; refine HC.out.mono ?_; rintro e w' ⟨rfl, nd, rfl⟩) | (at_lookup; refine wpLook rfl _ _ rfl Try.underlying71 (zeroSL _) (HMd.out _) rfl (x := x) rfl hx hu ?_) | (go_at_call 40; refine (clipS_any _ none 0 0 (Nat.le_refl _) (Nat.zero_le _) (fun _ => ⟨rfl, rfl⟩)).mono ?_; rintro e w' ⟨rfl, rfl⟩) | (at_builtin; refine appS rfl _ _ rfl (olds := []) (news := [Value.string t]) rfl rfl (fun _ => ⟨rfl, rfl⟩) rfl (fun b h => nomatch h) rfl (HN.out _) (fun u hu => by rw [List.mem_singleton.1 hu]; rfl) Nat.zero_lt_one (by decide) ?_; intro g cp W1 hc1 hg1 hncp hcpm hgrow1; have HC1 := Lib.hid hc1; clear hc1))
    have hgr : W.grownBy W1 none := (show W.grownBy ((W.drewN nd).alloc (.cells #[Value.string t] 9)) none from (show W.grownBy (W.drewN nd) none from ⟨rfl, rfl, rfl, Nat.le_refl _, fun _ _ _ => rfl⟩).trans (World.grownBy_alloc _ _ none)).trans hgrow1
    have hgm : g ≠ mb := by
      have : W.heap.size ≤ g := Nat.le_trans (by simp) hg1
      omega
    refine (HS.out W1 g cp 1 (by rw [HL0.out]; rfl) (fun j u hj => HC1.out j u (by rw [HL0.out] at hj; simpa using hj)) hncp hcpm hgm hgr).mono ?_
    rintro e W3 ⟨rfl, hls, hg3⟩
    go_wp2
    go_ret
    exact ⟨rfl, hls, (show W.grownBy W1 (some mb) from ⟨hgr.os, hgr.tape, hgr.output, hgr.size, fun k h1 _ => hgr.block k h1 (by simp)⟩).trans hg3⟩
  · have hu : (F x).getD (.slice none 0 0) = .slice (some ⟨b, o, none⟩) (L x).length cap := by rw [hF]; rfl
    have hold : ∀ n, ∀ (ad : Addr), some (⟨b, o, none⟩ : Addr) = some ad → ∀ (j : Nat) (u : Value), (L x)[j]? = some u → ((W.drewN n).alloc (.cells #[Value.string t] 9)).cell? (ad.add j) = some u := fun n ad e j u hj => by
      obtain rfl := Option.some.inj e
      rw [off_add]
      have h6 := h5 j u hj
      rw [← h6]
      unfold World.cell?
      rw [Below.heap_alloc (W.drewN n) _ b (lt_of_cell h6)]
      rfl
    have HO := Lib.hid hold
    have hnews : ∀ n, ∀ (j : Nat) (u : Value), [Value.string t][j]? = some u → ((W.drewN n).alloc (.cells #[Value.string t] 9)).cell? ((⟨W.heap.size, 0, none⟩ : Addr).add j) = some u := fun n => cell_one_new (W.drewN n) (Value.string t) 9
    have HN := Lib.hid hnews
    unfold maxLen at h3
    have hfull : (L x).length < (L x).length + 1 := Nat.lt_succ_self _
    have hle : (L x).length + 1 ≤ 1000000 := by omega
    clear hnews hold hF hr h5 h1
    go_enter Try.func23, Try.ntmps23
    go_wp2_with (first | (go_at_call 27; refine HC.out.mono ?_; rintro e w' ⟨rfl, nd, rfl⟩) | (at_lookup; refine wpLook rfl _ _ rfl Try.underlying71 (zeroSL _) (HMd.out _) rfl (x := x) rfl hx hu ?_) | (go_at_call 40; refine (clipS_any _ (some ⟨b, o, none⟩) (L x).length cap h2 h3 (fun h => nomatch h)).mono ?_; rintro e w' ⟨rfl, rfl⟩) | (at_builtin; refine appS rfl _ _ rfl (olds := L x) (news := [Value.string t]) rfl rfl (fun h => nomatch h) rfl (HO.out _) rfl (HN.out _) (fun u hu => by rw [List.mem_singleton.1 hu]; rfl) hfull hle ?_; intro g cp W1 hc1 hg1 hncp hcpm hgrow1; have HC1 := Lib.hid hc1; clear hc1))
    have hgr : W.grownBy W1 none := (show W.grownBy ((W.drewN nd).alloc (.cells #[Value.string t] 9)) none from (show W.grownBy (W.drewN nd) none from ⟨rfl, rfl, rfl, Nat.le_refl _, fun _ _ _ => rfl⟩).trans (World.grownBy_alloc _ _ none)).trans hgrow1
    have hgm : g ≠ mb := by
      have : W.heap.size ≤ g := Nat.le_trans (by simp) hg1
      omega
    refine (HS.out W1 g cp ((L x).length + 1) (rfl) (HC1.out) hncp hcpm hgm hgr).mono ?_
    rintro e W3 ⟨rfl, hls, hg3⟩
    go_wp2
    go_ret
    exact ⟨rfl, hls, (show W.grownBy W1 (some mb) from ⟨hgr.os, hgr.tape, hgr.output, hgr.size, fun k h1 _ => hgr.block k h1 (by simp)⟩).trans hg3⟩
/-- new lists -/
theorem newS_yes (W : World) (most : Int) (h1 : 1 ≤ most) (h2 : most ≤ 65536) :
    Calls Try.prog 22 #[.int .i64 most] W fun e W' => e = .returned (.tuple #[.pointer (some ⟨W.heap.size + 1, 0, none⟩), .int .i64 0]) ∧ LS 73 W' (W.heap.size + 1) W.heap.size most 0 (fun _ => []) ∧ W' = (W.alloc (.map #[] 0)).alloc (.cells #[.int .i64 most, .map (some W.heap.size)] 73) := by
  have hmm := @run_makeMap Try.prog
  have p1 : decide (most < 1) = false := decide_eq_false (by omega)
  have p2 : decide (65536 < most) = false := decide_eq_false (by omega)
  have hB := Blk.new (W.alloc (.map #[] 0)) 73 #[.int .i64 most, .map (some W.heap.size)]
  rw [World.size_alloc] at hB
  have hls : LS 73 ((W.alloc (.map #[] 0)).alloc (.cells #[.int .i64 most, .map (some W.heap.size)] 73)) (W.heap.size + 1) W.heap.size most 0 (fun _ => []) :=
    ⟨hB, ⟨0, _, Nat.le_refl _, (Mp.made iKE W).alloc _, fun x _ => .inl ⟨rfl, rfl⟩⟩, fun x _ v hv => absurd hv List.not_mem_nil⟩
  have HLS := Lib.hid hls
  clear hls hB
  go_enter Try.func22, Try.ntmps22
  go_wp2
  go_ret2
  exact ⟨rfl, HLS.out, rfl⟩
end Go.Proofs.Ytklfppjejndclaa
