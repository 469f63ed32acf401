/- The lists once more: their rows lie in no block of S. -/
import Derived.Test.YtklfppjejndclaaQ
import Derived.Test.YtklfppjejndclaaB
set_option linter.unusedVariables false
set_option linter.unusedSimpArgs false
namespace Go.Proofs.Ytklfppjejndclaa.P2
open Go.RowKit Go.Maps
/-- A SLICE THAT SHOWS A ROW: nil where there is nothing; its cells lie not in block mb -/
def RowV (S : Nat → Prop) (W : World) (mb : Nat) (f : Option Value) (l : List Value) : Prop :=
  (f = none ∧ l = []) ∨ ∃ b o cap, f = some (.slice (some ⟨b, o, none⟩) l.length cap) ∧ l ≠ [] ∧ l.length ≤ cap ∧ cap ≤ maxLen ∧ (b ≠ mb ∧ ¬ S b) ∧ ∀ j v, l[j]? = some v → W.cell? ⟨b, o + j, none⟩ = some v
theorem RowV.kept {S : Nat → Prop} {W W' : World} {mb : Nat} {f : Option Value} {l : List Value} (h : RowV S W mb f l) (hg : W.grownBy W' (some mb)) : RowV S W' mb f l := by
  rcases h with h | ⟨b, o, cap, h1, h2, h3, h4, h5, h6⟩
  · exact .inl h
  · refine .inr ⟨b, o, cap, h1, h2, h3, h4, h5, fun j v hj => ?_⟩
    have := h6 j v hj
    have hb := hg.block b (lt_of_cell this) (by simpa using h5.1)
    rw [← this]
    unfold World.cell?
    rw [hb]
/-- THE LISTS: the struct in block sb, the map in block mb -/
structure LS (S : Nat → Prop) (TS : TypeId) (W : World) (sb mb : Nat) (most : Int) (N : Nat) (L : Int → List Value) : Prop where
  s : Blk W sb TS #[.int .i64 most, .map (some mb)]
  m : ∃ c F, c ≤ N ∧ Mp iKE W mb c F ∧ ∀ x, iKE.ok x → RowV S W mb (F x) (L x)
  one : ∀ x, iKE.ok x → ∀ v ∈ L x, v.oneCell' = true
theorem LS.kept {S : Nat → Prop} {TS : TypeId} {W W' : World} {sb mb : Nat} {most : Int} {N : Nat} {L : Int → List Value} (h : LS S TS W sb mb most N L) (hg : W.grownBy W' none) : LS S TS W' sb mb most N L := by
  have hg' : W.grownBy W' (some mb) := ⟨hg.os, hg.tape, hg.output, hg.size, fun k h1 _ => hg.block k h1 (by simp)⟩
  obtain ⟨c, F, hc, hM, hr⟩ := h.m
  exact ⟨h.s.kept hg (by simp), ⟨c, F, hc, hM.kept hg (by simp), fun x hx => (hr x hx).kept hg'⟩, h.one⟩

variable {S : Nat → Prop}
set_option maxRecDepth 100000 in
theorem lenI_any (W : World) (sb mb : Nat) (most : Int) (N : Nat) (L : Int → List Value) (h : LS S 55 W sb mb most N L) (x : Int) (hx : iKE.ok x) :
    Calls Try.prog 9 #[.pointer (some ⟨sb, 0, none⟩), .int .i64 x] W fun e W' => e = .returned (.int .i64 ((L x).length : Int)) ∧ W = W' := by
  have c1 := h.s.cell 1
  simp only [List.getElem?_toArray, List.getElem?_cons_zero, List.getElem?_cons_succ] at c1
  obtain ⟨c, F, hc, hM, hr⟩ := h.m
  rcases hr x hx with ⟨hF, hL⟩ | ⟨b, o, cap, hF, h1, h2, h3, h4, h5⟩
  · have hu : (F x).getD (.slice none 0 0) = .slice none 0 0 := by rw [hF]; rfl
    have HL := Lib.hid hL
    clear hF hL hr
    go_enter Try.func9, Try.ntmps9
    go_wp2_with (at_lookup; refine wpLook rfl _ _ rfl Try.underlying53 (zeroIL _) hM rfl (x := x) rfl hx hu ?_)
    go_ret
    exact ⟨by rw [HL.out]; rfl, rfl⟩
  · have hu : (F x).getD (.slice none 0 0) = .slice (some ⟨b, o, none⟩) (L x).length cap := by rw [hF]; rfl
    clear hF hr
    go_enter Try.func9, Try.ntmps9
    go_wp2_with (at_lookup; refine wpLook rfl _ _ rfl Try.underlying53 (zeroIL _) hM rfl (x := x) rfl hx hu ?_)
    go_ret
    exact ⟨rfl, rfl⟩
set_option maxRecDepth 100000 in
theorem fullI_any (W : World) (sb mb : Nat) (most : Int) (N : Nat) (L : Int → List Value) (h : LS S 55 W sb mb most N L) (x : Int) (hx : iKE.ok x) :
    Calls Try.prog 28 #[.pointer (some ⟨sb, 0, none⟩), .int .i64 x] W fun e W' => e = .returned (.bool (decide (most ≤ (L x).length))) ∧ ∃ n, W' = W.drewN n := by
  have c0 := h.s.cell 0
  simp only [List.getElem?_toArray, List.getElem?_cons_zero, List.getElem?_cons_succ] at c0
  have H : Hid (∀ n, LS S 55 (W.drewN n) sb mb most N L) := Lib.hid (fun n => h.kept ⟨rfl, rfl, rfl, Nat.le_refl _, fun _ _ _ => rfl⟩)
  clear h
  go_enter Try.func28, Try.ntmps28
  go_wp2
  go_quiet ((go_at_call 9; exact Calls.quiet_of_same ((lenI_any _ sb mb most N L (H.out _) x hx).mono (fun _ _ h => ⟨h.1, h.2.symm⟩))))
  go_wp2
  go_ret
  exact ⟨rfl, _, rfl⟩
set_option maxRecDepth 100000 in
theorem setI_any (W : World) (sb mb : Nat) (most : Int) (N : Nat) (L : Int → List Value) (h : LS S 55 W sb mb most N L) (hN : N < maxLen) (x : Int) (hx : iKE.ok x) (ao : Option Addr) (n cap : Nat) (l : List Value) (hl : l.length = n) (hcap : n ≤ cap ∧ cap ≤ maxLen) (hone : ∀ v ∈ l, v.oneCell' = true)
    (hrow : n ≠ 0 → ∃ b o, ao = some ⟨b, o, none⟩ ∧ (b ≠ mb ∧ ¬ S b) ∧ ∀ j v, l[j]? = some v → W.cell? ⟨b, o + j, none⟩ = some v) :
    Calls Try.prog 29 #[.pointer (some ⟨sb, 0, none⟩), .int .i64 x, .slice ao n cap] W fun e W' => e = .returned (.tuple #[]) ∧ LS S 55 W' sb mb most (N + 1) (fun y => if y = x then l else L y) ∧ W.grownBy W' (some mb) := by
  have c1 := h.s.cell 1
  simp only [List.getElem?_toArray, List.getElem?_cons_zero, List.getElem?_cons_succ] at c1
  have hs := h.s
  obtain ⟨c, F, hc, hM, hr⟩ := h.m
  have hsm : sb ≠ mb := fun e => by
    obtain ⟨D, ⟨es, cl, hb, _⟩, _⟩ := hM
    have := hs
    unfold Blk at this
    rw [e] at this
    rw [this] at hb
    cases hb
  have hcm : c < maxLen := by omega
  have HONE : Hid ((∀ v ∈ l, v.oneCell' = true) ∧ ∀ y, iKE.ok y → ∀ v ∈ L y, v.oneCell' = true) := Lib.hid ⟨hone, h.one⟩
  have HR := Lib.hid hr
  have HROW := Lib.hid hrow
  have HL := Lib.hid hl
  clear hr hrow hl hone
  by_cases h0 : n = 0
  · have p0 : ((n : Int) == 0) = true := by rw [beq_iff_eq]; omega
    have H0 := Lib.hid h0
    clear h0
    go_enter Try.func29, Try.ntmps29
    go_wp2_with (at_delete; refine wpDrop rfl _ _ _ _ rfl rfl Try.underlying53 hM rfl (x := x) rfl hx ?_; intro W1 hM1 ht1)
    refine bodyPost_ret (results_none rfl _ _ _) rfl ⟨rfl, ?_, ht1.grown⟩
    have hg := ht1.grown
    refine ⟨hs.kept hg (fun e => hsm (Option.some.inj e)), ⟨_, _, ?_, hM1, fun y hy => ?_⟩, fun y hy => ?_⟩
    · split <;> omega
    · by_cases e : y = x
      · subst e
        rw [upd_same]
        simp only [if_true]
        exact .inl ⟨rfl, List.eq_nil_of_length_eq_zero (by rw [HL.out]; exact H0.out)⟩
      · rw [upd_other _ _ _ _ e]
        simp only [e, if_false]
        exact (HR.out y hy).kept hg
    · by_cases e : y = x
      · simp only [e, if_true]; exact HONE.out.1
      · simp only [e, if_false]; exact HONE.out.2 y hy
  · have p0 : ((n : Int) == 0) = false := by rw [beq_eq_false_iff_ne]; omega
    obtain ⟨b, o, hao, hbm, hcell⟩ := HROW.out h0
    have HC := Lib.hid hcell
    have H0 := Lib.hid h0
    clear hcell h0
    subst hao
    go_enter Try.func29, Try.ntmps29
    go_wp2_with (at_mapUpdate; refine wpStore rfl _ _ _ rfl Try.underlying53 hM hcm rfl (x := x) rfl hx rfl ?_; intro W1 hM1 ht1)
    go_end0
    have hg := ht1.grown
    refine ⟨rfl, ⟨hs.kept hg (fun e => hsm (Option.some.inj e)), ⟨_, _, ?_, hM1, fun y hy => ?_⟩, fun y hy => ?_⟩, hg⟩
    · split <;> omega
    · by_cases e : y = x
      · subst e
        rw [upd_same]
        simp only [if_true]
        refine .inr ⟨b, o, cap, by rw [HL.out]; rfl, fun e => H0.out (by rw [← HL.out, e]; rfl), by rw [HL.out]; exact hcap.1, hcap.2, hbm, fun j v hj => ?_⟩
        rw [mapTurned_cell ht1 _ hbm.1]
        exact HC.out j v hj
      · rw [upd_other _ _ _ _ e]
        simp only [e, if_false]
        exact (HR.out y hy).kept hg
    · by_cases e : y = x
      · simp only [e, if_true]; exact HONE.out.1
      · simp only [e, if_false]; exact HONE.out.2 y hy
set_option maxRecDepth 100000 in
theorem peekI_none (W : World) (sb mb : Nat) (most : Int) (N : Nat) (L : Int → List Value) (h : LS S 55 W sb mb most N L) (x : Int) (hx : iKE.ok x) (hL : L x = []) :
    Calls Try.prog 31 #[.pointer (some ⟨sb, 0, none⟩), .int .i64 x] W fun e W' => e = .returned (.tuple #[.int .i64 0, .bool false]) ∧ W = W' := by
  have c1 := h.s.cell 1
  simp only [List.getElem?_toArray, List.getElem?_cons_zero, List.getElem?_cons_succ] at c1
  obtain ⟨c, F, hc, hM, hr⟩ := h.m
  rcases hr x hx with ⟨hF, _⟩ | ⟨b, o, cap, hF, h1, _⟩
  · have hu : (F x).getD (.slice none 0 0) = .slice none 0 0 := by rw [hF]; rfl
    clear hF hL hr
    go_enter Try.func31, Try.ntmps31
    go_wp2_with (at_lookup; refine wpLook rfl _ _ rfl Try.underlying53 (zeroIL _) hM rfl (x := x) rfl hx hu ?_)
    refine wp_loop_rounds 1 ?_
    rw [rounds_succ]
    go_wp2
    go_ret2
    exact ⟨rfl, rfl⟩
  · exact absurd hL h1
set_option maxRecDepth 100000 in
theorem peekI_some (W : World) (sb mb : Nat) (most : Int) (N : Nat) (L : Int → List Value) (h : LS S 55 W sb mb most N L) (x : Int) (hx : iKE.ok x) (v : Value) (l : List Value) (hL : L x = v :: l) :
    Calls Try.prog 31 #[.pointer (some ⟨sb, 0, none⟩), .int .i64 x] W fun e W' => e = .returned (.tuple #[v, .bool true]) ∧ W = W' := by
  have c1 := h.s.cell 1
  simp only [List.getElem?_toArray, List.getElem?_cons_zero, List.getElem?_cons_succ] at c1
  obtain ⟨c, F, hc, hM, hr⟩ := h.m
  rcases hr x hx with ⟨hF, h0⟩ | ⟨b, o, cap, hF, h1, h2, h3, h4, h5⟩
  · rw [hL] at h0; cases h0
  · have hu : (F x).getD (.slice none 0 0) = .slice (some ⟨b, o, none⟩) (l.length + 1) cap := by rw [hF, hL]; rfl
    have c0 : W.cell? ⟨b, o, none⟩ = some v := h5 0 v (by rw [hL]; rfl)
    have hlen : (0 : Int) < ((l.length + 1 : Nat) : Int) := by omega
    have hd : decide ((0 : Int) < (l.length : Int) + 1) = true := decide_eq_true (by omega)
    rw [hL] at h2
    simp only [List.length_cons] at h2
    unfold maxLen at h3
    have hlb : (l.length : Int) + 1 ≤ 9223372036854775807 := by omega
    clear hF hL hr h5 h1
    go_enter Try.func31, Try.ntmps31
    go_wp2_with (at_lookup; refine wpLook rfl _ _ rfl Try.underlying53 (zeroIL _) hM rfl (x := x) rfl hx hu ?_)
    refine wp_loop_rounds 1 ?_
    rw [rounds_succ]
    go_wp2
    go_ret2
    exact ⟨rfl, rfl⟩
set_option maxRecDepth 100000 in
theorem popI_none (W : World) (sb mb : Nat) (most : Int) (N : Nat) (L : Int → List Value) (h : LS S 55 W sb mb most N L) (x : Int) (hx : iKE.ok x) (hL : L x = []) :
    Calls Try.prog 10 #[.pointer (some ⟨sb, 0, none⟩), .int .i64 x] W fun e W' => e = .returned (.tuple #[.int .i64 0, .bool false]) ∧ W = W' := by
  have hc := peekI_none W sb mb most N L h x hx hL
  have HC := Lib.hid hc
  clear hc h hL
  go_enter Try.func10, Try.ntmps10
  go_wp2_with (go_at_call 31; refine HC.out.mono ?_; rintro e w' ⟨rfl, rfl⟩)
  go_ret2
  exact ⟨rfl, rfl⟩
set_option maxRecDepth 100000 in
theorem popI_some (W : World) (hS : ∀ k, S k → k < W.heap.size) (sb mb : Nat) (most : Int) (N : Nat) (L : Int → List Value) (h : LS S 55 W sb mb most N L) (hN : N < maxLen) (x : Int) (hx : iKE.ok x) (v : Value) (l : List Value) (hL : L x = v :: l) (hle : l.length ≤ 500000) :
    Calls Try.prog 10 #[.pointer (some ⟨sb, 0, none⟩), .int .i64 x] W fun e W' => e = .returned (.tuple #[v, .bool true]) ∧ LS S 55 W' sb mb most (N + 1) (fun y => if y = x then l else L y) ∧ W.grownBy W' (some mb) := by
  have HC := Lib.hid (peekI_some W sb mb most N L h x hx v l hL)
  have H := Lib.hid h
  have hone : ∀ u ∈ l, u.oneCell' = true := fun u hu => h.one x hx u (by rw [hL]; exact List.mem_cons_of_mem _ hu)
  have c1 := h.s.cell 1
  simp only [List.getElem?_toArray, List.getElem?_cons_zero, List.getElem?_cons_succ] at c1
  obtain ⟨c, F, hc, hM, hr⟩ := h.m
  rcases hr x hx with ⟨hF, h0⟩ | ⟨b, o, cap, hF, h1, h2, h3, h4, h5⟩
  · rw [hL] at h0; cases h0
  have hu : (F x).getD (.slice none 0 0) = .slice (some ⟨b, o, none⟩) (l.length + 1) cap := by rw [hF, hL]; rfl
  rw [hL] at h2
  simp only [List.length_cons] at h2
  unfold maxLen at h3
  have htl : ∀ j u, l[j]? = some u → W.cell? ⟨b, o + 1 + j, none⟩ = some u := fun j u hj => by
    have := h5 (j + 1) u (by rw [hL]; exact hj)
    rw [show o + 1 + j = o + (j + 1) from by omega]; exact this
  have Hone := Lib.hid hone
  have Htl := Lib.hid htl
  have HS : Hid (∀ W2 g cp, (∀ j u, l[j]? = some u → W2.cell? ⟨g, j, none⟩ = some u) → l.length ≤ cp → cp ≤ maxLen → (g ≠ mb ∧ ¬ S g) → W.grownBy W2 none → Calls Try.prog 29 #[.pointer (some ⟨sb, 0, none⟩), .int .i64 x, .slice (some ⟨g, 0, none⟩) l.length cp] W2 fun e W' => e = .returned (.tuple #[]) ∧ LS S 55 W' sb mb most (N + 1) (fun y => if y = x then l else L y) ∧ W2.grownBy W' (some mb)) :=
    Lib.hid (fun W2 g cp hcl hl1 hl2 hg hgr => setI_any W2 sb mb most N L (h.kept hgr) hN x hx (some ⟨g, 0, none⟩) l.length cp l rfl ⟨hl1, hl2⟩ hone (fun _ => ⟨g, 0, rfl, hg, fun j u hj => by rw [Nat.zero_add]; exact hcl j u hj⟩))
  have hmlt := hM.lt
  clear hF hr h5 h1 htl hone h hL hc
  by_cases hcap : 1 < cap
  · have hcl := Lib.hid (cloneI_any W b (o + 1) l.length (cap - 1) l rfl hle Hone.out Htl.out)
    go_enter Try.func10, Try.ntmps10
    go_wp2_with (first | (go_at_call 31; refine HC.out.mono ?_; rintro e w' ⟨rfl, rfl⟩) | (at_lookup; refine wpLook rfl _ _ rfl Try.underlying53 (zeroIL _) hM rfl (x := x) rfl hx hu ?_))
    refine hcl.out.mono ?_
    rintro e W2 ⟨g, cp, rfl, g1, g2, g3, g4, g5⟩
    have hset := Lib.hid (HS.out W2 g cp g4 g1 g2 ⟨by omega, fun e => by have := hS g e; omega⟩ g5)
    clear g4
    go_wp2_with fail
    refine hset.out.mono ?_
    rintro e W3 ⟨rfl, hls, hg3⟩
    go_wp2
    go_ret2
    exact ⟨rfl, hls, (show W.grownBy W2 (some mb) from ⟨g5.os, g5.tape, g5.output, g5.size, fun k h1 _ => g5.block k h1 (by simp)⟩).trans hg3⟩
  · obtain rfl : cap = 1 := by omega
    have hl0 : l.length = 0 := by omega
    have hlnil : l = [] := List.eq_nil_of_length_eq_zero hl0
    subst hlnil
    have hcl := Lib.hid (cloneI_any W b o 0 0 [] rfl (by omega) (fun u hu => absurd hu List.not_mem_nil) (fun j v hj => by simp at hj))
    clear hl0
    simp only [List.length_nil, Nat.zero_add] at hu
    go_enter Try.func10, Try.ntmps10
    go_wp2_with (first | (go_at_call 31; refine HC.out.mono ?_; rintro e w' ⟨rfl, rfl⟩) | (at_lookup; refine wpLook rfl _ _ rfl Try.underlying53 (zeroIL _) hM rfl (x := x) rfl hx hu ?_))
    refine hcl.out.mono ?_
    rintro e W2 ⟨g, cp, rfl, g1, g2, g3, g4, g5⟩
    have hset := Lib.hid (HS.out W2 g cp g4 g1 g2 ⟨by omega, fun e => by have := hS g e; omega⟩ g5)
    clear g4
    go_wp2_with fail
    refine hset.out.mono ?_
    rintro e W3 ⟨rfl, hls, hg3⟩
    go_wp2
    go_ret2
    exact ⟨rfl, hls, (show W.grownBy W2 (some mb) from ⟨g5.os, g5.tape, g5.output, g5.size, fun k h1 _ => g5.block k h1 (by simp)⟩).trans hg3⟩
set_option maxRecDepth 100000 in
theorem pushI_full (W : World) (sb mb : Nat) (most : Int) (N : Nat) (L : Int → List Value) (h : LS S 55 W sb mb most N L) (x : Int) (hx : iKE.ok x) (t : Int) (hf : most ≤ (L x).length) :
    Calls Try.prog 8 #[.pointer (some ⟨sb, 0, none⟩), .int .i64 x, Value.int .i64 t] W fun e W' => e = .returned (.int .i64 4) ∧ ∃ n, W' = W.drewN n := by
  have hd : decide (most ≤ (L x).length) = true := decide_eq_true hf
  have HC := Lib.hid (fullI_any W sb mb most N L h x hx)
  rw [hd] at HC
  clear h hf hd
  go_enter Try.func8, Try.ntmps8
  go_wp2_with (go_at_call 28; refine HC.out.mono ?_; rintro e w' ⟨rfl, n, rfl⟩)
  go_ret
  exact ⟨rfl, _, rfl⟩
set_option maxRecDepth 100000 in
theorem pushI_room (W : World) (hS : ∀ k, S k → k < W.heap.size) (sb mb : Nat) (most : Int) (N : Nat) (L : Int → List Value) (h : LS S 55 W sb mb most N L) (hN : N < maxLen) (hm : most ≤ 65536) (x : Int) (hx : iKE.ok x) (t : Int) (hf : ¬ most ≤ (L x).length) :
    Calls Try.prog 8 #[.pointer (some ⟨sb, 0, none⟩), .int .i64 x, Value.int .i64 t] W fun e W' => e = .returned (.int .i64 0) ∧ LS S 55 W' sb mb most (N + 1) (fun y => if y = x then L x ++ [Value.int .i64 t] else L y) ∧ W.grownBy W' (some mb) := by
  have hd : decide (most ≤ (L x).length) = false := decide_eq_false hf
  have HC := Lib.hid (fullI_any W sb mb most N L h x hx)
  rw [hd] at HC
  have hlen : (L x).length ≤ 65536 := by omega
  have hone : ∀ v ∈ L x ++ [Value.int .i64 t], v.oneCell' = true := fun v hv => by
    rcases List.mem_append.1 hv with h1 | h1
    · exact h.one x hx v h1
    · rw [List.mem_singleton.1 h1]; rfl
  have HS : Hid (∀ W2 g cp n, n = (L x).length + 1 → (∀ j u, (L x ++ [Value.int .i64 t])[j]? = some u → W2.cell? ⟨g, j, none⟩ = some u) → n ≤ cp → cp ≤ maxLen → (g ≠ mb ∧ ¬ S g) → W.grownBy W2 none → Calls Try.prog 29 #[.pointer (some ⟨sb, 0, none⟩), .int .i64 x, .slice (some ⟨g, 0, none⟩) n cp] W2 fun e W' => e = .returned (.tuple #[]) ∧ LS S 55 W' sb mb most (N + 1) (fun y => if y = x then L x ++ [Value.int .i64 t] else L y) ∧ W2.grownBy W' (some mb)) :=
    Lib.hid (fun W2 g cp n hn hcl hl1 hl2 hg hgr => setI_any W2 sb mb most N L (h.kept hgr) hN x hx (some ⟨g, 0, none⟩) n cp _ (by rw [hn]; simp) ⟨hl1, hl2⟩ hone (fun _ => ⟨g, 0, rfl, hg, fun j u hj => by rw [Nat.zero_add]; exact hcl j u hj⟩))
  have HH : Hid (∀ n, LS S 55 (W.drewN n) sb mb most N L) := Lib.hid (fun n => h.kept ⟨rfl, rfl, rfl, Nat.le_refl _, fun _ _ _ => rfl⟩)
  have c1 := h.s.cell 1
  simp only [List.getElem?_toArray, List.getElem?_cons_zero, List.getElem?_cons_succ] at c1
  obtain ⟨c, F, hc, hM, hr⟩ := h.m
  have hmlt := hM.lt
  have hMd : ∀ n, Mp iKE (W.drewN n) mb c F := fun n => hM.kept (row := none) ⟨rfl, rfl, rfl, Nat.le_refl _, fun _ _ _ => rfl⟩ (by simp)
  have HMd := Lib.hid hMd
  clear hM hMd hd hone h hc hf
  rcases hr x hx with ⟨hF, h0⟩ | ⟨b, o, cap, hF, h1, h2, h3, h4, h5⟩
  · have hu : (F x).getD (.slice none 0 0) = .slice none 0 0 := by rw [hF]; rfl
    have HL0 := Lib.hid h0
    clear hF hr h0
    have hnews : ∀ n, ∀ (j : Nat) (u : Value), [Value.int .i64 t][j]? = some u → ((W.drewN n).alloc (.cells #[Value.int .i64 t] 3)).cell? ((⟨W.heap.size, 0, none⟩ : Addr).add j) = some u := fun n => cell_one_new (W.drewN n) (Value.int .i64 t) 3
    have HN := Lib.hid hnews
    clear hnews
    go_enter Try.func8, Try.ntmps8
    go_wp2_with (first | (go_at_call 28; refine HC.out.mono ?_; rintro e w' ⟨rfl, nd, rfl⟩) | (at_lookup; refine wpLook rfl _ _ rfl Try.underlying53 (zeroIL _) (HMd.out _) rfl (x := x) rfl hx hu ?_) | (go_at_call 30; refine (clipI_any _ none 0 0 (Nat.le_refl _) (Nat.zero_le _) (fun _ => ⟨rfl, rfl⟩)).mono ?_; rintro e w' ⟨rfl, rfl⟩) | (at_builtin; refine appI rfl _ _ rfl (olds := []) (news := [Value.int .i64 t]) rfl rfl (fun _ => ⟨rfl, rfl⟩) rfl (fun b h => nomatch h) rfl (HN.out _) (fun u hu => by rw [List.mem_singleton.1 hu]; rfl) Nat.zero_lt_one (by decide) ?_; intro g cp W1 hc1 hg1 hncp hcpm hgrow1; have HC1 := Lib.hid hc1; clear hc1))
    have hgr : W.grownBy W1 none := (show W.grownBy ((W.drewN nd).alloc (.cells #[Value.int .i64 t] 3)) none from (show W.grownBy (W.drewN nd) none from ⟨rfl, rfl, rfl, Nat.le_refl _, fun _ _ _ => rfl⟩).trans (World.grownBy_alloc _ _ none)).trans hgrow1
    have hgm : (g ≠ mb ∧ ¬ S g) := by
      have : W.heap.size ≤ g := Nat.le_trans (by simp) hg1
      exact ⟨by omega, fun e => by have := hS g e; omega⟩
    refine (HS.out W1 g cp 1 (by rw [HL0.out]; rfl) (fun j u hj => HC1.out j u (by rw [HL0.out] at hj; simpa using hj)) hncp hcpm hgm hgr).mono ?_
    rintro e W3 ⟨rfl, hls, hg3⟩
    go_wp2
    go_ret
    exact ⟨rfl, hls, (show W.grownBy W1 (some mb) from ⟨hgr.os, hgr.tape, hgr.output, hgr.size, fun k h1 _ => hgr.block k h1 (by simp)⟩).trans hg3⟩
  · have hu : (F x).getD (.slice none 0 0) = .slice (some ⟨b, o, none⟩) (L x).length cap := by rw [hF]; rfl
    have hold : ∀ n, ∀ (ad : Addr), some (⟨b, o, none⟩ : Addr) = some ad → ∀ (j : Nat) (u : Value), (L x)[j]? = some u → ((W.drewN n).alloc (.cells #[Value.int .i64 t] 3)).cell? (ad.add j) = some u := fun n ad e j u hj => by
      obtain rfl := Option.some.inj e
      rw [off_add]
      have h6 := h5 j u hj
      rw [← h6]
      unfold World.cell?
      rw [Below.heap_alloc (W.drewN n) _ b (lt_of_cell h6)]
      rfl
    have HO := Lib.hid hold
    have hnews : ∀ n, ∀ (j : Nat) (u : Value), [Value.int .i64 t][j]? = some u → ((W.drewN n).alloc (.cells #[Value.int .i64 t] 3)).cell? ((⟨W.heap.size, 0, none⟩ : Addr).add j) = some u := fun n => cell_one_new (W.drewN n) (Value.int .i64 t) 3
    have HN := Lib.hid hnews
    unfold maxLen at h3
    have hfull : (L x).length < (L x).length + 1 := Nat.lt_succ_self _
    have hle : (L x).length + 1 ≤ 1000000 := by omega
    clear hnews hold hF hr h5 h1
    go_enter Try.func8, Try.ntmps8
    go_wp2_with (first | (go_at_call 28; refine HC.out.mono ?_; rintro e w' ⟨rfl, nd, rfl⟩) | (at_lookup; refine wpLook rfl _ _ rfl Try.underlying53 (zeroIL _) (HMd.out _) rfl (x := x) rfl hx hu ?_) | (go_at_call 30; refine (clipI_any _ (some ⟨b, o, none⟩) (L x).length cap h2 h3 (fun h => nomatch h)).mono ?_; rintro e w' ⟨rfl, rfl⟩) | (at_builtin; refine appI rfl _ _ rfl (olds := L x) (news := [Value.int .i64 t]) rfl rfl (fun h => nomatch h) rfl (HO.out _) rfl (HN.out _) (fun u hu => by rw [List.mem_singleton.1 hu]; rfl) hfull hle ?_; intro g cp W1 hc1 hg1 hncp hcpm hgrow1; have HC1 := Lib.hid hc1; clear hc1))
    have hgr : W.grownBy W1 none := (show W.grownBy ((W.drewN nd).alloc (.cells #[Value.int .i64 t] 3)) none from (show W.grownBy (W.drewN nd) none from ⟨rfl, rfl, rfl, Nat.le_refl _, fun _ _ _ => rfl⟩).trans (World.grownBy_alloc _ _ none)).trans hgrow1
    have hgm : (g ≠ mb ∧ ¬ S g) := by
      have : W.heap.size ≤ g := Nat.le_trans (by simp) hg1
      exact ⟨by omega, fun e => by have := hS g e; omega⟩
    refine (HS.out W1 g cp ((L x).length + 1) (rfl) (HC1.out) hncp hcpm hgm hgr).mono ?_
    rintro e W3 ⟨rfl, hls, hg3⟩
    go_wp2
    go_ret
    exact ⟨rfl, hls, (show W.grownBy W1 (some mb) from ⟨hgr.os, hgr.tape, hgr.output, hgr.size, fun k h1 _ => hgr.block k h1 (by simp)⟩).trans hg3⟩
set_option maxRecDepth 100000 in
theorem newI_yes (W : World) (most : Int) (h1 : 1 ≤ most) (h2 : most ≤ 65536) :
    Calls Try.prog 7 #[.int .i64 most] W fun e W' => e = .returned (.tuple #[.pointer (some ⟨W.heap.size + 1, 0, none⟩), .int .i64 0]) ∧ LS S 55 W' (W.heap.size + 1) W.heap.size most 0 (fun _ => []) ∧ W' = (W.alloc (.map #[] 0)).alloc (.cells #[.int .i64 most, .map (some W.heap.size)] 55) := by
  have hmm := @run_makeMap Try.prog
  have p1 : decide (most < 1) = false := decide_eq_false (by omega)
  have p2 : decide (65536 < most) = false := decide_eq_false (by omega)
  have hB := Blk.new (W.alloc (.map #[] 0)) 55 #[.int .i64 most, .map (some W.heap.size)]
  rw [World.size_alloc] at hB
  have hls : LS S 55 ((W.alloc (.map #[] 0)).alloc (.cells #[.int .i64 most, .map (some W.heap.size)] 55)) (W.heap.size + 1) W.heap.size most 0 (fun _ => []) :=
    ⟨hB, ⟨0, _, Nat.le_refl _, (Mp.made iKE W).alloc _, fun x _ => .inl ⟨rfl, rfl⟩⟩, fun x _ v hv => absurd hv List.not_mem_nil⟩
  have HLS := Lib.hid hls
  clear hls hB
  go_enter Try.func7, Try.ntmps7
  go_wp2
  go_ret2
  exact ⟨rfl, HLS.out, rfl⟩
theorem LS.congr {TS : TypeId} {W : World} {sb mb : Nat} {most : Int} {N : Nat} {L L' : Int → List Value} (h : LS S TS W sb mb most N L) (e : ∀ x, iKE.ok x → L x = L' x) : LS S TS W sb mb most N L' := by
  obtain ⟨c, F, hc, hM, hr⟩ := h.m
  exact ⟨h.s, ⟨c, F, hc, hM, fun x hx => by rw [← e x hx]; exact hr x hx⟩, fun x hx => by rw [← e x hx]; exact h.one x hx⟩
theorem LS.more {TS : TypeId} {W : World} {sb mb : Nat} {most : Int} {N N' : Nat} {L : Int → List Value} (h : LS S TS W sb mb most N L) (hN : N ≤ N') : LS S TS W sb mb most N' L := by
  obtain ⟨c, F, hc, hM, hr⟩ := h.m
  exact ⟨h.s, ⟨c, F, by omega, hM, hr⟩, h.one⟩
theorem LS.lt {TS : TypeId} {W : World} {sb mb : Nat} {most : Int} {N : Nat} {L : Int → List Value} (h : LS S TS W sb mb most N L) : sb < W.heap.size ∧ mb < W.heap.size ∧ sb ≠ mb := by
  have hs := h.s
  obtain ⟨c, F, hc, hM, hr⟩ := h.m
  refine ⟨hs.lt, hM.lt, fun e => ?_⟩
  obtain ⟨D, ⟨es, cl, hb, _⟩, _⟩ := hM
  have := hs
  unfold Blk at this
  rw [e] at this
  rw [this] at hb
  cases hb
/-- a world in which the blocks of S alone have turned; another S -/
theorem LS.turn {S' : Nat → Prop} {TS : TypeId} {W W' : World} {sb mb : Nat} {most : Int} {N : Nat} {L : Int → List Value} (h : LS S TS W sb mb most N L) (hsz : W.heap.size ≤ W'.heap.size) (hb : ∀ k, k < W.heap.size → ¬ S k → W'.heap[k]? = W.heap[k]?) (h1 : ¬ S sb) (h2 : ¬ S mb)
    (hS : ∀ k, S' k → S k ∨ W.heap.size ≤ k) : LS S' TS W' sb mb most N L := by
  have hs := h.s
  obtain ⟨c, F, hc, hM, hr⟩ := h.m
  refine ⟨(hb sb hs.lt h1).trans hs, ⟨c, F, hc, ?_, fun x hx => ?_⟩, h.one⟩
  · obtain ⟨D, ⟨es, clock, hbb, r⟩, s⟩ := hM
    exact ⟨D, ⟨es, clock, (hb mb (Array.getElem?_eq_some_iff.1 hbb).1 h2).trans hbb, r⟩, s⟩
  · rcases hr x hx with h | ⟨b, o, cap, g1, g2, g3, g4, g5, g6⟩
    · exact .inl h
    · have hlt : b < W.heap.size := by
        cases hL : L x with
        | nil => exact absurd hL g2
        | cons v l => exact lt_of_cell (g6 0 v (by rw [hL]; rfl))
      refine .inr ⟨b, o, cap, g1, g2, g3, g4, ⟨g5.1, fun e => ?_⟩, fun j v hj => ?_⟩
      · rcases hS b e with e | e
        · exact g5.2 e
        · omega
      · have := g6 j v hj
        rw [← this]
        unfold World.cell?
        rw [show W'.heap[b]? = _ from hb b hlt g5.2]
end Go.Proofs.Ytklfppjejndclaa.P2
