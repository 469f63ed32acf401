/- The walk of DedupWindow. -/
import Derived.Test.YtkodkimfoihbhaaV
import Derived.Test.YtkodkimfoihbhaaF
import Derived.Maps.RangeWalk
set_option linter.unusedVariables false
set_option linter.unusedSimpArgs false
namespace Go.Proofs.Ytkodkimfoihbhaa
open Go.RowKit Go.Maps
variable {B0 sb lb tb mb nb ob xb wb : Nat} {win : Int} {c N : Nat} {G : Int × Int → Option (List Value)} {T : Int → Int}
/-- a client's last answer is there -/
def TP (G : Int × Int → Option (List Value)) (T : Int → Int) : Prop := ∀ x, T x ≠ 0 → (G (x, T x)).isSome = true
theorem tp_put {x y : Int} {r : List Value} (h : TP G T) (hw : 1 ≤ win) : TP (Gput win G T x y r) (Tput win G T x y) := by
  intro z hz
  unfold Gput
  unfold Tput at hz ⊢
  by_cases hc : code win G T x y = 0
  · rw [if_pos hc] at hz ⊢
    rw [if_pos hc]
    have hb : ¬ Bad x y := fun hb => by unfold code at hc; rw [if_pos hb] at hc; cases hc
    by_cases ht : T x < y
    · rw [if_pos ht] at hz ⊢
      rw [if_pos ht]
      unfold updT at hz ⊢
      by_cases e : z = x
      · subst e
        rw [if_pos rfl]
        unfold del
        rw [if_neg]
        · unfold updG; rw [if_pos rfl]; rfl
        · rintro ⟨_, h5, h6⟩
          dsimp only at h5 h6
          unfold numOf at h6
          split at h6 <;> omega
      · rw [if_neg e] at hz ⊢
        unfold del
        rw [if_neg (fun q => e q.1)]
        unfold updG
        rw [if_neg (fun q => e (by cases q; rfl))]
        exact h z hz
    · rw [if_neg ht] at hz ⊢
      rw [if_neg ht]
      unfold updG
      by_cases e : (z, T z) = (x, y)
      · rw [if_pos e]; rfl
      · rw [if_neg e]; exact h z hz
  · rw [if_neg hc] at hz ⊢
    rw [if_neg hc]
    exact h z hz
theorem CS.fr {W W' : World} {S : Nat → Prop} {k L : Nat} {M : Int → Option Int} (h : CS W B0 sb lb tb mb nb ob xb wb win c N G T k M) (hg : Fr S W W') (hL : sb < L ∧ lb < L ∧ tb < L ∧ mb < L ∧ nb < L ∧ ob < L ∧ xb < L ∧ wb < L ∧ B0 ≤ L) (hS : ∀ q, S q → L ≤ q) : CS W' B0 sb lb tb mb nb ob xb wb win c N G T k M := by
  obtain ⟨l1, l2, l3, l4, l5, l6, l7, l8, l9⟩ := hL
  have hn : ∀ b, b < L → ¬ S b := fun b hb e => by have := hS b e; omega
  obtain ⟨h1, h2⟩ := h.t.beside h.e hg (hn _ l1) (hn _ l2) (hn _ l3) (fun q e => by have := hS q e; omega)
  have hc : ∀ {b : Nat} {v : Value}, b < L → W.cell? ⟨b, 0, none⟩ = some v → W'.cell? ⟨b, 0, none⟩ = some v := fun {b v} hb hc => (World.cell?_of_block (hg.block b (lt_of_cell hc) (hn b hb))).trans hc
  refine ⟨h1, h2, hc l5 h.n, hc l6 h.o, ?_, hc l7 h.x, hc l8 h.w, h.m.fr hg (hn _ l4), h.a⟩
  have := hg.block ob (lt_of_cell h.o) (hn _ l6)
  rw [← h.f]
  simp only [World.frozen?, this]
theorem next_val {D : DataW Value} {F : Int → Option Int} (hD : ∀ x, iKE.ok x → Maps.has D (iKE.kl x) = (mI F x).isSome ∧ ∀ z, D.atKey (iKE.kl x) z = (match mI F x with | some v => .held v | none => z)) {x : Int} {cv : Value} {kl : Lit} {y : DataW Value × List MemPlace}
    (hkey : keyOf Try.prog 3 (.int .i64 x) = some kl) (hR : rawR cv = some y) (hat : ∀ zd, D.atKey kl zd = y.1) : iKE.ok x ∧ ∃ t, cv = .int .i64 t ∧ F x = some t := by
  obtain ⟨x', ex, rfl, hw⟩ := Maps.keyOf_int_inv under3 hkey
  cases ex
  refine ⟨hw, ?_⟩
  have h2 := (hD x hw).2
  have hy : y = (.held cv, []) := (Option.some.inj hR).symm
  subst hy
  unfold mI at h2
  cases hF : F x with
  | none =>
    have e2 := (h2 (.map [])).symm.trans (hat (.map []))
    rw [hF] at e2
    cases e2
  | some t =>
    have e1 := (h2 (.map [])).symm.trans (hat (.map []))
    rw [hF] at e1
    injection e1 with e1
    exact ⟨t, e1.symm, rfl⟩
theorem MA_le (ks : List Int) (i : Nat) (hw : 1 ≤ win) (hT : ∀ x, 0 ≤ T x ∧ T x ≤ 1099511627776) {x t : Int} (h : MA win G T ks i x = some t) : t ≤ win := by
  unfold MA at h
  split at h
  · cases h
    have := sqL_len win G T x
    have := lo_rng win T x (hT x) hw
    omega
  · cases h
set_option maxRecDepth 100000 in
set_option maxHeartbeats 4000000 in
theorem window_law (w : World) (wi : Int) (a : Option Addr) (n cap : Nat) (p : Play) (hA : Acts w w.heap.size a n p) (hP : PlayOk n p) (hn : n ≤ 9223372036854775807) :
    Calls Try.prog 4 #[.int .i64 wi, .slice a n cap] w fun e W' => e = .returned (.bool true) ∧ Below w.heap.size w W' := by
  have hmm := @run_makeMap Try.prog
  go_enter Try.func4, Try.ntmps4
  go_wp2_with fail
  refine (known_any _).mono ?_
  rintro e w1 ⟨rfl, b1⟩
  have b0 : Below w.heap.size w w1 := ((Below.refl _ w).alloc (Nat.le_refl _) _).trans (b1.mono (by simp))
  have cw1 : w1.cell? ⟨w.heap.size, 0, none⟩ = some (.int .i64 wi) := (b1.cell (p := ⟨w.heap.size, 0, none⟩) (by simp)).trans (by simp)
  have hs1 : w.heap.size < w1.heap.size := lt_of_cell cw1
  have hF1 : Fr (From w.heap.size) w w1 := ⟨b0.os, b0.tape, b0.output, b0.size, fun k hk hn => b0.block k (by unfold From at hn; omega)⟩
  have HA1 := Lib.hid (hA.fr hF1)
  have HP := Lib.hid hP
  have HF1 := Lib.hid hF1
  clear hA hP b1 hF1
  go_wp2_with fail
  refine (few_any w1 w.heap.size a n cap p HA1.out HP.out hn).mono ?_
  rintro e w2 ⟨q, rfl, rfl, hq⟩
  cases q with
  | false =>
    go_wp2
    go_ret
    exact ⟨rfl, b0⟩
  | true =>
  obtain ⟨hn200, htot⟩ := hq rfl
  clear hq
  by_cases h1 : wi < 1
  · have p1 : decide (wi < 1) = true := decide_eq_true h1
    go_wp2
    go_ret
    exact ⟨rfl, b0⟩
  have p1 : decide (wi < 1) = false := decide_eq_false h1
  by_cases h2 : 50 < wi
  · have p2 : decide (50 < wi) = true := decide_eq_true h2
    go_wp2
    go_ret
    exact ⟨rfl, b0⟩
  have p2 : decide (50 < wi) = false := decide_eq_false h2
  go_wp2_with fail
  refine (new_yes _ wi (by omega) (by omega)).mono ?_
  rintro e w3 ⟨rfl, hB3, hf3⟩
  have hB4 := hB3.fr (Fr.alloc (fun _ => False) w3 (.cells #[.pointer (some ⟨w1.heap.size + 2, 0, none⟩)] 25))
  have hlt3 := hB3.s.lt
  have hfa : Fr (fun _ => False) w1 (w3.alloc (.cells #[.pointer (some ⟨w1.heap.size + 2, 0, none⟩)] 25)) := hf3.trans (Fr.alloc _ _ _)
  have cw4 : (w3.alloc (.cells #[.pointer (some ⟨w1.heap.size + 2, 0, none⟩)] 25)).cell? ⟨w.heap.size, 0, none⟩ = some (.int .i64 wi) := (World.cell?_of_block (hfa.block w.heap.size hs1 id)).trans cw1
  have cx4 : (w3.alloc (.cells #[.pointer (some ⟨w1.heap.size + 2, 0, none⟩)] 25)).cell? ⟨w3.heap.size, 0, none⟩ = some (.pointer (some ⟨w1.heap.size + 2, 0, none⟩)) := by simp
  have HB4 := Lib.hid hB4
  have HF4 := Lib.hid (HF1.out.trans (hfa.mono (S' := From w.heap.size) fun _ e => e.elim))
  have HA4 := Lib.hid (HA1.out.fr (hfa.mono (S' := From w.heap.size) fun _ e => e.elim))
  clear hB3 hB4 hf3 hfa HA1 HF1 cw1
  go_wp2
  obtain ⟨lb, hlb⟩ : ∃ lb, w1.heap.size = lb := ⟨_, rfl⟩
  obtain ⟨xb, hxb⟩ : ∃ xb, w3.heap.size = xb := ⟨_, rfl⟩
  obtain ⟨wb, hwb⟩ : ∃ wb, w.heap.size = wb := ⟨_, rfl⟩
  have HWB := Lib.hid hwb
  rw [hlb] at HB4
  rw [hlb] at hs1 hlt3
  rw [hxb] at hlt3
  rw [hlb, hwb] at cw4
  rw [hlb, hxb] at cx4
  rw [hlb] at HF4 HA4
  rw [hwb] at hs1 HF4 HA4
  obtain ⟨w4, hw4⟩ : ∃ w4, w3.alloc (.cells #[.pointer (some ⟨lb + 2, 0, none⟩)] 25) = w4 := ⟨_, rfl⟩
  rw [hw4] at HB4 cw4 cx4 HF4 HA4
  rw [hlb, hxb, hwb, hw4]
  clear hw4 hlb hxb hwb
  have hTwo : ∀ k, Two lb (lb + 1) k → From wb k := fun k hk => by unfold From; rcases hk with rfl | rfl <;> omega
  have hTri : ∀ k, Tri (lb + 2) lb (lb + 1) k → From wb k := fun k hk => by unfold From; rcases hk with rfl | rfl | rfl <;> omega
  have HT := Lib.hid hTwo
  have HTR := Lib.hid hTri
  clear hTwo hTri
  go_loopw [7] (fun iv wr => ∃ (i : Nat) (c N : Nat) (G : Int × Int → Option (List Value)) (T : Int → Int), i ≤ n ∧ iv = .int .i64 i ∧ c ≤ i ∧ N ≤ i ∧ TB wr (lb + 2) lb (lb + 1) wi c N G T ∧ TP G T ∧ Fr (fun k => k = lb ∨ k = lb + 1) w4 wr) (fun iv _ => n - (intOf iv).toNat)
  case atStart => exact ⟨0, 0, 0, _, _, Nat.zero_le _, rfl, Nat.le_refl _, Nat.le_refl _, HB4.out, fun x h => absurd rfl h, Fr.refl _ _⟩
  case round =>
    obtain ⟨i, c, N, G, T, hi, rfl, hc, hN, hB, hTP, hf⟩ := hrel
    have hfF : Fr (From wb) w4 wr := hf.mono HT.out
    have dx : wr.cell? ⟨xb, 0, none⟩ = some (.pointer (some ⟨lb + 2, 0, none⟩)) := (World.cell?_of_block (hf.block xb (lt_of_cell cx4) (fun e => by rcases e with e | e <;> omega))).trans cx4
    have dw : wr.cell? ⟨wb, 0, none⟩ = some (.int .i64 wi) := (World.cell?_of_block (hf.block wb (lt_of_cell cw4) (fun e => by rcases e with e | e <;> omega))).trans cw4
    by_cases hlt : i < n
    · have p0 : decide ((i : Int) < n) = true := decide_eq_true (by omega)
      have hsz := HP.out.sz i hlt
      have htl := total_le p n i hlt
      have hbl : (p.by_ i).length ≤ 8192 := by omega
      have hA5 := HA4.out.fr hfF
      rcases hA5 with h0 | ⟨B, o, rfl, hb, hcs⟩
      · omega
      obtain ⟨c0, c1, c2, c3, hr⟩ := hcs i hlt
      have i1 : (i : Int) < (n : Int) := by omega
      have HBB := Lib.hid hB
      have HR := Lib.hid hr
      have HTP := Lib.hid hTP
      have HFF := Lib.hid hf
      clear hcs hB hr hTP hf hfF
      go_upto_region 11 with (fail)
      refine wp_region_held_drew (S := fun (w' : World) => w'.cell? ⟨B, o + i * 4 + 1, none⟩ = some (.int .i64 (p.cl i)) ∧ w'.cell? ⟨B, o + i * 4 + 2, none⟩ = some (.int .i64 (p.sq i)) ∧ w'.cell? ⟨B, o + i * 4 + 3, none⟩ = some (p.an i) ∧ w'.cell? ⟨xb, 0, none⟩ = some (.pointer (some ⟨lb + 2, 0, none⟩))) (by kernel_rfl) ⟨c1, c2, c3, dx⟩ (fun hHeld => ?_)
      refine wpAnyH_take (i := 0) (oi := _) (v := ?v0) rfl (by kernel_rfl) (by kernel_rfl) (by kernel_rfl) (fun _ _ _ h => h) (Or.inl ⟨by rfl, ?y0⟩) (by assumption) ?r0
      case y0 => intro w1 hSw; obtain ⟨s1, s2, s3, s4⟩ := hSw; go_simp; try with_reducible rfl
      try simp only [List.getElem_toArray, List.getElem_cons_zero, List.getElem_cons_succ, Act.put, List.setIfInBounds_toArray, List.set_cons_zero, List.set_cons_succ]
      refine wpAnyH_take (i := 1) (oi := _) (v := ?v1) rfl (by kernel_rfl) (by kernel_rfl) (by kernel_rfl) (fun _ _ _ h => h) (Or.inl ⟨by rfl, ?y1⟩) (by assumption) ?r1
      case y1 => intro w1 hSw; obtain ⟨s1, s2, s3, s4⟩ := hSw; go_simp; try with_reducible rfl
      try simp only [List.getElem_toArray, List.getElem_cons_zero, List.getElem_cons_succ, Act.put, List.setIfInBounds_toArray, List.set_cons_zero, List.set_cons_succ]
      refine wpAnyH_take (i := 2) (oi := _) (v := ?v2) rfl (by kernel_rfl) (by kernel_rfl) (by kernel_rfl) (fun _ _ _ h => h) (Or.inl ⟨by rfl, ?y2⟩) (by assumption) ?r2
      case y2 => intro w1 hSw; obtain ⟨s1, s2, s3, s4⟩ := hSw; go_simp; try with_reducible rfl
      try simp only [List.getElem_toArray, List.getElem_cons_zero, List.getElem_cons_succ, Act.put, List.setIfInBounds_toArray, List.set_cons_zero, List.set_cons_succ]
      refine wpAnyH_take (i := 3) (oi := _) (v := ?v3) rfl (by kernel_rfl) (by kernel_rfl) (by kernel_rfl) (fun _ _ _ h => h) (Or.inl ⟨by rfl, ?y3⟩) (by assumption) ?r3
      case y3 => intro w1 hSw; obtain ⟨s1, s2, s3, s4⟩ := hSw; go_simp; try with_reducible rfl
      try simp only [List.getElem_toArray, List.getElem_cons_zero, List.getElem_cons_succ, Act.put, List.setIfInBounds_toArray, List.set_cons_zero, List.set_cons_succ]
      refine wpAnyH_take (i := 4) (oi := _) (v := ?v4) rfl (by kernel_rfl) (by kernel_rfl) (by kernel_rfl) (fun _ _ _ h => h) (Or.inl ⟨by rfl, ?y4⟩) (by assumption) ?r4
      case y4 => intro w1 hSw; obtain ⟨s1, s2, s3, s4⟩ := hSw; go_simp; try with_reducible rfl
      try simp only [List.getElem_toArray, List.getElem_cons_zero, List.getElem_cons_succ, Act.put, List.setIfInBounds_toArray, List.set_cons_zero, List.set_cons_succ]
      refine wpAnyH_take (i := 5) (oi := _) (v := ?v5) rfl (by kernel_rfl) (by kernel_rfl) (by kernel_rfl) (fun _ _ _ h => h) (Or.inl ⟨by rfl, ?y5⟩) (by assumption) ?r5
      case y5 => intro w1 hSw; obtain ⟨s1, s2, s3, s4⟩ := hSw; go_simp; try with_reducible rfl
      try simp only [List.getElem_toArray, List.getElem_cons_zero, List.getElem_cons_succ, Act.put, List.setIfInBounds_toArray, List.set_cons_zero, List.set_cons_succ]
      refine wpAnyH_take (i := 6) (oi := _) (v := ?v6) rfl (by kernel_rfl) (by kernel_rfl) (by kernel_rfl) (fun _ _ _ h => h) (Or.inl ⟨by rfl, ?y6⟩) (by assumption) ?r6
      case y6 => intro w1 hSw; obtain ⟨s1, s2, s3, s4⟩ := hSw; go_simp; try with_reducible rfl
      try simp only [List.getElem_toArray, List.getElem_cons_zero, List.getElem_cons_succ, Act.put, List.setIfInBounds_toArray, List.set_cons_zero, List.set_cons_succ]
      refine wpAnyH_take (i := 7) (oi := _) (v := ?v7) rfl (by kernel_rfl) (by kernel_rfl) (by kernel_rfl) (fun _ _ _ h => h) (Or.inl ⟨by rfl, ?y7⟩) (by assumption) ?r7
      case y7 => intro w1 hSw; obtain ⟨s1, s2, s3, s4⟩ := hSw; go_simp; try with_reducible rfl
      try simp only [List.getElem_toArray, List.getElem_cons_zero, List.getElem_cons_succ, Act.put, List.setIfInBounds_toArray, List.set_cons_zero, List.set_cons_succ]
      refine wpAnyH_take (i := 8) (oi := _) (v := ?v8) rfl (by kernel_rfl) (by kernel_rfl) (by kernel_rfl) (fun _ _ _ h => h) (Or.inl ⟨by rfl, ?y8⟩) (by assumption) ?r8
      case y8 => intro w1 hSw; obtain ⟨s1, s2, s3, s4⟩ := hSw; go_simp; try with_reducible rfl
      try simp only [List.getElem_toArray, List.getElem_cons_zero, List.getElem_cons_succ, Act.put, List.setIfInBounds_toArray, List.set_cons_zero, List.set_cons_succ]
      refine wpAnyH_take (i := 9) (oi := _) (v := ?v9) rfl (by kernel_rfl) (by kernel_rfl) (by kernel_rfl) (fun _ _ _ h => h) (Or.inl ⟨by rfl, ?y9⟩) (by assumption) ?r9
      case y9 => intro w1 hSw; obtain ⟨s1, s2, s3, s4⟩ := hSw; go_simp; try with_reducible rfl
      try simp only [List.getElem_toArray, List.getElem_cons_zero, List.getElem_cons_succ, Act.put, List.setIfInBounds_toArray, List.set_cons_zero, List.set_cons_succ]
      refine wpAnyH_take (i := 10) (oi := _) (v := ?v10) rfl (by kernel_rfl) (by kernel_rfl) (by kernel_rfl) (fun _ _ _ h => h) (Or.inl ⟨by rfl, ?y10⟩) (by assumption) ?r10
      case y10 => intro w1 hSw; obtain ⟨s1, s2, s3, s4⟩ := hSw; go_simp; try with_reducible rfl
      try simp only [List.getElem_toArray, List.getElem_cons_zero, List.getElem_cons_succ, Act.put, List.setIfInBounds_toArray, List.set_cons_zero, List.set_cons_succ]
      refine wpAnyH_take (i := 11) (oi := _) (v := ?v11) rfl (by kernel_rfl) (by kernel_rfl) (by kernel_rfl) (fun _ _ _ h => h) (Or.inl ⟨by rfl, ?y11⟩) (by assumption) ?r11
      case y11 => intro w1 hSw; obtain ⟨s1, s2, s3, s4⟩ := hSw; go_simp; try with_reducible rfl
      try simp only [List.getElem_toArray, List.getElem_cons_zero, List.getElem_cons_succ, Act.put, List.setIfInBounds_toArray, List.set_cons_zero, List.set_cons_succ]
      refine wpAnyH_take (i := 12) (oi := _) (v := ?v12) rfl (by kernel_rfl) (by kernel_rfl) (by kernel_rfl) (fun _ _ _ h => h) (Or.inl ⟨by rfl, ?y12⟩) (by assumption) ?r12
      case y12 => intro w1 hSw; obtain ⟨s1, s2, s3, s4⟩ := hSw; go_simp; try with_reducible rfl
      try simp only [List.getElem_toArray, List.getElem_cons_zero, List.getElem_cons_succ, Act.put, List.setIfInBounds_toArray, List.set_cons_zero, List.set_cons_succ]
      refine wpAnyH_take (i := 13) (oi := _) (v := ?v13) rfl (by kernel_rfl) (by kernel_rfl) (by kernel_rfl) (fun _ _ _ h => h) (Or.inl ⟨by rfl, ?y13⟩) (by assumption) ?r13
      case y13 => intro w1 hSw; obtain ⟨s1, s2, s3, s4⟩ := hSw; go_simp; try with_reducible rfl
      try simp only [List.getElem_toArray, List.getElem_cons_zero, List.getElem_cons_succ, Act.put, List.setIfInBounds_toArray, List.set_cons_zero, List.set_cons_succ]
      refine wpAnyH_take (i := 14) (oi := _) (v := ?v14) rfl (by kernel_rfl) (by kernel_rfl) (by kernel_rfl) (fun _ _ _ h => h) (Or.inl ⟨by rfl, ?y14⟩) (by assumption) ?r14
      case y14 => intro w1 hSw; obtain ⟨s1, s2, s3, s4⟩ := hSw; go_simp; try with_reducible rfl
      try simp only [List.getElem_toArray, List.getElem_cons_zero, List.getElem_cons_succ, Act.put, List.setIfInBounds_toArray, List.set_cons_zero, List.set_cons_succ]
      refine wpAnyH_take (i := 15) (oi := _) (v := ?v15) rfl (by kernel_rfl) (by kernel_rfl) (by kernel_rfl) (fun _ _ _ h => h) (Or.inl ⟨by rfl, ?y15⟩) (by assumption) ?r15
      case y15 => intro w1 hSw; obtain ⟨s1, s2, s3, s4⟩ := hSw; go_simp; try with_reducible rfl
      try simp only [List.getElem_toArray, List.getElem_cons_zero, List.getElem_cons_succ, Act.put, List.setIfInBounds_toArray, List.set_cons_zero, List.set_cons_succ]
      refine wpAnyH_ready (rs := [16]) (by kernel_rfl) (by simp) ?_
      refine AllReadyH.cons (o := _) rfl (fun K hK => ?_) AllReadyH.nil
      rw [if_pos (by rfl)]
      try simp only [List.getElem_toArray, List.getElem_cons_zero, List.getElem_cons_succ]
      go_simp
      have hfd : Fr (fun _ => False) wr wr.drew := Fr.drewN _ wr 1
      have hBd := HBB.out.fr hfd
      have hRd := (RowB.fr (S := From wb) HR.out (hfd.mono fun _ e => e.elim)).to (S' := Tri (lb + 2) lb (lb + 1)) (fun k _ hk => HTR.out k hk)
      refine (put_any _ hBd (by omega) (by omega) (p.cl i) (p.sq i) _ _ hRd ⟨hbl, HP.out.one i hlt⟩).mono ?_
      rintro e w5 ⟨rfl, hB5, hf5⟩
      have hf5' : Fr (fun k => k = lb ∨ k = lb + 1) wr w5 := (hfd.mono fun _ e => e.elim).trans hf5
      have hkp : ∀ {b j : Nat} {v : Value}, ¬ (b = lb ∨ b = lb + 1) → wr.cell? ⟨b, j, none⟩ = some v → w5.cell? ⟨b, j, none⟩ = some v := fun {b j v} hb hc => by
        rw [← hc]
        exact World.cell?_of_block (hf5'.block b (lt_of_cell hc) hb)
      have hBne : ¬ (B = lb ∨ B = lb + 1) := fun e => by rcases e with e | e <;> omega
      refine hK.out _ _ ⟨hkp hBne c1, hkp hBne c2, hkp hBne c3, hkp (fun e => by rcases e with e | e <;> omega) dx⟩ (fun hHeld2 => ?_)
      clear hK K
      try simp only [List.getElem_toArray, List.getElem_cons_zero, List.getElem_cons_succ, Act.put, List.setIfInBounds_toArray, List.set_cons_zero, List.set_cons_succ]
      refine wpAnyH_done (by kernel_rfl) ?_ _
      have HB5 := Lib.hid hB5
      have HF5 := Lib.hid (HFF.out.trans hf5')
      have CL := Lib.hid (Cput_le wi c G T (p.cl i) (p.sq i) (p.by_ i))
      clear hHeld hHeld2 hkp hf5 hf5' hB5 hRd hBd hfd c0 c1 c2 c3 HR HFF HBB dx dw
      go_wp2
      go_roundw
      case rel => exact ⟨i + 1, _, N + 1, _, _, by omega, by go_num, by have := CL.out; omega, by omega, HB5.out, tp_put HTP.out (by omega), HF5.out⟩
      case measure => simp [intOf]; omega
    · obtain rfl : i = n := by omega
      have p0 : decide ((i : Int) < i) = false := decide_eq_false (by omega)
      have HTP := Lib.hid hTP
      have HFF := Lib.hid (HF4.out.trans hfF)
      have hsr := hf.size
      have hw4l : xb < w4.heap.size := lt_of_cell cx4
      obtain ⟨F0, hM0, hE0⟩ := hB.l
      have hE1 : ∀ x, okKey x → Ent (Far wr.heap.size (lb + 2) lb (lb + 1)) wr (F0 x) (G x) := fun x hx => (hE0 x hx).to (fun k hk e => e.elim id (fun e => by omega))
      have hfw : Fr (fun _ => False) wr (((wr.alloc (.map #[] 0)).alloc (.cells #[.map (some wr.heap.size)] 37)).alloc (.cells #[.bool true] 4)) := ((Fr.alloc _ _ _).trans (Fr.alloc _ _ _)).trans (Fr.alloc _ _ _)
      have hx2 : xb < wr.heap.size := by omega
      have hw2 : wb < wr.heap.size := by omega
      have hCS : CS (((wr.alloc (.map #[] 0)).alloc (.cells #[.map (some wr.heap.size)] 37)).alloc (.cells #[.bool true] 4)) wr.heap.size (lb + 2) lb (lb + 1) wr.heap.size (wr.heap.size + 1) (wr.heap.size + 1 + 1) xb wb wi c N G T 0 (fun _ => none) := by
        have n1 := (Blk.new (wr.alloc (.map #[] 0)) 37 #[.map (some wr.heap.size)]).alloc (.cells #[.bool true] 4)
        have o1 := Blk.new ((wr.alloc (.map #[] 0)).alloc (.cells #[.map (some wr.heap.size)] 37)) 4 #[.bool true]
        rw [World.size_alloc] at n1 o1
        rw [World.size_alloc] at o1
        exact ⟨hB.fr hfw, ⟨F0, hM0.fr hfw id, fun x hx => (hE1 x hx).fr (hfw.mono fun _ e => e.elim)⟩, n1.cell 0, o1.cell 0, o1.frozen 0, (World.cell?_of_block (hfw.block xb hx2 id)).trans dx, (World.cell?_of_block (hfw.block wb hw2 id)).trans dw, ((Mp.made iKE wr).alloc _).alloc _, ⟨by omega, by omega, by omega⟩⟩
      have HCS := Lib.hid hCS
      have HFW := Lib.hid hfw
      clear hB hTP hf hfF hE0 hE1 hM0 hCS hfw
      go_upto_region 14 with (fail)
      have hwrs : wr.heap.size ≤ (((wr.alloc (.map #[] 0)).alloc (.cells #[.map (some wr.heap.size)] 37)).alloc (.cells #[.bool true] 4)).heap.size := by simp; omega
      obtain ⟨w5, hw5⟩ : ∃ w5, (((wr.alloc (.map #[] 0)).alloc (.cells #[.map (some wr.heap.size)] 37)).alloc (.cells #[.bool true] 4)) = w5 := ⟨_, rfl⟩
      rw [hw5] at HCS HFW hwrs ⊢
      clear hw5
      obtain ⟨B0, hB0⟩ : ∃ B0, wr.heap.size = B0 := ⟨_, rfl⟩
      rw [hB0] at HCS hwrs hx2 hw2 hsr ⊢
      have HFB := Lib.hid (HFF.out.trans (HFW.out.mono (S' := From wb) fun _ e => e.elim))
      have HEA := Lib.hid (each_any w5 HCS.out (by omega) HTP.out)
      have d5 := HCS.out.x
      have hTr := HCS.out.t.tr
      have HTr := Lib.hid hTr
      clear hB0 hTr HFW HFF
      go_wp2_with fail
      refine HEA.out.mono ?_
      rintro e w6 ⟨rfl, ks, hcli, hlen, hC6, hf6⟩
      have HCLI := Lib.hid hcli
      have HC6 := Lib.hid hC6
      have HF6 := Lib.hid (HFB.out.trans (hf6.mono (S' := From wb) fun q hq => by unfold From; rcases hq with rfl | rfl <;> omega))
      have d6 := hC6.n
      obtain ⟨D, hown, hsize, hD⟩ := hC6.m
      have HDD := Lib.hid hD
      have hB6 : B0 < w6.heap.size := hC6.m.lt
      have hB6' : B0 + 1 + 1 < w6.heap.size := lt_of_cell hC6.o
      have hL : lb + 2 < w6.heap.size ∧ lb < w6.heap.size ∧ lb + 1 < w6.heap.size ∧ B0 < w6.heap.size ∧ B0 + 1 < w6.heap.size ∧ B0 + 1 + 1 < w6.heap.size ∧ xb < w6.heap.size ∧ wb < w6.heap.size ∧ B0 ≤ w6.heap.size := by omega
      have HL := Lib.hid hL
      clear hcli hC6 hf6 HEA HCS hD hL
      go_wp2_with (at_range; refine wpList_range_own _ rfl _ 37 rfl 3 3 (int_keyed under3) Try.underlying37 rawR B0 ks.length D rfl hown ?_; intro w7 hrg7 hg7 hs7)
      go_frame
      have hC7 := HC6.out.kept (W' := w7) (Fr.grown hg7 (fun k e => nomatch e))
      go_loopw [11] (fun _ wz => ∃ left cnt, wz.ranges Try.prog 3 rawR B0 w6.heap.size ks.length D left cnt ∧ CS wz B0 (lb + 2) lb (lb + 1) B0 (B0 + 1) (B0 + 1 + 1) xb wb wi c N G T ks.length (MA wi G T ks ks.length) ∧ Fr (From wb) w6 wz) (fun _ wz => wz.rangeLeft B0 w6.heap.size)
      case atStart => exact ⟨_, _, hrg7, hC7, (Fr.grown hg7 (fun k e => nomatch e) : Fr (fun _ => False) w6 w7).mono fun _ e => e.elim⟩
      case round =>
        obtain ⟨left, cnt, hrg, hC8, hf8⟩ := hrel
        have hwz : w6.heap.size ≤ wr.heap.size := hf8.size
        have HC8 := Lib.hid hC8
        have HF8 := Lib.hid hf8
        clear hrg7 hg7 hs7 hC7 hC8 hf8 hown
        go_wp2_with (at_next; refine wpList_next_ranges _ rfl _ rfl 3 (int_keyed under3) rawR (Value.int .i64) id (fun key kl h => by obtain ⟨x, rfl, _⟩ := Maps.keyOf_int_inv under3 h; exact ⟨x, rfl⟩) (fun v y _ => ⟨v, rfl⟩) B0 w6.heap.size ks.length D left cnt rfl hrg ?_ ?_)
        case _ =>
          intro hc0 hl0
          clear hc0 hl0 hrg
          have e1 := HC8.out.o
          have e2 := HC8.out.n
          have e3 := HC8.out.x
          have hlenn := HC8.out.m.len Try.underlying37 3
          have HCA := Lib.hid (cli_any wr HC8.out.t (by omega))
          go_wp2_with fail
          refine HCA.out.mono ?_
          rintro e w9 ⟨ao, cp, ks2, rfl, hr9, hcli2, _, hf9⟩
          have hone := Cli.one HCLI.out hcli2
          have pe : ((ks.length : Int) == (ks2.length : Int)) = true := by rw [hone]; simp
          have HF9 := Lib.hid ((HF6.out.trans HF8.out).trans (hf9.mono (S' := From wb) fun _ e => e.elim))
          clear hr9 hcli2 hf9 HCA hone hlenn
          go_wp2
          go_ret
          refine ⟨rfl, HF9.out.below (by rw [HWB.out]; exact Nat.le_refl _) (fun k hk => ?_)⟩
          rw [HWB.out]
          exact hk
        case _ =>
          intro x cv kl y1 y2 w8 cnt8 hkey hlk hR hat hrg8 hlt8 hg8 hs8 hen
          obtain ⟨hxk, t, rfl, hxt⟩ := next_val HDD.out hkey hR hat
          have htw := MA_le ks ks.length (by omega) HTr.out hxt
          have p5 : decide (t ≤ wi) = true := decide_eq_true htw
          have hf9 : Fr (fun q => q = w6.heap.size) wr w8 := Fr.grown hg8 (fun k e => (Option.some.inj e).symm)
          have hC9 := HC8.out.fr hf9 HL.out (fun q e => Nat.le_of_eq e.symm)
          have f1 := hC9.o
          have f2 := hC9.w
          have f3 := hC9.f
          have hMk := hC9.mark
          have HMK := Lib.hid hMk
          have hrg9 := hrg8.kept (row := some (B0 + 1 + 1)) ⟨hMk.2.os, hMk.2.tape, hMk.2.output, hMk.2.size, fun q hq hne => hMk.2.block q hq (fun e => hne (by rw [e]))⟩ (fun e => by have := Option.some.inj e; omega) (fun e => by have := Option.some.inj e; omega)
          have HRG9 := Lib.hid hrg9
          have HF10 := Lib.hid ((HF8.out.trans (hf9.mono (S' := From wb) fun q e => by unfold From; omega)).trans (hMk.2.mono (S' := From wb) fun q e => by unfold From; omega))
          have HLT8 := Lib.hid hlt8
          have HRG := Lib.hid hrg
          clear hkey hlk hR hat hrg8 hg8 hs8 hxt htw hrg hlt8 hf9 hC9 hMk hrg9
          go_wp2
          go_roundw
          case rel => exact ⟨_, _, HRG9.out, HMK.out.1, HF10.out⟩
          case measure => rw [HRG9.out.left_eq, HRG.out.left_eq]; exact HLT8.out
end Go.Proofs.Ytkodkimfoihbhaa
