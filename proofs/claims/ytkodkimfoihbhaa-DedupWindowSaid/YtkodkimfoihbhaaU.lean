/- The closure of DedupWindow: a client's answers are counted. -/
import Derived.Test.YtkodkimfoihbhaaR
import Derived.Deep.RegionHeld3
import Derived.Deep.MidRow
import Derived.Deep.Cut
set_option linter.unusedVariables false
set_option linter.unusedSimpArgs false
namespace Go.Proofs.Ytkodkimfoihbhaa
open Go.RowKit Go.Maps
variable {sb lb tb mb nb ob xb wb : Nat} {win : Int} {c N : Nat} {G : Int × Int → Option (List Value)} {T : Int → Int}
def mI (M : Int → Option Int) : Int → Option Value := fun x => (M x).map (Value.int .i64)
def put1 (F : Int → Option Int) (x : Int) (v : Option Int) : Int → Option Int := fun y => if y = x then v else F y
theorem mI_put (F : Int → Option Int) (x : Int) (v : Option Int) : upd (mI F) x (v.map (Value.int .i64)) = mI (put1 F x v) := by
  funext y
  simp only [upd, put1, mI]
  by_cases e : y = x
  · rw [if_pos e, if_pos e]
  · rw [if_neg e, if_neg e]
/-- where what is captured lies, each apart -/
structure Apart (B0 sb lb tb mb nb ob xb wb : Nat) : Prop where
  m : mb ≠ sb ∧ mb ≠ lb ∧ mb ≠ tb ∧ mb ≠ nb ∧ mb ≠ ob ∧ mb ≠ xb ∧ mb ≠ wb
  o : ob ≠ sb ∧ ob ≠ lb ∧ ob ≠ tb ∧ ob ≠ nb ∧ ob ≠ xb ∧ ob ≠ wb
  b : B0 ≤ mb ∧ B0 ≤ ob
def Far (B0 sb lb tb : Nat) : Nat → Prop := fun k => Tri sb lb tb k ∨ B0 ≤ k
/-- THE TABLE, WHAT THE CLOSURE CAPTURES, ITS COUNTS -/
structure CS (W : World) (B0 sb lb tb mb nb ob xb wb : Nat) (win : Int) (c N : Nat) (G : Int × Int → Option (List Value)) (T : Int → Int) (k : Nat) (M : Int → Option Int) : Prop where
  t : TB W sb lb tb win c N G T
  e : ∃ F, Mp kKE W lb c F ∧ ∀ x, okKey x → Ent (Far B0 sb lb tb) W (F x) (G x)
  n : W.cell? ⟨nb, 0, none⟩ = some (.map (some mb))
  o : W.cell? ⟨ob, 0, none⟩ = some (.bool true)
  f : W.frozen? ⟨ob, 0, none⟩ = false
  x : W.cell? ⟨xb, 0, none⟩ = some (.pointer (some ⟨sb, 0, none⟩))
  w : W.cell? ⟨wb, 0, none⟩ = some (.int .i64 win)
  m : Mp iKE W mb k (mI M)
  a : Apart B0 sb lb tb mb nb ob xb wb
theorem Ent.to {S S' : Nat → Prop} {W : World} {f : Option Value} {g : Option (List Value)} (h : Ent S W f g) (hs : ∀ k, k < W.heap.size → S' k → S k) : Ent S' W f g := by
  unfold Ent at *
  cases g with
  | none => exact h
  | some r => obtain ⟨v, h1, h2⟩ := h; exact ⟨v, h1, h2.to hs⟩
/-- the table behind writes into other blocks -/
theorem TB.beside {W W' : World} {B0 : Nat} {S : Nat → Prop} (h : TB W sb lb tb win c N G T) (he : ∃ F, Mp kKE W lb c F ∧ ∀ x, okKey x → Ent (Far B0 sb lb tb) W (F x) (G x)) (hg : Fr S W W') (h1 : ¬ S sb) (h2 : ¬ S lb) (h3 : ¬ S tb) (h4 : ∀ k, S k → B0 ≤ k) :
    TB W' sb lb tb win c N G T ∧ ∃ F, Mp kKE W' lb c F ∧ ∀ x, okKey x → Ent (Far B0 sb lb tb) W' (F x) (G x) := by
  obtain ⟨F, h6, h7⟩ := he
  obtain ⟨c', F', h8, h9, h10⟩ := h.t
  have hE : ∀ x, okKey x → Ent (Far B0 sb lb tb) W' (F x) (G x) := fun x hx => (h7 x hx).fr (hg.mono fun k hk => .inr (h4 k hk))
  exact ⟨⟨h.s.fr hg h1, h.d, ⟨F, h6.fr hg h2, fun x hx => (hE x hx).to (fun k _ hk => .inl hk)⟩, ⟨c', F', h8, h9.fr hg h3, h10⟩, h.tr, h.w, h.sm⟩, F, h6.fr hg h2, hE⟩
variable {B0 k : Nat} {M : Int → Option Int}
theorem CS.kept {W W' : World} (h : CS W B0 sb lb tb mb nb ob xb wb win c N G T k M) (hg : Fr (fun _ => False) W W') : CS W' B0 sb lb tb mb nb ob xb wb win c N G T k M := by
  obtain ⟨h1, h2⟩ := h.t.beside h.e hg id id id (fun _ e => e.elim)
  have hc : ∀ {a : Addr} {v : Value}, W.cell? a = some v → W'.cell? a = some v := fun {a v} hc => (World.cell?_of_block (hg.block a.block (lt_of_cell hc) id)).trans hc
  refine ⟨h1, h2, hc h.n, hc h.o, ?_, hc h.x, hc h.w, h.m.fr hg id, h.a⟩
  have := hg.block ob (lt_of_cell h.o) id
  rw [← h.f]
  simp only [World.frozen?, this]
/-- the count of one more -/
theorem CS.count {W : World} (h : CS W B0 sb lb tb mb nb ob xb wb win c N G T k M) (hk : k < maxLen) {x : Int} (hx : iKE.ok x) (v : Int) :
    ∃ W', (Instr.mapUpdate 37 (.map (some mb)) (.int .i64 x) (.int .i64 v)).run Try.prog W = .ok () W' ∧ CS W' B0 sb lb tb mb nb ob xb wb win c N G T (if (M x).isSome then k else k + 1) (put1 M x (some v)) ∧ Fr (fun q => q = mb) W W' := by
  obtain ⟨W', hrun, hM', ht⟩ := h.m.store Try.underlying37 hk hx (.int .i64 v)
  have hf : Fr (fun q => q = mb) W W' := Fr.grown ht.grown (fun q e => (Option.some.inj e).symm)
  have hM2 := hM'
  rw [show upd (mI M) x (some (Value.int .i64 v)) = _ from mI_put M x (some v), show ((mI M) x).isSome = (M x).isSome from by unfold mI; simp] at hM2
  obtain ⟨m1, m2, m3, m4, m5, m6, m7⟩ := h.a.m
  obtain ⟨h1, h2⟩ := h.t.beside h.e hf (fun e => m1 e.symm) (fun e => m2 e.symm) (fun e => m3 e.symm) (fun q e => by have := h.a.b.1; omega)
  have hc : ∀ {b : Nat} {v : Value}, b ≠ mb → W.cell? ⟨b, 0, none⟩ = some v → W'.cell? ⟨b, 0, none⟩ = some v := fun {b v} hb hc => (World.cell?_of_block (hf.block b (lt_of_cell hc) hb)).trans hc
  refine ⟨W', hrun, ⟨h1, h2, hc (fun e => m4 e.symm) h.n, hc (fun e => m5 e.symm) h.o, ?_, hc (fun e => m6 e.symm) h.x, hc (fun e => m7 e.symm) h.w, hM2, h.a⟩, hf⟩
  have := hf.block ob (lt_of_cell h.o) (fun e => m5 e.symm)
  rw [← h.f]
  simp only [World.frozen?, this]
/-- the mark is set anew, to what it was -/
theorem CS.mark {W : World} (h : CS W B0 sb lb tb mb nb ob xb wb win c N G T k M) : CS (W.setCell ⟨ob, 0, none⟩ (.bool true)) B0 sb lb tb mb nb ob xb wb win c N G T k M ∧ Fr (fun q => q = ob) W (W.setCell ⟨ob, 0, none⟩ (.bool true)) := by
  have hf : Fr (fun q => q = ob) W (W.setCell ⟨ob, 0, none⟩ (.bool true)) := ⟨rfl, rfl, rfl, Nat.le_of_eq (by simp [World.setCell]), fun q hq hn => Below.heap_setCell _ _ _ q (fun e => hn e)⟩
  obtain ⟨o1, o2, o3, o4, o5, o6⟩ := h.a.o
  obtain ⟨h1, h2⟩ := h.t.beside h.e hf (fun e => o1 e.symm) (fun e => o2 e.symm) (fun e => o3 e.symm) (fun q e => by have := h.a.b.2; omega)
  have hc : ∀ {b : Nat} {v : Value}, b ≠ ob → W.cell? ⟨b, 0, none⟩ = some v → (W.setCell ⟨ob, 0, none⟩ (.bool true)).cell? ⟨b, 0, none⟩ = some v := fun {b v} hb hc => (World.cell?_of_block (hf.block b (lt_of_cell hc) hb)).trans hc
  refine ⟨⟨h1, h2, hc (fun e => o4 e.symm) h.n, World.cell?_setCell_same W _ _ h.o, ?_, hc (fun e => o5 e.symm) h.x, hc (fun e => o6 e.symm) h.w, h.m.fr hf (fun e => h.a.m.2.2.2.2.1 e), h.a⟩, hf⟩
  have := h.f
  simpa [go_sem] using this
theorem CS.look {W : World} (h : CS W B0 sb lb tb mb nb ob xb wb win c N G T k M) {x : Int} (hx : iKE.ok x) : (Instr.lookup 37 (.map (some mb)) (.int .i64 x) false).run Try.prog W = .ok (.int .i64 ((M x).getD 0)) W := by
  have := h.m.look Try.underlying37 (zero3 _) hx
  rw [show (iKE.kv x) = .int .i64 x from rfl] at this
  rw [this]
  unfold mI
  cases M x <;> rfl
set_option maxRecDepth 100000 in
set_option maxHeartbeats 2000000 in
theorem clo_any (W : World) (h : CS W B0 sb lb tb mb nb ob xb wb win c N G T k M) (hk : k < maxLen) (x kk : Int) (v : Value) (hx : iKE.ok x) (hM : 0 ≤ (M x).getD 0 ∧ (M x).getD 0 ≤ 1000000) (h1 : kk ≤ T x) (h2 : T x - win < kk) :
    Calls Try.prog 13 #[.int .i64 x, .int .i64 kk, v, .pointer (some ⟨nb, 0, none⟩), .pointer (some ⟨ob, 0, none⟩), .pointer (some ⟨xb, 0, none⟩), .pointer (some ⟨wb, 0, none⟩)] W fun e W' =>
      e = .returned (.bool true) ∧ CS W' B0 sb lb tb mb nb ob xb wb win c N G T (if (M x).isSome then k else k + 1) (put1 M x (some ((M x).getD 0 + 1))) ∧ Fr (fun q => q = mb ∨ q = ob) W W' := by
  have hlk := h.look hx
  have hn := h.n
  obtain ⟨W1, hrun1, hC1, hf1⟩ := h.count hk hx ((M x).getD 0 + 1)
  obtain ⟨m0, hm0⟩ : ∃ m0, (M x).getD 0 = m0 := ⟨_, rfl⟩
  obtain ⟨k', hk'⟩ : ∃ k', (if (M x).isSome then k else k + 1) = k' := ⟨_, rfl⟩
  obtain ⟨M', hM'⟩ : ∃ M', put1 M x (some (m0 + 1)) = M' := ⟨_, rfl⟩
  rw [hm0] at hlk hrun1 hC1 hM ⊢
  rw [hk', hM'] at hC1
  rw [hk', hM']
  have hw0 : IntKind.i64.wrap (m0 + 1) = m0 + 1 := IntWalk.i64_in _ (by omega)
  have HC1 := Lib.hid hC1
  have HF1 := Lib.hid (hf1.mono (S' := fun q => q = mb ∨ q = ob) fun q e => .inl e)
  have d1 := hC1.o
  have d2 := hC1.x
  have d3 := hC1.w
  have d4 := hC1.f
  have hC1d := hC1.kept (W' := W1.drew) (Fr.drewN _ W1 1)
  have HT := Lib.hid (top_any W1.drew hC1d.t x hx)
  have hTx := hC1.t.tr x
  have hwin := hC1.t.w
  obtain ⟨t, ht⟩ : ∃ t, T x = t := ⟨_, rfl⟩
  rw [ht] at h1 h2 HT hTx
  have p1 : decide (kk ≤ t) = true := decide_eq_true h1
  have p2 : decide (t - win < kk) = true := decide_eq_true h2
  have hw1 : IntKind.i64.wrap (t - win) = t - win := IntWalk.i64_in _ (by omega)
  clear h hC1 hf1 hC1d hm0 hk' hM' ht
  go_enter Try.func13, Try.ntmps13
  go_upto_region 2 with (fail)
  refine wp_region_held_drew (S := fun (w' : World) => w'.cell? ⟨ob, 0, none⟩ = some (.bool true) ∧ w'.cell? ⟨xb, 0, none⟩ = some (.pointer (some ⟨sb, 0, none⟩)) ∧ w'.cell? ⟨wb, 0, none⟩ = some (.int .i64 win) ∧ w'.frozen? ⟨ob, 0, none⟩ = false) (by kernel_rfl) ⟨d1, d2, d3, d4⟩ (fun hHeld => ?_)
  refine wpAnyH_take (i := 0) (oi := _) (v := ?v0) rfl (by kernel_rfl) (by kernel_rfl) (by kernel_rfl) (fun _ _ _ h => h) (Or.inl ⟨by rfl, ?y0⟩) (by assumption) ?r0
  case y0 => intro w1 hSw; obtain ⟨s1, s2, s3, s4⟩ := hSw; go_simp; try with_reducible rfl
  try simp only [List.getElem_toArray, List.getElem_cons_zero, List.getElem_cons_succ, Act.put, List.setIfInBounds_toArray, List.set_cons_zero, List.set_cons_succ]
  refine wpAnyH_take (i := 1) (oi := _) (v := ?v1) rfl (by kernel_rfl) (by kernel_rfl) (by kernel_rfl) (fun _ _ _ h => h) (Or.inl ⟨by rfl, ?y1⟩) (by assumption) ?r1
  case y1 => intro w1 hSw; obtain ⟨s1, s2, s3, s4⟩ := hSw; go_simp; try with_reducible rfl
  try simp only [List.getElem_toArray, List.getElem_cons_zero, List.getElem_cons_succ, Act.put, List.setIfInBounds_toArray, List.set_cons_zero, List.set_cons_succ]
  refine wpAnyH_take (i := 2) (oi := _) (v := ?v2) rfl (by kernel_rfl) (by kernel_rfl) (by kernel_rfl) (fun _ _ _ h => h) (Or.inl ⟨by rfl, ?y2⟩) (by assumption) ?r2
  case y2 => intro w1 hSw; obtain ⟨s1, s2, s3, s4⟩ := hSw; go_simp; try with_reducible rfl
  try simp only [List.getElem_toArray, List.getElem_cons_zero, List.getElem_cons_succ, Act.put, List.setIfInBounds_toArray, List.set_cons_zero, List.set_cons_succ]
  refine wpAnyH_take (i := 3) (oi := _) (v := ?v3) rfl (by kernel_rfl) (by kernel_rfl) (by kernel_rfl) (fun _ _ _ h => h) (Or.inl ⟨by rfl, ?y3⟩) (by assumption) ?r3
  case y3 => intro w1 hSw; obtain ⟨s1, s2, s3, s4⟩ := hSw; go_simp; try with_reducible rfl
  try simp only [List.getElem_toArray, List.getElem_cons_zero, List.getElem_cons_succ, Act.put, List.setIfInBounds_toArray, List.set_cons_zero, List.set_cons_succ]
  refine wpAnyH_take (i := 4) (oi := _) (v := ?v4) rfl (by kernel_rfl) (by kernel_rfl) (by kernel_rfl) (fun _ _ _ h => h) (Or.inl ⟨by rfl, ?y4⟩) (by assumption) ?r4
  case y4 => intro w1 hSw; obtain ⟨s1, s2, s3, s4⟩ := hSw; go_simp; try with_reducible rfl
  try simp only [List.getElem_toArray, List.getElem_cons_zero, List.getElem_cons_succ, Act.put, List.setIfInBounds_toArray, List.set_cons_zero, List.set_cons_succ]
  refine wpAnyH_ready (rs := [5]) (by kernel_rfl) (by simp) ?_
  refine AllReadyH.cons (o := _) rfl (fun K hK => ?_) AllReadyH.nil
  rw [if_pos (by rfl)]
  try simp only [List.getElem_toArray, List.getElem_cons_zero, List.getElem_cons_succ]
  go_simp
  refine HT.out.mono ?_
  rintro e w' ⟨rfl, rfl⟩
  refine hK.out _ _ ⟨d1, d2, d3, d4⟩ (fun hHeld2 => ?_)
  clear hK K
  try simp only [List.getElem_toArray, List.getElem_cons_zero, List.getElem_cons_succ, Act.put, List.setIfInBounds_toArray, List.set_cons_zero, List.set_cons_succ]
  refine wpAnyH_take (i := 6) (oi := _) (v := ?v6) rfl (by kernel_rfl) (by kernel_rfl) (by kernel_rfl) (fun _ _ _ h => h) (Or.inl ⟨by rfl, ?y6⟩) (by assumption) ?r6
  case y6 => intro w1 hSw; obtain ⟨s1, s2, s3, s4⟩ := hSw; go_simp; try with_reducible rfl
  try simp only [List.getElem_toArray, List.getElem_cons_zero, List.getElem_cons_succ, Act.put, List.setIfInBounds_toArray, List.set_cons_zero, List.set_cons_succ]
  refine wpAnyH_take (i := 7) (oi := _) (v := ?v7) rfl (by kernel_rfl) (by kernel_rfl) (by kernel_rfl) (fun _ _ _ h => h) (Or.inl ⟨by rfl, ?y7⟩) (by assumption) ?r7
  case y7 => intro w1 hSw; obtain ⟨s1, s2, s3, s4⟩ := hSw; go_simp; try with_reducible rfl
  try simp only [List.getElem_toArray, List.getElem_cons_zero, List.getElem_cons_succ, Act.put, List.setIfInBounds_toArray, List.set_cons_zero, List.set_cons_succ]
  refine wpAnyH_take (i := 8) (oi := _) (v := ?v8) rfl (by kernel_rfl) (by kernel_rfl) (by kernel_rfl) (fun _ _ _ h => h) (Or.inl ⟨by rfl, ?y8⟩) (by assumption) ?r8
  case y8 => intro w1 hSw; obtain ⟨s1, s2, s3, s4⟩ := hSw; go_simp; try with_reducible rfl
  try simp only [List.getElem_toArray, List.getElem_cons_zero, List.getElem_cons_succ, Act.put, List.setIfInBounds_toArray, List.set_cons_zero, List.set_cons_succ]
  refine wpAnyH_take (i := 9) (oi := _) (v := ?v9) rfl (by kernel_rfl) (by kernel_rfl) (by kernel_rfl) (fun _ _ _ h => h) (Or.inl ⟨by rfl, ?y9⟩) (by assumption) ?r9
  case y9 => intro w1 hSw; obtain ⟨s1, s2, s3, s4⟩ := hSw; go_simp; try with_reducible rfl
  try simp only [List.getElem_toArray, List.getElem_cons_zero, List.getElem_cons_succ, Act.put, List.setIfInBounds_toArray, List.set_cons_zero, List.set_cons_succ]
  refine wpAnyH_take (i := 10) (oi := _) (v := ?v10) rfl (by kernel_rfl) (by kernel_rfl) (by kernel_rfl) (fun _ _ _ h => h) (Or.inl ⟨by rfl, ?y10⟩) (by assumption) ?r10
  case y10 => intro w1 hSw; obtain ⟨s1, s2, s3, s4⟩ := hSw; go_simp; try with_reducible rfl
  try simp only [List.getElem_toArray, List.getElem_cons_zero, List.getElem_cons_succ, Act.put, List.setIfInBounds_toArray, List.set_cons_zero, List.set_cons_succ]
  refine wpAnyH_take (i := 11) (oi := _) (v := ?v11) rfl (by kernel_rfl) (by kernel_rfl) (by kernel_rfl) (fun _ _ _ h => h) (Or.inl ⟨by rfl, ?y11⟩) (by assumption) ?r11
  case y11 => intro w1 hSw; obtain ⟨s1, s2, s3, s4⟩ := hSw; go_simp; try with_reducible rfl
  try simp only [List.getElem_toArray, List.getElem_cons_zero, List.getElem_cons_succ, Act.put, List.setIfInBounds_toArray, List.set_cons_zero, List.set_cons_succ]
  refine wpAnyH_take (i := 13) (oi := _) (v := ?v13) rfl (by kernel_rfl) (by kernel_rfl) (by kernel_rfl) (fun _ _ _ h => h) (Or.inl ⟨by rfl, ?y13⟩) (by assumption) ?r13
  case y13 => intro w1 hSw; obtain ⟨s1, s2, s3, s4⟩ := hSw; go_simp; try with_reducible rfl
  try simp only [List.getElem_toArray, List.getElem_cons_zero, List.getElem_cons_succ, Act.put, List.setIfInBounds_toArray, List.set_cons_zero, List.set_cons_succ]
  refine wpAnyH_ready (rs := [12]) (by kernel_rfl) (by simp) ?_
  refine AllReadyH.cons (o := _) rfl (fun K hK => ?_) AllReadyH.nil
  rw [if_pos (by rfl)]
  try simp only [List.getElem_toArray, List.getElem_cons_zero, List.getElem_cons_succ]
  go_simp
  refine HT.out.mono ?_
  rintro e w' ⟨rfl, rfl⟩
  refine hK.out _ _ ⟨d1, d2, d3, d4⟩ (fun hHeld3 => ?_)
  clear hK K
  try simp only [List.getElem_toArray, List.getElem_cons_zero, List.getElem_cons_succ, Act.put, List.setIfInBounds_toArray, List.set_cons_zero, List.set_cons_succ]
  refine wpAnyH_take (i := 14) (oi := _) (v := ?v14) rfl (by kernel_rfl) (by kernel_rfl) (by kernel_rfl) (fun _ _ _ h => h) (Or.inl ⟨by rfl, ?y14⟩) (by assumption) ?r14
  case y14 => intro w1 hSw; obtain ⟨s1, s2, s3, s4⟩ := hSw; go_simp; try with_reducible rfl
  try simp only [List.getElem_toArray, List.getElem_cons_zero, List.getElem_cons_succ, Act.put, List.setIfInBounds_toArray, List.set_cons_zero, List.set_cons_succ]
  refine wpAnyH_take (i := 15) (oi := _) (v := ?v15) rfl (by kernel_rfl) (by kernel_rfl) (by kernel_rfl) (fun _ _ _ h => h) (Or.inl ⟨by rfl, ?y15⟩) (by assumption) ?r15
  case y15 => intro w1 hSw; obtain ⟨s1, s2, s3, s4⟩ := hSw; go_simp; try with_reducible rfl
  try simp only [List.getElem_toArray, List.getElem_cons_zero, List.getElem_cons_succ, Act.put, List.setIfInBounds_toArray, List.set_cons_zero, List.set_cons_succ]
  refine wpAnyH_take (i := 16) (oi := _) (v := ?v16) rfl (by kernel_rfl) (by kernel_rfl) (by kernel_rfl) (fun _ _ _ h => h) (Or.inl ⟨by rfl, ?y16⟩) (by assumption) ?r16
  case y16 => intro w1 hSw; obtain ⟨s1, s2, s3, s4⟩ := hSw; go_simp; try with_reducible rfl
  try simp only [List.getElem_toArray, List.getElem_cons_zero, List.getElem_cons_succ, Act.put, List.setIfInBounds_toArray, List.set_cons_zero, List.set_cons_succ]
  have hC2 := (HC1.out.kept (W' := W1.drew) (Fr.drewN _ W1 1)).mark
  have e1 := hC2.1.o
  have e2 := hC2.1.x
  have e3 := hC2.1.w
  have e4 := hC2.1.f
  refine wpAnyH_ready (rs := [17]) (by kernel_rfl) (by simp) ?_
  refine AllReadyH.cons (o := _) rfl (fun K hK => ?_) AllReadyH.nil
  rw [if_pos (by rfl)]
  try simp only [List.getElem_toArray, List.getElem_cons_zero, List.getElem_cons_succ]
  go_simp
  refine hK.out _ _ ⟨e1, e2, e3, e4⟩ (fun hHeld4 => ?_)
  clear hK K
  try simp only [List.getElem_toArray, List.getElem_cons_zero, List.getElem_cons_succ, Act.put, List.setIfInBounds_toArray, List.set_cons_zero, List.set_cons_succ]
  refine wpAnyH_done (by kernel_rfl) ?_ _
  have HC2 := Lib.hid hC2
  clear hC2 e1 e2 e3 e4 d1 d2 d3 d4 hHeld hHeld2 hHeld3 hHeld4
  go_wp2
  go_ret
  exact ⟨rfl, HC2.out.1, (HF1.out.trans (Fr.drewN _ W1 1)).trans (HC2.out.2.mono fun q e => .inr e)⟩
end Go.Proofs.Ytkodkimfoihbhaa
