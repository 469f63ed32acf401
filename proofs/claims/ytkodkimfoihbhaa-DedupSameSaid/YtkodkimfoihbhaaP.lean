/- Put. -/
import Derived.Test.YtkodkimfoihbhaaL
import Derived.Deep.RegionHeld3
import Derived.Deep.MidRow
import Derived.Deep.Cut
set_option linter.unusedVariables false
set_option linter.unusedSimpArgs false
namespace Go.Proofs.Ytkodkimfoihbhaa
open Go.RowKit Go.Maps
variable {sb lb tb : Nat} {win : Int} {c N : Nat} {G : Int × Int → Option (List Value)} {T : Int → Int}
def updG (G : Int × Int → Option (List Value)) (x : Int × Int) (r : Option (List Value)) : Int × Int → Option (List Value) := fun y => if y = x then r else G y
def updT (T : Int → Int) (x y : Int) : Int → Int := fun z => if z = x then y else T z
theorem not_two {sb lb tb : Nat} (h : lb ≠ tb ∧ sb ≠ lb ∧ sb ≠ tb) : ¬ Two lb tb sb := fun e => e.elim (fun e => h.2.1 e) (fun e => h.2.2 e)
theorem Ent.turn {W W' : World} {f : Option Value} {g : Option (List Value)} (h : Ent (Tri sb lb tb) W f g) (hg : Fr (Two lb tb) W W') : Ent (Tri sb lb tb) W' f g :=
  Ent.fr (S := Tri sb lb tb) h (hg.mono fun k hk => hk.elim (fun e => .inr (.inl e)) (fun e => .inr (.inr e)))
theorem RowB.turn {W W' : World} {v : Value} {r : List Value} (h : RowB (Tri sb lb tb) W v r) (hg : Fr (Two lb tb) W W') : RowB (Tri sb lb tb) W' v r :=
  RowB.fr (S := Tri sb lb tb) h (hg.mono fun k hk => hk.elim (fun e => .inr (.inl e)) (fun e => .inr (.inr e)))
theorem Ent.some_iff {S : Nat → Prop} {W : World} {f : Option Value} {g : Option (List Value)} (h : Ent S W f g) : f.isSome = g.isSome := by
  unfold Ent at h
  cases g with
  | none => rw [h]; rfl
  | some r => obtain ⟨v, h1, _⟩ := h; rw [h1]; rfl
theorem frL {W W' : World} (ht : W.mapTurned W' lb) : Fr (Two lb tb) W W' := Fr.grown ht.grown (fun k e => .inl (Option.some.inj e).symm)
theorem frT {W W' : World} (ht : W.mapTurned W' tb) : Fr (Two lb tb) W W' := Fr.grown ht.grown (fun k e => .inr (Option.some.inj e).symm)
theorem TB.store_l {W : World} (h : TB W sb lb tb win c N G T) (hc : c < maxLen) {x : Int × Int} (hx : okKey x) {v : Value} {r : List Value} (hr : RowB (Tri sb lb tb) W v r) (hs : r.length ≤ 8192 ∧ ∀ u ∈ r, u.oneCell' = true) :
    ∃ W', (Instr.mapUpdate 46 (.map (some lb)) (.agg #[.int .i64 x.1, .int .i64 x.2]) v).run Try.prog W = .ok () W' ∧ TB W' sb lb tb win (if (G x).isSome then c else c + 1) N (updG G x (some r)) T ∧ Fr (Two lb tb) W W' := by
  obtain ⟨F, hM, hF⟩ := h.l
  obtain ⟨ct, Ft, h3, h4, h5⟩ := h.t
  obtain ⟨W', hrun, hM', ht⟩ := hM.store Try.underlying46 hc hx v
  have hf : Fr (Two lb tb) W W' := frL ht
  have hf1 : Fr (fun k => k = lb) W W' := Fr.grown ht.grown (fun k e => (Option.some.inj e).symm)
  refine ⟨W', hrun, ⟨h.s.fr hf (not_two h.d), h.d, ⟨_, by rw [(hF x hx).some_iff] at hM'; exact hM', fun y hy => ?_⟩, ⟨ct, Ft, h3, h4.fr hf1 (fun e => h.d.1 e.symm), h5⟩, h.tr, h.w, fun y r' e => ?_⟩, hf⟩
  · unfold updG
    by_cases e : y = x
    · subst e; rw [upd_same, if_pos rfl]; exact ⟨v, rfl, hr.turn hf⟩
    · rw [upd_other _ _ _ _ e, if_neg e]; exact (hF y hy).turn hf
  · unfold updG at e
    by_cases e' : y = x
    · rw [if_pos e'] at e; cases e; exact hs
    · rw [if_neg e'] at e; exact h.sm y r' e
theorem TB.drop_l {W : World} (h : TB W sb lb tb win c N G T) {x : Int × Int} (hx : okKey x) (ty : TypeId) :
    ∃ W', (Builtin.delete_ #[46, 51] ty #[.map (some lb), .agg #[.int .i64 x.1, .int .i64 x.2]]).run Try.prog W = .ok (.tuple #[]) W' ∧ TB W' sb lb tb win (if (G x).isSome then c - 1 else c) N (updG G x none) T ∧ Fr (Two lb tb) W W' := by
  obtain ⟨F, hM, hF⟩ := h.l
  obtain ⟨ct, Ft, h3, h4, h5⟩ := h.t
  obtain ⟨W', hrun, hM', ht⟩ := hM.drop Try.underlying46 hx ty
  have hf : Fr (Two lb tb) W W' := frL ht
  have hf1 : Fr (fun k => k = lb) W W' := Fr.grown ht.grown (fun k e => (Option.some.inj e).symm)
  refine ⟨W', hrun, ⟨h.s.fr hf (not_two h.d), h.d, ⟨_, by rw [(hF x hx).some_iff] at hM'; exact hM', fun y hy => ?_⟩, ⟨ct, Ft, h3, h4.fr hf1 (fun e => h.d.1 e.symm), h5⟩, h.tr, h.w, fun y r' e => ?_⟩, hf⟩
  · unfold updG
    by_cases e : y = x
    · subst e; rw [upd_same, if_pos rfl]; rfl
    · rw [upd_other _ _ _ _ e, if_neg e]; exact (hF y hy).turn hf
  · unfold updG at e
    by_cases e' : y = x
    · rw [if_pos e'] at e; cases e
    · rw [if_neg e'] at e; exact h.sm y r' e
theorem TB.store_t {W : World} (h : TB W sb lb tb win c N G T) (hN : N < maxLen) {x y : Int} (hx : iKE.ok x) (hy : 1 ≤ y ∧ y ≤ 1099511627776) :
    ∃ W', (Instr.mapUpdate 37 (.map (some tb)) (.int .i64 x) (.int .i64 y)).run Try.prog W = .ok () W' ∧ TB W' sb lb tb win c (N + 1) G (updT T x y) ∧ Fr (Two lb tb) W W' := by
  obtain ⟨F, hM, hF⟩ := h.l
  obtain ⟨ct, Ft, h3, h4, h5⟩ := h.t
  obtain ⟨W', hrun, hM', ht⟩ := h4.store Try.underlying37 (by omega) hx (.int .i64 y)
  have hf : Fr (Two lb tb) W W' := frT ht
  have hf1 : Fr (fun k => k = tb) W W' := Fr.grown ht.grown (fun k e => (Option.some.inj e).symm)
  refine ⟨W', hrun, ⟨h.s.fr hf (not_two h.d), h.d, ⟨_, hM.fr hf1 h.d.1, fun y hy => (hF y hy).turn hf⟩, ⟨_, _, ?_, hM', fun z hz => ?_⟩, fun z => ?_, h.w, h.sm⟩, hf⟩
  · split <;> omega
  · unfold updT
    by_cases e : z = x
    · subst e; rw [upd_same, if_pos rfl, if_neg (by omega)]
    · rw [upd_other _ _ _ _ e, if_neg e]; exact h5 z hz
  · unfold updT
    by_cases e : z = x
    · rw [if_pos e]; omega
    · rw [if_neg e]; exact h.tr z
/-- what goes: the requests of x, M of them from lo on -/
def del (G : Int × Int → Option (List Value)) (x lo : Int) (M : Nat) : Int × Int → Option (List Value) := fun k => if k.1 = x ∧ lo ≤ k.2 ∧ k.2 < lo + M then none else G k
def gone (G : Int × Int → Option (List Value)) (x lo : Int) : Nat → Nat
  | 0 => 0
  | m + 1 => gone G x lo m + (if (G (x, lo + m)).isSome then 1 else 0)
theorem del_succ (G : Int × Int → Option (List Value)) (x lo : Int) (m : Nat) : updG (del G x lo m) (x, lo + m) none = del G x lo (m + 1) := by
  funext k
  obtain ⟨a, b⟩ := k
  unfold updG del
  by_cases h1 : (a, b) = (x, lo + m)
  · have h2 := congrArg Prod.fst h1
    have h3 := congrArg Prod.snd h1
    dsimp only at h2 h3
    rw [if_pos h1, if_pos ⟨h2, by dsimp only; omega, by dsimp only; omega⟩]
  · rw [if_neg h1]
    by_cases h2 : a = x ∧ lo ≤ b ∧ b < lo + m
    · rw [if_pos h2, if_pos ⟨h2.1, h2.2.1, by dsimp only; omega⟩]
    · rw [if_neg h2, if_neg ?_]
      rintro ⟨h3, h4, h5⟩
      dsimp only at h3 h4 h5
      by_cases h6 : b = lo + m
      · exact h1 (by rw [h3, h6])
      · exact h2 ⟨h3, h4, by omega⟩
theorem del_zero (G : Int × Int → Option (List Value)) (x lo : Int) : del G x lo 0 = G := by
  funext k
  unfold del
  rw [if_neg (by omega)]
theorem del_at (G : Int × Int → Option (List Value)) (x lo : Int) (m : Nat) : del G x lo m (x, lo + m) = G (x, lo + m) := by
  unfold del
  rw [if_neg (by dsimp only; omega)]
def loOf (win : Int) (T : Int → Int) (x : Int) : Int := if 1 ≤ T x - win + 1 then T x - win + 1 else 1
def numOf (win : Int) (T : Int → Int) (x y : Int) : Nat := ((if y - win ≤ T x then y - win else T x) + 1 - loOf win T x).toNat
/-- what is remembered behind Put -/
def Gput (win : Int) (G : Int × Int → Option (List Value)) (T : Int → Int) (x y : Int) (r : List Value) : Int × Int → Option (List Value) :=
  if code win G T x y = 0 then (if T x < y then del (updG G (x, y) (some r)) x (loOf win T x) (numOf win T x y) else updG G (x, y) (some r)) else G
def Tput (win : Int) (G : Int × Int → Option (List Value)) (T : Int → Int) (x y : Int) : Int → Int := if code win G T x y = 0 then (if T x < y then updT T x y else T) else T
def Cput (win : Int) (c : Nat) (G : Int × Int → Option (List Value)) (T : Int → Int) (x y : Int) (r : List Value) : Nat :=
  if code win G T x y = 0 then (if T x < y then c + 1 - gone (updG G (x, y) (some r)) x (loOf win T x) (numOf win T x y) else c + 1) else c
theorem TB.more {W : World} (h : TB W sb lb tb win c N G T) (N' : Nat) (hN : N ≤ N') : TB W sb lb tb win c N' G T := by
  obtain ⟨c', F', h3, h4, h5⟩ := h.t
  exact ⟨h.s, h.d, h.l, ⟨c', F', by omega, h4, h5⟩, h.tr, h.w, h.sm⟩
set_option maxRecDepth 100000 in
theorem put_not (W : World) (h : TB W sb lb tb win c N G T) (x y : Int) (v : Value) (hc : code win G T x y ≠ 0) :
    Calls Try.prog 9 #[.pointer (some ⟨sb, 0, none⟩), .int .i64 x, .int .i64 y, v] W fun e W' => e = .returned (.int .i64 (code win G T x y)) ∧ Fr (fun _ => False) W W' := by
  have HL := Lib.hid (look_any W h x y)
  have p : (code win G T x y != 0) = true := by rw [bne_iff_ne]; exact hc
  clear h hc
  go_enter Try.func9, Try.ntmps9
  go_wp2_with fail
  refine HL.out.mono ?_
  rintro e W1 ⟨⟨v1, rfl, _⟩, hf⟩
  go_wp2
  go_ret
  exact ⟨rfl, hf⟩
set_option maxRecDepth 100000 in
theorem put_new (W : World) (h : TB W sb lb tb win c N G T) (hcl : c ≤ 1000000) (hN : N ≤ 1000000) (x y : Int) (v : Value) (r : List Value) (hr : RowB (Tri sb lb tb) W v r) (hs : r.length ≤ 8192 ∧ ∀ u ∈ r, u.oneCell' = true) (hc : code win G T x y = 0) :
    Calls Try.prog 9 #[.pointer (some ⟨sb, 0, none⟩), .int .i64 x, .int .i64 y, v] W fun e W' => e = .returned (.int .i64 0) ∧ TB W' sb lb tb win (Cput win c G T x y r) (N + 1) (Gput win G T x y r) (Tput win G T x y) ∧ Fr (Two lb tb) W W' := by
  have HL := Lib.hid (look_any W h x y)
  rw [hc] at HL
  have HC := Lib.hid hc
  have H := Lib.hid h
  have HR := Lib.hid hr
  have HS := Lib.hid hs
  clear h hc hr hs
  go_enter Try.func9, Try.ntmps9
  go_wp2_with fail
  refine HL.out.mono ?_
  rintro e W1 ⟨⟨v1, rfl, _⟩, hf⟩
  have HB1 := Lib.hid (H.out.fr hf)
  have HR1 := Lib.hid (HR.out.fr (hf.mono (fun _ e => e.elim)))
  have c1 := HB1.out.s.cell 1
  simp only [List.getElem?_toArray, List.getElem?_cons_zero, List.getElem?_cons_succ] at c1
  have HF0 := Lib.hid hf
  clear hf
  go_upto_region 4 with (fail)
  refine wp_region_held_drew (S := fun (w' : World) => w'.cell? ⟨sb, 1, none⟩ = some (.map (some lb)) ∧ Fr (Two lb tb) W1 w') (by kernel_rfl) ⟨c1, Fr.drewN _ W1 1⟩ (fun hHeld => ?_)
  refine wpAnyH_take (i := 0) (oi := _) (v := ?v0) rfl (by kernel_rfl) (by kernel_rfl) (by kernel_rfl) (fun _ _ _ h => h) (Or.inl ⟨by rfl, ?y0⟩) (by assumption) ?r0
  case y0 => intro w1 hSw; obtain ⟨s1, s2⟩ := hSw; go_simp; try with_reducible rfl
  try simp only [List.getElem_toArray, List.getElem_cons_zero, List.getElem_cons_succ, Act.put, List.setIfInBounds_toArray, List.set_cons_zero, List.set_cons_succ]
  refine wpAnyH_take (i := 1) (oi := _) (v := ?v1) rfl (by kernel_rfl) (by kernel_rfl) (by kernel_rfl) (fun _ _ _ h => h) (Or.inl ⟨by rfl, ?y1⟩) (by assumption) ?r1
  case y1 => intro w1 hSw; obtain ⟨s1, s2⟩ := hSw; go_simp; try with_reducible rfl
  try simp only [List.getElem_toArray, List.getElem_cons_zero, List.getElem_cons_succ, Act.put, List.setIfInBounds_toArray, List.set_cons_zero, List.set_cons_succ]
  refine wpAnyH_take (i := 2) (oi := _) (v := ?v2) rfl (by kernel_rfl) (by kernel_rfl) (by kernel_rfl) (fun _ _ _ h => h) (Or.inl ⟨by rfl, ?y2⟩) (by assumption) ?r2
  case y2 => intro w1 hSw; obtain ⟨s1, s2⟩ := hSw; go_simp; try with_reducible rfl
  try simp only [List.getElem_toArray, List.getElem_cons_zero, List.getElem_cons_succ, Act.put, List.setIfInBounds_toArray, List.set_cons_zero, List.set_cons_succ]
  refine wpAnyH_take (i := 3) (oi := _) (v := ?v3) rfl (by kernel_rfl) (by kernel_rfl) (by kernel_rfl) (fun _ _ _ h => h) (Or.inl ⟨by rfl, ?y3⟩) (by assumption) ?r3
  case y3 => intro w1 hSw; obtain ⟨s1, s2⟩ := hSw; go_simp; try with_reducible rfl
  try simp only [List.getElem_toArray, List.getElem_cons_zero, List.getElem_cons_succ, Act.put, List.setIfInBounds_toArray, List.set_cons_zero, List.set_cons_succ]
  refine wpAnyH_take (i := 4) (oi := _) (v := ?v4) rfl (by kernel_rfl) (by kernel_rfl) (by kernel_rfl) (fun _ _ _ h => h) (Or.inl ⟨by rfl, ?y4⟩) (by assumption) ?r4
  case y4 => intro w1 hSw; obtain ⟨s1, s2⟩ := hSw; go_simp; try with_reducible rfl
  try simp only [List.getElem_toArray, List.getElem_cons_zero, List.getElem_cons_succ, Act.put, List.setIfInBounds_toArray, List.set_cons_zero, List.set_cons_succ]
  refine wpAnyH_take (i := 5) (oi := _) (v := ?v5) rfl (by kernel_rfl) (by kernel_rfl) (by kernel_rfl) (fun _ _ _ h => h) (Or.inl ⟨by rfl, ?y5⟩) (by assumption) ?r5
  case y5 => intro w1 hSw; obtain ⟨s1, s2⟩ := hSw; go_simp; try with_reducible rfl
  try simp only [List.getElem_toArray, List.getElem_cons_zero, List.getElem_cons_succ, Act.put, List.setIfInBounds_toArray, List.set_cons_zero, List.set_cons_succ]
  refine wpAnyH_take (i := 6) (oi := _) (v := ?v6) rfl (by kernel_rfl) (by kernel_rfl) (by kernel_rfl) (fun _ _ _ h => h) (Or.inl ⟨by rfl, ?y6⟩) (by assumption) ?r6
  case y6 => intro w1 hSw; obtain ⟨s1, s2⟩ := hSw; go_simp; try with_reducible rfl
  try simp only [List.getElem_toArray, List.getElem_cons_zero, List.getElem_cons_succ, Act.put, List.setIfInBounds_toArray, List.set_cons_zero, List.set_cons_succ]
  refine wpAnyH_take (i := 7) (oi := _) (v := ?v7) rfl (by kernel_rfl) (by kernel_rfl) (by kernel_rfl) (fun _ _ _ h => h) (Or.inl ⟨by rfl, ?y7⟩) (by assumption) ?r7
  case y7 => intro w1 hSw; obtain ⟨s1, s2⟩ := hSw; go_simp; try with_reducible rfl
  try simp only [List.getElem_toArray, List.getElem_cons_zero, List.getElem_cons_succ, Act.put, List.setIfInBounds_toArray, List.set_cons_zero, List.set_cons_succ]
  refine wpAnyH_ready (rs := [8]) (by kernel_rfl) (by simp) ?_
  refine AllReadyH.cons (o := _) rfl (fun K hK => ?_) AllReadyH.nil
  rw [if_pos (by rfl)]
  try simp only [List.getElem_toArray, List.getElem_cons_zero, List.getElem_cons_succ]
  go_simp
  have hf1d : Fr (fun _ => False) W1 W1.drew := Fr.drewN _ W1 1
  refine (clone_any (Tri sb lb tb) (Tri sb lb tb) _ v r (HR1.out.fr (hf1d.mono fun _ e => e.elim)) (by have := HS.out.1; omega) HS.out.2 (fun k hk => ?_)).mono ?_
  · obtain ⟨F, hM, _⟩ := HB1.out.l
    obtain ⟨_, Ft, _, hMt, _⟩ := HB1.out.t
    rcases hk with rfl | rfl | rfl
    · exact HB1.out.s.lt
    · exact hM.lt
    · exact hMt.lt
  rintro e W2 ⟨v2, rfl, hr2, hf2⟩
  have hb : ¬ Bad x y := fun hb => by
    have := HC.out
    unfold code at this
    rw [if_pos hb] at this
    cases this
  obtain ⟨hx, hk⟩ := ok_of hb
  have hnone : G (x, y) = none := by
    have := HC.out
    unfold code at this
    rw [if_neg hb] at this
    cases hg : G (x, y) with
    | none => rfl
    | some q =>
      rw [hg] at this
      split at this <;> simp at this
  have hfa : Fr (fun _ => False) W1 W2 := hf1d.trans hf2
  have hB2 := HB1.out.fr hfa
  obtain ⟨W3, hrun3, hB3, hf3⟩ := hB2.store_l (by unfold maxLen; omega) hk hr2 HS.out
  dsimp only at hrun3
  rw [hnone] at hB3
  have hfb : Fr (Two lb tb) W1 W3 := (hfa.mono fun _ e => e.elim).trans hf3
  have c1' := hB3.s.cell 1
  simp only [List.getElem?_toArray, List.getElem?_cons_zero, List.getElem?_cons_succ] at c1'
  have c2' := hB2.s.cell 1
  simp only [List.getElem?_toArray, List.getElem?_cons_zero, List.getElem?_cons_succ] at c2'
  refine hK.out _ _ ⟨c2', hfa.mono fun _ e => e.elim⟩ (fun hHeld2 => ?_)
  clear hK K
  try simp only [List.getElem_toArray, List.getElem_cons_zero, List.getElem_cons_succ, Act.put, List.setIfInBounds_toArray, List.set_cons_zero, List.set_cons_succ]
  refine wpAnyH_ready (rs := [9]) (by kernel_rfl) (by simp) ?_
  refine AllReadyH.cons (o := _) rfl (fun K hK => ?_) AllReadyH.nil
  rw [if_pos (by rfl)]
  try simp only [List.getElem_toArray, List.getElem_cons_zero, List.getElem_cons_succ]
  go_simp
  refine hK.out _ _ ⟨c1', hfb⟩ (fun hHeld3 => ?_)
  clear hK K hHeld3 hHeld2 hHeld c2' c1' hr2 hf2 hf3 hrun3 hf1d hfa hB2
  try simp only [List.getElem_toArray, List.getElem_cons_zero, List.getElem_cons_succ, Act.put, List.setIfInBounds_toArray, List.set_cons_zero, List.set_cons_succ]
  refine wpAnyH_done (by kernel_rfl) ?_ _
  simp only [Option.isSome_none, Bool.false_eq_true, if_false] at hB3
  have HB3 := Lib.hid hB3
  clear hB3
  have d0 := HB3.out.s.cell 0
  have d1 := HB3.out.s.cell 1
  have d2 := HB3.out.s.cell 2
  simp only [List.getElem?_toArray, List.getElem?_cons_zero, List.getElem?_cons_succ] at d0 d1 d2
  have hT := HB3.out.tr x
  have hw := HB3.out.w
  have hrunt : (Instr.lookup 37 (.map (some tb)) (.int .i64 x) false).run Try.prog W3 = .ok (.int .i64 (T x)) W3 := by
    obtain ⟨ct, F, hc, hM, hF⟩ := HB3.out.top
    have := hM.look Try.underlying37 (zero3 _) hx
    rw [hF x hx] at this
    exact this
  by_cases htop : T x < y
  · have p1 : decide (T x < y) = true := decide_eq_true htop
    obtain ⟨W4, hrun4, hB4, hf4⟩ := HB3.out.store_t (by unfold maxLen; omega) hx (y := y) (by unfold Bad at hb; omega)
    have d4 := hB4.s.cell 0
    have d5 := hB4.s.cell 1
    simp only [List.getElem?_toArray, List.getElem?_cons_zero, List.getElem?_cons_succ] at d4 d5
    have HB4 := Lib.hid hB4
    clear hB4
    have hbb := hb
    unfold Bad at hbb
    have htop' : ¬ y ≤ T x := by omega
    have e1 : Gput win G T x y r = del (updG G (x, y) (some r)) x (loOf win T x) (numOf win T x y) := by unfold Gput; rw [if_pos HC.out, if_pos htop]
    have e2 : Cput win c G T x y r = c + 1 - gone (updG G (x, y) (some r)) x (loOf win T x) (numOf win T x y) := by unfold Cput; rw [if_pos HC.out, if_pos htop]
    have e3 : Tput win G T x y = updT T x y := by unfold Tput; rw [if_pos HC.out, if_pos htop]
    have hiff : ∀ m : Nat, (m < numOf win T x y ↔ loOf win T x + m ≤ if y - win ≤ T x then y - win else T x) := by
      intro m
      unfold numOf
      split <;> omega
    obtain ⟨lo, hlo⟩ : ∃ lo, lo = loOf win T x := ⟨_, rfl⟩
    obtain ⟨M, hM⟩ : ∃ M, M = numOf win T x y := ⟨_, rfl⟩
    obtain ⟨G1, hG1⟩ : ∃ G1, G1 = updG G (x, y) (some r) := ⟨_, rfl⟩
    rw [← hlo, ← hM] at hiff
    rw [← hlo, ← hM, ← hG1] at e1 e2
    rw [← hG1] at HB4
    have E1 := Lib.hid e1
    have E2 := Lib.hid e2
    have E3 := Lib.hid e3
    have hlo1 : 1 ≤ lo ∧ lo ≤ T x + 1 := by
      rw [hlo]
      unfold loOf
      split <;> omega
    have hD := del_succ G1 x lo
    have hA := del_at G1 x lo
    have hZ := del_zero G1 x lo
    have HD := Lib.hid hD
    have HA := Lib.hid hA
    have HZ := Lib.hid hZ
    have HI := Lib.hid hiff
    have HLO := Lib.hid hlo
    have HB := Lib.hid hbb
    have HF4 := Lib.hid hf4
    have HFB := Lib.hid hfb
    clear hD hA hZ hiff hlo hM hG1 e1 e2 e3 hbb hb hnone hf4 hfb HL HB1 HR1 HB3 hx hk
    by_cases hl : 1 ≤ T x - win + 1
    all_goals
      have hloe := HLO.out
      unfold loOf at hloe
      first | rw [if_pos hl] at hloe | rw [if_neg hl] at hloe
      have HLE := Lib.hid hloe
      clear hloe
      go_wp2
      go_loopw [12] (fun kv wr => ∃ m : Nat, m ≤ M ∧ kv = .int .i64 (lo + m) ∧ TB wr sb lb tb win (c + 1 - gone G1 x lo m) (N + 1) (del G1 x lo m) (updT T x y) ∧ Fr (Two lb tb) W3 wr) (fun kv _ => (lo + M - intOf kv).toNat)
      case atStart => exact ⟨0, Nat.zero_le _, by rw [HLE.out]; simp, by rw [HZ.out]; exact HB4.out, HF4.out⟩
      case round =>
        obtain ⟨m, hm, rfl, hB, hf⟩ := hrel
        have hi := HI.out m
        have g0 := hB.s.cell 0
        have g1 := hB.s.cell 1
        simp only [List.getElem?_toArray, List.getElem?_cons_zero, List.getElem?_cons_succ] at g0 g1
        have hBB := Lib.hid hB
        have hFF := Lib.hid hf
        clear hB hf
        have hbb := HB.out
        by_cases hlt : m < M
        · have hle := hi.1 hlt
          have hkk : okKey (x, lo + m) := ⟨wf_of (by dsimp only; omega) (by dsimp only; omega), wf_of (by dsimp only; omega) (by dsimp only; split at hle <;> omega)⟩
          obtain ⟨W5, hrun5, hB5, hf5⟩ := hBB.out.drop_l hkk 0
          dsimp only at hrun5
          rw [HA.out m, HD.out m] at hB5
          have hcc : (if (G1 (x, lo + m)).isSome = true then c + 1 - gone G1 x lo m - 1 else c + 1 - gone G1 x lo m) = c + 1 - gone G1 x lo (m + 1) := by
            show _ = c + 1 - (gone G1 x lo m + (if (G1 (x, lo + m)).isSome then 1 else 0))
            cases (G1 (x, lo + m)).isSome <;> simp only [Bool.false_eq_true, if_true, if_false] <;> omega
          rw [hcc] at hB5
          have HB5 := Lib.hid hB5
          have HF5 := Lib.hid (hFF.out.trans hf5)
          clear hB5 hf5 hcc hkk hi
          by_cases hmn : y - win ≤ T x
          all_goals
            first | rw [if_pos hmn] at hle | rw [if_neg hmn] at hle
            first | (have p3 : decide (lo + (m : Int) ≤ y - win) = true := decide_eq_true (by omega)) | skip
            first | (have p3 : decide (lo + (m : Int) ≤ T x) = true := decide_eq_true (by omega)) | skip
            have hbd : lo + (m : Int) ≤ 1099511627776 := by omega
            go_wp2
            go_roundw
            case rel => exact ⟨m + 1, by omega, by go_num, HB5.out, HF5.out⟩
            case measure => simp [intOf]; omega
        · have hle : ¬ lo + (m : Int) ≤ if y - win ≤ T x then y - win else T x := fun e => hlt (hi.2 e)
          obtain rfl : m = M := by omega
          clear hi
          by_cases hmn : y - win ≤ T x
          all_goals
            first | rw [if_pos hmn] at hle | rw [if_neg hmn] at hle
            first | (have p3 : decide (lo + (m : Int) ≤ y - win) = false := decide_eq_false (by omega)) | skip
            first | (have p3 : decide (lo + (m : Int) ≤ T x) = false := decide_eq_false (by omega)) | skip
            go_wp2
            go_ret
            exact ⟨rfl, by rw [E1.out, E2.out, E3.out]; exact hBB.out, (HF0.out.mono fun _ e => e.elim).trans (HFB.out.trans hFF.out)⟩
  · have p1 : decide (T x < y) = false := decide_eq_false htop
    have e1 : Gput win G T x y r = updG G (x, y) (some r) := by unfold Gput; rw [if_pos HC.out, if_neg htop]
    have e2 : Cput win c G T x y r = c + 1 := by unfold Cput; rw [if_pos HC.out, if_neg htop]
    have e3 : Tput win G T x y = T := by unfold Tput; rw [if_pos HC.out, if_neg htop]
    have E1 := Lib.hid e1
    have E2 := Lib.hid e2
    have E3 := Lib.hid e3
    clear e1 e2 e3
    go_wp2
    go_ret
    rw [E1.out, E2.out, E3.out]
    exact ⟨rfl, HB3.out.more _ (by omega), (HF0.out.mono fun _ e => e.elim).trans hfb⟩
end Go.Proofs.Ytkodkimfoihbhaa
