/- Encode. -/
import Derived.Test.YtkodkimfoihbhaaZ
import Derived.Deep.RegionHeld3
set_option linter.unusedVariables false
set_option linter.unusedSimpArgs false
namespace Go.Proofs.Ytkodkimfoihbhaa
open Go.RowKit Go.Maps Go.Sort
/-- the writer's world: all that was there stays -/
structure EI (W0 W : World) (wb B0 : Nat) (l : List Int) : Prop where
  w : WR W wb B0 l
  f : Fr (fun _ => False) W0 W
  g : W0.heap.size ≤ wb
theorem EI.turn {W0 W W' : World} {wb B0 : Nat} {l l' : List Int} (h : EI W0 W wb B0 l) (hw : WR W' wb B0 l') (ht : TurnW W W' wb) : EI W0 W' wb B0 l' :=
  ⟨hw, ⟨ht.fr.os.trans h.f.os, ht.fr.tape.trans h.f.tape, ht.fr.output.trans h.f.output, Nat.le_trans h.f.size ht.fr.size,
    fun k hk _ => (ht.fr.block k (Nat.lt_of_lt_of_le hk h.f.size) (fun e => by have := (h.w.sw e).1; have := h.g; omega)).trans (h.f.block k hk id)⟩, h.g⟩
theorem EI.fr {W0 W W' : World} {wb B0 : Nat} {l : List Int} (h : EI W0 W wb B0 l) (hf : Fr (fun _ => False) W W') : EI W0 W' wb B0 l :=
  h.turn (h.w.fr hf (fun _ _ => id)) (h.w.turn (S := fun _ => False) hf)
/-- a row of integers that the writer does not turn -/
def Kept (W : World) (wb : Nat) (ao : Option Addr) (l : List Int) : Prop := l.length = 0 ∨ ∃ g, ao = some ⟨g, 0, none⟩ ∧ g < W.heap.size ∧ ¬ SW W wb g ∧ ∀ (j : Nat) (x : Int), l[j]? = some x → W.cell? ⟨g, j, none⟩ = some (.int .i64 x)
theorem Kept.turn {W W' : World} {wb : Nat} {ao : Option Addr} {l : List Int} (h : Kept W wb ao l) (ht : TurnW W W' wb) : Kept W' wb ao l := by
  rcases h with h | ⟨g, h1, h2, h3, h4⟩
  · exact .inl h
  · exact .inr ⟨g, h1, Nat.lt_of_lt_of_le h2 ht.fr.size, ht.not h2 h3, fun j x hj => (World.cell?_of_block (ht.fr.block g h2 h3)).trans (h4 j x hj)⟩
theorem Kept.of {W W' : World} {wb B0 : Nat} {ao : Option Addr} {l : List Int} {b : List Int} (hw : WR W wb B0 b) (hf : Fr (fun _ => False) W W') (h : RowI W' W.heap.size ao l) : Kept W' wb ao l := by
  rcases h with h | ⟨g, h1, h2, h3⟩
  · exact .inl h
  · by_cases h0 : l.length = 0
    · exact .inl h0
    · obtain ⟨x, hx⟩ : ∃ x, l[0]? = some x := ⟨_, List.getElem?_eq_getElem (by omega)⟩
      refine .inr ⟨g, h1, lt_of_cell (h3 0 x hx), fun e => ?_, h3⟩
      have ht := hw.turn (S := fun _ => False) hf
      rcases e with e | e
      · have := hw.d; omega
      · rcases ht.row g e with e | e
        · have := (hw.row_ge e).2; omega
        · obtain ⟨ao', cp', q1, q2⟩ := hw.s
          rw [rowW_fr q1 hf id] at *
          have := (hw.row_ge (by assumption)).2; omega
/-- a new block is not the writer's -/
theorem WR.fresh {W W' : World} {wb B0 : Nat} {l : List Int} (hw : WR W wb B0 l) (hf : Fr (fun _ => False) W W') {k : Nat} (hk : W.heap.size ≤ k) : ¬ SW W' wb k := by
  obtain ⟨ao', cp', q1, q2⟩ := hw.s
  rintro (e | e)
  · have := hw.d; omega
  · rw [rowW_fr q1 hf id] at e
    have := (hw.row_ge e).2; omega
def unb (r : List Value) : List Int := r.map (fun v => match v with | .int _ x => x | _ => 0)
theorem unb_zb (bs : List Int) : unb (zb bs) = bs := by
  unfold unb zb
  rw [List.map_map]
  conv => rhs; rw [← List.map_id bs]
  rfl
variable {sb lb tb : Nat} {win : Int} {c N : Nat} {G : Int × Int → Option (List Value)} {T : Int → Int}
/-- the answers are bytes -/
def Byt (G : Int × Int → Option (List Value)) : Prop := ∀ x r, G x = some r → ∃ bs, r = zb bs
def ansOf (G : Int × Int → Option (List Value)) (x : Int × Int) : List Int := unb ((G x).getD [])
def encS (G : Int × Int → Option (List Value)) (c s : Int) : List Int := encL [s] ++ (encZ ((ansOf G (c, s)).length : Int) ++ ansOf G (c, s))
def encC (win : Int) (G : Int × Int → Option (List Value)) (T : Int → Int) (c : Int) : List Int := encL [c, T c, ((sqL win G T c).length : Int)] ++ (sqL win G T c).flatMap (encS G c)
def encT (win : Int) (G : Int × Int → Option (List Value)) (T : Int → Int) (ks : List Int) : List Int := encL [win, (ks.length : Int)] ++ ks.flatMap (encC win G T)
theorem TB.ans {W : World} (h : TB W sb lb tb win c N G T) (hB : Byt G) {x : Int × Int} {r : List Value} (hx : G x = some r) : r = zb (ansOf G x) ∧ (ansOf G x).length ≤ 8192 := by
  obtain ⟨bs, rfl⟩ := hB x r hx
  have e : ansOf G x = bs := by unfold ansOf; rw [hx]; exact unb_zb bs
  have := (h.sm x _ hx).1
  rw [zb_len] at this
  rw [e]
  exact ⟨rfl, this⟩
theorem flat_le (f : Int → List Int) (M : Nat) : ∀ l : List Int, (∀ x ∈ l, (f x).length ≤ M) → (l.flatMap f).length ≤ M * l.length
  | [], _ => by simp
  | x :: l, h => by
    have ih := flat_le f M l (fun y hy => h y (List.mem_cons_of_mem _ hy))
    have := h x List.mem_cons_self
    rw [List.flatMap_cons, List.length_append, List.length_cons, Nat.mul_add]
    omega
theorem encS_le {W : World} (h : TB W sb lb tb win c N G T) (hB : Byt G) {cl s : Int} (hs : s ∈ sqL win G T cl) : (encS G cl s).length ≤ 8214 := by
  have h1 := encL_len [s]
  have h2 := encZ_len ((ansOf G (cl, s)).length : Int)
  obtain ⟨r, hr⟩ := Option.isSome_iff_exists.1 (sqL_mem hs).2.2
  have h3 := (h.ans hB hr).2
  unfold encS
  simp only [List.length_append]
  simp at h1
  omega
theorem sq_len {W : World} (h : TB W sb lb tb win c N G T) (cl : Int) : (sqL win G T cl).length ≤ 4096 := by
  have h1 := sqL_len win G T cl
  have h2 := lo_rng win T cl (h.tr cl) h.w.1
  have h3 := h.w
  omega
theorem encC_le {W : World} (h : TB W sb lb tb win c N G T) (hB : Byt G) (cl : Int) : (encC win G T cl).length ≤ 33644577 := by
  have h1 := encL_len [cl, T cl, ((sqL win G T cl).length : Int)]
  have h2 := flat_le (encS G cl) 8214 (sqL win G T cl) (fun s hs => encS_le h hB hs)
  have h3 := sq_len h cl
  unfold encC
  rw [List.length_append]
  simp at h1
  have : 8214 * (sqL win G T cl).length ≤ 8214 * 4096 := Nat.mul_le_mul_left _ h3
  omega
theorem flat_take {f : Int → List Int} {l : List Int} {i : Nat} {x : Int} (h : l[i]? = some x) : (l.take (i + 1)).flatMap f = (l.take i).flatMap f ++ f x := by
  rw [List.take_add_one, h, List.flatMap_append]; simp
/-- how many clients there are -/
theorem TB.cnt {W : World} (h : TB W sb lb tb win c N G T) : ∃ (ct : Nat) (F : Int → Option Value) (k0 : List Int), ct ≤ N ∧ Mp iKE W tb ct F ∧ Cli T k0 ∧ k0.length = ct := by
  obtain ⟨ct, F, hct, hM, hF⟩ := h.t
  refine ⟨ct, F, ?_⟩
  have hM' := hM
  obtain ⟨D, hown, hsize, hD⟩ := hM
  obtain ⟨k1, k2, k3⟩ := keys_of under3 hown
  have hmem : ∀ x, x ∈ intKeys D ↔ iKE.ok x ∧ T x ≠ 0 := fun x => by
    rw [k3 x]
    refine and_congr_right fun hx => ?_
    have h1 := (hD x hx).1
    have h1' : Maps.has D (.int .i64 x) = (F x).isSome := h1
    rw [h1', hF x hx]
    by_cases e : T x = 0 <;> simp [e]
  refine ⟨(intKeys D).mergeSort leI, hct, hM', ⟨sorted_strict k1, fun x => by rw [(List.mergeSort_perm _ _).mem_iff]; exact hmem x⟩, ?_⟩
  rw [List.length_mergeSort, k2, hsize]
theorem look_ansF {W : World} (h : TB W sb lb tb win c N G T) (x s : Int) (hk : okKey (x, s)) (r : List Value) (hr : G (x, s) = some r) : ∃ v, (∀ w', Fr (fun _ => False) W w' → (Instr.lookup 46 (.map (some lb)) (.agg #[.int .i64 x, .int .i64 s]) false).run Try.prog w' = .ok v w' ∧ RowB (fun k => W.heap.size ≤ k) w' v r) := by
  obtain ⟨F, hM, hE⟩ := h.l
  have h2 := hE (x, s) hk
  unfold Ent at h2
  rw [hr] at h2
  obtain ⟨v, h3, h4⟩ := h2
  have h5 : RowB (fun k => W.heap.size ≤ k) W v r := by
    obtain ⟨ao, cap, e0, e1, e2, e3, e4⟩ := h4
    refine ⟨ao, cap, e0, e1, e2, e3, fun a ha => ⟨fun hne e => ?_, (e4 a ha).2⟩⟩
    cases r with
    | nil => exact hne rfl
    | cons u r =>
      have := lt_of_cell ((e4 a ha).2 0 u rfl)
      rw [add_block] at this
      omega
  refine ⟨v, fun w' hf => ⟨?_, h5.fr (hf.mono (fun k e => e.elim))⟩⟩
  have h1 := (hM.fr hf id).look Try.underlying46 (zero30 w') hk
  rw [h3] at h1
  exact h1
theorem look_ans {W : World} (h : TB W sb lb tb win c N G T) (x s : Int) (hk : okKey (x, s)) (r : List Value) (hr : G (x, s) = some r) : ∃ v, (Instr.lookup 46 (.map (some lb)) (.agg #[.int .i64 x, .int .i64 s]) false).run Try.prog W = .ok v W ∧ RowB (Tri sb lb tb) W v r := by
  obtain ⟨F, hM, hE⟩ := h.l
  have h1 := hM.look Try.underlying46 (zero30 W) hk
  have h2 := hE (x, s) hk
  unfold Ent at h2
  rw [hr] at h2
  obtain ⟨v, h3, h4⟩ := h2
  rw [h3] at h1
  exact ⟨v, h1, h4⟩
set_option maxRecDepth 100000 in
set_option maxHeartbeats 4000000 in
theorem encode_any (W : World) (h : TB W sb lb tb win c N G T) (hN : N ≤ 1000) (hB : Byt G) (hX : ∀ x, T x ≠ 0 → 0 ≤ x ∧ x ≤ 1048576) :
    Calls Try.prog 15 #[.pointer (some ⟨sb, 0, none⟩)] W fun e W' => ∃ (v : Value) (ks : List Int), e = .returned v ∧ Cli T ks ∧ RowB (fun _ => False) W' v (zb (encT win G T ks)) ∧ Fr (fun _ => False) W W' := by
  have H := Lib.hid h
  obtain ⟨ct, Ft, k0, hct, hMt, hcli, hkl⟩ := h.cnt
  have hw := h.w
  have hsl : sb < W.heap.size := h.s.lt
  have HMT := Lib.hid hMt
  have FACTS : Hid (∀ w' : World, Fr (fun _ => False) W w' → w'.cell? ⟨sb, 0, none⟩ = some (.int .i64 win) ∧ w'.cell? ⟨sb, 1, none⟩ = some (.map (some lb)) ∧ w'.cell? ⟨sb, 2, none⟩ = some (.map (some tb)) ∧ ∀ ty, (Builtin.len_ #[37] ty #[.map (some tb)]).run Try.prog w' = .ok (.int .i64 ct) w') := Lib.hid fun w' hf => by
    have hs := H.out.s.fr hf id
    exact ⟨hs.cell 0, hs.cell 1, hs.cell 2, fun ty => (HMT.out.fr hf id).len Try.underlying37 ty⟩
  have HCLI := Lib.hid hcli
  have HKL := Lib.hid hkl
  clear h hMt hcli hkl
  go_enter Try.func15, Try.ntmps15
  go_upto_region 1 with (fail)
  refine wp_region_held_drew (S := fun (w' : World) => Fr (fun _ => False) W w') (by kernel_rfl) (Fr.drewN _ W 1) (fun hHeld => ?_)
  refine wpAnyH_take (i := 1) (oi := _) (v := ?va1) rfl (by kernel_rfl) (by kernel_rfl) (by kernel_rfl) (fun _ _ _ h => h) (Or.inl ⟨by rfl, ?ya1⟩) (by assumption) ?ra1
  case ya1 => intro w1 hSw; obtain ⟨f0, f1, f2, f3⟩ := FACTS.out w1 hSw; go_simp; try with_reducible rfl
  try simp only [List.getElem_toArray, List.getElem_cons_zero, List.getElem_cons_succ, Act.put, List.setIfInBounds_toArray, List.set_cons_zero, List.set_cons_succ]
  refine wpAnyH_take (i := 2) (oi := _) (v := ?va2) rfl (by kernel_rfl) (by kernel_rfl) (by kernel_rfl) (fun _ _ _ h => h) (Or.inl ⟨by rfl, ?ya2⟩) (by assumption) ?ra2
  case ya2 => intro w1 hSw; obtain ⟨f0, f1, f2, f3⟩ := FACTS.out w1 hSw; go_simp; try with_reducible rfl
  try simp only [List.getElem_toArray, List.getElem_cons_zero, List.getElem_cons_succ, Act.put, List.setIfInBounds_toArray, List.set_cons_zero, List.set_cons_succ]
  refine wpAnyH_take (i := 3) (oi := _) (v := ?va3) rfl (by kernel_rfl) (by kernel_rfl) (by kernel_rfl) (fun _ _ _ h => h) (Or.inl ⟨by rfl, ?ya3⟩) (by assumption) ?ra3
  case ya3 => intro w1 hSw; obtain ⟨f0, f1, f2, f3⟩ := FACTS.out w1 hSw; go_simp; try with_reducible rfl
  try simp only [List.getElem_toArray, List.getElem_cons_zero, List.getElem_cons_succ, Act.put, List.setIfInBounds_toArray, List.set_cons_zero, List.set_cons_succ]
  refine wpAnyH_take (i := 4) (oi := _) (v := ?va4) rfl (by kernel_rfl) (by kernel_rfl) (by kernel_rfl) (fun _ _ _ h => h) (Or.inl ⟨by rfl, ?ya4⟩) (by assumption) ?ra4
  case ya4 => intro w1 hSw; obtain ⟨f0, f1, f2, f3⟩ := FACTS.out w1 hSw; go_simp; try with_reducible rfl
  try simp only [List.getElem_toArray, List.getElem_cons_zero, List.getElem_cons_succ, Act.put, List.setIfInBounds_toArray, List.set_cons_zero, List.set_cons_succ]
  refine wpAnyH_take (i := 5) (oi := _) (v := ?va5) rfl (by kernel_rfl) (by kernel_rfl) (by kernel_rfl) (fun _ _ _ h => h) (Or.inl ⟨by rfl, ?ya5⟩) (by assumption) ?ra5
  case ya5 => intro w1 hSw; obtain ⟨f0, f1, f2, f3⟩ := FACTS.out w1 hSw; go_simp; try with_reducible rfl
  try simp only [List.getElem_toArray, List.getElem_cons_zero, List.getElem_cons_succ, Act.put, List.setIfInBounds_toArray, List.set_cons_zero, List.set_cons_succ]
  refine wpAnyH_take (i := 6) (oi := _) (v := ?va6) rfl (by kernel_rfl) (by kernel_rfl) (by kernel_rfl) (fun _ _ _ h => h) (Or.inl ⟨by rfl, ?ya6⟩) (by assumption) ?ra6
  case ya6 => intro w1 hSw; obtain ⟨f0, f1, f2, f3⟩ := FACTS.out w1 hSw; go_simp; try with_reducible rfl
  try simp only [List.getElem_toArray, List.getElem_cons_zero, List.getElem_cons_succ, Act.put, List.setIfInBounds_toArray, List.set_cons_zero, List.set_cons_succ]
  refine wpAnyH_take (i := 7) (oi := _) (v := ?va7) rfl (by kernel_rfl) (by kernel_rfl) (by kernel_rfl) (fun _ _ _ h => h) (Or.inl ⟨by rfl, ?ya7⟩) (by assumption) ?ra7
  case ya7 => intro w1 hSw; obtain ⟨f0, f1, f2, f3⟩ := FACTS.out w1 hSw; go_simp; try with_reducible rfl
  try simp only [List.getElem_toArray, List.getElem_cons_zero, List.getElem_cons_succ, Act.put, List.setIfInBounds_toArray, List.set_cons_zero, List.set_cons_succ]
  refine wpAnyH_take (i := 8) (oi := _) (v := ?va8) rfl (by kernel_rfl) (by kernel_rfl) (by kernel_rfl) (fun _ _ _ h => h) (Or.inl ⟨by rfl, ?ya8⟩) (by assumption) ?ra8
  case ya8 => intro w1 hSw; obtain ⟨f0, f1, f2, f3⟩ := FACTS.out w1 hSw; go_simp; try with_reducible rfl
  try simp only [List.getElem_toArray, List.getElem_cons_zero, List.getElem_cons_succ, Act.put, List.setIfInBounds_toArray, List.set_cons_zero, List.set_cons_succ]
  refine wpAnyH_ready (rs := [0]) (by kernel_rfl) (by simp) ?_
  refine AllReadyH.cons (o := _) rfl (fun K hK => ?_) AllReadyH.nil
  rw [if_pos (by rfl)]
  try simp only [List.getElem_toArray, List.getElem_cons_zero, List.getElem_cons_succ]
  go_simp
  refine (neww_any _).mono ?_
  rintro e w1 ⟨rfl, hW1, hw1⟩
  have hfr1 : Fr (fun _ => False) W w1 := by rw [hw1]; exact hHeld.trans (Fr.alloc _ _ _)
  have hEI1 : EI W w1 W.heap.size (W.heap.size + 1) [] := ⟨hW1, hfr1, Nat.le_refl _⟩
  refine hK.out _ _ hfr1 (fun hHeld1 => ?_)
  clear hK K hw1 hW1
  try simp only [List.getElem_toArray, List.getElem_cons_zero, List.getElem_cons_succ, Act.put, List.setIfInBounds_toArray, List.set_cons_zero, List.set_cons_succ]
  refine wpAnyH_take (i := 9) (oi := _) (v := ?va9) rfl (by kernel_rfl) (by kernel_rfl) (by kernel_rfl) (fun _ _ _ h => h) (Or.inl ⟨by rfl, ?ya9⟩) (by assumption) ?ra9
  case ya9 => intro w1 hSw; obtain ⟨f0, f1, f2, f3⟩ := FACTS.out _ hSw; go_simp; try with_reducible rfl
  try simp only [List.getElem_toArray, List.getElem_cons_zero, List.getElem_cons_succ, Act.put, List.setIfInBounds_toArray, List.set_cons_zero, List.set_cons_succ]
  have hWB : W.drew.heap.size = W.heap.size := rfl
  refine wpAnyH_ready (rs := [10]) (by kernel_rfl) (by simp) ?_
  refine AllReadyH.cons (o := _) rfl (fun K hK => ?_) AllReadyH.nil
  rw [if_pos (by rfl)]
  try simp only [List.getElem_toArray, List.getElem_cons_zero, List.getElem_cons_succ]
  go_simp
  refine hK.out _ _ (hfr1.trans (Fr.alloc _ _ _)) (fun hHeld2 => ?_)
  clear hK K
  try simp only [List.getElem_toArray, List.getElem_cons_zero, List.getElem_cons_succ, Act.put, List.setIfInBounds_toArray, List.set_cons_zero, List.set_cons_succ]
  have hEI2 := hEI1.fr (Fr.alloc (fun _ => False) w1 (.cells #[.int .i64 win, .int .i64 ct] 3))
  have hfresh := hEI1.w.fresh (Fr.alloc (fun _ => False) w1 (.cells #[.int .i64 win, .int .i64 ct] 3)) (Nat.le_refl _)
  refine wpAnyH_ready (rs := [11]) (by kernel_rfl) (by simp) ?_
  refine AllReadyH.cons (o := _) rfl (fun K hK => ?_) AllReadyH.nil
  rw [if_pos (by rfl)]
  try simp only [List.getElem_toArray, List.getElem_cons_zero, List.getElem_cons_succ]
  go_simp
  refine (numbers_any _ W.heap.size (W.heap.size + 1) [] hEI2.w (by simp) [win, (ct : Int)] (by simp) (by intro z hz; simp at hz; rcases hz with rfl | rfl <;> omega) w1.heap.size 2 (by simp) hfresh (fun j z hj => by rw [World.cell?_alloc_mark]; match j, hj with | 0, hj => cases hj; rfl | 1, hj => cases hj; rfl | j + 2, hj => simp at hj)).mono ?_
  rintro e w3 ⟨rfl, hW3, hT3⟩
  have hEI3 := hEI2.turn hW3 hT3
  refine hK.out _ _ hEI3.f (fun hHeld3 => ?_)
  clear hK K
  try simp only [List.getElem_toArray, List.getElem_cons_zero, List.getElem_cons_succ, Act.put, List.setIfInBounds_toArray, List.set_cons_zero, List.set_cons_succ]
  refine wpAnyH_take (i := 12) (oi := _) (v := ?va12) rfl (by kernel_rfl) (by kernel_rfl) (by kernel_rfl) (fun _ _ _ h => h) (Or.inl ⟨by rfl, ?ya12⟩) (by assumption) ?ra12
  case ya12 => intro w1 hSw; go_simp; try with_reducible rfl
  try simp only [List.getElem_toArray, List.getElem_cons_zero, List.getElem_cons_succ, Act.put, List.setIfInBounds_toArray, List.set_cons_zero, List.set_cons_succ]
  refine wpAnyH_done (by kernel_rfl) ?_ _
  rw [List.nil_append] at hEI3
  have HEI3 := Lib.hid hEI3
  obtain ⟨wb, hwb⟩ : ∃ b, W.heap.size = b := ⟨_, rfl⟩
  rw [hwb] at HEI3
  rw [hwb]
  obtain ⟨B0, hB0⟩ : ∃ b, wb + 1 = b := ⟨_, rfl⟩
  rw [hB0] at HEI3
  clear hEI1 hEI2 hEI3 hfresh hW3 hT3 hHeld hHeld1 hHeld2 hHeld3 hfr1 hWB hwb hB0
  go_wp2_with fail
  refine (cli_any _ (H.out.fr HEI3.out.f) (by omega)).mono ?_
  rintro e w4 ⟨ao, cp, ks, rfl, hri, hck, hkn, hf4⟩
  have hce : ct = ks.length := by rw [← HKL.out]; exact HCLI.out.one hck
  have HEI4 := Lib.hid (HEI3.out.fr hf4)
  have HKS := Lib.hid (Kept.of HEI3.out.w hf4 hri)
  have HCK := Lib.hid hck
  obtain ⟨m, hm⟩ : ∃ m, ks.length = m := ⟨_, rfl⟩
  rw [hm] at hce hkn ⊢
  have HM := Lib.hid hm
  subst hce
  clear hri hck hm hf4 HEI3 HMT HKL HCLI
  go_wp2
  go_loopw [24] (fun kv wr => ∃ i : Nat, i ≤ ct ∧ kv = .int .i64 i ∧ EI W wr wb B0 (encL [win, (ct : Int)] ++ (ks.take i).flatMap (encC win G T)) ∧ Kept wr wb ao ks) (fun kv _ => ct - (intOf kv).toNat)
  case atStart => exact ⟨0, by omega, rfl, by simpa using HEI4.out, HKS.out⟩
  case round =>
    obtain ⟨i, hi, rfl, hEI, hKS⟩ := hrel
    have hl1 : (encL [win, (ct : Int)] ++ (ks.take i).flatMap (encC win G T)).length ≤ 50000000000 := by
      have h1 := encL_len [win, (ct : Int)]
      have h2 := flat_le (encC win G T) 33644577 (ks.take i) (fun x _ => encC_le H.out hB x)
      have h3 : (ks.take i).length ≤ 1000 := by rw [List.length_take]; omega
      have h4 : 33644577 * (ks.take i).length ≤ 33644577 * 1000 := Nat.mul_le_mul_left _ h3
      rw [List.length_append]
      simp at h1
      omega
    by_cases hlt : i < ct
    · have p0 : decide ((i : Int) < ct) = true := decide_eq_true (by omega)
      have i0 : (i : Int) < (ct : Int) := by omega
      obtain ⟨x, hx⟩ : ∃ x, ks[i]? = some x := ⟨_, List.getElem?_eq_getElem (by rw [HM.out]; exact hlt)⟩
      obtain ⟨hxk, hxT⟩ := (HCK.out.2 x).1 (List.mem_of_getElem? hx)
      have hxr := hX x hxT
      have HFT := Lib.hid (flat_take (f := encC win G T) hx)
      have hKS2 := hKS
      rcases hKS with h0 | ⟨g, rfl, hg1, hg2, hcell⟩
      · rw [HM.out] at h0; omega
      have d0 := hcell i x hx
      obtain ⟨l1, hl1e⟩ : ∃ l1, encL [win, (ct : Int)] ++ (ks.take i).flatMap (encC win G T) = l1 := ⟨_, rfl⟩
      rw [hl1e] at hEI hl1
      have HL1 := Lib.hid hl1e
      have HEI := Lib.hid hEI
      have HKS3 := Lib.hid hKS2
      have hq := sq_len H.out x
      have HSQ := Lib.hid (seqs_any wr (H.out.fr hEI.f) x hxk)
      obtain ⟨sq, hsq⟩ : ∃ sq, sqL win G T x = sq := ⟨_, rfl⟩
      rw [hsq] at HSQ hq
      have HSQE := Lib.hid hsq
      clear hEI hcell hx hKS2 hsq hl1e
      go_wp2_with fail
      refine HSQ.out.mono ?_
      rintro e w5 ⟨ao2, cp2, rfl, hri, hf5⟩
      have HEI5 := Lib.hid (HEI.out.fr hf5)
      have HKS5 := Lib.hid (HKS3.out.turn (HEI.out.w.turn (S := fun _ => False) hf5))
      have HKQ5 := Lib.hid (Kept.of HEI.out.w hf5 hri)
      obtain ⟨n, hn⟩ : ∃ n, sq.length = n := ⟨_, rfl⟩
      rw [hn] at hq ⊢
      have HN := Lib.hid hn
      obtain ⟨f0, f1, f2, f3⟩ := FACTS.out w5 HEI5.out.f
      have htr := H.out.tr x
      have hlook : (Instr.lookup 37 (.map (some tb)) (.int .i64 x) false).run Try.prog w5 = .ok (.int .i64 (T x)) w5 := by
        obtain ⟨c9, F9, _, hM9, hF9⟩ := (H.out.fr HEI5.out.f).top
        have := hM9.look Try.underlying37 (zero3 _) hxk
        rw [hF9 x hxk] at this
        exact this
      have hEI6 := HEI5.out.fr (Fr.alloc (fun _ => False) w5 (.cells #[.int .i64 x, .int .i64 (T x), .int .i64 n] 3))
      have hT6 := HEI5.out.w.turn (S := fun _ => False) (Fr.alloc (fun _ => False) w5 (.cells #[.int .i64 x, .int .i64 (T x), .int .i64 n] 3))
      have hfresh := HEI5.out.w.fresh (Fr.alloc (fun _ => False) w5 (.cells #[.int .i64 x, .int .i64 (T x), .int .i64 n] 3)) (Nat.le_refl _)
      have HNUM := Lib.hid (numbers_any _ wb B0 l1 hEI6.w (by omega) [x, T x, (n : Int)] (by simp) (by intro z hz; simp at hz; rcases hz with rfl | rfl | rfl <;> omega) w5.heap.size 3 (by simp) hfresh (fun j z hj => by rw [World.cell?_alloc_mark]; match j, hj with | 0, hj => cases hj; rfl | 1, hj => cases hj; rfl | 2, hj => cases hj; rfl | j + 3, hj => simp at hj))
      have HEI6 := Lib.hid hEI6
      have HT6 := Lib.hid hT6
      clear hEI6 hT6 hfresh hri hf5 hn HSQ
      go_wp2_with fail
      refine HNUM.out.mono ?_
      rintro e w7 ⟨rfl, hW7, hT7⟩
      have HEI7 := Lib.hid (HEI6.out.turn hW7 hT7)
      have HKS7 := Lib.hid ((HKS5.out.turn HT6.out).turn hT7)
      have HKQ7 := Lib.hid ((HKQ5.out.turn HT6.out).turn hT7)
      have hl2 : (l1 ++ encL [x, T x, (n : Int)]).length ≤ 50000000033 := by
        have h1 := encL_len [x, T x, (n : Int)]
        rw [List.length_append]
        simp at h1
        omega
      obtain ⟨l2, hl2e⟩ : ∃ l2, l1 ++ encL [x, T x, (n : Int)] = l2 := ⟨_, rfl⟩
      rw [hl2e] at HEI7 hl2
      have HL2 := Lib.hid hl2e
      clear hW7 hT7 HEI5 HEI6 HNUM HKS5 HKQ5 HT6 hlook f0 f1 f2 f3 hl2e HKS3 HEI d0 hg1 hg2
      go_wp2
      go_loopw [45] (fun kv wz => ∃ j : Nat, j ≤ n ∧ kv = .int .i64 j ∧ EI W wz wb B0 (l2 ++ (sq.take j).flatMap (encS G x)) ∧ Kept wz wb (some ⟨g, 0, none⟩) ks ∧ Kept wz wb ao2 sq) (fun kv _ => n - (intOf kv).toNat)
      case atStart => exact ⟨0, by omega, rfl, by simpa using HEI7.out, HKS7.out, HKQ7.out⟩
      case round =>
        obtain ⟨j, hj, rfl, hEI, hKS, hKQ⟩ := hrel
        have hl3 : (l2 ++ (sq.take j).flatMap (encS G x)).length ≤ 60000000000 := by
          have h2 := flat_le (encS G x) 8214 (sq.take j) (fun s hs => encS_le H.out hB (by rw [HSQE.out]; exact List.mem_of_mem_take hs))
          have h3 : (sq.take j).length ≤ 4096 := by rw [List.length_take, HN.out]; omega
          have h4 : 8214 * (sq.take j).length ≤ 8214 * 4096 := Nat.mul_le_mul_left _ h3
          rw [List.length_append]
          omega
        have HKS8 := Lib.hid hKS
        have HKQ8 := Lib.hid hKQ
        by_cases hlj : j < n
        · have p1 : decide ((j : Int) < n) = true := decide_eq_true (by omega)
          have j0 : (j : Int) < (n : Int) := by omega
          obtain ⟨s, hs⟩ : ∃ s, sq[j]? = some s := ⟨_, List.getElem?_eq_getElem (by rw [HN.out]; exact hlj)⟩
          have hsm : s ∈ sqL win G T x := by rw [HSQE.out]; exact List.mem_of_getElem? hs
          obtain ⟨s1, s2, s3⟩ := sqL_mem hsm
          have htr2 := H.out.tr x
          have hlo := lo_rng win T x htr2 hw.1
          obtain ⟨r, hr⟩ := Option.isSome_iff_exists.1 s3
          obtain ⟨hrz, hrl⟩ := H.out.ans hB hr
          have hsr : 1 ≤ s ∧ s ≤ 1099511627776 := ⟨by omega, by omega⟩
          obtain ⟨v, hv⟩ := look_ansF H.out x s ⟨hxk, wf_of (by omega) (by omega)⟩ r hr
          rw [hrz] at hv
          have HV := Lib.hid hv
          have HFS := Lib.hid (flat_take (f := encS G x) hs)
          rcases hKQ with h0 | ⟨g2, rfl, hg3, hg4, hcell⟩
          · rw [HN.out] at h0; omega
          have d0 := hcell j s hs
          obtain ⟨l3, hl3e⟩ : ∃ l3, l2 ++ (sq.take j).flatMap (encS G x) = l3 := ⟨_, rfl⟩
          rw [hl3e] at hEI hl3
          have HL3 := Lib.hid hl3e
          have HEI := Lib.hid hEI
          obtain ⟨an, han⟩ : ∃ a, ansOf G (x, s) = a := ⟨_, rfl⟩
          rw [han] at hrl HV
          have HAN := Lib.hid han
          clear hEI hcell hs hKS hl3e hv hrz hr s3 han hlo htr2 hsm s1 s2
          go_upto_region 10 with (fail)
          refine wp_region_held_drew (S := fun (w' : World) => Fr (fun _ => False) W w') (by kernel_rfl) (HEI.out.f.trans (Fr.drewN _ _ 1)) (fun hHeld => ?_)
          refine wpAnyH_take (i := 0) (oi := _) (v := ?vb0) rfl (by kernel_rfl) (by kernel_rfl) (by kernel_rfl) (fun _ _ _ h => h) (Or.inl ⟨by rfl, ?yb0⟩) (by assumption) ?rb0
          case yb0 => intro w1 hSw; obtain ⟨f0, f1, f2, f3⟩ := FACTS.out w1 hSw; go_simp; try with_reducible rfl
          try simp only [List.getElem_toArray, List.getElem_cons_zero, List.getElem_cons_succ, Act.put, List.setIfInBounds_toArray, List.set_cons_zero, List.set_cons_succ]
          refine wpAnyH_take (i := 1) (oi := _) (v := ?vb1) rfl (by kernel_rfl) (by kernel_rfl) (by kernel_rfl) (fun _ _ _ h => h) (Or.inl ⟨by rfl, ?yb1⟩) (by assumption) ?rb1
          case yb1 => intro w1 hSw; obtain ⟨f0, f1, f2, f3⟩ := FACTS.out w1 hSw; go_simp; try with_reducible rfl
          try simp only [List.getElem_toArray, List.getElem_cons_zero, List.getElem_cons_succ, Act.put, List.setIfInBounds_toArray, List.set_cons_zero, List.set_cons_succ]
          refine wpAnyH_take (i := 4) (oi := _) (v := ?vb4) rfl (by kernel_rfl) (by kernel_rfl) (by kernel_rfl) (fun _ _ _ h => h) (Or.inl ⟨by rfl, ?yb4⟩) (by assumption) ?rb4
          case yb4 => intro w1 hSw; obtain ⟨f0, f1, f2, f3⟩ := FACTS.out w1 hSw; go_simp; try with_reducible rfl
          try simp only [List.getElem_toArray, List.getElem_cons_zero, List.getElem_cons_succ, Act.put, List.setIfInBounds_toArray, List.set_cons_zero, List.set_cons_succ]
          refine wpAnyH_take (i := 5) (oi := _) (v := ?vb5) rfl (by kernel_rfl) (by kernel_rfl) (by kernel_rfl) (fun _ _ _ h => h) (Or.inl ⟨by rfl, ?yb5⟩) (by assumption) ?rb5
          case yb5 => intro w1 hSw; obtain ⟨f0, f1, f2, f3⟩ := FACTS.out w1 hSw; go_simp; try with_reducible rfl
          try simp only [List.getElem_toArray, List.getElem_cons_zero, List.getElem_cons_succ, Act.put, List.setIfInBounds_toArray, List.set_cons_zero, List.set_cons_succ]
          refine wpAnyH_take (i := 6) (oi := _) (v := ?vb6) rfl (by kernel_rfl) (by kernel_rfl) (by kernel_rfl) (fun _ _ _ h => h) (Or.inl ⟨by rfl, ?yb6⟩) (by assumption) ?rb6
          case yb6 => intro w1 hSw; obtain ⟨f0, f1, f2, f3⟩ := FACTS.out w1 hSw; go_simp; try with_reducible rfl
          try simp only [List.getElem_toArray, List.getElem_cons_zero, List.getElem_cons_succ, Act.put, List.setIfInBounds_toArray, List.set_cons_zero, List.set_cons_succ]
          refine wpAnyH_take (i := 7) (oi := _) (v := ?vb7) rfl (by kernel_rfl) (by kernel_rfl) (by kernel_rfl) (fun _ _ _ h => h) (Or.inl ⟨by rfl, ?yb7⟩) (by assumption) ?rb7
          case yb7 => intro w1 hSw; obtain ⟨f0, f1, f2, f3⟩ := FACTS.out w1 hSw; go_simp; try with_reducible rfl
          try simp only [List.getElem_toArray, List.getElem_cons_zero, List.getElem_cons_succ, Act.put, List.setIfInBounds_toArray, List.set_cons_zero, List.set_cons_succ]
          refine wpAnyH_take (i := 8) (oi := _) (v := ?vb8) rfl (by kernel_rfl) (by kernel_rfl) (by kernel_rfl) (fun _ _ _ h => h) (Or.inl ⟨by rfl, ?yb8⟩) (by assumption) ?rb8
          case yb8 => intro w1 hSw; obtain ⟨f0, f1, f2, f3⟩ := FACTS.out w1 hSw; go_simp; try with_reducible rfl
          try simp only [List.getElem_toArray, List.getElem_cons_zero, List.getElem_cons_succ, Act.put, List.setIfInBounds_toArray, List.set_cons_zero, List.set_cons_succ]
          refine wpAnyH_take (i := 9) (oi := _) (v := ?vb9) rfl (by kernel_rfl) (by kernel_rfl) (by kernel_rfl) (fun _ _ _ h => h) (Or.inl ⟨by rfl, ?yb9⟩) (by assumption) ?rb9
          case yb9 => intro w1 hSw; obtain ⟨f0, f1, f2, f3⟩ := FACTS.out w1 hSw; go_simp; try with_reducible rfl
          try simp only [List.getElem_toArray, List.getElem_cons_zero, List.getElem_cons_succ, Act.put, List.setIfInBounds_toArray, List.set_cons_zero, List.set_cons_succ]
          refine wpAnyH_take (i := 10) (oi := _) (v := ?vb10) rfl (by kernel_rfl) (by kernel_rfl) (by kernel_rfl) (fun _ _ _ h => h) (Or.inl ⟨by rfl, ?yb10⟩) (by assumption) ?rb10
          case yb10 => intro w1 hSw; obtain ⟨f0, f1, f2, f3⟩ := FACTS.out w1 hSw; go_simp; try with_reducible rfl
          try simp only [List.getElem_toArray, List.getElem_cons_zero, List.getElem_cons_succ, Act.put, List.setIfInBounds_toArray, List.set_cons_zero, List.set_cons_succ]
          refine wpAnyH_take (i := 11) (oi := _) (v := ?vb11) rfl (by kernel_rfl) (by kernel_rfl) (by kernel_rfl) (fun _ _ _ h => h) (Or.inl ⟨by rfl, ?yb11⟩) (by assumption) ?rb11
          case yb11 => intro w1 hSw; have hlk := (HV.out w1 hSw).1; go_simp; try with_reducible rfl
          try simp only [List.getElem_toArray, List.getElem_cons_zero, List.getElem_cons_succ, Act.put, List.setIfInBounds_toArray, List.set_cons_zero, List.set_cons_succ]
          have hEI8 := HEI.out.fr (Fr.drewN (fun _ => False) wr 1)
          have hT8 := HEI.out.w.turn (S := fun _ => False) (Fr.drewN (fun _ => False) wr 1)
          obtain ⟨w8, hw8⟩ : ∃ w8, wr.drew = w8 := ⟨_, rfl⟩
          have hEI8' : EI W w8 wb B0 l3 := hw8 ▸ hEI8
          have hT8' : TurnW wr w8 wb := hw8 ▸ hT8
          rw [hw8]
          clear hw8 hEI8 hT8
          have hEI9 := hEI8'.fr (Fr.alloc (fun _ => False) w8 (.cells #[.int .i64 s] 3))
          have hT9 := hEI8'.w.turn (S := fun _ => False) (Fr.alloc (fun _ => False) w8 (.cells #[.int .i64 s] 3))
          have hfresh := hEI8'.w.fresh (Fr.alloc (fun _ => False) w8 (.cells #[.int .i64 s] 3)) (Nat.le_refl _)
          refine wpAnyH_ready (rs := [2]) (by kernel_rfl) (by simp) ?_
          refine AllReadyH.cons (o := _) rfl (fun K hK => ?_) AllReadyH.nil
          rw [if_pos (by rfl)]
          try simp only [List.getElem_toArray, List.getElem_cons_zero, List.getElem_cons_succ]
          go_simp
          refine hK.out _ _ hEI9.f (fun hHeld2 => ?_)
          clear hK K
          try simp only [List.getElem_toArray, List.getElem_cons_zero, List.getElem_cons_succ, Act.put, List.setIfInBounds_toArray, List.set_cons_zero, List.set_cons_succ]
          refine wpAnyH_ready (rs := [3]) (by kernel_rfl) (by simp) ?_
          refine AllReadyH.cons (o := _) rfl (fun K hK => ?_) AllReadyH.nil
          rw [if_pos (by rfl)]
          try simp only [List.getElem_toArray, List.getElem_cons_zero, List.getElem_cons_succ]
          go_simp
          refine (numbers_any _ wb B0 l3 hEI9.w (by omega) [s] (by simp) (by intro z hz; simp at hz; subst hz; omega) w8.heap.size 1 (by simp) hfresh (fun j z hj => by rw [World.cell?_alloc_mark]; match j, hj with | 0, hj => cases hj; rfl | j + 1, hj => simp at hj)).mono ?_
          rintro e w10 ⟨rfl, hW10, hT10⟩
          have hEI10 := hEI9.turn hW10 hT10
          refine hK.out _ _ hEI10.f (fun hHeld3 => ?_)
          clear hK K
          try simp only [List.getElem_toArray, List.getElem_cons_zero, List.getElem_cons_succ, Act.put, List.setIfInBounds_toArray, List.set_cons_zero, List.set_cons_succ]
          refine wpAnyH_ready (rs := [12]) (by kernel_rfl) (by simp) ?_
          refine AllReadyH.cons (o := _) rfl (fun K hK => ?_) AllReadyH.nil
          rw [if_pos (by rfl)]
          try simp only [List.getElem_toArray, List.getElem_cons_zero, List.getElem_cons_succ]
          go_simp
          have hlz := encL_len [s]
          refine (bytes_any w10 wb B0 (l3 ++ encL [s]) hEI10.w (by rw [List.length_append]; simp at hlz; omega) (fun k => W.heap.size ≤ k) v an (HV.out w10 hEI10.f).2 (fun k hk => Nat.le_trans hEI10.g (hEI10.w.sw hk).1) (by omega)).mono ?_
          rintro e w11 ⟨rfl, hW11, hT11⟩
          have hEI11 := hEI10.turn hW11 hT11
          refine hK.out _ _ hEI11.f (fun hHeld4 => ?_)
          clear hK K
          try simp only [List.getElem_toArray, List.getElem_cons_zero, List.getElem_cons_succ, Act.put, List.setIfInBounds_toArray, List.set_cons_zero, List.set_cons_succ]
          refine wpAnyH_done (by kernel_rfl) ?_ _
          have hTT := ((hT8'.trans hT9).trans hT10).trans hT11
          have HEI11 := Lib.hid hEI11
          have HKS9 := Lib.hid (HKS8.out.turn hTT)
          have HKQ9 := Lib.hid (HKQ8.out.turn hTT)
          clear hEI8' hT8' hEI9 hT9 hfresh hW10 hT10 hEI10 hW11 hT11 hEI11 hTT hHeld hHeld2 hHeld3 hHeld4 hlz
          go_wp2
          go_roundw
          case rel => exact ⟨j + 1, by omega, by go_num, by rw [HFS.out, ← List.append_assoc, HL3.out]; unfold encS; rw [HAN.out, ← List.append_assoc]; exact HEI11.out, HKS9.out, HKQ9.out⟩
          case measure => simp [intOf]; omega
        · obtain rfl : j = n := by omega
          have p1 : decide ((j : Int) < j) = false := decide_eq_false (by omega)
          have hEe : EI W wr wb B0 (encL [win, (ct : Int)] ++ (ks.take (i + 1)).flatMap (encC win G T)) := by
            have e1 : sq.take j = sq := List.take_of_length_le (by rw [HN.out]; omega)
            rw [e1, ← HL2.out, ← HL1.out] at hEI
            rw [HFT.out]
            unfold encC
            rw [HSQE.out, HN.out, ← List.append_assoc, ← List.append_assoc]
            exact hEI
          have HE := Lib.hid hEe
          clear hEI hKS hKQ hEe
          go_wp2
          go_roundw
          case rel => exact ⟨i + 1, by omega, by go_num, HE.out, HKS8.out⟩
          case measure => simp [intOf]; omega
    · obtain rfl : i = ct := by omega
      have p0 : decide ((i : Int) < i) = false := decide_eq_false (by omega)
      have hEe : EI W wr wb B0 (encT win G T ks) := by
        have : ks.take i = ks := List.take_of_length_le (by rw [HM.out]; omega)
        rw [this] at hEI
        unfold encT
        rw [HM.out]
        exact hEI
      have hle : (encT win G T ks).length ≤ 200000000000 := by
        have : ks.take i = ks := List.take_of_length_le (by rw [HM.out]; omega)
        rw [this] at hl1
        unfold encT
        rw [HM.out]
        omega
      have HE := Lib.hid hEe
      have HD := Lib.hid (done_any wr wb B0 _ hEe.w hle)
      clear hEI hKS hEe hl1 hle
      go_wp2_with fail
      refine HD.out.mono ?_
      rintro e w9 ⟨v, rfl, hr9, hf9⟩
      have HR9 := Lib.hid hr9
      have HF9 := Lib.hid (HE.out.f.trans hf9)
      clear hr9 hf9 HD
      go_wp2
      go_ret
      exact ⟨v, ks, rfl, HCK.out, HR9.out, HF9.out⟩
end Go.Proofs.Ytkodkimfoihbhaa
