/- looks: what is looked at of both lists is the same. -/
import Derived.Test.YtklfppjejndclaaN
set_option linter.unusedVariables false
set_option linter.unusedSimpArgs false
namespace Go.Proofs.Ytklfppjejndclaa.P2
open Go.RowKit Go.Maps Go.Shelf
attribute [local go_sem] Oper.semAt_some
variable {S : Nat → Prop}
theorem peekI_any (W : World) (sb mb : Nat) (most : Int) (N : Nat) (L : Int → List Value) (h : LS S 55 W sb mb most N L) (x : Int) (hx : iKE.ok x) (l : List Int) (hL : L x = zv l) :
    Calls Try.prog 31 #[.pointer (some ⟨sb, 0, none⟩), .int .i64 x] W fun e W' => e = .returned (.tuple #[.int .i64 ((l[0]?).getD 0), .bool (l[0]?).isSome]) ∧ W = W' := by
  cases l with
  | nil => exact peekI_none W sb mb most N L h x hx hL
  | cons y l => exact peekI_some W sb mb most N L h x hx (.int .i64 y) (zv l) hL
theorem sorted_same {α : Type} {r : α → α → Prop} (irr : ∀ a, ¬ r a a) (tr : ∀ a b c, r a b → r b c → r a c) : ∀ {l m : List α}, l.Pairwise r → m.Pairwise r → (∀ a, a ∈ l ↔ a ∈ m) → l = m
  | [], [], _, _, _ => rfl
  | [], b :: m, _, _, h => by have := (h b).2 (by simp); cases this
  | a :: l, [], _, _, h => by have := (h a).1 (by simp); cases this
  | a :: l, b :: m, hl, hm, h => by
    have h1 := List.pairwise_cons.1 hl
    have h2 := List.pairwise_cons.1 hm
    obtain rfl : a = b := by
      rcases List.mem_cons.1 ((h a).1 (by simp)) with e | e
      · exact e
      rcases List.mem_cons.1 ((h b).2 (by simp)) with e' | e'
      · exact e'.symm
      · exact absurd (tr _ _ _ (h2.1 a e) (h1.1 b e')) (irr b)
    congr 1
    refine sorted_same irr tr h1.2 h2.2 fun c => ?_
    have hc := h c
    rw [List.mem_cons, List.mem_cons] at hc
    refine ⟨fun hh => ?_, fun hh => ?_⟩
    · rcases hc.1 (.inr hh) with e | e
      · subst e; exact absurd (h1.1 c hh) (irr c)
      · exact e
    · rcases hc.2 (.inr hh) with e | e
      · subst e; exact absurd (h2.1 c hh) (irr c)
      · exact e
/-- the program's lists are the reference's -/
structure Same (L : Int → List Value) (R : List (Int × Int)) : Prop where
  at_ : ∀ x, iKE.ok x → L x = zv (At R x)
  ok : ∀ p ∈ R, iKE.ok p.1
  len : R.length ≤ 300
variable {L : Int → List Value} {R : List (Int × Int)}
theorem pre_snoc {α : Type} {l m : List α} {x : α} (h : l <+: m) (hx : m[l.length]? = some x) : l ++ [x] <+: m := by
  obtain ⟨r, rfl⟩ := h
  rw [List.getElem?_append_right (Nat.le_refl _), Nat.sub_self] at hx
  cases r with
  | nil => cases hx
  | cons a r => cases hx; exact ⟨r, by simp⟩
theorem pre_last {α : Type} {l m : List α} {x : α} (h : l ++ [x] <+: m) : m[l.length]? = some x := by
  obtain ⟨r, rfl⟩ := h
  simp
theorem res21 {tmps : Array Value} {W : World} {tb : Nat} {v : Value} (hp : tmps.getD 6 undef = .pointer (some ⟨tb, 0, none⟩)) (hc : Blk W tb 4 #[v]) : (results Try.f21 tmps).run Try.prog W = .ok v W := by
  have hc0 : W.cell? ⟨tb, 0, none⟩ = some v := hc.cell 0
  have hp' : tmps[6]?.getD undef = .pointer (some ⟨tb, 0, none⟩) := by simpa using hp
  have hr : (Try.f21).results = #[.cell 6 4] := by kernel_rfl
  simp [results, hr, hp', asAddr]
  go_simp
theorem At_ne {x : Int} : At R x ≠ [] ↔ ∃ p ∈ R, p.1 = x := by
  unfold At
  constructor
  · intro h
    have h2 : R.filter (fun p => p.1 == x) ≠ [] := fun e => h (by rw [e]; rfl)
    obtain ⟨p, hp⟩ := List.exists_mem_of_ne_nil _ h2
    obtain ⟨a, b⟩ := List.mem_filter.1 hp
    exact ⟨p, a, by simpa using b⟩
  · rintro ⟨p, hp, he⟩ h
    have : p ∈ R.filter (fun p => p.1 == x) := List.mem_filter.2 ⟨hp, by simp [he]⟩
    rw [List.map_eq_nil_iff.1 h] at this
    cases this
theorem zv_nil {l : List Int} : zv l = [] ↔ l = [] := by simp [zv]
theorem Same.names (h : Same L R) {ks ys : List Int} (h1 : ks.Pairwise (· < ·)) (h2 : ∀ x, x ∈ ks ↔ iKE.ok x ∧ L x ≠ []) (h3 : NamesOf R ys) : ks = ys := by
  refine sorted_same (r := (· < ·)) (fun a => Int.lt_irrefl a) (fun a b c => Int.lt_trans) h1 h3.1 fun x => ?_
  rw [h2, h3.2]
  constructor
  · rintro ⟨ok, hn⟩
    rw [h.at_ x ok] at hn
    exact At_ne.1 (fun e => hn (zv_nil.2 e))
  · rintro ⟨p, hp, rfl⟩
    refine ⟨h.ok p hp, ?_⟩
    rw [h.at_ _ (h.ok p hp)]
    exact fun e => At_ne.2 ⟨p, hp, rfl⟩ (zv_nil.1 e)
theorem ofL_at (x : Int) : ofL R x = (At R x).map (fun y => (x, y)) := by
  unfold ofL At
  rw [List.map_map]
  induction R with
  | nil => rfl
  | cons p R ih =>
    by_cases e : p.1 = x
    · rw [List.filter_cons_of_pos (by simp [e]), List.map_cons, ← ih]
      congr 1
      cases p; simp at e; simp [e]
    · rw [List.filter_cons_of_neg (by simp [e])]
      exact ih
theorem allOf_Z (ys : List Int) : allOf R ys = allZ (At R) ys := by
  unfold allOf allZ
  congr 1
  exact funext ofL_at
theorem Same.zl (h : Same L R) {x : Int} (hx : iKE.ok x) : (L x).length ≤ 300 := by
  rw [h.at_ x hx]
  have := At_len R x
  have := h.len
  simp [zv]; omega
set_option maxRecDepth 100000 in
set_option maxHeartbeats 2000000 in
theorem looks_any (W : World) (sb mb rb B0 : Nat) (most : Int) (N : Nat) (h : LS S 55 W sb mb most N L) (hR : RC W rb B0 most R) (hs : Same L R) (hN : N ≤ 1000) (hb : sb < W.heap.size ∧ mb < W.heap.size ∧ rb < W.heap.size) (x : Int) (hx : iKE.ok x) :
    Calls Try.prog 21 #[.pointer (some ⟨sb, 0, none⟩), .pointer (some ⟨rb, 0, none⟩), .int .i64 x] W fun e W' => e = .returned (.bool true) ∧ Fr (fun _ => False) W W' := by
  have hb0 : B0 ≤ W.heap.size := hR.d.2
  have HL0 := Lib.hid h
  have HR0 := Lib.hid hR
  have HS := Lib.hid hs
  have HX : Hid (iKE.ok x) := Lib.hid hx
  clear h hR hs hx
  refine (callsIn_wide (n := 5)).1 ?_
  refine callsIn_of_wp_marks Try.func21 rfl trivial ?_ rfl
  simp only [Try.ntmps21, List.size_toArray, List.length_cons, List.length_nil, Nat.reduceAdd, Nat.reduceSub, Array.replicate_succ, Array.replicate_zero, List.push_toArray, List.append_toArray, List.nil_append, List.cons_append]
  refine wpIn_wide.2 ?_
  have hf1 : Fr (fun _ => False) W (W.alloc (.cells #[.bool false] 4)) := Fr.alloc _ W _
  have hc6 : Blk (W.alloc (.cells #[.bool false] 4)) W.heap.size 4 #[.bool false] := Blk.new W 4 #[.bool false]
  have HL1 : Hid (LS (fun _ => False) 55 (W.alloc (.cells #[.bool false] 4)) sb mb most N L) := Lib.hid (HL0.out.turn0 hf1 (fun k e => e.elim) id id (fun k e => e.elim))
  have HR1 := Lib.hid (HR0.out.kept hf1)
  have HF1 := Lib.hid hf1
  clear HL0 HR0 hf1
  go_wp2_with fail
  refine (peekI_any _ sb mb most N L HL1.out x HX.out (At R x) (HS.out.at_ x HX.out)).mono ?_
  rintro e w1 ⟨rfl, rfl⟩
  go_wp2_with fail
  have hRl : R.length ≤ 1000 := by have := HS.out.len; omega
  refine (rpeek_any HR1.out hRl x).mono ?_
  rintro e w1 ⟨rfl, rfl⟩
  obtain ⟨w1, hw1⟩ : ∃ w, W.alloc (.cells #[.bool false] 4) = w := ⟨_, rfl⟩
  have hs1 : w1.heap.size = W.heap.size + 1 := by rw [← hw1]; simp
  rw [hw1] at hc6 HL1 HR1 HF1
  rw [hw1]
  obtain ⟨tb, htb⟩ : ∃ b, W.heap.size = b := ⟨_, rfl⟩
  rw [htb] at hs1 hb hb0 hc6
  rw [htb]
  have HT := Lib.hid htb
  clear hw1 htb
  go_wp2_with fail
  refine (names_any _ sb mb most N L HL1.out (by omega)).mono ?_
  rintro e w2 ⟨v, ks, rfl, hown, hpw, hmem, hkl, hbl⟩
  have hf2 : Fr (fun _ => False) w1 w2 := ⟨hbl.os, hbl.tape, hbl.output, hbl.size, fun k hk _ => hbl.block k hk⟩
  obtain ⟨ao, cp, rfl, hcp, hcm, hrz, hbB⟩ := rowZ_of hown
  have HRZ := Lib.hid hrz
  have HL2 := Lib.hid (HL1.out.turn0 (S' := fun _ => False) hf2 (fun k e => e.elim) id id (fun k e => e.elim))
  have HR2 := Lib.hid (HR1.out.kept hf2)
  have HF2 := Lib.hid (HF1.out.trans hf2)
  have hd6 := hc6.fr hf2 id
  have hs2 : tb + 1 ≤ w2.heap.size := by have := hf2.size; omega
  clear hown hrz hbB hbl hf2 hc6 HL1 HR1 HF1 hs1
  go_wp2_with fail
  refine (rnames_any HR2.out hRl).mono ?_
  rintro e w3 ⟨v, ys, rfl, hown, hno, hyl, hf3⟩
  obtain rfl : ks = ys := HS.out.names hpw hmem hno
  obtain ⟨ao2, cp2, rfl, hcp2, hcm2, hrz2, hbB2⟩ := rowZ_of hown
  have HRZ1 := Lib.hid (HRZ.out.fr hf3 (fun k e => e.elim))
  have HRZ2 := Lib.hid hrz2
  have HL3 := Lib.hid (HL2.out.turn0 (S' := fun _ => False) hf3 (fun k e => e.elim) id id (fun k e => e.elim))
  have HR3 := Lib.hid (HR2.out.kept hf3)
  have HF3 := Lib.hid (HF2.out.trans hf3)
  have he6 := hd6.fr hf3 id
  have hs3 : tb + 1 ≤ w3.heap.size := by have := hf3.size; omega
  obtain ⟨m, hm⟩ : ∃ m, ks.length = m := ⟨_, rfl⟩
  rw [hm] at hcp hcp2 hkl hyl ⊢
  have HM := Lib.hid hm
  have HPW := Lib.hid hpw
  have HME := Lib.hid hmem
  have HNO := Lib.hid hno
  clear hown hrz2 hbB2 hf3 hd6 HL2 HR2 HF2 hs2 hm hpw hmem hno HRZ
  obtain ⟨l, hl⟩ : ∃ l, (At R x).length = l := ⟨_, rfl⟩
  have hll : l ≤ 300 := by have := At_len R x; have := HS.out.len; omega
  have hzl : (L x).length = l := by rw [HS.out.at_ x HX.out, ← hl]; simp [zv]
  have hq9 : Hid (∀ n, Calls Try.prog 9 #[.pointer (some ⟨sb, 0, none⟩), .int .i64 x] (w3.drewN n) fun e W' => e = .returned (.int .i64 (l : Int)) ∧ W' = w3.drewN n) := Lib.hid fun n => by
    have := lenI_any (w3.drewN n) sb mb most N L (HL3.out.turn0 (S0 := fun _ => False) (S' := fun _ => False) (Fr.drewN _ w3 n) (fun k e => e.elim) id id (fun k e => e.elim)) x HX.out
    rw [hzl] at this
    exact this.mono fun _ _ h => ⟨h.1, h.2.symm⟩
  have hq19 : Hid (∀ n, Calls Try.prog 19 #[.pointer (some ⟨rb, 0, none⟩), .int .i64 x] (w3.drewN n) fun e W' => e = .returned (.int .i64 (l : Int)) ∧ W' = w3.drewN n) := Lib.hid fun n => by
    have := rlen_any (HR3.out.kept (Fr.drewN _ w3 n)) hRl x
    rw [hl] at this
    exact this.mono fun _ _ h => ⟨h.1, h.2.symm⟩
  have hq28 : Hid (∀ n, Calls Try.prog 28 #[.pointer (some ⟨sb, 0, none⟩), .int .i64 x] (w3.drewN n) fun e W' => e = .returned (.bool (decide (most ≤ l))) ∧ ∃ k, W' = (w3.drewN n).drewN k) := Lib.hid fun n => by
    have := fullI_any (w3.drewN n) sb mb most N L (HL3.out.turn0 (S0 := fun _ => False) (S' := fun _ => False) (Fr.drewN _ w3 n) (fun k e => e.elim) id id (fun k e => e.elim)) x HX.out
    rw [hzl] at this
    exact this
  obtain ⟨sv, hsv, _⟩ := HR3.out.s
  have hm64 := hsv.cell 0
  simp only [List.getElem?_toArray, List.getElem?_cons_zero] at hm64
  obtain ⟨v0, hv0⟩ : ∃ v, ((At R x)[0]?).getD 0 = v := ⟨_, rfl⟩
  obtain ⟨v1, hv1⟩ : ∃ v, ((At R x)[0]?).isSome = v := ⟨_, rfl⟩
  rw [hv0, hv1]
  have p0 : (v0 != v0) = false := by simp
  have p1 : (v1 != v1) = false := by simp
  have p2 : ((l : Int) != l) = false := by simp
  have p3 : ((m : Int) != m) = false := by simp
  have p4 : (decide (most ≤ (l : Int)) != decide (most ≤ (l : Int))) = false := by simp
  clear hv0 hv1 hl hzl hsv
  go_wp2
  go_quiet ((first | (go_at_call 9; exact Calls.quiet_of_same (hq9.out _)) | (go_at_call 19; exact Calls.quiet_of_same (hq19.out _)) | (go_at_call 28; exact Calls.quiet_of (hq28.out _))))
  have hf4 : Fr (fun _ => False) w3 (w3.drewN nq) := Fr.drewN _ _ _
  have HL4 : Hid (LS (fun _ => False) 55 (w3.drewN nq) sb mb most N L) := Lib.hid (HL3.out.turn0 hf4 (fun k e => e.elim) id id (fun k e => e.elim))
  have HR4 := Lib.hid (HR3.out.kept hf4)
  have HF4 := Lib.hid (HF3.out.trans hf4)
  have HZ1 := Lib.hid (HRZ1.out.fr hf4 (fun k e => e.elim))
  have HZ2 := Lib.hid (HRZ2.out.fr hf4 (fun k e => e.elim))
  have hf6 := he6.fr hf4 id
  obtain ⟨w4, hw4⟩ : ∃ w, w3.drewN nq = w := ⟨_, rfl⟩
  rw [hw4] at HL4 HR4 HF4 HZ1 HZ2 hf6 ⊢
  clear hw4 hf4 HL3 HR3 HF3 HRZ1 HRZ2 he6 hq9 hq19 hq28 p0 p1 p2 p3 p4 hm64 hs3
  go_wp2_with fail
  go_loopw [13] (fun kv wr => ∃ i : Nat, i ≤ m ∧ kv = .int .i64 i ∧ Fr (fun _ => False) w4 wr) (fun kv _ => m - (intOf kv).toNat)
  case atStart => exact ⟨0, by omega, rfl, Fr.refl _ _⟩
  case round =>
    obtain ⟨i, hi, rfl, hfz⟩ := hrel
    by_cases hlt2 : i < m
    · have p2 : decide ((i : Int) < m) = true := decide_eq_true (by omega)
      have j1 : (i : Int) < (m : Int) := by omega
      obtain ⟨z, hz⟩ : ∃ z, ks[i]? = some z := ⟨_, List.getElem?_eq_getElem (by rw [HM.out]; exact hlt2)⟩
      rcases HZ1.out with ⟨_, h0⟩ | ⟨ga, rfl, hca⟩
      · have := HM.out; rw [h0] at this; simp at this; omega
      rcases HZ2.out with ⟨_, h0⟩ | ⟨gb, rfl, hcb⟩
      · have := HM.out; rw [h0] at this; simp at this; omega
      have da := (World.cell?_of_block (hfz.block ga (lt_of_cell (hca i z hz)) id)).trans (hca i z hz)
      have db := (World.cell?_of_block (hfz.block gb (lt_of_cell (hcb i z hz)) id)).trans (hcb i z hz)
      have pz : (z != z) = false := by simp
      have HFZ := Lib.hid hfz
      clear hca hcb hz hfz
      go_wp2
      go_quiet (fail)
      go_wp2
      go_roundw
      case rel => exact ⟨i + 1, by omega, by go_num, HFZ.out.trans (Fr.drewN _ _ _)⟩
      case measure => simp [intOf]; omega
    · obtain rfl : i = m := by omega
      have p2 : decide ((i : Int) < i) = false := decide_eq_false (by omega)
      have HL5 := Lib.hid (HL4.out.turn0 (S' := fun _ => False) hfz (fun k e => e.elim) id id (fun k e => e.elim))
      have HR5 := Lib.hid (HR4.out.kept hfz)
      have HF5 := Lib.hid (HF4.out.trans hfz)
      have hg6 := hf6.fr hfz id
      clear hfz HL4 HR4 HF4 HZ1 HZ2 hf6
      obtain ⟨w5, hw5⟩ : ∃ w : World, wr = w := ⟨_, rfl⟩
      subst hw5
      go_wp2_with fail
      refine (rall_any HR5.out hRl).mono ?_
      rintro e w6 ⟨v, ys, rfl, hno2, hown, hal, hfw⟩
      obtain rfl : ks = ys := HS.out.names HPW.out HME.out hno2
      obtain ⟨ad, ca, rfl⟩ := owns_slice hown
      rw [allOf_Z] at hown hal ⊢
      obtain ⟨len, hlen⟩ : ∃ n, (allZ (At R) ks).length = n := ⟨_, rfl⟩
      rw [hlen] at hal
      have hRF : len = 0 ∨ ∃ g, ad = some ⟨g, 0, none⟩ ∧ g < w6.heap.size ∧ ∀ j u, (flat (allZ (At R) ks))[j]? = some u → w6.cell? ⟨g, j, none⟩ = some u := by
        have hcs := hown
        rcases hown.2 with ⟨e1, h0⟩ | ⟨g, cp, cur, e1, hb, hgb, hnc, hcm, _, _⟩
        · exact .inl (hlen.symm.trans h0)
        · cases e1
          refine .inr ⟨g, rfl, (Array.getElem?_eq_some_iff.1 hgb).1, fun j u hj => ?_⟩
          have hjl := (List.getElem?_eq_some_iff.1 hj).1
          rw [flat_len] at hjl
          rw [hcs.cellAt j hjl, hj]
      rw [hlen]
      have HLEN := Lib.hid hlen
      have HL6 := Lib.hid (HL5.out.turn0 (S' := fun _ => False) hfw (fun k e => e.elim) id id (fun k e => e.elim))
      have HF6 := Lib.hid (HF5.out.trans hfw)
      have hh6 := hg6.fr hfw id
      have hs6 : tb < w6.heap.size := hh6.lt
      clear hown hno2 hlen hfw HL5 HR5 HF5 hg6
      have hfA : Fr (fun _ => False) w6 ((w6.alloc (.cells #[.slice ad len ca] 62)).alloc (.cells #[.int .i64 0] 3)) := (Fr.alloc _ w6 _).trans (Fr.alloc _ _ _)
      have hb4 : Blk ((w6.alloc (.cells #[.slice ad len ca] 62)).alloc (.cells #[.int .i64 0] 3)) w6.heap.size 62 #[.slice ad len ca] := (Blk.new w6 62 #[.slice ad len ca]).fr (Fr.alloc (fun _ => False) _ _) id
      have hb5 : Blk ((w6.alloc (.cells #[.slice ad len ca] 62)).alloc (.cells #[.int .i64 0] 3)) (w6.heap.size + 1) 3 #[.int .i64 0] := by
        have := Blk.new (w6.alloc (.cells #[.slice ad len ca] 62)) 3 #[.int .i64 0]
        rw [World.size_alloc] at this
        exact this
      have HRF7 : Hid (len = 0 ∨ ∃ g, ad = some ⟨g, 0, none⟩ ∧ g < w6.heap.size ∧ ∀ j u, (flat (allZ (At R) ks))[j]? = some u → ((w6.alloc (.cells #[.slice ad len ca] 62)).alloc (.cells #[.int .i64 0] 3)).cell? ⟨g, j, none⟩ = some u) := Lib.hid (hRF.imp id (fun ⟨g, h1, h3, h2⟩ => ⟨g, h1, h3, fun j u hj => (World.cell?_of_block (hfA.block g (lt_of_cell (h2 j u hj)) id)).trans (h2 j u hj)⟩))
      have HL7 := Lib.hid (HL6.out.turn0 (S' := fun _ => False) hfA (fun k e => e.elim) id id (fun k e => e.elim))
      have HF7 := Lib.hid (HF6.out.trans hfA)
      have hb6 := hh6.fr hfA id
      clear hRF hfA HL6 HF6 hh6
      go_wp2_with fail
      obtain ⟨w7, hw7⟩ : ∃ w, (w6.alloc (.cells #[.slice ad len ca] 62)).alloc (.cells #[.int .i64 0] 3) = w := ⟨_, rfl⟩
      obtain ⟨q, hq⟩ : ∃ q, w6.heap.size = q := ⟨_, rfl⟩
      rw [hw7] at HL7 HF7 HRF7 hb4 hb5 hb6
      rw [hq] at hb4 hb5 hs6 HRF7
      rw [hw7, hq]
      clear hw7 hq
      refine (all_any w7 sb mb most N L HL7.out (by omega) (fun y hy => by have := HS.out.zl hy; omega)).mono ?_
      rintro e w8 ⟨b1, b2, b3, ks2, rfl, hpw2, hme2, hk2, hC, hf8⟩
      obtain rfl : ks2 = ks := HS.out.names hpw2 hme2 HNO.out
      have hq7 : q + 1 < w7.heap.size := hb5.lt
      replace hb4 := hb4.fr hf8 id
      replace hb5 := hb5.fr hf8 id
      replace hb6 := hb6.fr hf8 id
      have HF8 := Lib.hid (HF7.out.trans hf8)
      have HRF8 : Hid (len = 0 ∨ ∃ g, ad = some ⟨g, 0, none⟩ ∧ g < q ∧ ∀ j u, (flat (allZ (At R) ks2))[j]? = some u → w8.cell? ⟨g, j, none⟩ = some u) := Lib.hid (HRF7.out.imp id (fun ⟨g, h1, h3, h2⟩ => ⟨g, h1, h3, fun j u hj => (World.cell?_of_block (hf8.block g (lt_of_cell (h2 j u hj)) id)).trans (h2 j u hj)⟩))
      have hs8 := hf8.size
      clear hpw2 hme2
      go_wp2_with fail
      have hq8 : q + 1 < w8.heap.size := by omega
      have htb8 : tb ≠ q + 1 := by omega
      have hfw8 := HF8.out.size
      refine (wpIn_wide (n := 5)).1 ?_
      have h45 : Fence.wide.fn 45 := trivial
      have hro : Fence.wide.round = none := rfl
      obtain ⟨F, hF⟩ : ∃ F, Fence.wide = F := ⟨_, rfl⟩
      rw [hF] at h45 hro
      rw [hF]
      have HFF := Lib.hid hF
      clear hF
      have hkb : ∀ (W' : World) (p : List (Int × Int)), KeepB w8.heap.size (q + 1) w8 W' ∧ Blk W' (q + 1) 3 #[.int .i64 (p.length : Int)] ∧ p <+: allZ (At R) ks2 → ∀ (W2 : World) (row : Option Nat), W'.grownBy W2 row → (∀ r, row = some r → w8.heap.size ≤ r) → KeepB w8.heap.size (q + 1) w8 W2 ∧ Blk W2 (q + 1) 3 #[.int .i64 (p.length : Int)] ∧ p <+: allZ (At R) ks2 := fun W' p h W2 row hg hr =>
        have hf : Fr (fun k => w8.heap.size ≤ k) W' W2 := Fr.grown hg hr
        ⟨h.1.trans (hf.mono (fun k e => .inr e)), h.2.1.fr hf (by omega), h.2.2⟩
      refine' wpIn_rangeFunc_ownF hro (by decide) (gf := 45) (lb := #[.pointer (some ⟨b2, 0, none⟩), .pointer (some ⟨b1, 0, none⟩)]) rfl h45 (enters_of Try.func45 (by kernel_rfl) rfl)
        (all_stops F 4 h45 hro (by decide) (q + 1) w7.heap.size b1 b2 b3 L (At R) ks2 w8 hC hq7 (fun y hy => ?_) (by omega) (fun y hy => ?_)) keepB_t (keepB_b (Nat.le_refl _)) (Below.refl _ _) (fun _ => rfl)
        (fun pre W' => KeepB w8.heap.size (q + 1) w8 W' ∧ Blk W' (q + 1) 3 #[.int .i64 (pre.length : Int)] ∧ pre <+: allZ (At R) ks2)
        (fun _ pre _ => ¬ pre <+: allZ (At R) ks2)
        (fun p W' W2 row h hg hr => hkb W' p h W2 row hg (fun r e => (hr r e).1))
        (fun _ _ _ _ _ hs _ _ => hs)
        ⟨Fr.refl _ _, hb5, List.nil_prefix⟩ _ ?assign ?body ?done ?stop
      case assign =>
        intro l y W' K hK
        gi_wp2
        exact hK
      case stop =>
        rintro D c pre W' _ hsp h _
        exact absurd hsp h
      case body =>
        rintro l pre ⟨y1, y2⟩ W' ⟨hk, hq5, hpre⟩ hlt
        have HK := Lib.hid hk
        have HPRE := Lib.hid hpre
        have i4 := (hb4.fr hk (by omega)).cell 0
        have i5 := hq5.cell 0
        have f5 := hq5.frozen 0
        have HB5 := Lib.hid hq5
        have hb6' := hb6.fr hk (by omega)
        have i6 := hb6'.cell 0
        have f6 := hb6'.frozen 0
        simp only [List.getElem?_toArray, List.getElem?_cons_zero] at i4 i5 i6
        rw [HLEN.out] at hlt
        obtain ⟨⟨p1, p2⟩, hp⟩ : ∃ p, (allZ (At R) ks2)[pre.length]? = some p := ⟨_, List.getElem?_eq_getElem (by rw [HLEN.out]; exact hlt)⟩
        rcases HRF8.out with h0 | ⟨g, rfl, hg, hcell⟩
        · omega
        have d0 := (World.cell?_of_block (hk.block g (by omega) (by omega))).trans (hcell _ _ (flat_at hp).1)
        have d1 := (World.cell?_of_block (hk.block g (by omega) (by omega))).trans (hcell _ _ (flat_at hp).2)
        dsimp only at d0 d1
        obtain ⟨j, hj⟩ : ∃ j, pre.length = j := ⟨_, rfl⟩
        rw [hj] at i5 hlt d0 d1
        have HJ := Lib.hid hj
        have HP := Lib.hid hp
        have j0 : ((len : Int) ≤ (j : Int)) = False := eq_false (by omega)
        have j1 : (j : Int) < (len : Int) := by omega
        have hneq : ∀ {z : Int × Int}, z ≠ (p1, p2) → ¬ pre ++ [z] <+: allZ (At R) ks2 := fun hz h => by
          have := pre_last h
          rw [HP.out] at this
          exact hz (Option.some.inj this).symm
        clear hcell hp hpre hk hb6' hq5 hj
        by_cases e1 : p1 = y1
        · by_cases e2 : p2 = y2
          · subst e1
            subst e2
            have hgo : Hid (pre ++ [(p1, p2)] <+: allZ (At R) ks2) := Lib.hid (pre_snoc HPRE.out HP.out)
            clear hneq
            gi_wp2
            refine ⟨KeepsOthers.setCell _ _ _, Fr.setCell _ _ _ (.inl rfl), HK.out.trans (Fr.setCell _ _ _ (.inl rfl)), ?_, hgo.out⟩
            have := HB5.out.set 0 (.int .i64 ((j : Int) + 1))
            rw [List.length_append, HJ.out]
            exact this
          · have HN := Lib.hid (hneq (z := (y1, y2)) (fun e => e2 (congrArg Prod.snd e).symm))
            subst e1
            have b2 : (p2 != y2) = true := by simp [e2]
            clear hneq
            gi_wp2
            exact ⟨KeepsOthers.setCell _ _ _, HN.out⟩
        · have HN := Lib.hid (hneq (z := (y1, y2)) (fun e => e1 (congrArg Prod.fst e).symm))
          have b1 : (p1 != y1) = true := by simp [e1]
          clear hneq
          gi_wp2
          exact ⟨KeepsOthers.setCell _ _ _, HN.out⟩
      case done =>
        rintro D ys W' hD rfl ⟨hk, hq5, hpre⟩ hK
        have i4 := (hb4.fr hk (by omega)).cell 0
        have i5 := hq5.cell 0
        have hb6' := hb6.fr hk (by omega)
        have i6 := hb6'.cell 0
        have f6 := hb6'.frozen 0
        simp only [List.getElem?_toArray, List.getElem?_cons_zero] at i4 i5 i6
        rw [HLEN.out] at i5
        have p9 : ((len : Int) == len) = true := by simp
        have HK := Lib.hid hk
        have HB6 := Lib.hid hb6'
        clear hk hb6' hq5
        have e := HFF.out
        subst e
        go_wp2
        have hDt : D ≠ tb := by omega
        have hDl : D < W'.heap.size := (Array.getElem?_eq_some_iff.1 hK).1
        have hK9 : (W'.setCell ⟨tb, 0, none⟩ (.bool true)).heap[D]? = some (.deferred (some [])) := by
          rw [(Fr.setCell (S := fun k => k = tb) W' ⟨tb, 0, none⟩ (.bool true) rfl).block D hDl hDt]; exact hK
        have hfe : Fr (fun k => k = D) (W'.setCell ⟨tb, 0, none⟩ (.bool true)) ((W'.setCell ⟨tb, 0, none⟩ (.bool true)).putObj D (.deferred none)) := Fr.grown (grownBy_putObj' _ _ _) (fun k e => (Option.some.inj e).symm)
        refine ⟨by simp, .inl ⟨_, _, rfl, run_takeDeferred hK9, ?_⟩⟩
        refine ⟨_, res21 rfl ((HB6.out.set 0 (.bool true)).fr hfe (fun e => hDt e.symm)), rfl, ?_⟩
        have h1 : Fr (fun k => k = q + 1 ∨ w8.heap.size ≤ k ∨ k = tb) w8 (((W'.setCell ⟨tb, 0, none⟩ (.bool true)).putObj D (.deferred none))) :=
          ((Fr.mono HK.out (fun k e => e.elim .inl (fun e => .inr (.inl e)))).trans (Fr.setCell W' ⟨tb, 0, none⟩ (.bool true) (.inr (.inr rfl)))).trans (hfe.mono (fun k e => .inr (.inl (by omega))))
        have h2 := HF8.out
        refine ⟨h1.os.trans h2.os, h1.tape.trans h2.tape, h1.output.trans h2.output, Nat.le_trans h2.size h1.size, fun k hk _ => ?_⟩
        have := HT.out
        exact (h1.block k (by have := h2.size; omega) (by omega)).trans (h2.block k hk id)
      case refine'_1 =>
        obtain ⟨hok, hne⟩ := HME.out y |>.1 hy
        have h1 := HS.out.at_ y hok
        exact ⟨h1, fun e => hne (by rw [h1, e]; rfl)⟩
      case refine'_2 =>
        have := At_len R y
        omega
end Go.Proofs.Ytklfppjejndclaa.P2
