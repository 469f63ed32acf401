/- Histories: one event more. -/
import Derived.Test.YtnkelaohcbdjnaaEvD
set_option linter.unusedVariables false
set_option linter.unusedSimpArgs false
namespace Go.Proofs.Ytnkelaohcbdjnaa.Ev
open Go.RowKit Go.Maps
def step1 (s : Hi) (e : Ev) : Hi := { s with n := s.n + 1, at_ := e.at_ }
def turned (s : Hi) (e : Ev) : Hi :=
  if e.k = 2 then { s with task := s.n, begun := false }
  else if e.k = 3 then { s with task := s.n, begun := true }
  else if e.k = 4 ∨ e.k = 5 ∨ e.k = 6 then { s with task := 0, begun := false }
  else if e.k = 7 ∨ e.k = 12 ∨ e.k = 17 then { s with kinds := put1 s.kinds s.n (some e.k), ids := put1 s.ids s.n (some e.id) }
  else if e.k = 8 then { s with of_ := put1 s.of_ s.n (some e.ref), from_ := put1 s.from_ e.ref (some s.n) }
  else if e.k = 9 ∨ e.k = 10 ∨ e.k = 11 then dropped { s with of_ := put1 s.of_ e.ref none, from_ := put1 s.from_ ((s.of_ e.ref).getD 0) none } ((s.of_ e.ref).getD 0)
  else if e.k = 13 ∨ e.k = 14 ∨ e.k = 18 then dropped s e.ref
  else s
def closes (s : Hi) (e : Ev) : Hi := if closeB e.k = true then { s with closed := e.k } else s
def addH (s : Hi) (e : Ev) : Hi := closes (turned (step1 s e) e) e
noncomputable def addO (s : Hi) (e : Ev) : Hi := if faultC s e = 0 then addH s e else s
theorem right_of {s : Hi} {e : Ev} (h : faultC s e = 0) : rightB e = true := by
  cases hr : rightB e with
  | true => rfl
  | false => rw [fault1 hr] at h; cases h
theorem addO_0 {s : Hi} {e : Ev} (h : faultC s e = 0) : addO s e = closes (turned (step1 s e) e) e := if_pos h
theorem closes_no {s : Hi} {e : Ev} (h : closeB e.k = false) : closes s e = s := if_neg (by rw [h]; decide)
theorem closes_yes {s : Hi} {e : Ev} (h : closeB e.k = true) : closes s e = { s with closed := e.k } := if_pos h
theorem HS.cells {W W' : World} {hb kb ib ob fb : Nat} {s : Hi} (h : HS W hb kb ib ob fb s) (s' : Hi) (hb' : Blk W' hb 134 (hcells s' kb ib ob fb)) (hf : Fr (fun k => k = hb) W W')
    (e1 : s'.kinds = s.kinds) (e2 : s'.ids = s.ids) (e3 : s'.of_ = s.of_) (e4 : s'.from_ = s.from_) (hn : s.n ≤ s'.n) (hn2 : s'.n ≤ 1000000) : HS W' hb kb ib ob fb s' := by
  obtain ⟨b, ⟨ck, hck, mk⟩, ⟨ci, hci, mi⟩, ⟨co, hco, mo⟩, ⟨cf, hcf, mf⟩, ne, few, dk, dv⟩ := h
  refine ⟨hb', ⟨ck, by omega, ?_⟩, ⟨ci, by omega, ?_⟩, ⟨co, by omega, ?_⟩, ⟨cf, by omega, ?_⟩, ne, hn2, ?_, ?_⟩
  · rw [e1]; exact mk.fr hf (mp_ne mk b).symm
  · rw [e2]; exact mi.fr hf (mp_ne mi b).symm
  · rw [e3]; exact mo.fr hf (mp_ne mo b).symm
  · rw [e4]; exact mf.fr hf (mp_ne mf b).symm
  · rw [e1]; intro x v hx; have := dk x v hx; omega
  · rw [e3]; exact dv
theorem why_cases (c : Nat) (hc : c ≤ 7) : ∃ z : ByteArray, whyV c = .string z ∧ z.toList.isEmpty = (c == 0) := by
  have : c = 0 ∨ c = 1 ∨ c = 2 ∨ c = 3 ∨ c = 4 ∨ c = 5 ∨ c = 6 ∨ c = 7 := by omega
  rcases this with rfl | rfl | rfl | rfl | rfl | rfl | rfl | rfl <;> exact ⟨_, rfl, by kernel_rfl⟩
theorem fault_le (s : Hi) (e : Ev) : faultC s e ≤ 7 := by
  unfold faultC
  repeat' split
  all_goals omega
theorem range_of {e : Ev} (h : rightB e = true) : 1 ≤ e.k ∧ e.k ≤ 23 ∧ 0 ≤ e.ref ∧ e.ref ≤ 1099511627776 := by
  simp only [rightB, Bool.and_eq_true, decide_eq_true_eq, betB_iff] at h
  exact ⟨h.1, h.2.1, h.2.2.2.1.1, h.2.2.2.1.2⟩
/-- the five blocks of a history -/
def Own (hb kb ib ob fb : Nat) : Nat → Prop := fun k => k = hb ∨ k = kb ∨ k = ib ∨ k = ob ∨ k = fb
theorem frz {W : World} {hb kb ib ob fb : Nat} {s : Hi} (h : HS W hb kb ib ob fb s) (k : Nat) : W.frozen? ⟨hb, k, none⟩ = false := h.b.frozen k
set_option maxRecDepth 100000 in
set_option maxHeartbeats 4000000 in
theorem add_any (W : World) (hb kb ib ob fb : Nat) (s : Hi) (h : HS W hb kb ib ob fb s) (hn : s.n < 1000000) (e : Ev) :
    Calls Try.prog 78 #[.pointer (some ⟨hb, 0, none⟩), .agg (evc e)] W fun r W' => r = .returned (.tuple #[whyV (faultC s e), .bool (faultC s e == 0)]) ∧ HS W' hb kb ib ob fb (addO s e) ∧ Fr (Own hb kb ib ob fb) W W' := by
  have hB := Blk.new W 79 (evc e)
  have hF : Fr (fun _ => False) W (W.alloc (.cells (evc e) 79)) := Fr.alloc _ _ _
  obtain ⟨w1, hw1⟩ : ∃ w1, W.alloc (.cells (evc e) 79) = w1 := ⟨_, rfl⟩
  rw [hw1] at hB hF
  have hlt := h.lt
  have HS1 := Lib.hid (h.fr0 hF)
  obtain ⟨bb, hbb⟩ : ∃ b, W.heap.size = b := ⟨_, rfl⟩
  have HBB : Hid (bb ≠ hb ∧ bb ≠ kb ∧ bb ≠ ib ∧ bb ≠ ob ∧ bb ≠ fb) := Lib.hid (by omega)
  rw [hbb] at hB
  have HB1 := Lib.hid hB
  have HF1 := Lib.hid hF
  clear h hB hF hlt
  have HN := Lib.hid hn
  clear hn
  simp only [evc] at hw1
  rw [show Value.agg (evc e) = Value.agg #[.int .i64 e.k, .int .i64 e.at_, .int .i64 e.ref, .int .i64 e.id, .int .i64 e.list, .int .i64 e.n, .slice e.ao e.dl e.cp] from rfl]
  have HFA := Lib.hid (fault_any w1 hb kb ib ob fb s HS1.out e)
  simp only [evc] at HFA
  obtain ⟨z, hz, hze⟩ := why_cases (faultC s e) (fault_le s e)
  have HZ := Lib.hid hz
  rw [hz] at HFA
  clear hz
  obtain ⟨c, hc⟩ : ∃ c, faultC s e = c := ⟨_, rfl⟩
  have HC := Lib.hid hc
  rw [hc] at hze
  clear hc
  have c0 := HB1.out.cell 0
  have c1 := HB1.out.cell 1
  have c2 := HB1.out.cell 2
  have c3 := HB1.out.cell 3
  have c4 := HB1.out.cell 4
  have c5 := HB1.out.cell 5
  have c6 := HB1.out.cell 6
  simp only [evc, List.getElem?_toArray, List.getElem?_cons_zero, List.getElem?_cons_succ] at c0 c1 c2 c3 c4 c5 c6
  go_enter Try.func78, Try.ntmps78
  go_upto_region 1 with (fail)
  try rw [hw1]
  try rw [hbb]
  clear hw1 hbb
  go_upto_region 2 with (first | (go_at_call 98; refine HFA.out.mono ?_; rintro e2 w2 ⟨rfl, hf2⟩) | go_in)
  clear c0 c1 c2 c3 c4 c5 c6
  have HS2 := Lib.hid (HS1.out.fr0 hf2)
  have HB2 := Lib.hid (HB1.out.fr hf2 id)
  have HF2 := Lib.hid (HF1.out.trans hf2)
  clear HS1 HB1 HF1 hf2 HFA
  have c0 := HB2.out.cell 0
  have c1 := HB2.out.cell 1
  have c2 := HB2.out.cell 2
  have c3 := HB2.out.cell 3
  have c4 := HB2.out.cell 4
  have c5 := HB2.out.cell 5
  have c6 := HB2.out.cell 6
  simp only [evc, List.getElem?_toArray, List.getElem?_cons_zero, List.getElem?_cons_succ] at c0 c1 c2 c3 c4 c5 c6
  have d0 := HS2.out.b.cell 0
  have d1 := HS2.out.b.cell 1
  have d2 := HS2.out.b.cell 2
  have d3 := HS2.out.b.cell 3
  have d4 := HS2.out.b.cell 4
  have d5 := HS2.out.b.cell 5
  have d6 := HS2.out.b.cell 6
  have d7 := HS2.out.b.cell 7
  have d8 := HS2.out.b.cell 8
  have f0 := HS2.out.b.frozen 0
  have f1 := HS2.out.b.frozen 1
  have f2 := HS2.out.b.frozen 2
  have f5 := HS2.out.b.frozen 5
  have f6 := HS2.out.b.frozen 6
  simp only [hcells, List.getElem?_toArray, List.getElem?_cons_zero, List.getElem?_cons_succ] at d0 d1 d2 d3 d4 d5 d6 d7 d8
  by_cases hc0 : c = 0
  case neg =>
    have p1 : z.toList.isEmpty = false := by rw [hze]; simp [hc0]
    have HC0 := Lib.hid hc0
    clear hze hc0
    go_wp2
    go_ret2
    refine ⟨?_, ?_, HF2.out.mono fun _ e => e.elim⟩
    · rw [HZ.out, HC.out, show (c == 0) = false by simp [HC0.out]]; rfl
    · rw [show addO s e = s from if_neg (by rw [HC.out]; exact HC0.out)]
      exact HS2.out
  subst hc0
  have p1 : z.toList.isEmpty = true := by rw [hze]; rfl
  clear hze
  have HRT := Lib.hid (right_of HC.out)
  have HW : Hid (wrap64 ((s.n : Int) + 1) = ((s.n + 1 : Nat) : Int)) := Lib.hid (by have := HN.out; rw [wrap64]; omega)
  have hb3 : Blk ((w2.setCell ⟨hb, 0, none⟩ (.int .i64 ((s.n + 1 : Nat) : Int))).setCell ⟨hb, 1, none⟩ (.int .i64 e.at_)) hb 134 (hcells (step1 s e) kb ib ob fb) := by
    have := (HS2.out.b.set 0 (.int .i64 ((s.n + 1 : Nat) : Int))).set 1 (.int .i64 e.at_)
    simpa only [hcells, step1, List.setIfInBounds_toArray, List.set_cons_zero, List.set_cons_succ] using this
  have hf3 : Fr (fun k => k = hb) w2 ((w2.setCell ⟨hb, 0, none⟩ (.int .i64 ((s.n + 1 : Nat) : Int))).setCell ⟨hb, 1, none⟩ (.int .i64 e.at_)) := (Fr.setCell (S := fun k => k = hb) w2 ⟨hb, 0, none⟩ _ rfl).trans (Fr.setCell _ ⟨hb, 1, none⟩ _ rfl)
  go_upto_region 6 with (fail)
  rw [HW.out]
  obtain ⟨w3, hw3⟩ : ∃ w3, (w2.setCell ⟨hb, 0, none⟩ (.int .i64 ((s.n + 1 : Nat) : Int))).setCell ⟨hb, 1, none⟩ (.int .i64 e.at_) = w3 := ⟨_, rfl⟩
  rw [hw3] at hb3 hf3 ⊢
  clear c0 c1 c2 c3 c4 c5 c6 d0 d1 d2 d3 d4 d5 d6 d7 d8 f0 f1 f2 f5 f6
  have HS3 := Lib.hid (HS2.out.cells (step1 s e) hb3 hf3 rfl rfl rfl rfl (by simp [step1]) (by have := HN.out; simp [step1]; omega))
  have HB3 := Lib.hid (HB2.out.fr hf3 HBB.out.1)
  have HF3 : Hid (Fr (Own hb kb ib ob fb) W w3) := Lib.hid ((HF2.out.mono fun _ e => e.elim).trans (hf3.mono fun _ e => .inl e))
  obtain ⟨s1, hs1⟩ : ∃ s1, step1 s e = s1 := ⟨_, rfl⟩
  have HAD := Lib.hid (addO_0 HC.out)
  have mfr : ∀ (b : Nat) (G : Int → Option Int), b ≠ hb → (∃ c, c ≤ s.n ∧ Mp iKE w2 b c (mI G)) → ∃ c, c ≤ s.n ∧ Mp iKE w3 b c (mI G) := fun b G hne h => by obtain ⟨c, hc, hM⟩ := h; exact ⟨c, hc, hM.fr hf3 hne⟩
  have hne2 : kb ≠ hb ∧ ib ≠ hb ∧ ob ≠ hb ∧ fb ≠ hb := by
    obtain ⟨_, _, m1⟩ := HS2.out.k
    obtain ⟨_, _, m2⟩ := HS2.out.i
    obtain ⟨_, _, m3⟩ := HS2.out.o
    obtain ⟨_, _, m4⟩ := HS2.out.f
    exact ⟨(mp_ne m1 HS2.out.b).symm, (mp_ne m2 HS2.out.b).symm, (mp_ne m3 HS2.out.b).symm, (mp_ne m4 HS2.out.b).symm⟩
  have HNE := Lib.hid hne2
  have HM3 : Hid ((∃ c, c ≤ s.n ∧ Mp iKE w3 kb c (mI (step1 s e).kinds)) ∧ (∃ c, c ≤ s.n ∧ Mp iKE w3 ib c (mI (step1 s e).ids)) ∧ (∃ c, c ≤ s.n ∧ Mp iKE w3 ob c (mI (step1 s e).of_)) ∧ (∃ c, c ≤ s.n ∧ Mp iKE w3 fb c (mI (step1 s e).from_))) := Lib.hid ⟨mfr _ _ hne2.1 HS2.out.k, mfr _ _ hne2.2.1 HS2.out.i, mfr _ _ hne2.2.2.1 HS2.out.o, mfr _ _ hne2.2.2.2 HS2.out.f⟩
  clear mfr hne2
  clear hw3 hb3 hf3 HW HS2 HB2 HF2
  rw [hs1] at HS3 HAD HM3
  have HN1 : Hid (s1.n = s.n + 1) := Lib.hid (by rw [← hs1]; rfl)
  clear hs1
  have c0 := HB3.out.cell 0
  have c1 := HB3.out.cell 1
  have c2 := HB3.out.cell 2
  have c3 := HB3.out.cell 3
  have c4 := HB3.out.cell 4
  have c5 := HB3.out.cell 5
  have c6 := HB3.out.cell 6
  simp only [evc, List.getElem?_toArray, List.getElem?_cons_zero, List.getElem?_cons_succ] at c0 c1 c2 c3 c4 c5 c6
  have d0 := HS3.out.b.cell 0
  have d1 := HS3.out.b.cell 1
  have d2 := HS3.out.b.cell 2
  have d3 := HS3.out.b.cell 3
  have d4 := HS3.out.b.cell 4
  have d5 := HS3.out.b.cell 5
  have d6 := HS3.out.b.cell 6
  have d7 := HS3.out.b.cell 7
  have d8 := HS3.out.b.cell 8
  have f0 := HS3.out.b.frozen 0
  have f1 := HS3.out.b.frozen 1
  have f2 := HS3.out.b.frozen 2
  have f5 := HS3.out.b.frozen 5
  have f6 := HS3.out.b.frozen 6
  simp only [hcells, List.getElem?_toArray, List.getElem?_cons_zero, List.getElem?_cons_succ] at d0 d1 d2 d3 d4 d5 d6 d7 d8
  by_cases k2 : e.k = 2
  · have HK := Lib.hid k2
    clear k2
    have q2 : (e.k == 2) = true := by rw [HK.out]; rfl
    have q3 : (e.k == 3) = false := by rw [HK.out]; rfl
    have q4 : (e.k == 4) = false := by rw [HK.out]; rfl
    have q5 : (e.k == 5) = false := by rw [HK.out]; rfl
    have q6 : (e.k == 6) = false := by rw [HK.out]; rfl
    have q7 : (e.k == 7) = false := by rw [HK.out]; rfl
    have q8 : (e.k == 8) = false := by rw [HK.out]; rfl
    have q9 : (e.k == 9) = false := by rw [HK.out]; rfl
    have q10 : (e.k == 10) = false := by rw [HK.out]; rfl
    have q11 : (e.k == 11) = false := by rw [HK.out]; rfl
    have q12 : (e.k == 12) = false := by rw [HK.out]; rfl
    have q13 : (e.k == 13) = false := by rw [HK.out]; rfl
    have q14 : (e.k == 14) = false := by rw [HK.out]; rfl
    have q17 : (e.k == 17) = false := by rw [HK.out]; rfl
    have q18 : (e.k == 18) = false := by rw [HK.out]; rfl
    have pcl : closeB e.k = false := by rw [HK.out]; rfl
    go_upto_region 9 with (fail)
    have hfd : Fr (fun _ => False) w3 w3.drew := Fr.drewN _ w3 1
    have HS4 := Lib.hid (HS3.out.fr0 hfd)
    have HB4 := Lib.hid (HB3.out.fr hfd id)
    have HF4 := Lib.hid (HF3.out.trans (hfd.mono fun _ e => e.elim))
    obtain ⟨w4, hw4⟩ : ∃ w, w3.drew = w := ⟨_, rfl⟩
    rw [hw4] at HS4 HB4 HF4
    refine wp_region_held_drew (S := fun (w' : World) => w'.cell? ⟨hb, 0, none⟩ = some (.int .i64 s1.n) ∧ w'.cell? ⟨bb, 0, none⟩ = some (.int .i64 e.k)) (by kernel_rfl) ⟨d0, c0⟩ (fun hHeld => ?_)
    rw [hw4] at hHeld ⊢
    refine wpAnyH_take (i := 0) (oi := _) (v := ?vafalse0) rfl (by kernel_rfl) (by kernel_rfl) (by kernel_rfl) (fun _ _ _ h => h) (Or.inl ⟨by rfl, ?yafalse0⟩) (by assumption) ?rafalse0
    case yafalse0 => intro w1 hSw; obtain ⟨s1, s2⟩ := hSw; go_simp; try with_reducible rfl
    try simp only [List.getElem_toArray, List.getElem_cons_zero, List.getElem_cons_succ, Act.put, List.setIfInBounds_toArray, List.set_cons_zero, List.set_cons_succ]
    refine wpAnyH_take (i := 1) (oi := _) (v := ?vafalse1) rfl (by kernel_rfl) (by kernel_rfl) (by kernel_rfl) (fun _ _ _ h => h) (Or.inl ⟨by rfl, ?yafalse1⟩) (by assumption) ?rafalse1
    case yafalse1 => intro w1 hSw; obtain ⟨s1, s2⟩ := hSw; go_simp; try with_reducible rfl
    try simp only [List.getElem_toArray, List.getElem_cons_zero, List.getElem_cons_succ, Act.put, List.setIfInBounds_toArray, List.set_cons_zero, List.set_cons_succ]
    refine wpAnyH_take (i := 2) (oi := _) (v := ?vafalse2) rfl (by kernel_rfl) (by kernel_rfl) (by kernel_rfl) (fun _ _ _ h => h) (Or.inl ⟨by rfl, ?yafalse2⟩) (by assumption) ?rafalse2
    case yafalse2 => intro w1 hSw; obtain ⟨s1, s2⟩ := hSw; go_simp; try with_reducible rfl
    try simp only [List.getElem_toArray, List.getElem_cons_zero, List.getElem_cons_succ, Act.put, List.setIfInBounds_toArray, List.set_cons_zero, List.set_cons_succ]
    refine wpAnyH_take (i := 3) (oi := _) (v := ?vafalse3) rfl (by kernel_rfl) (by kernel_rfl) (by kernel_rfl) (fun _ _ _ h => h) (Or.inl ⟨by rfl, ?yafalse3⟩) (by assumption) ?rafalse3
    case yafalse3 => intro w1 hSw; obtain ⟨s1, s2⟩ := hSw; go_simp; try with_reducible rfl
    try simp only [List.getElem_toArray, List.getElem_cons_zero, List.getElem_cons_succ, Act.put, List.setIfInBounds_toArray, List.set_cons_zero, List.set_cons_succ]
    refine wpAnyH_take (i := 4) (oi := _) (v := ?vafalse4) rfl (by kernel_rfl) (by kernel_rfl) (by kernel_rfl) (fun _ _ _ h => h) (Or.inl ⟨by rfl, ?yafalse4⟩) (by assumption) ?rafalse4
    case yafalse4 => intro w1 hSw; obtain ⟨s1, s2⟩ := hSw; go_simp; try with_reducible rfl
    try simp only [List.getElem_toArray, List.getElem_cons_zero, List.getElem_cons_succ, Act.put, List.setIfInBounds_toArray, List.set_cons_zero, List.set_cons_succ]
    refine wpAnyH_take (i := 5) (oi := _) (v := ?vafalse5) rfl (by kernel_rfl) (by kernel_rfl) (by kernel_rfl) (fun _ _ _ h => h) (Or.inl ⟨by rfl, ?yafalse5⟩) (by assumption) ?rafalse5
    case yafalse5 => intro w1 hSw; obtain ⟨s1, s2⟩ := hSw; go_simp; try with_reducible rfl
    try simp only [List.getElem_toArray, List.getElem_cons_zero, List.getElem_cons_succ, Act.put, List.setIfInBounds_toArray, List.set_cons_zero, List.set_cons_succ]
    refine wpAnyH_take (i := 6) (oi := _) (v := ?vafalse6) rfl (by kernel_rfl) (by kernel_rfl) (by kernel_rfl) (fun _ _ _ h => h) (Or.inl ⟨by rfl, ?yafalse6⟩) (by assumption) ?rafalse6
    case yafalse6 => intro w1 hSw; obtain ⟨s1, s2⟩ := hSw; go_simp; try with_reducible rfl
    try simp only [List.getElem_toArray, List.getElem_cons_zero, List.getElem_cons_succ, Act.put, List.setIfInBounds_toArray, List.set_cons_zero, List.set_cons_succ]
    refine wpAnyH_take (i := 7) (oi := _) (v := ?vafalse7) rfl (by kernel_rfl) (by kernel_rfl) (by kernel_rfl) (fun _ _ _ h => h) (Or.inl ⟨by rfl, ?yafalse7⟩) (by assumption) ?rafalse7
    case yafalse7 => intro w1 hSw; obtain ⟨s1, s2⟩ := hSw; go_simp; try with_reducible rfl
    try simp only [List.getElem_toArray, List.getElem_cons_zero, List.getElem_cons_succ, Act.put, List.setIfInBounds_toArray, List.set_cons_zero, List.set_cons_succ]
    refine wpAnyH_take (i := 8) (oi := _) (v := ?vafalse8) rfl (by kernel_rfl) (by kernel_rfl) (by kernel_rfl) (fun _ _ _ h => h) (Or.inl ⟨by rfl, ?yafalse8⟩) (by assumption) ?rafalse8
    case yafalse8 => intro w1 hSw; obtain ⟨s1, s2⟩ := hSw; go_simp; try with_reducible rfl
    try simp only [List.getElem_toArray, List.getElem_cons_zero, List.getElem_cons_succ, Act.put, List.setIfInBounds_toArray, List.set_cons_zero, List.set_cons_succ]
    refine wpAnyH_take (i := 9) (oi := _) (v := ?vafalse9) rfl (by kernel_rfl) (by kernel_rfl) (by kernel_rfl) (fun _ _ _ h => h) (Or.inl ⟨by rfl, ?yafalse9⟩) (by assumption) ?rafalse9
    case yafalse9 => intro w1 hSw; obtain ⟨s1, s2⟩ := hSw; go_simp; try with_reducible rfl
    try simp only [List.getElem_toArray, List.getElem_cons_zero, List.getElem_cons_succ, Act.put, List.setIfInBounds_toArray, List.set_cons_zero, List.set_cons_succ]
    refine wpAnyH_take (i := 10) (oi := _) (v := ?vafalse10) rfl (by kernel_rfl) (by kernel_rfl) (by kernel_rfl) (fun _ _ _ h => h) (Or.inl ⟨by rfl, ?yafalse10⟩) (by assumption) ?rafalse10
    case yafalse10 => intro w1 hSw; obtain ⟨s1, s2⟩ := hSw; go_simp; try with_reducible rfl
    try simp only [List.getElem_toArray, List.getElem_cons_zero, List.getElem_cons_succ, Act.put, List.setIfInBounds_toArray, List.set_cons_zero, List.set_cons_succ]
    clear hw4 hfd HS3 HB3 HF3
    clear c0 c1 c2 c3 c4 c5 c6 d0 d1 d2 d3 d4 d5 d6 d7 d8 f0 f1 f2 f5 f6
    have c0 := HB4.out.cell 0
    have c1 := HB4.out.cell 1
    have c2 := HB4.out.cell 2
    have c3 := HB4.out.cell 3
    have c4 := HB4.out.cell 4
    have c5 := HB4.out.cell 5
    have c6 := HB4.out.cell 6
    simp only [evc, List.getElem?_toArray, List.getElem?_cons_zero, List.getElem?_cons_succ] at c0 c1 c2 c3 c4 c5 c6
    have d0 := HS4.out.b.cell 0
    have d1 := HS4.out.b.cell 1
    have d2 := HS4.out.b.cell 2
    have d3 := HS4.out.b.cell 3
    have d4 := HS4.out.b.cell 4
    have d5 := HS4.out.b.cell 5
    have d6 := HS4.out.b.cell 6
    have d7 := HS4.out.b.cell 7
    have d8 := HS4.out.b.cell 8
    have f0 := HS4.out.b.frozen 0
    have f1 := HS4.out.b.frozen 1
    have f2 := HS4.out.b.frozen 2
    have f5 := HS4.out.b.frozen 5
    have f6 := HS4.out.b.frozen 6
    simp only [hcells, List.getElem?_toArray, List.getElem?_cons_zero, List.getElem?_cons_succ] at d0 d1 d2 d3 d4 d5 d6 d7 d8
    refine wpAnyH_ready (rs := [11]) (by kernel_rfl) (by simp) ?_
    refine AllReadyH.cons (o := _) rfl (fun K hK => ?_) AllReadyH.nil
    rw [if_pos (by rfl)]
    try simp only [List.getElem_toArray, List.getElem_cons_zero, List.getElem_cons_succ]
    go_simp
    have hb5 : Blk (w4.setCell ⟨hb, 5, none⟩ (.int .i64 s1.n)) hb 134 (hcells { s1 with task := s1.n } kb ib ob fb) := by
      have := HS4.out.b.set 5 (.int .i64 s1.n)
      simpa only [hcells, List.setIfInBounds_toArray, List.set_cons_zero, List.set_cons_succ] using this
    have hf5 : Fr (fun k => k = hb) w4 (w4.setCell ⟨hb, 5, none⟩ (.int .i64 s1.n)) := Fr.setCell (S := fun k => k = hb) w4 ⟨hb, 5, none⟩ _ rfl
    obtain ⟨w5, hw5⟩ : ∃ w, w4.setCell ⟨hb, 5, none⟩ (.int .i64 s1.n) = w := ⟨_, rfl⟩
    rw [hw5] at hb5 hf5 ⊢
    have HS5 := Lib.hid (HS4.out.cells { s1 with task := s1.n } hb5 hf5 rfl rfl rfl rfl (Nat.le_refl _) HS4.out.few)
    have HB5 := Lib.hid (HB4.out.fr hf5 HBB.out.1)
    have HF5 := Lib.hid (HF4.out.trans (hf5.mono fun _ e => .inl e : Fr (Own hb kb ib ob fb) _ _))
    clear hw5 hb5 hf5 HS4 HB4 HF4
    clear c0 c1 c2 c3 c4 c5 c6 d0 d1 d2 d3 d4 d5 d6 d7 d8 f0 f1 f2 f5 f6
    have c0 := HB5.out.cell 0
    have c1 := HB5.out.cell 1
    have c2 := HB5.out.cell 2
    have c3 := HB5.out.cell 3
    have c4 := HB5.out.cell 4
    have c5 := HB5.out.cell 5
    have c6 := HB5.out.cell 6
    simp only [evc, List.getElem?_toArray, List.getElem?_cons_zero, List.getElem?_cons_succ] at c0 c1 c2 c3 c4 c5 c6
    have d0 := HS5.out.b.cell 0
    have d1 := HS5.out.b.cell 1
    have d2 := HS5.out.b.cell 2
    have d3 := HS5.out.b.cell 3
    have d4 := HS5.out.b.cell 4
    have d5 := HS5.out.b.cell 5
    have d6 := HS5.out.b.cell 6
    have d7 := HS5.out.b.cell 7
    have d8 := HS5.out.b.cell 8
    have f0 := HS5.out.b.frozen 0
    have f1 := HS5.out.b.frozen 1
    have f2 := HS5.out.b.frozen 2
    have f5 := HS5.out.b.frozen 5
    have f6 := HS5.out.b.frozen 6
    simp only [hcells, List.getElem?_toArray, List.getElem?_cons_zero, List.getElem?_cons_succ] at d0 d1 d2 d3 d4 d5 d6 d7 d8
    refine hK.out _ _ ⟨d0, c0⟩ (fun hHeld2 => ?_)
    clear hK K hHeld
    try simp only [List.getElem_toArray, List.getElem_cons_zero, List.getElem_cons_succ, Act.put, List.setIfInBounds_toArray, List.set_cons_zero, List.set_cons_succ]
    refine wpAnyH_take (i := 12) (oi := _) (v := ?vbfalse12) rfl (by kernel_rfl) (by kernel_rfl) (by kernel_rfl) (fun _ _ _ h => h) (Or.inl ⟨by rfl, ?ybfalse12⟩) (by assumption) ?rbfalse12
    case ybfalse12 => intro w1 hSw; obtain ⟨s1, s2⟩ := hSw; go_simp; try with_reducible rfl
    try simp only [List.getElem_toArray, List.getElem_cons_zero, List.getElem_cons_succ, Act.put, List.setIfInBounds_toArray, List.set_cons_zero, List.set_cons_succ]
    refine wpAnyH_take (i := 13) (oi := _) (v := ?vbfalse13) rfl (by kernel_rfl) (by kernel_rfl) (by kernel_rfl) (fun _ _ _ h => h) (Or.inl ⟨by rfl, ?ybfalse13⟩) (by assumption) ?rbfalse13
    case ybfalse13 => intro w1 hSw; obtain ⟨s1, s2⟩ := hSw; go_simp; try with_reducible rfl
    try simp only [List.getElem_toArray, List.getElem_cons_zero, List.getElem_cons_succ, Act.put, List.setIfInBounds_toArray, List.set_cons_zero, List.set_cons_succ]
    refine wpAnyH_ready (rs := [14]) (by kernel_rfl) (by simp) ?_
    refine AllReadyH.cons (o := _) rfl (fun K hK => ?_) AllReadyH.nil
    rw [if_pos (by rfl)]
    try simp only [List.getElem_toArray, List.getElem_cons_zero, List.getElem_cons_succ]
    go_simp
    have hb6 : Blk (w5.setCell ⟨hb, 6, none⟩ (.bool false)) hb 134 (hcells { s1 with task := s1.n, begun := false } kb ib ob fb) := by
      have := HS5.out.b.set 6 (.bool false)
      simpa only [hcells, List.setIfInBounds_toArray, List.set_cons_zero, List.set_cons_succ] using this
    have hf6 : Fr (fun k => k = hb) w5 (w5.setCell ⟨hb, 6, none⟩ (.bool false)) := Fr.setCell (S := fun k => k = hb) w5 ⟨hb, 6, none⟩ _ rfl
    obtain ⟨w6, hw6⟩ : ∃ w, w5.setCell ⟨hb, 6, none⟩ (.bool false) = w := ⟨_, rfl⟩
    rw [hw6] at hb6 hf6 ⊢
    have HS6 := Lib.hid (HS5.out.cells { s1 with task := s1.n, begun := false } hb6 hf6 rfl rfl rfl rfl (Nat.le_refl _) HS5.out.few)
    have HB6 := Lib.hid (HB5.out.fr hf6 HBB.out.1)
    have HF6 := Lib.hid (HF5.out.trans (hf6.mono fun _ e => .inl e : Fr (Own hb kb ib ob fb) _ _))
    clear hw6 hb6 hf6 HS5 HB5 HF5
    clear c0 c1 c2 c3 c4 c5 c6 d0 d1 d2 d3 d4 d5 d6 d7 d8 f0 f1 f2 f5 f6
    have c0 := HB6.out.cell 0
    have c1 := HB6.out.cell 1
    have c2 := HB6.out.cell 2
    have c3 := HB6.out.cell 3
    have c4 := HB6.out.cell 4
    have c5 := HB6.out.cell 5
    have c6 := HB6.out.cell 6
    simp only [evc, List.getElem?_toArray, List.getElem?_cons_zero, List.getElem?_cons_succ] at c0 c1 c2 c3 c4 c5 c6
    have d0 := HS6.out.b.cell 0
    have d1 := HS6.out.b.cell 1
    have d2 := HS6.out.b.cell 2
    have d3 := HS6.out.b.cell 3
    have d4 := HS6.out.b.cell 4
    have d5 := HS6.out.b.cell 5
    have d6 := HS6.out.b.cell 6
    have d7 := HS6.out.b.cell 7
    have d8 := HS6.out.b.cell 8
    have f0 := HS6.out.b.frozen 0
    have f1 := HS6.out.b.frozen 1
    have f2 := HS6.out.b.frozen 2
    have f5 := HS6.out.b.frozen 5
    have f6 := HS6.out.b.frozen 6
    simp only [hcells, List.getElem?_toArray, List.getElem?_cons_zero, List.getElem?_cons_succ] at d0 d1 d2 d3 d4 d5 d6 d7 d8
    refine hK.out _ _ ⟨d0, c0⟩ (fun hHeld3 => ?_)
    clear hK K hHeld2
    try simp only [List.getElem_toArray, List.getElem_cons_zero, List.getElem_cons_succ, Act.put, List.setIfInBounds_toArray, List.set_cons_zero, List.set_cons_succ]
    refine wpAnyH_done (by kernel_rfl) ?_ _
    clear hHeld3
    have HAD2 : Hid (addO s e = { s1 with task := s1.n, begun := false }) := Lib.hid (by rw [HAD.out, closes_no pcl]; simp [turned, HK.out])
    clear HAD
    clear q2 q3 q4 q5 q6 q7 q8 q9 q10 q11 q12 q13 q14 q17 q18
    have HPC := Lib.hid pcl
    go_wp2_with (first | (go_at_call 100; refine (closes_any _ _).mono ?_; rintro e3 w9 ⟨rfl, rfl⟩; rw [HPC.out]) | go_in)
    go_ret2
    refine ⟨?_, ?_, HF6.out⟩
    · rw [HC.out]; rfl
    · rw [HAD2.out]; exact HS6.out
  have q2 : (e.k == 2) = false := by simp [k2]
  by_cases k3 : e.k = 3
  · have HK := Lib.hid k3
    clear k3
    have q2 : (e.k == 2) = false := by rw [HK.out]; rfl
    have q3 : (e.k == 3) = true := by rw [HK.out]; rfl
    have q4 : (e.k == 4) = false := by rw [HK.out]; rfl
    have q5 : (e.k == 5) = false := by rw [HK.out]; rfl
    have q6 : (e.k == 6) = false := by rw [HK.out]; rfl
    have q7 : (e.k == 7) = false := by rw [HK.out]; rfl
    have q8 : (e.k == 8) = false := by rw [HK.out]; rfl
    have q9 : (e.k == 9) = false := by rw [HK.out]; rfl
    have q10 : (e.k == 10) = false := by rw [HK.out]; rfl
    have q11 : (e.k == 11) = false := by rw [HK.out]; rfl
    have q12 : (e.k == 12) = false := by rw [HK.out]; rfl
    have q13 : (e.k == 13) = false := by rw [HK.out]; rfl
    have q14 : (e.k == 14) = false := by rw [HK.out]; rfl
    have q17 : (e.k == 17) = false := by rw [HK.out]; rfl
    have q18 : (e.k == 18) = false := by rw [HK.out]; rfl
    have pcl : closeB e.k = false := by rw [HK.out]; rfl
    go_upto_region 9 with (fail)
    have hfd : Fr (fun _ => False) w3 w3.drew := Fr.drewN _ w3 1
    have HS4 := Lib.hid (HS3.out.fr0 hfd)
    have HB4 := Lib.hid (HB3.out.fr hfd id)
    have HF4 := Lib.hid (HF3.out.trans (hfd.mono fun _ e => e.elim))
    obtain ⟨w4, hw4⟩ : ∃ w, w3.drew = w := ⟨_, rfl⟩
    rw [hw4] at HS4 HB4 HF4
    refine wp_region_held_drew (S := fun (w' : World) => w'.cell? ⟨hb, 0, none⟩ = some (.int .i64 s1.n) ∧ w'.cell? ⟨bb, 0, none⟩ = some (.int .i64 e.k)) (by kernel_rfl) ⟨d0, c0⟩ (fun hHeld => ?_)
    rw [hw4] at hHeld ⊢
    refine wpAnyH_take (i := 0) (oi := _) (v := ?vatrue0) rfl (by kernel_rfl) (by kernel_rfl) (by kernel_rfl) (fun _ _ _ h => h) (Or.inl ⟨by rfl, ?yatrue0⟩) (by assumption) ?ratrue0
    case yatrue0 => intro w1 hSw; obtain ⟨s1, s2⟩ := hSw; go_simp; try with_reducible rfl
    try simp only [List.getElem_toArray, List.getElem_cons_zero, List.getElem_cons_succ, Act.put, List.setIfInBounds_toArray, List.set_cons_zero, List.set_cons_succ]
    refine wpAnyH_take (i := 1) (oi := _) (v := ?vatrue1) rfl (by kernel_rfl) (by kernel_rfl) (by kernel_rfl) (fun _ _ _ h => h) (Or.inl ⟨by rfl, ?yatrue1⟩) (by assumption) ?ratrue1
    case yatrue1 => intro w1 hSw; obtain ⟨s1, s2⟩ := hSw; go_simp; try with_reducible rfl
    try simp only [List.getElem_toArray, List.getElem_cons_zero, List.getElem_cons_succ, Act.put, List.setIfInBounds_toArray, List.set_cons_zero, List.set_cons_succ]
    refine wpAnyH_take (i := 2) (oi := _) (v := ?vatrue2) rfl (by kernel_rfl) (by kernel_rfl) (by kernel_rfl) (fun _ _ _ h => h) (Or.inl ⟨by rfl, ?yatrue2⟩) (by assumption) ?ratrue2
    case yatrue2 => intro w1 hSw; obtain ⟨s1, s2⟩ := hSw; go_simp; try with_reducible rfl
    try simp only [List.getElem_toArray, List.getElem_cons_zero, List.getElem_cons_succ, Act.put, List.setIfInBounds_toArray, List.set_cons_zero, List.set_cons_succ]
    refine wpAnyH_take (i := 3) (oi := _) (v := ?vatrue3) rfl (by kernel_rfl) (by kernel_rfl) (by kernel_rfl) (fun _ _ _ h => h) (Or.inl ⟨by rfl, ?yatrue3⟩) (by assumption) ?ratrue3
    case yatrue3 => intro w1 hSw; obtain ⟨s1, s2⟩ := hSw; go_simp; try with_reducible rfl
    try simp only [List.getElem_toArray, List.getElem_cons_zero, List.getElem_cons_succ, Act.put, List.setIfInBounds_toArray, List.set_cons_zero, List.set_cons_succ]
    refine wpAnyH_take (i := 4) (oi := _) (v := ?vatrue4) rfl (by kernel_rfl) (by kernel_rfl) (by kernel_rfl) (fun _ _ _ h => h) (Or.inl ⟨by rfl, ?yatrue4⟩) (by assumption) ?ratrue4
    case yatrue4 => intro w1 hSw; obtain ⟨s1, s2⟩ := hSw; go_simp; try with_reducible rfl
    try simp only [List.getElem_toArray, List.getElem_cons_zero, List.getElem_cons_succ, Act.put, List.setIfInBounds_toArray, List.set_cons_zero, List.set_cons_succ]
    refine wpAnyH_take (i := 5) (oi := _) (v := ?vatrue5) rfl (by kernel_rfl) (by kernel_rfl) (by kernel_rfl) (fun _ _ _ h => h) (Or.inl ⟨by rfl, ?yatrue5⟩) (by assumption) ?ratrue5
    case yatrue5 => intro w1 hSw; obtain ⟨s1, s2⟩ := hSw; go_simp; try with_reducible rfl
    try simp only [List.getElem_toArray, List.getElem_cons_zero, List.getElem_cons_succ, Act.put, List.setIfInBounds_toArray, List.set_cons_zero, List.set_cons_succ]
    refine wpAnyH_take (i := 6) (oi := _) (v := ?vatrue6) rfl (by kernel_rfl) (by kernel_rfl) (by kernel_rfl) (fun _ _ _ h => h) (Or.inl ⟨by rfl, ?yatrue6⟩) (by assumption) ?ratrue6
    case yatrue6 => intro w1 hSw; obtain ⟨s1, s2⟩ := hSw; go_simp; try with_reducible rfl
    try simp only [List.getElem_toArray, List.getElem_cons_zero, List.getElem_cons_succ, Act.put, List.setIfInBounds_toArray, List.set_cons_zero, List.set_cons_succ]
    refine wpAnyH_take (i := 7) (oi := _) (v := ?vatrue7) rfl (by kernel_rfl) (by kernel_rfl) (by kernel_rfl) (fun _ _ _ h => h) (Or.inl ⟨by rfl, ?yatrue7⟩) (by assumption) ?ratrue7
    case yatrue7 => intro w1 hSw; obtain ⟨s1, s2⟩ := hSw; go_simp; try with_reducible rfl
    try simp only [List.getElem_toArray, List.getElem_cons_zero, List.getElem_cons_succ, Act.put, List.setIfInBounds_toArray, List.set_cons_zero, List.set_cons_succ]
    refine wpAnyH_take (i := 8) (oi := _) (v := ?vatrue8) rfl (by kernel_rfl) (by kernel_rfl) (by kernel_rfl) (fun _ _ _ h => h) (Or.inl ⟨by rfl, ?yatrue8⟩) (by assumption) ?ratrue8
    case yatrue8 => intro w1 hSw; obtain ⟨s1, s2⟩ := hSw; go_simp; try with_reducible rfl
    try simp only [List.getElem_toArray, List.getElem_cons_zero, List.getElem_cons_succ, Act.put, List.setIfInBounds_toArray, List.set_cons_zero, List.set_cons_succ]
    refine wpAnyH_take (i := 9) (oi := _) (v := ?vatrue9) rfl (by kernel_rfl) (by kernel_rfl) (by kernel_rfl) (fun _ _ _ h => h) (Or.inl ⟨by rfl, ?yatrue9⟩) (by assumption) ?ratrue9
    case yatrue9 => intro w1 hSw; obtain ⟨s1, s2⟩ := hSw; go_simp; try with_reducible rfl
    try simp only [List.getElem_toArray, List.getElem_cons_zero, List.getElem_cons_succ, Act.put, List.setIfInBounds_toArray, List.set_cons_zero, List.set_cons_succ]
    refine wpAnyH_take (i := 10) (oi := _) (v := ?vatrue10) rfl (by kernel_rfl) (by kernel_rfl) (by kernel_rfl) (fun _ _ _ h => h) (Or.inl ⟨by rfl, ?yatrue10⟩) (by assumption) ?ratrue10
    case yatrue10 => intro w1 hSw; obtain ⟨s1, s2⟩ := hSw; go_simp; try with_reducible rfl
    try simp only [List.getElem_toArray, List.getElem_cons_zero, List.getElem_cons_succ, Act.put, List.setIfInBounds_toArray, List.set_cons_zero, List.set_cons_succ]
    clear hw4 hfd HS3 HB3 HF3
    clear c0 c1 c2 c3 c4 c5 c6 d0 d1 d2 d3 d4 d5 d6 d7 d8 f0 f1 f2 f5 f6
    have c0 := HB4.out.cell 0
    have c1 := HB4.out.cell 1
    have c2 := HB4.out.cell 2
    have c3 := HB4.out.cell 3
    have c4 := HB4.out.cell 4
    have c5 := HB4.out.cell 5
    have c6 := HB4.out.cell 6
    simp only [evc, List.getElem?_toArray, List.getElem?_cons_zero, List.getElem?_cons_succ] at c0 c1 c2 c3 c4 c5 c6
    have d0 := HS4.out.b.cell 0
    have d1 := HS4.out.b.cell 1
    have d2 := HS4.out.b.cell 2
    have d3 := HS4.out.b.cell 3
    have d4 := HS4.out.b.cell 4
    have d5 := HS4.out.b.cell 5
    have d6 := HS4.out.b.cell 6
    have d7 := HS4.out.b.cell 7
    have d8 := HS4.out.b.cell 8
    have f0 := HS4.out.b.frozen 0
    have f1 := HS4.out.b.frozen 1
    have f2 := HS4.out.b.frozen 2
    have f5 := HS4.out.b.frozen 5
    have f6 := HS4.out.b.frozen 6
    simp only [hcells, List.getElem?_toArray, List.getElem?_cons_zero, List.getElem?_cons_succ] at d0 d1 d2 d3 d4 d5 d6 d7 d8
    refine wpAnyH_ready (rs := [11]) (by kernel_rfl) (by simp) ?_
    refine AllReadyH.cons (o := _) rfl (fun K hK => ?_) AllReadyH.nil
    rw [if_pos (by rfl)]
    try simp only [List.getElem_toArray, List.getElem_cons_zero, List.getElem_cons_succ]
    go_simp
    have hb5 : Blk (w4.setCell ⟨hb, 5, none⟩ (.int .i64 s1.n)) hb 134 (hcells { s1 with task := s1.n } kb ib ob fb) := by
      have := HS4.out.b.set 5 (.int .i64 s1.n)
      simpa only [hcells, List.setIfInBounds_toArray, List.set_cons_zero, List.set_cons_succ] using this
    have hf5 : Fr (fun k => k = hb) w4 (w4.setCell ⟨hb, 5, none⟩ (.int .i64 s1.n)) := Fr.setCell (S := fun k => k = hb) w4 ⟨hb, 5, none⟩ _ rfl
    obtain ⟨w5, hw5⟩ : ∃ w, w4.setCell ⟨hb, 5, none⟩ (.int .i64 s1.n) = w := ⟨_, rfl⟩
    rw [hw5] at hb5 hf5 ⊢
    have HS5 := Lib.hid (HS4.out.cells { s1 with task := s1.n } hb5 hf5 rfl rfl rfl rfl (Nat.le_refl _) HS4.out.few)
    have HB5 := Lib.hid (HB4.out.fr hf5 HBB.out.1)
    have HF5 := Lib.hid (HF4.out.trans (hf5.mono fun _ e => .inl e : Fr (Own hb kb ib ob fb) _ _))
    clear hw5 hb5 hf5 HS4 HB4 HF4
    clear c0 c1 c2 c3 c4 c5 c6 d0 d1 d2 d3 d4 d5 d6 d7 d8 f0 f1 f2 f5 f6
    have c0 := HB5.out.cell 0
    have c1 := HB5.out.cell 1
    have c2 := HB5.out.cell 2
    have c3 := HB5.out.cell 3
    have c4 := HB5.out.cell 4
    have c5 := HB5.out.cell 5
    have c6 := HB5.out.cell 6
    simp only [evc, List.getElem?_toArray, List.getElem?_cons_zero, List.getElem?_cons_succ] at c0 c1 c2 c3 c4 c5 c6
    have d0 := HS5.out.b.cell 0
    have d1 := HS5.out.b.cell 1
    have d2 := HS5.out.b.cell 2
    have d3 := HS5.out.b.cell 3
    have d4 := HS5.out.b.cell 4
    have d5 := HS5.out.b.cell 5
    have d6 := HS5.out.b.cell 6
    have d7 := HS5.out.b.cell 7
    have d8 := HS5.out.b.cell 8
    have f0 := HS5.out.b.frozen 0
    have f1 := HS5.out.b.frozen 1
    have f2 := HS5.out.b.frozen 2
    have f5 := HS5.out.b.frozen 5
    have f6 := HS5.out.b.frozen 6
    simp only [hcells, List.getElem?_toArray, List.getElem?_cons_zero, List.getElem?_cons_succ] at d0 d1 d2 d3 d4 d5 d6 d7 d8
    refine hK.out _ _ ⟨d0, c0⟩ (fun hHeld2 => ?_)
    clear hK K hHeld
    try simp only [List.getElem_toArray, List.getElem_cons_zero, List.getElem_cons_succ, Act.put, List.setIfInBounds_toArray, List.set_cons_zero, List.set_cons_succ]
    refine wpAnyH_take (i := 12) (oi := _) (v := ?vbtrue12) rfl (by kernel_rfl) (by kernel_rfl) (by kernel_rfl) (fun _ _ _ h => h) (Or.inl ⟨by rfl, ?ybtrue12⟩) (by assumption) ?rbtrue12
    case ybtrue12 => intro w1 hSw; obtain ⟨s1, s2⟩ := hSw; go_simp; try with_reducible rfl
    try simp only [List.getElem_toArray, List.getElem_cons_zero, List.getElem_cons_succ, Act.put, List.setIfInBounds_toArray, List.set_cons_zero, List.set_cons_succ]
    refine wpAnyH_take (i := 13) (oi := _) (v := ?vbtrue13) rfl (by kernel_rfl) (by kernel_rfl) (by kernel_rfl) (fun _ _ _ h => h) (Or.inl ⟨by rfl, ?ybtrue13⟩) (by assumption) ?rbtrue13
    case ybtrue13 => intro w1 hSw; obtain ⟨s1, s2⟩ := hSw; go_simp; try with_reducible rfl
    try simp only [List.getElem_toArray, List.getElem_cons_zero, List.getElem_cons_succ, Act.put, List.setIfInBounds_toArray, List.set_cons_zero, List.set_cons_succ]
    refine wpAnyH_ready (rs := [14]) (by kernel_rfl) (by simp) ?_
    refine AllReadyH.cons (o := _) rfl (fun K hK => ?_) AllReadyH.nil
    rw [if_pos (by rfl)]
    try simp only [List.getElem_toArray, List.getElem_cons_zero, List.getElem_cons_succ]
    go_simp
    have hb6 : Blk (w5.setCell ⟨hb, 6, none⟩ (.bool true)) hb 134 (hcells { s1 with task := s1.n, begun := true } kb ib ob fb) := by
      have := HS5.out.b.set 6 (.bool true)
      simpa only [hcells, List.setIfInBounds_toArray, List.set_cons_zero, List.set_cons_succ] using this
    have hf6 : Fr (fun k => k = hb) w5 (w5.setCell ⟨hb, 6, none⟩ (.bool true)) := Fr.setCell (S := fun k => k = hb) w5 ⟨hb, 6, none⟩ _ rfl
    obtain ⟨w6, hw6⟩ : ∃ w, w5.setCell ⟨hb, 6, none⟩ (.bool true) = w := ⟨_, rfl⟩
    rw [hw6] at hb6 hf6 ⊢
    have HS6 := Lib.hid (HS5.out.cells { s1 with task := s1.n, begun := true } hb6 hf6 rfl rfl rfl rfl (Nat.le_refl _) HS5.out.few)
    have HB6 := Lib.hid (HB5.out.fr hf6 HBB.out.1)
    have HF6 := Lib.hid (HF5.out.trans (hf6.mono fun _ e => .inl e : Fr (Own hb kb ib ob fb) _ _))
    clear hw6 hb6 hf6 HS5 HB5 HF5
    clear c0 c1 c2 c3 c4 c5 c6 d0 d1 d2 d3 d4 d5 d6 d7 d8 f0 f1 f2 f5 f6
    have c0 := HB6.out.cell 0
    have c1 := HB6.out.cell 1
    have c2 := HB6.out.cell 2
    have c3 := HB6.out.cell 3
    have c4 := HB6.out.cell 4
    have c5 := HB6.out.cell 5
    have c6 := HB6.out.cell 6
    simp only [evc, List.getElem?_toArray, List.getElem?_cons_zero, List.getElem?_cons_succ] at c0 c1 c2 c3 c4 c5 c6
    have d0 := HS6.out.b.cell 0
    have d1 := HS6.out.b.cell 1
    have d2 := HS6.out.b.cell 2
    have d3 := HS6.out.b.cell 3
    have d4 := HS6.out.b.cell 4
    have d5 := HS6.out.b.cell 5
    have d6 := HS6.out.b.cell 6
    have d7 := HS6.out.b.cell 7
    have d8 := HS6.out.b.cell 8
    have f0 := HS6.out.b.frozen 0
    have f1 := HS6.out.b.frozen 1
    have f2 := HS6.out.b.frozen 2
    have f5 := HS6.out.b.frozen 5
    have f6 := HS6.out.b.frozen 6
    simp only [hcells, List.getElem?_toArray, List.getElem?_cons_zero, List.getElem?_cons_succ] at d0 d1 d2 d3 d4 d5 d6 d7 d8
    refine hK.out _ _ ⟨d0, c0⟩ (fun hHeld3 => ?_)
    clear hK K hHeld2
    try simp only [List.getElem_toArray, List.getElem_cons_zero, List.getElem_cons_succ, Act.put, List.setIfInBounds_toArray, List.set_cons_zero, List.set_cons_succ]
    refine wpAnyH_done (by kernel_rfl) ?_ _
    clear hHeld3
    have HAD2 : Hid (addO s e = { s1 with task := s1.n, begun := true }) := Lib.hid (by rw [HAD.out, closes_no pcl]; simp [turned, HK.out])
    clear HAD
    clear q2 q3 q4 q5 q6 q7 q8 q9 q10 q11 q12 q13 q14 q17 q18
    have HPC := Lib.hid pcl
    go_wp2_with (first | (go_at_call 100; refine (closes_any _ _).mono ?_; rintro e3 w9 ⟨rfl, rfl⟩; rw [HPC.out]) | go_in)
    go_ret2
    refine ⟨?_, ?_, HF6.out⟩
    · rw [HC.out]; rfl
    · rw [HAD2.out]; exact HS6.out
  have q3 : (e.k == 3) = false := by simp [k3]
  by_cases k4 : e.k = 4
  · have HK := Lib.hid k4
    clear k4
    have q2 : (e.k == 2) = false := by rw [HK.out]; rfl
    have q3 : (e.k == 3) = false := by rw [HK.out]; rfl
    have q4 : (e.k == 4) = true := by rw [HK.out]; rfl
    have q5 : (e.k == 5) = false := by rw [HK.out]; rfl
    have q6 : (e.k == 6) = false := by rw [HK.out]; rfl
    have q7 : (e.k == 7) = false := by rw [HK.out]; rfl
    have q8 : (e.k == 8) = false := by rw [HK.out]; rfl
    have q9 : (e.k == 9) = false := by rw [HK.out]; rfl
    have q10 : (e.k == 10) = false := by rw [HK.out]; rfl
    have q11 : (e.k == 11) = false := by rw [HK.out]; rfl
    have q12 : (e.k == 12) = false := by rw [HK.out]; rfl
    have q13 : (e.k == 13) = false := by rw [HK.out]; rfl
    have q14 : (e.k == 14) = false := by rw [HK.out]; rfl
    have q17 : (e.k == 17) = false := by rw [HK.out]; rfl
    have q18 : (e.k == 18) = false := by rw [HK.out]; rfl
    have pcl : closeB e.k = false := by rw [HK.out]; rfl
    go_upto_region 31 with (fail)
    have hb4 : Blk (w3.setCell ⟨hb, 5, none⟩ (.int .i64 0)) hb 134 (hcells { s1 with task := 0 } kb ib ob fb) := by
      have := HS3.out.b.set 5 (.int .i64 0)
      simpa only [hcells, List.setIfInBounds_toArray, List.set_cons_zero, List.set_cons_succ] using this
    have hf4 : Fr (fun k => k = hb) w3 (w3.setCell ⟨hb, 5, none⟩ (.int .i64 0)) := Fr.setCell (S := fun k => k = hb) w3 ⟨hb, 5, none⟩ _ rfl
    obtain ⟨w4, hw4⟩ : ∃ w, w3.setCell ⟨hb, 5, none⟩ (.int .i64 0) = w := ⟨_, rfl⟩
    rw [hw4] at hb4 hf4 ⊢
    have HS4 := Lib.hid (HS3.out.cells { s1 with task := 0 } hb4 hf4 rfl rfl rfl rfl (Nat.le_refl _) HS3.out.few)
    have HB4 := Lib.hid (HB3.out.fr hf4 HBB.out.1)
    have HF4 := Lib.hid (HF3.out.trans (hf4.mono fun _ e => .inl e : Fr (Own hb kb ib ob fb) _ _))
    clear hw4 hb4 hf4 HS3 HB3 HF3
    have hb5 : Blk (w4.setCell ⟨hb, 6, none⟩ (.bool false)) hb 134 (hcells { s1 with task := 0, begun := false } kb ib ob fb) := by
      have := HS4.out.b.set 6 (.bool false)
      simpa only [hcells, List.setIfInBounds_toArray, List.set_cons_zero, List.set_cons_succ] using this
    have hf5 : Fr (fun k => k = hb) w4 (w4.setCell ⟨hb, 6, none⟩ (.bool false)) := Fr.setCell (S := fun k => k = hb) w4 ⟨hb, 6, none⟩ _ rfl
    obtain ⟨w5, hw5⟩ : ∃ w, w4.setCell ⟨hb, 6, none⟩ (.bool false) = w := ⟨_, rfl⟩
    rw [hw5] at hb5 hf5 ⊢
    have HS5 := Lib.hid (HS4.out.cells { s1 with task := 0, begun := false } hb5 hf5 rfl rfl rfl rfl (Nat.le_refl _) HS4.out.few)
    have HB5 := Lib.hid (HB4.out.fr hf5 HBB.out.1)
    have HF5 := Lib.hid (HF4.out.trans (hf5.mono fun _ e => .inl e : Fr (Own hb kb ib ob fb) _ _))
    clear hw5 hb5 hf5 HS4 HB4 HF4
    clear c0 c1 c2 c3 c4 c5 c6 d0 d1 d2 d3 d4 d5 d6 d7 d8 f0 f1 f2 f5 f6
    have c0 := HB5.out.cell 0
    have c1 := HB5.out.cell 1
    have c2 := HB5.out.cell 2
    have c3 := HB5.out.cell 3
    have c4 := HB5.out.cell 4
    have c5 := HB5.out.cell 5
    have c6 := HB5.out.cell 6
    simp only [evc, List.getElem?_toArray, List.getElem?_cons_zero, List.getElem?_cons_succ] at c0 c1 c2 c3 c4 c5 c6
    have d0 := HS5.out.b.cell 0
    have d1 := HS5.out.b.cell 1
    have d2 := HS5.out.b.cell 2
    have d3 := HS5.out.b.cell 3
    have d4 := HS5.out.b.cell 4
    have d5 := HS5.out.b.cell 5
    have d6 := HS5.out.b.cell 6
    have d7 := HS5.out.b.cell 7
    have d8 := HS5.out.b.cell 8
    have f0 := HS5.out.b.frozen 0
    have f1 := HS5.out.b.frozen 1
    have f2 := HS5.out.b.frozen 2
    have f5 := HS5.out.b.frozen 5
    have f6 := HS5.out.b.frozen 6
    simp only [hcells, List.getElem?_toArray, List.getElem?_cons_zero, List.getElem?_cons_succ] at d0 d1 d2 d3 d4 d5 d6 d7 d8
    have HAD2 : Hid (addO s e = { s1 with task := 0, begun := false }) := Lib.hid (by rw [HAD.out, closes_no pcl]; simp [turned, HK.out])
    clear HAD
    clear q2 q3 q4 q5 q6 q7 q8 q9 q10 q11 q12 q13 q14 q17 q18
    have HPC := Lib.hid pcl
    go_wp2_with (first | (go_at_call 100; refine (closes_any _ _).mono ?_; rintro e3 w9 ⟨rfl, rfl⟩; rw [HPC.out]) | go_in)
    go_ret2
    refine ⟨?_, ?_, HF5.out⟩
    · rw [HC.out]; rfl
    · rw [HAD2.out]; exact HS5.out
  have q4 : (e.k == 4) = false := by simp [k4]
  by_cases k5 : e.k = 5
  · have HK := Lib.hid k5
    clear k5
    have q2 : (e.k == 2) = false := by rw [HK.out]; rfl
    have q3 : (e.k == 3) = false := by rw [HK.out]; rfl
    have q4 : (e.k == 4) = false := by rw [HK.out]; rfl
    have q5 : (e.k == 5) = true := by rw [HK.out]; rfl
    have q6 : (e.k == 6) = false := by rw [HK.out]; rfl
    have q7 : (e.k == 7) = false := by rw [HK.out]; rfl
    have q8 : (e.k == 8) = false := by rw [HK.out]; rfl
    have q9 : (e.k == 9) = false := by rw [HK.out]; rfl
    have q10 : (e.k == 10) = false := by rw [HK.out]; rfl
    have q11 : (e.k == 11) = false := by rw [HK.out]; rfl
    have q12 : (e.k == 12) = false := by rw [HK.out]; rfl
    have q13 : (e.k == 13) = false := by rw [HK.out]; rfl
    have q14 : (e.k == 14) = false := by rw [HK.out]; rfl
    have q17 : (e.k == 17) = false := by rw [HK.out]; rfl
    have q18 : (e.k == 18) = false := by rw [HK.out]; rfl
    have pcl : closeB e.k = false := by rw [HK.out]; rfl
    go_upto_region 31 with (fail)
    have hb4 : Blk (w3.setCell ⟨hb, 5, none⟩ (.int .i64 0)) hb 134 (hcells { s1 with task := 0 } kb ib ob fb) := by
      have := HS3.out.b.set 5 (.int .i64 0)
      simpa only [hcells, List.setIfInBounds_toArray, List.set_cons_zero, List.set_cons_succ] using this
    have hf4 : Fr (fun k => k = hb) w3 (w3.setCell ⟨hb, 5, none⟩ (.int .i64 0)) := Fr.setCell (S := fun k => k = hb) w3 ⟨hb, 5, none⟩ _ rfl
    obtain ⟨w4, hw4⟩ : ∃ w, w3.setCell ⟨hb, 5, none⟩ (.int .i64 0) = w := ⟨_, rfl⟩
    rw [hw4] at hb4 hf4 ⊢
    have HS4 := Lib.hid (HS3.out.cells { s1 with task := 0 } hb4 hf4 rfl rfl rfl rfl (Nat.le_refl _) HS3.out.few)
    have HB4 := Lib.hid (HB3.out.fr hf4 HBB.out.1)
    have HF4 := Lib.hid (HF3.out.trans (hf4.mono fun _ e => .inl e : Fr (Own hb kb ib ob fb) _ _))
    clear hw4 hb4 hf4 HS3 HB3 HF3
    have hb5 : Blk (w4.setCell ⟨hb, 6, none⟩ (.bool false)) hb 134 (hcells { s1 with task := 0, begun := false } kb ib ob fb) := by
      have := HS4.out.b.set 6 (.bool false)
      simpa only [hcells, List.setIfInBounds_toArray, List.set_cons_zero, List.set_cons_succ] using this
    have hf5 : Fr (fun k => k = hb) w4 (w4.setCell ⟨hb, 6, none⟩ (.bool false)) := Fr.setCell (S := fun k => k = hb) w4 ⟨hb, 6, none⟩ _ rfl
    obtain ⟨w5, hw5⟩ : ∃ w, w4.setCell ⟨hb, 6, none⟩ (.bool false) = w := ⟨_, rfl⟩
    rw [hw5] at hb5 hf5 ⊢
    have HS5 := Lib.hid (HS4.out.cells { s1 with task := 0, begun := false } hb5 hf5 rfl rfl rfl rfl (Nat.le_refl _) HS4.out.few)
    have HB5 := Lib.hid (HB4.out.fr hf5 HBB.out.1)
    have HF5 := Lib.hid (HF4.out.trans (hf5.mono fun _ e => .inl e : Fr (Own hb kb ib ob fb) _ _))
    clear hw5 hb5 hf5 HS4 HB4 HF4
    clear c0 c1 c2 c3 c4 c5 c6 d0 d1 d2 d3 d4 d5 d6 d7 d8 f0 f1 f2 f5 f6
    have c0 := HB5.out.cell 0
    have c1 := HB5.out.cell 1
    have c2 := HB5.out.cell 2
    have c3 := HB5.out.cell 3
    have c4 := HB5.out.cell 4
    have c5 := HB5.out.cell 5
    have c6 := HB5.out.cell 6
    simp only [evc, List.getElem?_toArray, List.getElem?_cons_zero, List.getElem?_cons_succ] at c0 c1 c2 c3 c4 c5 c6
    have d0 := HS5.out.b.cell 0
    have d1 := HS5.out.b.cell 1
    have d2 := HS5.out.b.cell 2
    have d3 := HS5.out.b.cell 3
    have d4 := HS5.out.b.cell 4
    have d5 := HS5.out.b.cell 5
    have d6 := HS5.out.b.cell 6
    have d7 := HS5.out.b.cell 7
    have d8 := HS5.out.b.cell 8
    have f0 := HS5.out.b.frozen 0
    have f1 := HS5.out.b.frozen 1
    have f2 := HS5.out.b.frozen 2
    have f5 := HS5.out.b.frozen 5
    have f6 := HS5.out.b.frozen 6
    simp only [hcells, List.getElem?_toArray, List.getElem?_cons_zero, List.getElem?_cons_succ] at d0 d1 d2 d3 d4 d5 d6 d7 d8
    have HAD2 : Hid (addO s e = { s1 with task := 0, begun := false }) := Lib.hid (by rw [HAD.out, closes_no pcl]; simp [turned, HK.out])
    clear HAD
    clear q2 q3 q4 q5 q6 q7 q8 q9 q10 q11 q12 q13 q14 q17 q18
    have HPC := Lib.hid pcl
    go_wp2_with (first | (go_at_call 100; refine (closes_any _ _).mono ?_; rintro e3 w9 ⟨rfl, rfl⟩; rw [HPC.out]) | go_in)
    go_ret2
    refine ⟨?_, ?_, HF5.out⟩
    · rw [HC.out]; rfl
    · rw [HAD2.out]; exact HS5.out
  have q5 : (e.k == 5) = false := by simp [k5]
  by_cases k6 : e.k = 6
  · have HK := Lib.hid k6
    clear k6
    have q2 : (e.k == 2) = false := by rw [HK.out]; rfl
    have q3 : (e.k == 3) = false := by rw [HK.out]; rfl
    have q4 : (e.k == 4) = false := by rw [HK.out]; rfl
    have q5 : (e.k == 5) = false := by rw [HK.out]; rfl
    have q6 : (e.k == 6) = true := by rw [HK.out]; rfl
    have q7 : (e.k == 7) = false := by rw [HK.out]; rfl
    have q8 : (e.k == 8) = false := by rw [HK.out]; rfl
    have q9 : (e.k == 9) = false := by rw [HK.out]; rfl
    have q10 : (e.k == 10) = false := by rw [HK.out]; rfl
    have q11 : (e.k == 11) = false := by rw [HK.out]; rfl
    have q12 : (e.k == 12) = false := by rw [HK.out]; rfl
    have q13 : (e.k == 13) = false := by rw [HK.out]; rfl
    have q14 : (e.k == 14) = false := by rw [HK.out]; rfl
    have q17 : (e.k == 17) = false := by rw [HK.out]; rfl
    have q18 : (e.k == 18) = false := by rw [HK.out]; rfl
    have pcl : closeB e.k = false := by rw [HK.out]; rfl
    go_upto_region 31 with (fail)
    have hb4 : Blk (w3.setCell ⟨hb, 5, none⟩ (.int .i64 0)) hb 134 (hcells { s1 with task := 0 } kb ib ob fb) := by
      have := HS3.out.b.set 5 (.int .i64 0)
      simpa only [hcells, List.setIfInBounds_toArray, List.set_cons_zero, List.set_cons_succ] using this
    have hf4 : Fr (fun k => k = hb) w3 (w3.setCell ⟨hb, 5, none⟩ (.int .i64 0)) := Fr.setCell (S := fun k => k = hb) w3 ⟨hb, 5, none⟩ _ rfl
    obtain ⟨w4, hw4⟩ : ∃ w, w3.setCell ⟨hb, 5, none⟩ (.int .i64 0) = w := ⟨_, rfl⟩
    rw [hw4] at hb4 hf4 ⊢
    have HS4 := Lib.hid (HS3.out.cells { s1 with task := 0 } hb4 hf4 rfl rfl rfl rfl (Nat.le_refl _) HS3.out.few)
    have HB4 := Lib.hid (HB3.out.fr hf4 HBB.out.1)
    have HF4 := Lib.hid (HF3.out.trans (hf4.mono fun _ e => .inl e : Fr (Own hb kb ib ob fb) _ _))
    clear hw4 hb4 hf4 HS3 HB3 HF3
    have hb5 : Blk (w4.setCell ⟨hb, 6, none⟩ (.bool false)) hb 134 (hcells { s1 with task := 0, begun := false } kb ib ob fb) := by
      have := HS4.out.b.set 6 (.bool false)
      simpa only [hcells, List.setIfInBounds_toArray, List.set_cons_zero, List.set_cons_succ] using this
    have hf5 : Fr (fun k => k = hb) w4 (w4.setCell ⟨hb, 6, none⟩ (.bool false)) := Fr.setCell (S := fun k => k = hb) w4 ⟨hb, 6, none⟩ _ rfl
    obtain ⟨w5, hw5⟩ : ∃ w, w4.setCell ⟨hb, 6, none⟩ (.bool false) = w := ⟨_, rfl⟩
    rw [hw5] at hb5 hf5 ⊢
    have HS5 := Lib.hid (HS4.out.cells { s1 with task := 0, begun := false } hb5 hf5 rfl rfl rfl rfl (Nat.le_refl _) HS4.out.few)
    have HB5 := Lib.hid (HB4.out.fr hf5 HBB.out.1)
    have HF5 := Lib.hid (HF4.out.trans (hf5.mono fun _ e => .inl e : Fr (Own hb kb ib ob fb) _ _))
    clear hw5 hb5 hf5 HS4 HB4 HF4
    clear c0 c1 c2 c3 c4 c5 c6 d0 d1 d2 d3 d4 d5 d6 d7 d8 f0 f1 f2 f5 f6
    have c0 := HB5.out.cell 0
    have c1 := HB5.out.cell 1
    have c2 := HB5.out.cell 2
    have c3 := HB5.out.cell 3
    have c4 := HB5.out.cell 4
    have c5 := HB5.out.cell 5
    have c6 := HB5.out.cell 6
    simp only [evc, List.getElem?_toArray, List.getElem?_cons_zero, List.getElem?_cons_succ] at c0 c1 c2 c3 c4 c5 c6
    have d0 := HS5.out.b.cell 0
    have d1 := HS5.out.b.cell 1
    have d2 := HS5.out.b.cell 2
    have d3 := HS5.out.b.cell 3
    have d4 := HS5.out.b.cell 4
    have d5 := HS5.out.b.cell 5
    have d6 := HS5.out.b.cell 6
    have d7 := HS5.out.b.cell 7
    have d8 := HS5.out.b.cell 8
    have f0 := HS5.out.b.frozen 0
    have f1 := HS5.out.b.frozen 1
    have f2 := HS5.out.b.frozen 2
    have f5 := HS5.out.b.frozen 5
    have f6 := HS5.out.b.frozen 6
    simp only [hcells, List.getElem?_toArray, List.getElem?_cons_zero, List.getElem?_cons_succ] at d0 d1 d2 d3 d4 d5 d6 d7 d8
    have HAD2 : Hid (addO s e = { s1 with task := 0, begun := false }) := Lib.hid (by rw [HAD.out, closes_no pcl]; simp [turned, HK.out])
    clear HAD
    clear q2 q3 q4 q5 q6 q7 q8 q9 q10 q11 q12 q13 q14 q17 q18
    have HPC := Lib.hid pcl
    go_wp2_with (first | (go_at_call 100; refine (closes_any _ _).mono ?_; rintro e3 w9 ⟨rfl, rfl⟩; rw [HPC.out]) | go_in)
    go_ret2
    refine ⟨?_, ?_, HF5.out⟩
    · rw [HC.out]; rfl
    · rw [HAD2.out]; exact HS5.out
  have q6 : (e.k == 6) = false := by simp [k6]
  by_cases k7 : e.k = 7
  · have HK := Lib.hid k7
    clear k7
    have q2 : (e.k == 2) = false := by rw [HK.out]; rfl
    have q3 : (e.k == 3) = false := by rw [HK.out]; rfl
    have q4 : (e.k == 4) = false := by rw [HK.out]; rfl
    have q5 : (e.k == 5) = false := by rw [HK.out]; rfl
    have q6 : (e.k == 6) = false := by rw [HK.out]; rfl
    have q7 : (e.k == 7) = true := by rw [HK.out]; rfl
    have q8 : (e.k == 8) = false := by rw [HK.out]; rfl
    have q9 : (e.k == 9) = false := by rw [HK.out]; rfl
    have q10 : (e.k == 10) = false := by rw [HK.out]; rfl
    have q11 : (e.k == 11) = false := by rw [HK.out]; rfl
    have q12 : (e.k == 12) = false := by rw [HK.out]; rfl
    have q13 : (e.k == 13) = false := by rw [HK.out]; rfl
    have q14 : (e.k == 14) = false := by rw [HK.out]; rfl
    have q17 : (e.k == 17) = false := by rw [HK.out]; rfl
    have q18 : (e.k == 18) = false := by rw [HK.out]; rfl
    have pcl : closeB e.k = false := by rw [HK.out]; rfl
    have HRG := Lib.hid (range_of HRT.out)
    have HFEW := Lib.hid HS3.out.few
    go_upto_region 17 with (fail)
    have hfd : Fr (fun _ => False) w3 w3.drew := Fr.drewN _ w3 1
    have HS4 := Lib.hid (HS3.out.fr0 hfd)
    have HB4 := Lib.hid (HB3.out.fr hfd id)
    have HF4 := Lib.hid (HF3.out.trans (hfd.mono fun _ e => e.elim))
    have HM4 : Hid ((∃ c, c ≤ s.n ∧ Mp iKE w3.drew kb c (mI s1.kinds)) ∧ (∃ c, c ≤ s.n ∧ Mp iKE w3.drew ib c (mI s1.ids))) := Lib.hid (by
      obtain ⟨m1, m2, m3, m4⟩ := HM3.out
      obtain ⟨c1, e1, g1⟩ := m1
      obtain ⟨c2, e2, g2⟩ := m2
      exact ⟨⟨c1, e1, g1.fr hfd id⟩, ⟨c2, e2, g2.fr hfd id⟩⟩)
    obtain ⟨w4, hw4⟩ : ∃ w, w3.drew = w := ⟨_, rfl⟩
    rw [hw4] at HS4 HB4 HF4 HM4
    refine wp_region_held_drew (S := fun (w' : World) => w'.cell? ⟨hb, 0, none⟩ = some (.int .i64 s1.n) ∧ w'.cell? ⟨hb, 3, none⟩ = some (.map (some kb)) ∧ w'.cell? ⟨hb, 4, none⟩ = some (.map (some ib)) ∧ w'.cell? ⟨bb, 0, none⟩ = some (.int .i64 e.k) ∧ w'.cell? ⟨bb, 3, none⟩ = some (.int .i64 e.id)) (by kernel_rfl) ⟨d0, d3, d4, c0, c3⟩ (fun hHeld => ?_)
    rw [hw4] at hHeld ⊢
    refine wpAnyH_take (i := 0) (oi := _) (v := ?vr70) rfl (by kernel_rfl) (by kernel_rfl) (by kernel_rfl) (fun _ _ _ h => h) (Or.inl ⟨by rfl, ?yr70⟩) (by assumption) ?rr70
    case yr70 => intro w1 hSw; obtain ⟨s1, s2, s3, s4, s5⟩ := hSw; go_simp; try with_reducible rfl
    try simp only [List.getElem_toArray, List.getElem_cons_zero, List.getElem_cons_succ, Act.put, List.setIfInBounds_toArray, List.set_cons_zero, List.set_cons_succ]
    refine wpAnyH_take (i := 1) (oi := _) (v := ?vr71) rfl (by kernel_rfl) (by kernel_rfl) (by kernel_rfl) (fun _ _ _ h => h) (Or.inl ⟨by rfl, ?yr71⟩) (by assumption) ?rr71
    case yr71 => intro w1 hSw; obtain ⟨s1, s2, s3, s4, s5⟩ := hSw; go_simp; try with_reducible rfl
    try simp only [List.getElem_toArray, List.getElem_cons_zero, List.getElem_cons_succ, Act.put, List.setIfInBounds_toArray, List.set_cons_zero, List.set_cons_succ]
    refine wpAnyH_take (i := 2) (oi := _) (v := ?vr72) rfl (by kernel_rfl) (by kernel_rfl) (by kernel_rfl) (fun _ _ _ h => h) (Or.inl ⟨by rfl, ?yr72⟩) (by assumption) ?rr72
    case yr72 => intro w1 hSw; obtain ⟨s1, s2, s3, s4, s5⟩ := hSw; go_simp; try with_reducible rfl
    try simp only [List.getElem_toArray, List.getElem_cons_zero, List.getElem_cons_succ, Act.put, List.setIfInBounds_toArray, List.set_cons_zero, List.set_cons_succ]
    refine wpAnyH_take (i := 3) (oi := _) (v := ?vr73) rfl (by kernel_rfl) (by kernel_rfl) (by kernel_rfl) (fun _ _ _ h => h) (Or.inl ⟨by rfl, ?yr73⟩) (by assumption) ?rr73
    case yr73 => intro w1 hSw; obtain ⟨s1, s2, s3, s4, s5⟩ := hSw; go_simp; try with_reducible rfl
    try simp only [List.getElem_toArray, List.getElem_cons_zero, List.getElem_cons_succ, Act.put, List.setIfInBounds_toArray, List.set_cons_zero, List.set_cons_succ]
    refine wpAnyH_take (i := 4) (oi := _) (v := ?vr74) rfl (by kernel_rfl) (by kernel_rfl) (by kernel_rfl) (fun _ _ _ h => h) (Or.inl ⟨by rfl, ?yr74⟩) (by assumption) ?rr74
    case yr74 => intro w1 hSw; obtain ⟨s1, s2, s3, s4, s5⟩ := hSw; go_simp; try with_reducible rfl
    try simp only [List.getElem_toArray, List.getElem_cons_zero, List.getElem_cons_succ, Act.put, List.setIfInBounds_toArray, List.set_cons_zero, List.set_cons_succ]
    refine wpAnyH_take (i := 5) (oi := _) (v := ?vr75) rfl (by kernel_rfl) (by kernel_rfl) (by kernel_rfl) (fun _ _ _ h => h) (Or.inl ⟨by rfl, ?yr75⟩) (by assumption) ?rr75
    case yr75 => intro w1 hSw; obtain ⟨s1, s2, s3, s4, s5⟩ := hSw; go_simp; try with_reducible rfl
    try simp only [List.getElem_toArray, List.getElem_cons_zero, List.getElem_cons_succ, Act.put, List.setIfInBounds_toArray, List.set_cons_zero, List.set_cons_succ]
    refine wpAnyH_take (i := 6) (oi := _) (v := ?vr76) rfl (by kernel_rfl) (by kernel_rfl) (by kernel_rfl) (fun _ _ _ h => h) (Or.inl ⟨by rfl, ?yr76⟩) (by assumption) ?rr76
    case yr76 => intro w1 hSw; obtain ⟨s1, s2, s3, s4, s5⟩ := hSw; go_simp; try with_reducible rfl
    try simp only [List.getElem_toArray, List.getElem_cons_zero, List.getElem_cons_succ, Act.put, List.setIfInBounds_toArray, List.set_cons_zero, List.set_cons_succ]
    refine wpAnyH_take (i := 7) (oi := _) (v := ?vr77) rfl (by kernel_rfl) (by kernel_rfl) (by kernel_rfl) (fun _ _ _ h => h) (Or.inl ⟨by rfl, ?yr77⟩) (by assumption) ?rr77
    case yr77 => intro w1 hSw; obtain ⟨s1, s2, s3, s4, s5⟩ := hSw; go_simp; try with_reducible rfl
    try simp only [List.getElem_toArray, List.getElem_cons_zero, List.getElem_cons_succ, Act.put, List.setIfInBounds_toArray, List.set_cons_zero, List.set_cons_succ]
    refine wpAnyH_take (i := 8) (oi := _) (v := ?vr78) rfl (by kernel_rfl) (by kernel_rfl) (by kernel_rfl) (fun _ _ _ h => h) (Or.inl ⟨by rfl, ?yr78⟩) (by assumption) ?rr78
    case yr78 => intro w1 hSw; obtain ⟨s1, s2, s3, s4, s5⟩ := hSw; go_simp; try with_reducible rfl
    try simp only [List.getElem_toArray, List.getElem_cons_zero, List.getElem_cons_succ, Act.put, List.setIfInBounds_toArray, List.set_cons_zero, List.set_cons_succ]
    refine wpAnyH_take (i := 9) (oi := _) (v := ?vr79) rfl (by kernel_rfl) (by kernel_rfl) (by kernel_rfl) (fun _ _ _ h => h) (Or.inl ⟨by rfl, ?yr79⟩) (by assumption) ?rr79
    case yr79 => intro w1 hSw; obtain ⟨s1, s2, s3, s4, s5⟩ := hSw; go_simp; try with_reducible rfl
    try simp only [List.getElem_toArray, List.getElem_cons_zero, List.getElem_cons_succ, Act.put, List.setIfInBounds_toArray, List.set_cons_zero, List.set_cons_succ]
    refine wpAnyH_take (i := 10) (oi := _) (v := ?vr710) rfl (by kernel_rfl) (by kernel_rfl) (by kernel_rfl) (fun _ _ _ h => h) (Or.inl ⟨by rfl, ?yr710⟩) (by assumption) ?rr710
    case yr710 => intro w1 hSw; obtain ⟨s1, s2, s3, s4, s5⟩ := hSw; go_simp; try with_reducible rfl
    try simp only [List.getElem_toArray, List.getElem_cons_zero, List.getElem_cons_succ, Act.put, List.setIfInBounds_toArray, List.set_cons_zero, List.set_cons_succ]
    refine wpAnyH_take (i := 11) (oi := _) (v := ?vr711) rfl (by kernel_rfl) (by kernel_rfl) (by kernel_rfl) (fun _ _ _ h => h) (Or.inl ⟨by rfl, ?yr711⟩) (by assumption) ?rr711
    case yr711 => intro w1 hSw; obtain ⟨s1, s2, s3, s4, s5⟩ := hSw; go_simp; try with_reducible rfl
    try simp only [List.getElem_toArray, List.getElem_cons_zero, List.getElem_cons_succ, Act.put, List.setIfInBounds_toArray, List.set_cons_zero, List.set_cons_succ]
    refine wpAnyH_take (i := 12) (oi := _) (v := ?vr712) rfl (by kernel_rfl) (by kernel_rfl) (by kernel_rfl) (fun _ _ _ h => h) (Or.inl ⟨by rfl, ?yr712⟩) (by assumption) ?rr712
    case yr712 => intro w1 hSw; obtain ⟨s1, s2, s3, s4, s5⟩ := hSw; go_simp; try with_reducible rfl
    try simp only [List.getElem_toArray, List.getElem_cons_zero, List.getElem_cons_succ, Act.put, List.setIfInBounds_toArray, List.set_cons_zero, List.set_cons_succ]
    refine wpAnyH_take (i := 13) (oi := _) (v := ?vr713) rfl (by kernel_rfl) (by kernel_rfl) (by kernel_rfl) (fun _ _ _ h => h) (Or.inl ⟨by rfl, ?yr713⟩) (by assumption) ?rr713
    case yr713 => intro w1 hSw; obtain ⟨s1, s2, s3, s4, s5⟩ := hSw; go_simp; try with_reducible rfl
    try simp only [List.getElem_toArray, List.getElem_cons_zero, List.getElem_cons_succ, Act.put, List.setIfInBounds_toArray, List.set_cons_zero, List.set_cons_succ]
    refine wpAnyH_take (i := 14) (oi := _) (v := ?vr714) rfl (by kernel_rfl) (by kernel_rfl) (by kernel_rfl) (fun _ _ _ h => h) (Or.inl ⟨by rfl, ?yr714⟩) (by assumption) ?rr714
    case yr714 => intro w1 hSw; obtain ⟨s1, s2, s3, s4, s5⟩ := hSw; go_simp; try with_reducible rfl
    try simp only [List.getElem_toArray, List.getElem_cons_zero, List.getElem_cons_succ, Act.put, List.setIfInBounds_toArray, List.set_cons_zero, List.set_cons_succ]
    refine wpAnyH_take (i := 15) (oi := _) (v := ?vr715) rfl (by kernel_rfl) (by kernel_rfl) (by kernel_rfl) (fun _ _ _ h => h) (Or.inl ⟨by rfl, ?yr715⟩) (by assumption) ?rr715
    case yr715 => intro w1 hSw; obtain ⟨s1, s2, s3, s4, s5⟩ := hSw; go_simp; try with_reducible rfl
    try simp only [List.getElem_toArray, List.getElem_cons_zero, List.getElem_cons_succ, Act.put, List.setIfInBounds_toArray, List.set_cons_zero, List.set_cons_succ]
    refine wpAnyH_take (i := 16) (oi := _) (v := ?vr716) rfl (by kernel_rfl) (by kernel_rfl) (by kernel_rfl) (fun _ _ _ h => h) (Or.inl ⟨by rfl, ?yr716⟩) (by assumption) ?rr716
    case yr716 => intro w1 hSw; obtain ⟨s1, s2, s3, s4, s5⟩ := hSw; go_simp; try with_reducible rfl
    try simp only [List.getElem_toArray, List.getElem_cons_zero, List.getElem_cons_succ, Act.put, List.setIfInBounds_toArray, List.set_cons_zero, List.set_cons_succ]
    refine wpAnyH_take (i := 17) (oi := _) (v := ?vr717) rfl (by kernel_rfl) (by kernel_rfl) (by kernel_rfl) (fun _ _ _ h => h) (Or.inl ⟨by rfl, ?yr717⟩) (by assumption) ?rr717
    case yr717 => intro w1 hSw; obtain ⟨s1, s2, s3, s4, s5⟩ := hSw; go_simp; try with_reducible rfl
    try simp only [List.getElem_toArray, List.getElem_cons_zero, List.getElem_cons_succ, Act.put, List.setIfInBounds_toArray, List.set_cons_zero, List.set_cons_succ]
    refine wpAnyH_take (i := 18) (oi := _) (v := ?vr718) rfl (by kernel_rfl) (by kernel_rfl) (by kernel_rfl) (fun _ _ _ h => h) (Or.inl ⟨by rfl, ?yr718⟩) (by assumption) ?rr718
    case yr718 => intro w1 hSw; obtain ⟨s1, s2, s3, s4, s5⟩ := hSw; go_simp; try with_reducible rfl
    try simp only [List.getElem_toArray, List.getElem_cons_zero, List.getElem_cons_succ, Act.put, List.setIfInBounds_toArray, List.set_cons_zero, List.set_cons_succ]
    refine wpAnyH_take (i := 19) (oi := _) (v := ?vr719) rfl (by kernel_rfl) (by kernel_rfl) (by kernel_rfl) (fun _ _ _ h => h) (Or.inl ⟨by rfl, ?yr719⟩) (by assumption) ?rr719
    case yr719 => intro w1 hSw; obtain ⟨s1, s2, s3, s4, s5⟩ := hSw; go_simp; try with_reducible rfl
    try simp only [List.getElem_toArray, List.getElem_cons_zero, List.getElem_cons_succ, Act.put, List.setIfInBounds_toArray, List.set_cons_zero, List.set_cons_succ]
    clear hw4 hfd HS3 HB3 HF3 HM3
    clear c0 c1 c2 c3 c4 c5 c6 d0 d1 d2 d3 d4 d5 d6 d7 d8 f0 f1 f2 f5 f6
    have hok1 : iKE.ok ((s1.n : Int)) := wf_of (by omega) (by have := HFEW.out; omega)
    have hne := HNE.out
    have hbb := HBB.out
    have hnn := HS4.out.ne
    obtain ⟨v0, st0, w5, hrunA, hfA, hnA⟩ := mentry HM4.out.1 (by have := HN.out; omega) hok1
    have bH5 := HS4.out.b.fr hfA (by omega)
    have bB5 := HB4.out.fr hfA (by omega)
    have HF5 : Hid (Fr (fun k => k = kb) w4 w5) := Lib.hid hfA
    obtain ⟨w6, hrunB, hfB, hMB⟩ := hnA w5 (e.k) (Fr.refl _ _)
    have bH6 := bH5.fr hfB (by omega)
    have bB6 := bB5.fr hfB (by omega)
    have hok2 : iKE.ok ((s1.n : Int)) := wf_of (by omega) (by have := HFEW.out; omega)
    have hm6 : ∃ c, c ≤ s.n ∧ Mp iKE w6 ib c (mI s1.ids) := by
      obtain ⟨c, hc, hM⟩ := HM4.out.2
      exact ⟨c, hc, (hM.fr hfA (by omega)).fr hfB (by omega)⟩
    obtain ⟨v1, st1, w7, hrunC, hfC, hnC⟩ := mentry hm6 (by have := HN.out; omega) hok2
    have bH7 := bH6.fr hfC (by omega)
    have bB7 := bB6.fr hfC (by omega)
    obtain ⟨w8, hrunD, hfD, hMD⟩ := hnC w7 (e.id) (Fr.refl _ _)
    have bH8 := bH7.fr hfD (by omega)
    have bB8 := bB7.fr hfD (by omega)
    have hfr48 : Fr (fun k => k = kb ∨ k = ib) w4 w8 := (((hfA.trans hfB).mono fun _ e => .inl e).trans ((hfC.trans hfD).mono fun _ e => .inr e))
    have hfr68 : Fr (fun k => k = ib) w6 w8 := hfC.trans hfD
    have HS8 : Hid (HS w8 hb kb ib ob fb { s1 with kinds := put1 s1.kinds s1.n (some e.k), ids := put1 s1.ids s1.n (some e.id) }) := Lib.hid (by
      obtain ⟨n1, n2, n3, n4, n5, n6⟩ := hnn
      have h4 := HS4.out
      have hN1 := HN1.out
      have hMB' : ∃ c, c ≤ s1.n ∧ Mp iKE w8 kb c (mI (put1 s1.kinds ((s1.n : Int)) (some (e.k)))) := by
        obtain ⟨c, hc, hM⟩ := hMB
        exact ⟨c, by omega, hM.fr hfr68 (by omega)⟩
      have hMD' : ∃ c, c ≤ s1.n ∧ Mp iKE w8 ib c (mI (put1 s1.ids ((s1.n : Int)) (some (e.id)))) := by
        obtain ⟨c, hc, hM⟩ := hMD
        exact ⟨c, by omega, hM⟩
      have hrestm : ∀ (b : Nat) (G : Int → Option Int), b ≠ kb → b ≠ ib → (∃ c, c ≤ s1.n ∧ Mp iKE w4 b c (mI G)) → ∃ c, c ≤ s1.n ∧ Mp iKE w8 b c (mI G) := fun b G h1 h2 h => by obtain ⟨c, hc, hM⟩ := h; exact ⟨c, hc, hM.fr hfr48 (by omega)⟩
      refine ⟨bH8, hMB', hMD', hrestm ob _ (by omega) (by omega) h4.o, hrestm fb _ (by omega) (by omega) h4.f, h4.ne, h4.few, ?_, ?_⟩
      · intro x v hx; by_cases e2 : x = (s1.n : Int); (show 1 ≤ x ∧ x ≤ (s1.n : Int); omega); exact h4.dk x v (by simpa [put1, e2] using hx)
      · exact h4.dv)
    have HB8 := Lib.hid bB8
    have HF8 : Hid (Fr (Own hb kb ib ob fb) W w8) := Lib.hid (HF4.out.trans (hfr48.mono fun _ e => by rcases e with e | e <;> simp [Own, e]))
    clear hMB hMD hnA hnC hm6 hfr48 hfr68 hfA hfB hfC hfD HF5 hok1 hok2 hnn hbb hne HM4
    have d0 := bH5.cell 0
    have d3 := bH5.cell 3
    have d4 := bH5.cell 4
    have c0 := bB5.cell 0
    have c3 := bB5.cell 3
    simp only [hcells, evc, List.getElem?_toArray, List.getElem?_cons_zero, List.getElem?_cons_succ] at d0 d3 d4 c0 c3
    refine wpAnyH_ready (rs := [20]) (by kernel_rfl) (by simp) ?_
    refine AllReadyH.cons (o := _) rfl (fun K hK => ?_) AllReadyH.nil
    rw [if_pos (by rfl)]
    try simp only [List.getElem_toArray, List.getElem_cons_zero, List.getElem_cons_succ]
    go_simp
    refine hK.out _ _ ⟨d0, d3, d4, c0, c3⟩ (fun hHeld2 => ?_)
    clear hK K hHeld
    try simp only [List.getElem_toArray, List.getElem_cons_zero, List.getElem_cons_succ, Act.put, List.setIfInBounds_toArray, List.set_cons_zero, List.set_cons_succ]
    clear d0 d3 d4 c0 c3
    refine wpAnyH_take (i := 21) (oi := _) (v := ?vu721) rfl (by kernel_rfl) (by kernel_rfl) (by kernel_rfl) (fun _ _ _ h => h) (Or.inl ⟨by rfl, ?yu721⟩) (by assumption) ?ru721
    case yu721 => intro w1 hSw; obtain ⟨s1, s2, s3, s4, s5⟩ := hSw; go_simp; try with_reducible rfl
    try simp only [List.getElem_toArray, List.getElem_cons_zero, List.getElem_cons_succ, Act.put, List.setIfInBounds_toArray, List.set_cons_zero, List.set_cons_succ]
    have d0 := bH6.cell 0
    have d3 := bH6.cell 3
    have d4 := bH6.cell 4
    have c0 := bB6.cell 0
    have c3 := bB6.cell 3
    simp only [hcells, evc, List.getElem?_toArray, List.getElem?_cons_zero, List.getElem?_cons_succ] at d0 d3 d4 c0 c3
    refine wpAnyH_ready (rs := [22]) (by kernel_rfl) (by simp) ?_
    refine AllReadyH.cons (o := _) rfl (fun K hK => ?_) AllReadyH.nil
    rw [if_pos (by rfl)]
    try simp only [List.getElem_toArray, List.getElem_cons_zero, List.getElem_cons_succ]
    go_simp
    refine hK.out _ _ ⟨d0, d3, d4, c0, c3⟩ (fun hHeld3 => ?_)
    clear hK K hHeld2
    try simp only [List.getElem_toArray, List.getElem_cons_zero, List.getElem_cons_succ, Act.put, List.setIfInBounds_toArray, List.set_cons_zero, List.set_cons_succ]
    clear d0 d3 d4 c0 c3
    have d0 := bH7.cell 0
    have d3 := bH7.cell 3
    have d4 := bH7.cell 4
    have c0 := bB7.cell 0
    have c3 := bB7.cell 3
    simp only [hcells, evc, List.getElem?_toArray, List.getElem?_cons_zero, List.getElem?_cons_succ] at d0 d3 d4 c0 c3
    refine wpAnyH_ready (rs := [23]) (by kernel_rfl) (by simp) ?_
    refine AllReadyH.cons (o := _) rfl (fun K hK => ?_) AllReadyH.nil
    rw [if_pos (by rfl)]
    try simp only [List.getElem_toArray, List.getElem_cons_zero, List.getElem_cons_succ]
    go_simp
    refine hK.out _ _ ⟨d0, d3, d4, c0, c3⟩ (fun hHeld4 => ?_)
    clear hK K hHeld3
    try simp only [List.getElem_toArray, List.getElem_cons_zero, List.getElem_cons_succ, Act.put, List.setIfInBounds_toArray, List.set_cons_zero, List.set_cons_succ]
    clear d0 d3 d4 c0 c3
    refine wpAnyH_take (i := 24) (oi := _) (v := ?vv724) rfl (by kernel_rfl) (by kernel_rfl) (by kernel_rfl) (fun _ _ _ h => h) (Or.inl ⟨by rfl, ?yv724⟩) (by assumption) ?rv724
    case yv724 => intro w1 hSw; obtain ⟨s1, s2, s3, s4, s5⟩ := hSw; go_simp; try with_reducible rfl
    try simp only [List.getElem_toArray, List.getElem_cons_zero, List.getElem_cons_succ, Act.put, List.setIfInBounds_toArray, List.set_cons_zero, List.set_cons_succ]
    have d0 := bH8.cell 0
    have d3 := bH8.cell 3
    have d4 := bH8.cell 4
    have c0 := bB8.cell 0
    have c3 := bB8.cell 3
    simp only [hcells, evc, List.getElem?_toArray, List.getElem?_cons_zero, List.getElem?_cons_succ] at d0 d3 d4 c0 c3
    refine wpAnyH_ready (rs := [25]) (by kernel_rfl) (by simp) ?_
    refine AllReadyH.cons (o := _) rfl (fun K hK => ?_) AllReadyH.nil
    rw [if_pos (by rfl)]
    try simp only [List.getElem_toArray, List.getElem_cons_zero, List.getElem_cons_succ]
    go_simp
    refine hK.out _ _ ⟨d0, d3, d4, c0, c3⟩ (fun hHeld5 => ?_)
    clear hK K hHeld4
    try simp only [List.getElem_toArray, List.getElem_cons_zero, List.getElem_cons_succ, Act.put, List.setIfInBounds_toArray, List.set_cons_zero, List.set_cons_succ]
    clear d0 d3 d4 c0 c3
    refine wpAnyH_done (by kernel_rfl) ?_ _
    clear hHeld5 bH5 bH6 bH7 bH8 bB5 bB6 bB7 bB8 hrunA hrunB hrunC hrunD HS4 HB4 HF4
    have c0 := HB8.out.cell 0
    have c1 := HB8.out.cell 1
    have c2 := HB8.out.cell 2
    have c3 := HB8.out.cell 3
    have c4 := HB8.out.cell 4
    have c5 := HB8.out.cell 5
    have c6 := HB8.out.cell 6
    simp only [evc, List.getElem?_toArray, List.getElem?_cons_zero, List.getElem?_cons_succ] at c0 c1 c2 c3 c4 c5 c6
    have d0 := HS8.out.b.cell 0
    have d1 := HS8.out.b.cell 1
    have d2 := HS8.out.b.cell 2
    have d3 := HS8.out.b.cell 3
    have d4 := HS8.out.b.cell 4
    have d5 := HS8.out.b.cell 5
    have d6 := HS8.out.b.cell 6
    have d7 := HS8.out.b.cell 7
    have d8 := HS8.out.b.cell 8
    have f0 := HS8.out.b.frozen 0
    have f1 := HS8.out.b.frozen 1
    have f2 := HS8.out.b.frozen 2
    have f5 := HS8.out.b.frozen 5
    have f6 := HS8.out.b.frozen 6
    simp only [hcells, List.getElem?_toArray, List.getElem?_cons_zero, List.getElem?_cons_succ] at d0 d1 d2 d3 d4 d5 d6 d7 d8
    have HAD2 : Hid (addO s e = { s1 with kinds := put1 s1.kinds s1.n (some e.k), ids := put1 s1.ids s1.n (some e.id) }) := Lib.hid (by rw [HAD.out, closes_no pcl]; simp [turned, HK.out])
    clear HAD
    clear q2 q3 q4 q5 q6 q7 q8 q9 q10 q11 q12 q13 q14 q17 q18
    have HPC := Lib.hid pcl
    go_wp2_with (first | (go_at_call 100; refine (closes_any _ _).mono ?_; rintro e3 w9 ⟨rfl, rfl⟩; rw [HPC.out]) | go_in)
    go_ret2
    refine ⟨?_, ?_, HF8.out⟩
    · rw [HC.out]; rfl
    · rw [HAD2.out]; exact HS8.out
  have q7 : (e.k == 7) = false := by simp [k7]
  by_cases k12 : e.k = 12
  · have HK := Lib.hid k12
    clear k12
    have q2 : (e.k == 2) = false := by rw [HK.out]; rfl
    have q3 : (e.k == 3) = false := by rw [HK.out]; rfl
    have q4 : (e.k == 4) = false := by rw [HK.out]; rfl
    have q5 : (e.k == 5) = false := by rw [HK.out]; rfl
    have q6 : (e.k == 6) = false := by rw [HK.out]; rfl
    have q7 : (e.k == 7) = false := by rw [HK.out]; rfl
    have q8 : (e.k == 8) = false := by rw [HK.out]; rfl
    have q9 : (e.k == 9) = false := by rw [HK.out]; rfl
    have q10 : (e.k == 10) = false := by rw [HK.out]; rfl
    have q11 : (e.k == 11) = false := by rw [HK.out]; rfl
    have q12 : (e.k == 12) = true := by rw [HK.out]; rfl
    have q13 : (e.k == 13) = false := by rw [HK.out]; rfl
    have q14 : (e.k == 14) = false := by rw [HK.out]; rfl
    have q17 : (e.k == 17) = false := by rw [HK.out]; rfl
    have q18 : (e.k == 18) = false := by rw [HK.out]; rfl
    have pcl : closeB e.k = false := by rw [HK.out]; rfl
    have HRG := Lib.hid (range_of HRT.out)
    have HFEW := Lib.hid HS3.out.few
    go_upto_region 17 with (fail)
    have hfd : Fr (fun _ => False) w3 w3.drew := Fr.drewN _ w3 1
    have HS4 := Lib.hid (HS3.out.fr0 hfd)
    have HB4 := Lib.hid (HB3.out.fr hfd id)
    have HF4 := Lib.hid (HF3.out.trans (hfd.mono fun _ e => e.elim))
    have HM4 : Hid ((∃ c, c ≤ s.n ∧ Mp iKE w3.drew kb c (mI s1.kinds)) ∧ (∃ c, c ≤ s.n ∧ Mp iKE w3.drew ib c (mI s1.ids))) := Lib.hid (by
      obtain ⟨m1, m2, m3, m4⟩ := HM3.out
      obtain ⟨c1, e1, g1⟩ := m1
      obtain ⟨c2, e2, g2⟩ := m2
      exact ⟨⟨c1, e1, g1.fr hfd id⟩, ⟨c2, e2, g2.fr hfd id⟩⟩)
    obtain ⟨w4, hw4⟩ : ∃ w, w3.drew = w := ⟨_, rfl⟩
    rw [hw4] at HS4 HB4 HF4 HM4
    refine wp_region_held_drew (S := fun (w' : World) => w'.cell? ⟨hb, 0, none⟩ = some (.int .i64 s1.n) ∧ w'.cell? ⟨hb, 3, none⟩ = some (.map (some kb)) ∧ w'.cell? ⟨hb, 4, none⟩ = some (.map (some ib)) ∧ w'.cell? ⟨bb, 0, none⟩ = some (.int .i64 e.k) ∧ w'.cell? ⟨bb, 3, none⟩ = some (.int .i64 e.id)) (by kernel_rfl) ⟨d0, d3, d4, c0, c3⟩ (fun hHeld => ?_)
    rw [hw4] at hHeld ⊢
    refine wpAnyH_take (i := 0) (oi := _) (v := ?vr120) rfl (by kernel_rfl) (by kernel_rfl) (by kernel_rfl) (fun _ _ _ h => h) (Or.inl ⟨by rfl, ?yr120⟩) (by assumption) ?rr120
    case yr120 => intro w1 hSw; obtain ⟨s1, s2, s3, s4, s5⟩ := hSw; go_simp; try with_reducible rfl
    try simp only [List.getElem_toArray, List.getElem_cons_zero, List.getElem_cons_succ, Act.put, List.setIfInBounds_toArray, List.set_cons_zero, List.set_cons_succ]
    refine wpAnyH_take (i := 1) (oi := _) (v := ?vr121) rfl (by kernel_rfl) (by kernel_rfl) (by kernel_rfl) (fun _ _ _ h => h) (Or.inl ⟨by rfl, ?yr121⟩) (by assumption) ?rr121
    case yr121 => intro w1 hSw; obtain ⟨s1, s2, s3, s4, s5⟩ := hSw; go_simp; try with_reducible rfl
    try simp only [List.getElem_toArray, List.getElem_cons_zero, List.getElem_cons_succ, Act.put, List.setIfInBounds_toArray, List.set_cons_zero, List.set_cons_succ]
    refine wpAnyH_take (i := 2) (oi := _) (v := ?vr122) rfl (by kernel_rfl) (by kernel_rfl) (by kernel_rfl) (fun _ _ _ h => h) (Or.inl ⟨by rfl, ?yr122⟩) (by assumption) ?rr122
    case yr122 => intro w1 hSw; obtain ⟨s1, s2, s3, s4, s5⟩ := hSw; go_simp; try with_reducible rfl
    try simp only [List.getElem_toArray, List.getElem_cons_zero, List.getElem_cons_succ, Act.put, List.setIfInBounds_toArray, List.set_cons_zero, List.set_cons_succ]
    refine wpAnyH_take (i := 3) (oi := _) (v := ?vr123) rfl (by kernel_rfl) (by kernel_rfl) (by kernel_rfl) (fun _ _ _ h => h) (Or.inl ⟨by rfl, ?yr123⟩) (by assumption) ?rr123
    case yr123 => intro w1 hSw; obtain ⟨s1, s2, s3, s4, s5⟩ := hSw; go_simp; try with_reducible rfl
    try simp only [List.getElem_toArray, List.getElem_cons_zero, List.getElem_cons_succ, Act.put, List.setIfInBounds_toArray, List.set_cons_zero, List.set_cons_succ]
    refine wpAnyH_take (i := 4) (oi := _) (v := ?vr124) rfl (by kernel_rfl) (by kernel_rfl) (by kernel_rfl) (fun _ _ _ h => h) (Or.inl ⟨by rfl, ?yr124⟩) (by assumption) ?rr124
    case yr124 => intro w1 hSw; obtain ⟨s1, s2, s3, s4, s5⟩ := hSw; go_simp; try with_reducible rfl
    try simp only [List.getElem_toArray, List.getElem_cons_zero, List.getElem_cons_succ, Act.put, List.setIfInBounds_toArray, List.set_cons_zero, List.set_cons_succ]
    refine wpAnyH_take (i := 5) (oi := _) (v := ?vr125) rfl (by kernel_rfl) (by kernel_rfl) (by kernel_rfl) (fun _ _ _ h => h) (Or.inl ⟨by rfl, ?yr125⟩) (by assumption) ?rr125
    case yr125 => intro w1 hSw; obtain ⟨s1, s2, s3, s4, s5⟩ := hSw; go_simp; try with_reducible rfl
    try simp only [List.getElem_toArray, List.getElem_cons_zero, List.getElem_cons_succ, Act.put, List.setIfInBounds_toArray, List.set_cons_zero, List.set_cons_succ]
    refine wpAnyH_take (i := 6) (oi := _) (v := ?vr126) rfl (by kernel_rfl) (by kernel_rfl) (by kernel_rfl) (fun _ _ _ h => h) (Or.inl ⟨by rfl, ?yr126⟩) (by assumption) ?rr126
    case yr126 => intro w1 hSw; obtain ⟨s1, s2, s3, s4, s5⟩ := hSw; go_simp; try with_reducible rfl
    try simp only [List.getElem_toArray, List.getElem_cons_zero, List.getElem_cons_succ, Act.put, List.setIfInBounds_toArray, List.set_cons_zero, List.set_cons_succ]
    refine wpAnyH_take (i := 7) (oi := _) (v := ?vr127) rfl (by kernel_rfl) (by kernel_rfl) (by kernel_rfl) (fun _ _ _ h => h) (Or.inl ⟨by rfl, ?yr127⟩) (by assumption) ?rr127
    case yr127 => intro w1 hSw; obtain ⟨s1, s2, s3, s4, s5⟩ := hSw; go_simp; try with_reducible rfl
    try simp only [List.getElem_toArray, List.getElem_cons_zero, List.getElem_cons_succ, Act.put, List.setIfInBounds_toArray, List.set_cons_zero, List.set_cons_succ]
    refine wpAnyH_take (i := 8) (oi := _) (v := ?vr128) rfl (by kernel_rfl) (by kernel_rfl) (by kernel_rfl) (fun _ _ _ h => h) (Or.inl ⟨by rfl, ?yr128⟩) (by assumption) ?rr128
    case yr128 => intro w1 hSw; obtain ⟨s1, s2, s3, s4, s5⟩ := hSw; go_simp; try with_reducible rfl
    try simp only [List.getElem_toArray, List.getElem_cons_zero, List.getElem_cons_succ, Act.put, List.setIfInBounds_toArray, List.set_cons_zero, List.set_cons_succ]
    refine wpAnyH_take (i := 9) (oi := _) (v := ?vr129) rfl (by kernel_rfl) (by kernel_rfl) (by kernel_rfl) (fun _ _ _ h => h) (Or.inl ⟨by rfl, ?yr129⟩) (by assumption) ?rr129
    case yr129 => intro w1 hSw; obtain ⟨s1, s2, s3, s4, s5⟩ := hSw; go_simp; try with_reducible rfl
    try simp only [List.getElem_toArray, List.getElem_cons_zero, List.getElem_cons_succ, Act.put, List.setIfInBounds_toArray, List.set_cons_zero, List.set_cons_succ]
    refine wpAnyH_take (i := 10) (oi := _) (v := ?vr1210) rfl (by kernel_rfl) (by kernel_rfl) (by kernel_rfl) (fun _ _ _ h => h) (Or.inl ⟨by rfl, ?yr1210⟩) (by assumption) ?rr1210
    case yr1210 => intro w1 hSw; obtain ⟨s1, s2, s3, s4, s5⟩ := hSw; go_simp; try with_reducible rfl
    try simp only [List.getElem_toArray, List.getElem_cons_zero, List.getElem_cons_succ, Act.put, List.setIfInBounds_toArray, List.set_cons_zero, List.set_cons_succ]
    refine wpAnyH_take (i := 11) (oi := _) (v := ?vr1211) rfl (by kernel_rfl) (by kernel_rfl) (by kernel_rfl) (fun _ _ _ h => h) (Or.inl ⟨by rfl, ?yr1211⟩) (by assumption) ?rr1211
    case yr1211 => intro w1 hSw; obtain ⟨s1, s2, s3, s4, s5⟩ := hSw; go_simp; try with_reducible rfl
    try simp only [List.getElem_toArray, List.getElem_cons_zero, List.getElem_cons_succ, Act.put, List.setIfInBounds_toArray, List.set_cons_zero, List.set_cons_succ]
    refine wpAnyH_take (i := 12) (oi := _) (v := ?vr1212) rfl (by kernel_rfl) (by kernel_rfl) (by kernel_rfl) (fun _ _ _ h => h) (Or.inl ⟨by rfl, ?yr1212⟩) (by assumption) ?rr1212
    case yr1212 => intro w1 hSw; obtain ⟨s1, s2, s3, s4, s5⟩ := hSw; go_simp; try with_reducible rfl
    try simp only [List.getElem_toArray, List.getElem_cons_zero, List.getElem_cons_succ, Act.put, List.setIfInBounds_toArray, List.set_cons_zero, List.set_cons_succ]
    refine wpAnyH_take (i := 13) (oi := _) (v := ?vr1213) rfl (by kernel_rfl) (by kernel_rfl) (by kernel_rfl) (fun _ _ _ h => h) (Or.inl ⟨by rfl, ?yr1213⟩) (by assumption) ?rr1213
    case yr1213 => intro w1 hSw; obtain ⟨s1, s2, s3, s4, s5⟩ := hSw; go_simp; try with_reducible rfl
    try simp only [List.getElem_toArray, List.getElem_cons_zero, List.getElem_cons_succ, Act.put, List.setIfInBounds_toArray, List.set_cons_zero, List.set_cons_succ]
    refine wpAnyH_take (i := 14) (oi := _) (v := ?vr1214) rfl (by kernel_rfl) (by kernel_rfl) (by kernel_rfl) (fun _ _ _ h => h) (Or.inl ⟨by rfl, ?yr1214⟩) (by assumption) ?rr1214
    case yr1214 => intro w1 hSw; obtain ⟨s1, s2, s3, s4, s5⟩ := hSw; go_simp; try with_reducible rfl
    try simp only [List.getElem_toArray, List.getElem_cons_zero, List.getElem_cons_succ, Act.put, List.setIfInBounds_toArray, List.set_cons_zero, List.set_cons_succ]
    refine wpAnyH_take (i := 15) (oi := _) (v := ?vr1215) rfl (by kernel_rfl) (by kernel_rfl) (by kernel_rfl) (fun _ _ _ h => h) (Or.inl ⟨by rfl, ?yr1215⟩) (by assumption) ?rr1215
    case yr1215 => intro w1 hSw; obtain ⟨s1, s2, s3, s4, s5⟩ := hSw; go_simp; try with_reducible rfl
    try simp only [List.getElem_toArray, List.getElem_cons_zero, List.getElem_cons_succ, Act.put, List.setIfInBounds_toArray, List.set_cons_zero, List.set_cons_succ]
    refine wpAnyH_take (i := 16) (oi := _) (v := ?vr1216) rfl (by kernel_rfl) (by kernel_rfl) (by kernel_rfl) (fun _ _ _ h => h) (Or.inl ⟨by rfl, ?yr1216⟩) (by assumption) ?rr1216
    case yr1216 => intro w1 hSw; obtain ⟨s1, s2, s3, s4, s5⟩ := hSw; go_simp; try with_reducible rfl
    try simp only [List.getElem_toArray, List.getElem_cons_zero, List.getElem_cons_succ, Act.put, List.setIfInBounds_toArray, List.set_cons_zero, List.set_cons_succ]
    refine wpAnyH_take (i := 17) (oi := _) (v := ?vr1217) rfl (by kernel_rfl) (by kernel_rfl) (by kernel_rfl) (fun _ _ _ h => h) (Or.inl ⟨by rfl, ?yr1217⟩) (by assumption) ?rr1217
    case yr1217 => intro w1 hSw; obtain ⟨s1, s2, s3, s4, s5⟩ := hSw; go_simp; try with_reducible rfl
    try simp only [List.getElem_toArray, List.getElem_cons_zero, List.getElem_cons_succ, Act.put, List.setIfInBounds_toArray, List.set_cons_zero, List.set_cons_succ]
    refine wpAnyH_take (i := 18) (oi := _) (v := ?vr1218) rfl (by kernel_rfl) (by kernel_rfl) (by kernel_rfl) (fun _ _ _ h => h) (Or.inl ⟨by rfl, ?yr1218⟩) (by assumption) ?rr1218
    case yr1218 => intro w1 hSw; obtain ⟨s1, s2, s3, s4, s5⟩ := hSw; go_simp; try with_reducible rfl
    try simp only [List.getElem_toArray, List.getElem_cons_zero, List.getElem_cons_succ, Act.put, List.setIfInBounds_toArray, List.set_cons_zero, List.set_cons_succ]
    refine wpAnyH_take (i := 19) (oi := _) (v := ?vr1219) rfl (by kernel_rfl) (by kernel_rfl) (by kernel_rfl) (fun _ _ _ h => h) (Or.inl ⟨by rfl, ?yr1219⟩) (by assumption) ?rr1219
    case yr1219 => intro w1 hSw; obtain ⟨s1, s2, s3, s4, s5⟩ := hSw; go_simp; try with_reducible rfl
    try simp only [List.getElem_toArray, List.getElem_cons_zero, List.getElem_cons_succ, Act.put, List.setIfInBounds_toArray, List.set_cons_zero, List.set_cons_succ]
    clear hw4 hfd HS3 HB3 HF3 HM3
    clear c0 c1 c2 c3 c4 c5 c6 d0 d1 d2 d3 d4 d5 d6 d7 d8 f0 f1 f2 f5 f6
    have hok1 : iKE.ok ((s1.n : Int)) := wf_of (by omega) (by have := HFEW.out; omega)
    have hne := HNE.out
    have hbb := HBB.out
    have hnn := HS4.out.ne
    obtain ⟨v0, st0, w5, hrunA, hfA, hnA⟩ := mentry HM4.out.1 (by have := HN.out; omega) hok1
    have bH5 := HS4.out.b.fr hfA (by omega)
    have bB5 := HB4.out.fr hfA (by omega)
    have HF5 : Hid (Fr (fun k => k = kb) w4 w5) := Lib.hid hfA
    obtain ⟨w6, hrunB, hfB, hMB⟩ := hnA w5 (e.k) (Fr.refl _ _)
    have bH6 := bH5.fr hfB (by omega)
    have bB6 := bB5.fr hfB (by omega)
    have hok2 : iKE.ok ((s1.n : Int)) := wf_of (by omega) (by have := HFEW.out; omega)
    have hm6 : ∃ c, c ≤ s.n ∧ Mp iKE w6 ib c (mI s1.ids) := by
      obtain ⟨c, hc, hM⟩ := HM4.out.2
      exact ⟨c, hc, (hM.fr hfA (by omega)).fr hfB (by omega)⟩
    obtain ⟨v1, st1, w7, hrunC, hfC, hnC⟩ := mentry hm6 (by have := HN.out; omega) hok2
    have bH7 := bH6.fr hfC (by omega)
    have bB7 := bB6.fr hfC (by omega)
    obtain ⟨w8, hrunD, hfD, hMD⟩ := hnC w7 (e.id) (Fr.refl _ _)
    have bH8 := bH7.fr hfD (by omega)
    have bB8 := bB7.fr hfD (by omega)
    have hfr48 : Fr (fun k => k = kb ∨ k = ib) w4 w8 := (((hfA.trans hfB).mono fun _ e => .inl e).trans ((hfC.trans hfD).mono fun _ e => .inr e))
    have hfr68 : Fr (fun k => k = ib) w6 w8 := hfC.trans hfD
    have HS8 : Hid (HS w8 hb kb ib ob fb { s1 with kinds := put1 s1.kinds s1.n (some e.k), ids := put1 s1.ids s1.n (some e.id) }) := Lib.hid (by
      obtain ⟨n1, n2, n3, n4, n5, n6⟩ := hnn
      have h4 := HS4.out
      have hN1 := HN1.out
      have hMB' : ∃ c, c ≤ s1.n ∧ Mp iKE w8 kb c (mI (put1 s1.kinds ((s1.n : Int)) (some (e.k)))) := by
        obtain ⟨c, hc, hM⟩ := hMB
        exact ⟨c, by omega, hM.fr hfr68 (by omega)⟩
      have hMD' : ∃ c, c ≤ s1.n ∧ Mp iKE w8 ib c (mI (put1 s1.ids ((s1.n : Int)) (some (e.id)))) := by
        obtain ⟨c, hc, hM⟩ := hMD
        exact ⟨c, by omega, hM⟩
      have hrestm : ∀ (b : Nat) (G : Int → Option Int), b ≠ kb → b ≠ ib → (∃ c, c ≤ s1.n ∧ Mp iKE w4 b c (mI G)) → ∃ c, c ≤ s1.n ∧ Mp iKE w8 b c (mI G) := fun b G h1 h2 h => by obtain ⟨c, hc, hM⟩ := h; exact ⟨c, hc, hM.fr hfr48 (by omega)⟩
      refine ⟨bH8, hMB', hMD', hrestm ob _ (by omega) (by omega) h4.o, hrestm fb _ (by omega) (by omega) h4.f, h4.ne, h4.few, ?_, ?_⟩
      · intro x v hx; by_cases e2 : x = (s1.n : Int); (show 1 ≤ x ∧ x ≤ (s1.n : Int); omega); exact h4.dk x v (by simpa [put1, e2] using hx)
      · exact h4.dv)
    have HB8 := Lib.hid bB8
    have HF8 : Hid (Fr (Own hb kb ib ob fb) W w8) := Lib.hid (HF4.out.trans (hfr48.mono fun _ e => by rcases e with e | e <;> simp [Own, e]))
    clear hMB hMD hnA hnC hm6 hfr48 hfr68 hfA hfB hfC hfD HF5 hok1 hok2 hnn hbb hne HM4
    have d0 := bH5.cell 0
    have d3 := bH5.cell 3
    have d4 := bH5.cell 4
    have c0 := bB5.cell 0
    have c3 := bB5.cell 3
    simp only [hcells, evc, List.getElem?_toArray, List.getElem?_cons_zero, List.getElem?_cons_succ] at d0 d3 d4 c0 c3
    refine wpAnyH_ready (rs := [20]) (by kernel_rfl) (by simp) ?_
    refine AllReadyH.cons (o := _) rfl (fun K hK => ?_) AllReadyH.nil
    rw [if_pos (by rfl)]
    try simp only [List.getElem_toArray, List.getElem_cons_zero, List.getElem_cons_succ]
    go_simp
    refine hK.out _ _ ⟨d0, d3, d4, c0, c3⟩ (fun hHeld2 => ?_)
    clear hK K hHeld
    try simp only [List.getElem_toArray, List.getElem_cons_zero, List.getElem_cons_succ, Act.put, List.setIfInBounds_toArray, List.set_cons_zero, List.set_cons_succ]
    clear d0 d3 d4 c0 c3
    refine wpAnyH_take (i := 21) (oi := _) (v := ?vu1221) rfl (by kernel_rfl) (by kernel_rfl) (by kernel_rfl) (fun _ _ _ h => h) (Or.inl ⟨by rfl, ?yu1221⟩) (by assumption) ?ru1221
    case yu1221 => intro w1 hSw; obtain ⟨s1, s2, s3, s4, s5⟩ := hSw; go_simp; try with_reducible rfl
    try simp only [List.getElem_toArray, List.getElem_cons_zero, List.getElem_cons_succ, Act.put, List.setIfInBounds_toArray, List.set_cons_zero, List.set_cons_succ]
    have d0 := bH6.cell 0
    have d3 := bH6.cell 3
    have d4 := bH6.cell 4
    have c0 := bB6.cell 0
    have c3 := bB6.cell 3
    simp only [hcells, evc, List.getElem?_toArray, List.getElem?_cons_zero, List.getElem?_cons_succ] at d0 d3 d4 c0 c3
    refine wpAnyH_ready (rs := [22]) (by kernel_rfl) (by simp) ?_
    refine AllReadyH.cons (o := _) rfl (fun K hK => ?_) AllReadyH.nil
    rw [if_pos (by rfl)]
    try simp only [List.getElem_toArray, List.getElem_cons_zero, List.getElem_cons_succ]
    go_simp
    refine hK.out _ _ ⟨d0, d3, d4, c0, c3⟩ (fun hHeld3 => ?_)
    clear hK K hHeld2
    try simp only [List.getElem_toArray, List.getElem_cons_zero, List.getElem_cons_succ, Act.put, List.setIfInBounds_toArray, List.set_cons_zero, List.set_cons_succ]
    clear d0 d3 d4 c0 c3
    have d0 := bH7.cell 0
    have d3 := bH7.cell 3
    have d4 := bH7.cell 4
    have c0 := bB7.cell 0
    have c3 := bB7.cell 3
    simp only [hcells, evc, List.getElem?_toArray, List.getElem?_cons_zero, List.getElem?_cons_succ] at d0 d3 d4 c0 c3
    refine wpAnyH_ready (rs := [23]) (by kernel_rfl) (by simp) ?_
    refine AllReadyH.cons (o := _) rfl (fun K hK => ?_) AllReadyH.nil
    rw [if_pos (by rfl)]
    try simp only [List.getElem_toArray, List.getElem_cons_zero, List.getElem_cons_succ]
    go_simp
    refine hK.out _ _ ⟨d0, d3, d4, c0, c3⟩ (fun hHeld4 => ?_)
    clear hK K hHeld3
    try simp only [List.getElem_toArray, List.getElem_cons_zero, List.getElem_cons_succ, Act.put, List.setIfInBounds_toArray, List.set_cons_zero, List.set_cons_succ]
    clear d0 d3 d4 c0 c3
    refine wpAnyH_take (i := 24) (oi := _) (v := ?vv1224) rfl (by kernel_rfl) (by kernel_rfl) (by kernel_rfl) (fun _ _ _ h => h) (Or.inl ⟨by rfl, ?yv1224⟩) (by assumption) ?rv1224
    case yv1224 => intro w1 hSw; obtain ⟨s1, s2, s3, s4, s5⟩ := hSw; go_simp; try with_reducible rfl
    try simp only [List.getElem_toArray, List.getElem_cons_zero, List.getElem_cons_succ, Act.put, List.setIfInBounds_toArray, List.set_cons_zero, List.set_cons_succ]
    have d0 := bH8.cell 0
    have d3 := bH8.cell 3
    have d4 := bH8.cell 4
    have c0 := bB8.cell 0
    have c3 := bB8.cell 3
    simp only [hcells, evc, List.getElem?_toArray, List.getElem?_cons_zero, List.getElem?_cons_succ] at d0 d3 d4 c0 c3
    refine wpAnyH_ready (rs := [25]) (by kernel_rfl) (by simp) ?_
    refine AllReadyH.cons (o := _) rfl (fun K hK => ?_) AllReadyH.nil
    rw [if_pos (by rfl)]
    try simp only [List.getElem_toArray, List.getElem_cons_zero, List.getElem_cons_succ]
    go_simp
    refine hK.out _ _ ⟨d0, d3, d4, c0, c3⟩ (fun hHeld5 => ?_)
    clear hK K hHeld4
    try simp only [List.getElem_toArray, List.getElem_cons_zero, List.getElem_cons_succ, Act.put, List.setIfInBounds_toArray, List.set_cons_zero, List.set_cons_succ]
    clear d0 d3 d4 c0 c3
    refine wpAnyH_done (by kernel_rfl) ?_ _
    clear hHeld5 bH5 bH6 bH7 bH8 bB5 bB6 bB7 bB8 hrunA hrunB hrunC hrunD HS4 HB4 HF4
    have c0 := HB8.out.cell 0
    have c1 := HB8.out.cell 1
    have c2 := HB8.out.cell 2
    have c3 := HB8.out.cell 3
    have c4 := HB8.out.cell 4
    have c5 := HB8.out.cell 5
    have c6 := HB8.out.cell 6
    simp only [evc, List.getElem?_toArray, List.getElem?_cons_zero, List.getElem?_cons_succ] at c0 c1 c2 c3 c4 c5 c6
    have d0 := HS8.out.b.cell 0
    have d1 := HS8.out.b.cell 1
    have d2 := HS8.out.b.cell 2
    have d3 := HS8.out.b.cell 3
    have d4 := HS8.out.b.cell 4
    have d5 := HS8.out.b.cell 5
    have d6 := HS8.out.b.cell 6
    have d7 := HS8.out.b.cell 7
    have d8 := HS8.out.b.cell 8
    have f0 := HS8.out.b.frozen 0
    have f1 := HS8.out.b.frozen 1
    have f2 := HS8.out.b.frozen 2
    have f5 := HS8.out.b.frozen 5
    have f6 := HS8.out.b.frozen 6
    simp only [hcells, List.getElem?_toArray, List.getElem?_cons_zero, List.getElem?_cons_succ] at d0 d1 d2 d3 d4 d5 d6 d7 d8
    have HAD2 : Hid (addO s e = { s1 with kinds := put1 s1.kinds s1.n (some e.k), ids := put1 s1.ids s1.n (some e.id) }) := Lib.hid (by rw [HAD.out, closes_no pcl]; simp [turned, HK.out])
    clear HAD
    clear q2 q3 q4 q5 q6 q7 q8 q9 q10 q11 q12 q13 q14 q17 q18
    have HPC := Lib.hid pcl
    go_wp2_with (first | (go_at_call 100; refine (closes_any _ _).mono ?_; rintro e3 w9 ⟨rfl, rfl⟩; rw [HPC.out]) | go_in)
    go_ret2
    refine ⟨?_, ?_, HF8.out⟩
    · rw [HC.out]; rfl
    · rw [HAD2.out]; exact HS8.out
  have q12 : (e.k == 12) = false := by simp [k12]
  by_cases k17 : e.k = 17
  · have HK := Lib.hid k17
    clear k17
    have q2 : (e.k == 2) = false := by rw [HK.out]; rfl
    have q3 : (e.k == 3) = false := by rw [HK.out]; rfl
    have q4 : (e.k == 4) = false := by rw [HK.out]; rfl
    have q5 : (e.k == 5) = false := by rw [HK.out]; rfl
    have q6 : (e.k == 6) = false := by rw [HK.out]; rfl
    have q7 : (e.k == 7) = false := by rw [HK.out]; rfl
    have q8 : (e.k == 8) = false := by rw [HK.out]; rfl
    have q9 : (e.k == 9) = false := by rw [HK.out]; rfl
    have q10 : (e.k == 10) = false := by rw [HK.out]; rfl
    have q11 : (e.k == 11) = false := by rw [HK.out]; rfl
    have q12 : (e.k == 12) = false := by rw [HK.out]; rfl
    have q13 : (e.k == 13) = false := by rw [HK.out]; rfl
    have q14 : (e.k == 14) = false := by rw [HK.out]; rfl
    have q17 : (e.k == 17) = true := by rw [HK.out]; rfl
    have q18 : (e.k == 18) = false := by rw [HK.out]; rfl
    have pcl : closeB e.k = false := by rw [HK.out]; rfl
    have HRG := Lib.hid (range_of HRT.out)
    have HFEW := Lib.hid HS3.out.few
    go_upto_region 17 with (fail)
    have hfd : Fr (fun _ => False) w3 w3.drew := Fr.drewN _ w3 1
    have HS4 := Lib.hid (HS3.out.fr0 hfd)
    have HB4 := Lib.hid (HB3.out.fr hfd id)
    have HF4 := Lib.hid (HF3.out.trans (hfd.mono fun _ e => e.elim))
    have HM4 : Hid ((∃ c, c ≤ s.n ∧ Mp iKE w3.drew kb c (mI s1.kinds)) ∧ (∃ c, c ≤ s.n ∧ Mp iKE w3.drew ib c (mI s1.ids))) := Lib.hid (by
      obtain ⟨m1, m2, m3, m4⟩ := HM3.out
      obtain ⟨c1, e1, g1⟩ := m1
      obtain ⟨c2, e2, g2⟩ := m2
      exact ⟨⟨c1, e1, g1.fr hfd id⟩, ⟨c2, e2, g2.fr hfd id⟩⟩)
    obtain ⟨w4, hw4⟩ : ∃ w, w3.drew = w := ⟨_, rfl⟩
    rw [hw4] at HS4 HB4 HF4 HM4
    refine wp_region_held_drew (S := fun (w' : World) => w'.cell? ⟨hb, 0, none⟩ = some (.int .i64 s1.n) ∧ w'.cell? ⟨hb, 3, none⟩ = some (.map (some kb)) ∧ w'.cell? ⟨hb, 4, none⟩ = some (.map (some ib)) ∧ w'.cell? ⟨bb, 0, none⟩ = some (.int .i64 e.k) ∧ w'.cell? ⟨bb, 3, none⟩ = some (.int .i64 e.id)) (by kernel_rfl) ⟨d0, d3, d4, c0, c3⟩ (fun hHeld => ?_)
    rw [hw4] at hHeld ⊢
    refine wpAnyH_take (i := 0) (oi := _) (v := ?vr170) rfl (by kernel_rfl) (by kernel_rfl) (by kernel_rfl) (fun _ _ _ h => h) (Or.inl ⟨by rfl, ?yr170⟩) (by assumption) ?rr170
    case yr170 => intro w1 hSw; obtain ⟨s1, s2, s3, s4, s5⟩ := hSw; go_simp; try with_reducible rfl
    try simp only [List.getElem_toArray, List.getElem_cons_zero, List.getElem_cons_succ, Act.put, List.setIfInBounds_toArray, List.set_cons_zero, List.set_cons_succ]
    refine wpAnyH_take (i := 1) (oi := _) (v := ?vr171) rfl (by kernel_rfl) (by kernel_rfl) (by kernel_rfl) (fun _ _ _ h => h) (Or.inl ⟨by rfl, ?yr171⟩) (by assumption) ?rr171
    case yr171 => intro w1 hSw; obtain ⟨s1, s2, s3, s4, s5⟩ := hSw; go_simp; try with_reducible rfl
    try simp only [List.getElem_toArray, List.getElem_cons_zero, List.getElem_cons_succ, Act.put, List.setIfInBounds_toArray, List.set_cons_zero, List.set_cons_succ]
    refine wpAnyH_take (i := 2) (oi := _) (v := ?vr172) rfl (by kernel_rfl) (by kernel_rfl) (by kernel_rfl) (fun _ _ _ h => h) (Or.inl ⟨by rfl, ?yr172⟩) (by assumption) ?rr172
    case yr172 => intro w1 hSw; obtain ⟨s1, s2, s3, s4, s5⟩ := hSw; go_simp; try with_reducible rfl
    try simp only [List.getElem_toArray, List.getElem_cons_zero, List.getElem_cons_succ, Act.put, List.setIfInBounds_toArray, List.set_cons_zero, List.set_cons_succ]
    refine wpAnyH_take (i := 3) (oi := _) (v := ?vr173) rfl (by kernel_rfl) (by kernel_rfl) (by kernel_rfl) (fun _ _ _ h => h) (Or.inl ⟨by rfl, ?yr173⟩) (by assumption) ?rr173
    case yr173 => intro w1 hSw; obtain ⟨s1, s2, s3, s4, s5⟩ := hSw; go_simp; try with_reducible rfl
    try simp only [List.getElem_toArray, List.getElem_cons_zero, List.getElem_cons_succ, Act.put, List.setIfInBounds_toArray, List.set_cons_zero, List.set_cons_succ]
    refine wpAnyH_take (i := 4) (oi := _) (v := ?vr174) rfl (by kernel_rfl) (by kernel_rfl) (by kernel_rfl) (fun _ _ _ h => h) (Or.inl ⟨by rfl, ?yr174⟩) (by assumption) ?rr174
    case yr174 => intro w1 hSw; obtain ⟨s1, s2, s3, s4, s5⟩ := hSw; go_simp; try with_reducible rfl
    try simp only [List.getElem_toArray, List.getElem_cons_zero, List.getElem_cons_succ, Act.put, List.setIfInBounds_toArray, List.set_cons_zero, List.set_cons_succ]
    refine wpAnyH_take (i := 5) (oi := _) (v := ?vr175) rfl (by kernel_rfl) (by kernel_rfl) (by kernel_rfl) (fun _ _ _ h => h) (Or.inl ⟨by rfl, ?yr175⟩) (by assumption) ?rr175
    case yr175 => intro w1 hSw; obtain ⟨s1, s2, s3, s4, s5⟩ := hSw; go_simp; try with_reducible rfl
    try simp only [List.getElem_toArray, List.getElem_cons_zero, List.getElem_cons_succ, Act.put, List.setIfInBounds_toArray, List.set_cons_zero, List.set_cons_succ]
    refine wpAnyH_take (i := 6) (oi := _) (v := ?vr176) rfl (by kernel_rfl) (by kernel_rfl) (by kernel_rfl) (fun _ _ _ h => h) (Or.inl ⟨by rfl, ?yr176⟩) (by assumption) ?rr176
    case yr176 => intro w1 hSw; obtain ⟨s1, s2, s3, s4, s5⟩ := hSw; go_simp; try with_reducible rfl
    try simp only [List.getElem_toArray, List.getElem_cons_zero, List.getElem_cons_succ, Act.put, List.setIfInBounds_toArray, List.set_cons_zero, List.set_cons_succ]
    refine wpAnyH_take (i := 7) (oi := _) (v := ?vr177) rfl (by kernel_rfl) (by kernel_rfl) (by kernel_rfl) (fun _ _ _ h => h) (Or.inl ⟨by rfl, ?yr177⟩) (by assumption) ?rr177
    case yr177 => intro w1 hSw; obtain ⟨s1, s2, s3, s4, s5⟩ := hSw; go_simp; try with_reducible rfl
    try simp only [List.getElem_toArray, List.getElem_cons_zero, List.getElem_cons_succ, Act.put, List.setIfInBounds_toArray, List.set_cons_zero, List.set_cons_succ]
    refine wpAnyH_take (i := 8) (oi := _) (v := ?vr178) rfl (by kernel_rfl) (by kernel_rfl) (by kernel_rfl) (fun _ _ _ h => h) (Or.inl ⟨by rfl, ?yr178⟩) (by assumption) ?rr178
    case yr178 => intro w1 hSw; obtain ⟨s1, s2, s3, s4, s5⟩ := hSw; go_simp; try with_reducible rfl
    try simp only [List.getElem_toArray, List.getElem_cons_zero, List.getElem_cons_succ, Act.put, List.setIfInBounds_toArray, List.set_cons_zero, List.set_cons_succ]
    refine wpAnyH_take (i := 9) (oi := _) (v := ?vr179) rfl (by kernel_rfl) (by kernel_rfl) (by kernel_rfl) (fun _ _ _ h => h) (Or.inl ⟨by rfl, ?yr179⟩) (by assumption) ?rr179
    case yr179 => intro w1 hSw; obtain ⟨s1, s2, s3, s4, s5⟩ := hSw; go_simp; try with_reducible rfl
    try simp only [List.getElem_toArray, List.getElem_cons_zero, List.getElem_cons_succ, Act.put, List.setIfInBounds_toArray, List.set_cons_zero, List.set_cons_succ]
    refine wpAnyH_take (i := 10) (oi := _) (v := ?vr1710) rfl (by kernel_rfl) (by kernel_rfl) (by kernel_rfl) (fun _ _ _ h => h) (Or.inl ⟨by rfl, ?yr1710⟩) (by assumption) ?rr1710
    case yr1710 => intro w1 hSw; obtain ⟨s1, s2, s3, s4, s5⟩ := hSw; go_simp; try with_reducible rfl
    try simp only [List.getElem_toArray, List.getElem_cons_zero, List.getElem_cons_succ, Act.put, List.setIfInBounds_toArray, List.set_cons_zero, List.set_cons_succ]
    refine wpAnyH_take (i := 11) (oi := _) (v := ?vr1711) rfl (by kernel_rfl) (by kernel_rfl) (by kernel_rfl) (fun _ _ _ h => h) (Or.inl ⟨by rfl, ?yr1711⟩) (by assumption) ?rr1711
    case yr1711 => intro w1 hSw; obtain ⟨s1, s2, s3, s4, s5⟩ := hSw; go_simp; try with_reducible rfl
    try simp only [List.getElem_toArray, List.getElem_cons_zero, List.getElem_cons_succ, Act.put, List.setIfInBounds_toArray, List.set_cons_zero, List.set_cons_succ]
    refine wpAnyH_take (i := 12) (oi := _) (v := ?vr1712) rfl (by kernel_rfl) (by kernel_rfl) (by kernel_rfl) (fun _ _ _ h => h) (Or.inl ⟨by rfl, ?yr1712⟩) (by assumption) ?rr1712
    case yr1712 => intro w1 hSw; obtain ⟨s1, s2, s3, s4, s5⟩ := hSw; go_simp; try with_reducible rfl
    try simp only [List.getElem_toArray, List.getElem_cons_zero, List.getElem_cons_succ, Act.put, List.setIfInBounds_toArray, List.set_cons_zero, List.set_cons_succ]
    refine wpAnyH_take (i := 13) (oi := _) (v := ?vr1713) rfl (by kernel_rfl) (by kernel_rfl) (by kernel_rfl) (fun _ _ _ h => h) (Or.inl ⟨by rfl, ?yr1713⟩) (by assumption) ?rr1713
    case yr1713 => intro w1 hSw; obtain ⟨s1, s2, s3, s4, s5⟩ := hSw; go_simp; try with_reducible rfl
    try simp only [List.getElem_toArray, List.getElem_cons_zero, List.getElem_cons_succ, Act.put, List.setIfInBounds_toArray, List.set_cons_zero, List.set_cons_succ]
    refine wpAnyH_take (i := 14) (oi := _) (v := ?vr1714) rfl (by kernel_rfl) (by kernel_rfl) (by kernel_rfl) (fun _ _ _ h => h) (Or.inl ⟨by rfl, ?yr1714⟩) (by assumption) ?rr1714
    case yr1714 => intro w1 hSw; obtain ⟨s1, s2, s3, s4, s5⟩ := hSw; go_simp; try with_reducible rfl
    try simp only [List.getElem_toArray, List.getElem_cons_zero, List.getElem_cons_succ, Act.put, List.setIfInBounds_toArray, List.set_cons_zero, List.set_cons_succ]
    refine wpAnyH_take (i := 15) (oi := _) (v := ?vr1715) rfl (by kernel_rfl) (by kernel_rfl) (by kernel_rfl) (fun _ _ _ h => h) (Or.inl ⟨by rfl, ?yr1715⟩) (by assumption) ?rr1715
    case yr1715 => intro w1 hSw; obtain ⟨s1, s2, s3, s4, s5⟩ := hSw; go_simp; try with_reducible rfl
    try simp only [List.getElem_toArray, List.getElem_cons_zero, List.getElem_cons_succ, Act.put, List.setIfInBounds_toArray, List.set_cons_zero, List.set_cons_succ]
    refine wpAnyH_take (i := 16) (oi := _) (v := ?vr1716) rfl (by kernel_rfl) (by kernel_rfl) (by kernel_rfl) (fun _ _ _ h => h) (Or.inl ⟨by rfl, ?yr1716⟩) (by assumption) ?rr1716
    case yr1716 => intro w1 hSw; obtain ⟨s1, s2, s3, s4, s5⟩ := hSw; go_simp; try with_reducible rfl
    try simp only [List.getElem_toArray, List.getElem_cons_zero, List.getElem_cons_succ, Act.put, List.setIfInBounds_toArray, List.set_cons_zero, List.set_cons_succ]
    refine wpAnyH_take (i := 17) (oi := _) (v := ?vr1717) rfl (by kernel_rfl) (by kernel_rfl) (by kernel_rfl) (fun _ _ _ h => h) (Or.inl ⟨by rfl, ?yr1717⟩) (by assumption) ?rr1717
    case yr1717 => intro w1 hSw; obtain ⟨s1, s2, s3, s4, s5⟩ := hSw; go_simp; try with_reducible rfl
    try simp only [List.getElem_toArray, List.getElem_cons_zero, List.getElem_cons_succ, Act.put, List.setIfInBounds_toArray, List.set_cons_zero, List.set_cons_succ]
    refine wpAnyH_take (i := 18) (oi := _) (v := ?vr1718) rfl (by kernel_rfl) (by kernel_rfl) (by kernel_rfl) (fun _ _ _ h => h) (Or.inl ⟨by rfl, ?yr1718⟩) (by assumption) ?rr1718
    case yr1718 => intro w1 hSw; obtain ⟨s1, s2, s3, s4, s5⟩ := hSw; go_simp; try with_reducible rfl
    try simp only [List.getElem_toArray, List.getElem_cons_zero, List.getElem_cons_succ, Act.put, List.setIfInBounds_toArray, List.set_cons_zero, List.set_cons_succ]
    refine wpAnyH_take (i := 19) (oi := _) (v := ?vr1719) rfl (by kernel_rfl) (by kernel_rfl) (by kernel_rfl) (fun _ _ _ h => h) (Or.inl ⟨by rfl, ?yr1719⟩) (by assumption) ?rr1719
    case yr1719 => intro w1 hSw; obtain ⟨s1, s2, s3, s4, s5⟩ := hSw; go_simp; try with_reducible rfl
    try simp only [List.getElem_toArray, List.getElem_cons_zero, List.getElem_cons_succ, Act.put, List.setIfInBounds_toArray, List.set_cons_zero, List.set_cons_succ]
    clear hw4 hfd HS3 HB3 HF3 HM3
    clear c0 c1 c2 c3 c4 c5 c6 d0 d1 d2 d3 d4 d5 d6 d7 d8 f0 f1 f2 f5 f6
    have hok1 : iKE.ok ((s1.n : Int)) := wf_of (by omega) (by have := HFEW.out; omega)
    have hne := HNE.out
    have hbb := HBB.out
    have hnn := HS4.out.ne
    obtain ⟨v0, st0, w5, hrunA, hfA, hnA⟩ := mentry HM4.out.1 (by have := HN.out; omega) hok1
    have bH5 := HS4.out.b.fr hfA (by omega)
    have bB5 := HB4.out.fr hfA (by omega)
    have HF5 : Hid (Fr (fun k => k = kb) w4 w5) := Lib.hid hfA
    obtain ⟨w6, hrunB, hfB, hMB⟩ := hnA w5 (e.k) (Fr.refl _ _)
    have bH6 := bH5.fr hfB (by omega)
    have bB6 := bB5.fr hfB (by omega)
    have hok2 : iKE.ok ((s1.n : Int)) := wf_of (by omega) (by have := HFEW.out; omega)
    have hm6 : ∃ c, c ≤ s.n ∧ Mp iKE w6 ib c (mI s1.ids) := by
      obtain ⟨c, hc, hM⟩ := HM4.out.2
      exact ⟨c, hc, (hM.fr hfA (by omega)).fr hfB (by omega)⟩
    obtain ⟨v1, st1, w7, hrunC, hfC, hnC⟩ := mentry hm6 (by have := HN.out; omega) hok2
    have bH7 := bH6.fr hfC (by omega)
    have bB7 := bB6.fr hfC (by omega)
    obtain ⟨w8, hrunD, hfD, hMD⟩ := hnC w7 (e.id) (Fr.refl _ _)
    have bH8 := bH7.fr hfD (by omega)
    have bB8 := bB7.fr hfD (by omega)
    have hfr48 : Fr (fun k => k = kb ∨ k = ib) w4 w8 := (((hfA.trans hfB).mono fun _ e => .inl e).trans ((hfC.trans hfD).mono fun _ e => .inr e))
    have hfr68 : Fr (fun k => k = ib) w6 w8 := hfC.trans hfD
    have HS8 : Hid (HS w8 hb kb ib ob fb { s1 with kinds := put1 s1.kinds s1.n (some e.k), ids := put1 s1.ids s1.n (some e.id) }) := Lib.hid (by
      obtain ⟨n1, n2, n3, n4, n5, n6⟩ := hnn
      have h4 := HS4.out
      have hN1 := HN1.out
      have hMB' : ∃ c, c ≤ s1.n ∧ Mp iKE w8 kb c (mI (put1 s1.kinds ((s1.n : Int)) (some (e.k)))) := by
        obtain ⟨c, hc, hM⟩ := hMB
        exact ⟨c, by omega, hM.fr hfr68 (by omega)⟩
      have hMD' : ∃ c, c ≤ s1.n ∧ Mp iKE w8 ib c (mI (put1 s1.ids ((s1.n : Int)) (some (e.id)))) := by
        obtain ⟨c, hc, hM⟩ := hMD
        exact ⟨c, by omega, hM⟩
      have hrestm : ∀ (b : Nat) (G : Int → Option Int), b ≠ kb → b ≠ ib → (∃ c, c ≤ s1.n ∧ Mp iKE w4 b c (mI G)) → ∃ c, c ≤ s1.n ∧ Mp iKE w8 b c (mI G) := fun b G h1 h2 h => by obtain ⟨c, hc, hM⟩ := h; exact ⟨c, hc, hM.fr hfr48 (by omega)⟩
      refine ⟨bH8, hMB', hMD', hrestm ob _ (by omega) (by omega) h4.o, hrestm fb _ (by omega) (by omega) h4.f, h4.ne, h4.few, ?_, ?_⟩
      · intro x v hx; by_cases e2 : x = (s1.n : Int); (show 1 ≤ x ∧ x ≤ (s1.n : Int); omega); exact h4.dk x v (by simpa [put1, e2] using hx)
      · exact h4.dv)
    have HB8 := Lib.hid bB8
    have HF8 : Hid (Fr (Own hb kb ib ob fb) W w8) := Lib.hid (HF4.out.trans (hfr48.mono fun _ e => by rcases e with e | e <;> simp [Own, e]))
    clear hMB hMD hnA hnC hm6 hfr48 hfr68 hfA hfB hfC hfD HF5 hok1 hok2 hnn hbb hne HM4
    have d0 := bH5.cell 0
    have d3 := bH5.cell 3
    have d4 := bH5.cell 4
    have c0 := bB5.cell 0
    have c3 := bB5.cell 3
    simp only [hcells, evc, List.getElem?_toArray, List.getElem?_cons_zero, List.getElem?_cons_succ] at d0 d3 d4 c0 c3
    refine wpAnyH_ready (rs := [20]) (by kernel_rfl) (by simp) ?_
    refine AllReadyH.cons (o := _) rfl (fun K hK => ?_) AllReadyH.nil
    rw [if_pos (by rfl)]
    try simp only [List.getElem_toArray, List.getElem_cons_zero, List.getElem_cons_succ]
    go_simp
    refine hK.out _ _ ⟨d0, d3, d4, c0, c3⟩ (fun hHeld2 => ?_)
    clear hK K hHeld
    try simp only [List.getElem_toArray, List.getElem_cons_zero, List.getElem_cons_succ, Act.put, List.setIfInBounds_toArray, List.set_cons_zero, List.set_cons_succ]
    clear d0 d3 d4 c0 c3
    refine wpAnyH_take (i := 21) (oi := _) (v := ?vu1721) rfl (by kernel_rfl) (by kernel_rfl) (by kernel_rfl) (fun _ _ _ h => h) (Or.inl ⟨by rfl, ?yu1721⟩) (by assumption) ?ru1721
    case yu1721 => intro w1 hSw; obtain ⟨s1, s2, s3, s4, s5⟩ := hSw; go_simp; try with_reducible rfl
    try simp only [List.getElem_toArray, List.getElem_cons_zero, List.getElem_cons_succ, Act.put, List.setIfInBounds_toArray, List.set_cons_zero, List.set_cons_succ]
    have d0 := bH6.cell 0
    have d3 := bH6.cell 3
    have d4 := bH6.cell 4
    have c0 := bB6.cell 0
    have c3 := bB6.cell 3
    simp only [hcells, evc, List.getElem?_toArray, List.getElem?_cons_zero, List.getElem?_cons_succ] at d0 d3 d4 c0 c3
    refine wpAnyH_ready (rs := [22]) (by kernel_rfl) (by simp) ?_
    refine AllReadyH.cons (o := _) rfl (fun K hK => ?_) AllReadyH.nil
    rw [if_pos (by rfl)]
    try simp only [List.getElem_toArray, List.getElem_cons_zero, List.getElem_cons_succ]
    go_simp
    refine hK.out _ _ ⟨d0, d3, d4, c0, c3⟩ (fun hHeld3 => ?_)
    clear hK K hHeld2
    try simp only [List.getElem_toArray, List.getElem_cons_zero, List.getElem_cons_succ, Act.put, List.setIfInBounds_toArray, List.set_cons_zero, List.set_cons_succ]
    clear d0 d3 d4 c0 c3
    have d0 := bH7.cell 0
    have d3 := bH7.cell 3
    have d4 := bH7.cell 4
    have c0 := bB7.cell 0
    have c3 := bB7.cell 3
    simp only [hcells, evc, List.getElem?_toArray, List.getElem?_cons_zero, List.getElem?_cons_succ] at d0 d3 d4 c0 c3
    refine wpAnyH_ready (rs := [23]) (by kernel_rfl) (by simp) ?_
    refine AllReadyH.cons (o := _) rfl (fun K hK => ?_) AllReadyH.nil
    rw [if_pos (by rfl)]
    try simp only [List.getElem_toArray, List.getElem_cons_zero, List.getElem_cons_succ]
    go_simp
    refine hK.out _ _ ⟨d0, d3, d4, c0, c3⟩ (fun hHeld4 => ?_)
    clear hK K hHeld3
    try simp only [List.getElem_toArray, List.getElem_cons_zero, List.getElem_cons_succ, Act.put, List.setIfInBounds_toArray, List.set_cons_zero, List.set_cons_succ]
    clear d0 d3 d4 c0 c3
    refine wpAnyH_take (i := 24) (oi := _) (v := ?vv1724) rfl (by kernel_rfl) (by kernel_rfl) (by kernel_rfl) (fun _ _ _ h => h) (Or.inl ⟨by rfl, ?yv1724⟩) (by assumption) ?rv1724
    case yv1724 => intro w1 hSw; obtain ⟨s1, s2, s3, s4, s5⟩ := hSw; go_simp; try with_reducible rfl
    try simp only [List.getElem_toArray, List.getElem_cons_zero, List.getElem_cons_succ, Act.put, List.setIfInBounds_toArray, List.set_cons_zero, List.set_cons_succ]
    have d0 := bH8.cell 0
    have d3 := bH8.cell 3
    have d4 := bH8.cell 4
    have c0 := bB8.cell 0
    have c3 := bB8.cell 3
    simp only [hcells, evc, List.getElem?_toArray, List.getElem?_cons_zero, List.getElem?_cons_succ] at d0 d3 d4 c0 c3
    refine wpAnyH_ready (rs := [25]) (by kernel_rfl) (by simp) ?_
    refine AllReadyH.cons (o := _) rfl (fun K hK => ?_) AllReadyH.nil
    rw [if_pos (by rfl)]
    try simp only [List.getElem_toArray, List.getElem_cons_zero, List.getElem_cons_succ]
    go_simp
    refine hK.out _ _ ⟨d0, d3, d4, c0, c3⟩ (fun hHeld5 => ?_)
    clear hK K hHeld4
    try simp only [List.getElem_toArray, List.getElem_cons_zero, List.getElem_cons_succ, Act.put, List.setIfInBounds_toArray, List.set_cons_zero, List.set_cons_succ]
    clear d0 d3 d4 c0 c3
    refine wpAnyH_done (by kernel_rfl) ?_ _
    clear hHeld5 bH5 bH6 bH7 bH8 bB5 bB6 bB7 bB8 hrunA hrunB hrunC hrunD HS4 HB4 HF4
    have c0 := HB8.out.cell 0
    have c1 := HB8.out.cell 1
    have c2 := HB8.out.cell 2
    have c3 := HB8.out.cell 3
    have c4 := HB8.out.cell 4
    have c5 := HB8.out.cell 5
    have c6 := HB8.out.cell 6
    simp only [evc, List.getElem?_toArray, List.getElem?_cons_zero, List.getElem?_cons_succ] at c0 c1 c2 c3 c4 c5 c6
    have d0 := HS8.out.b.cell 0
    have d1 := HS8.out.b.cell 1
    have d2 := HS8.out.b.cell 2
    have d3 := HS8.out.b.cell 3
    have d4 := HS8.out.b.cell 4
    have d5 := HS8.out.b.cell 5
    have d6 := HS8.out.b.cell 6
    have d7 := HS8.out.b.cell 7
    have d8 := HS8.out.b.cell 8
    have f0 := HS8.out.b.frozen 0
    have f1 := HS8.out.b.frozen 1
    have f2 := HS8.out.b.frozen 2
    have f5 := HS8.out.b.frozen 5
    have f6 := HS8.out.b.frozen 6
    simp only [hcells, List.getElem?_toArray, List.getElem?_cons_zero, List.getElem?_cons_succ] at d0 d1 d2 d3 d4 d5 d6 d7 d8
    have HAD2 : Hid (addO s e = { s1 with kinds := put1 s1.kinds s1.n (some e.k), ids := put1 s1.ids s1.n (some e.id) }) := Lib.hid (by rw [HAD.out, closes_no pcl]; simp [turned, HK.out])
    clear HAD
    clear q2 q3 q4 q5 q6 q7 q8 q9 q10 q11 q12 q13 q14 q17 q18
    have HPC := Lib.hid pcl
    go_wp2_with (first | (go_at_call 100; refine (closes_any _ _).mono ?_; rintro e3 w9 ⟨rfl, rfl⟩; rw [HPC.out]) | go_in)
    go_ret2
    refine ⟨?_, ?_, HF8.out⟩
    · rw [HC.out]; rfl
    · rw [HAD2.out]; exact HS8.out
  have q17 : (e.k == 17) = false := by simp [k17]
  by_cases k8 : e.k = 8
  · have HK := Lib.hid k8
    clear k8
    have q2 : (e.k == 2) = false := by rw [HK.out]; rfl
    have q3 : (e.k == 3) = false := by rw [HK.out]; rfl
    have q4 : (e.k == 4) = false := by rw [HK.out]; rfl
    have q5 : (e.k == 5) = false := by rw [HK.out]; rfl
    have q6 : (e.k == 6) = false := by rw [HK.out]; rfl
    have q7 : (e.k == 7) = false := by rw [HK.out]; rfl
    have q8 : (e.k == 8) = true := by rw [HK.out]; rfl
    have q9 : (e.k == 9) = false := by rw [HK.out]; rfl
    have q10 : (e.k == 10) = false := by rw [HK.out]; rfl
    have q11 : (e.k == 11) = false := by rw [HK.out]; rfl
    have q12 : (e.k == 12) = false := by rw [HK.out]; rfl
    have q13 : (e.k == 13) = false := by rw [HK.out]; rfl
    have q14 : (e.k == 14) = false := by rw [HK.out]; rfl
    have q17 : (e.k == 17) = false := by rw [HK.out]; rfl
    have q18 : (e.k == 18) = false := by rw [HK.out]; rfl
    have pcl : closeB e.k = false := by rw [HK.out]; rfl
    have HRG := Lib.hid (range_of HRT.out)
    have HFEW := Lib.hid HS3.out.few
    go_upto_region 19 with (fail)
    have hfd : Fr (fun _ => False) w3 w3.drew := Fr.drewN _ w3 1
    have HS4 := Lib.hid (HS3.out.fr0 hfd)
    have HB4 := Lib.hid (HB3.out.fr hfd id)
    have HF4 := Lib.hid (HF3.out.trans (hfd.mono fun _ e => e.elim))
    have HM4 : Hid ((∃ c, c ≤ s.n ∧ Mp iKE w3.drew ob c (mI s1.of_)) ∧ (∃ c, c ≤ s.n ∧ Mp iKE w3.drew fb c (mI s1.from_))) := Lib.hid (by
      obtain ⟨m1, m2, m3, m4⟩ := HM3.out
      obtain ⟨c1, e1, g1⟩ := m3
      obtain ⟨c2, e2, g2⟩ := m4
      exact ⟨⟨c1, e1, g1.fr hfd id⟩, ⟨c2, e2, g2.fr hfd id⟩⟩)
    obtain ⟨w4, hw4⟩ : ∃ w, w3.drew = w := ⟨_, rfl⟩
    rw [hw4] at HS4 HB4 HF4 HM4
    refine wp_region_held_drew (S := fun (w' : World) => w'.cell? ⟨hb, 0, none⟩ = some (.int .i64 s1.n) ∧ w'.cell? ⟨hb, 7, none⟩ = some (.map (some ob)) ∧ w'.cell? ⟨hb, 8, none⟩ = some (.map (some fb)) ∧ w'.cell? ⟨bb, 2, none⟩ = some (.int .i64 e.ref)) (by kernel_rfl) ⟨d0, d7, d8, c2⟩ (fun hHeld => ?_)
    rw [hw4] at hHeld ⊢
    refine wpAnyH_take (i := 0) (oi := _) (v := ?vr80) rfl (by kernel_rfl) (by kernel_rfl) (by kernel_rfl) (fun _ _ _ h => h) (Or.inl ⟨by rfl, ?yr80⟩) (by assumption) ?rr80
    case yr80 => intro w1 hSw; obtain ⟨s1, s2, s3, s4⟩ := hSw; go_simp; try with_reducible rfl
    try simp only [List.getElem_toArray, List.getElem_cons_zero, List.getElem_cons_succ, Act.put, List.setIfInBounds_toArray, List.set_cons_zero, List.set_cons_succ]
    refine wpAnyH_take (i := 1) (oi := _) (v := ?vr81) rfl (by kernel_rfl) (by kernel_rfl) (by kernel_rfl) (fun _ _ _ h => h) (Or.inl ⟨by rfl, ?yr81⟩) (by assumption) ?rr81
    case yr81 => intro w1 hSw; obtain ⟨s1, s2, s3, s4⟩ := hSw; go_simp; try with_reducible rfl
    try simp only [List.getElem_toArray, List.getElem_cons_zero, List.getElem_cons_succ, Act.put, List.setIfInBounds_toArray, List.set_cons_zero, List.set_cons_succ]
    refine wpAnyH_take (i := 2) (oi := _) (v := ?vr82) rfl (by kernel_rfl) (by kernel_rfl) (by kernel_rfl) (fun _ _ _ h => h) (Or.inl ⟨by rfl, ?yr82⟩) (by assumption) ?rr82
    case yr82 => intro w1 hSw; obtain ⟨s1, s2, s3, s4⟩ := hSw; go_simp; try with_reducible rfl
    try simp only [List.getElem_toArray, List.getElem_cons_zero, List.getElem_cons_succ, Act.put, List.setIfInBounds_toArray, List.set_cons_zero, List.set_cons_succ]
    refine wpAnyH_take (i := 3) (oi := _) (v := ?vr83) rfl (by kernel_rfl) (by kernel_rfl) (by kernel_rfl) (fun _ _ _ h => h) (Or.inl ⟨by rfl, ?yr83⟩) (by assumption) ?rr83
    case yr83 => intro w1 hSw; obtain ⟨s1, s2, s3, s4⟩ := hSw; go_simp; try with_reducible rfl
    try simp only [List.getElem_toArray, List.getElem_cons_zero, List.getElem_cons_succ, Act.put, List.setIfInBounds_toArray, List.set_cons_zero, List.set_cons_succ]
    refine wpAnyH_take (i := 4) (oi := _) (v := ?vr84) rfl (by kernel_rfl) (by kernel_rfl) (by kernel_rfl) (fun _ _ _ h => h) (Or.inl ⟨by rfl, ?yr84⟩) (by assumption) ?rr84
    case yr84 => intro w1 hSw; obtain ⟨s1, s2, s3, s4⟩ := hSw; go_simp; try with_reducible rfl
    try simp only [List.getElem_toArray, List.getElem_cons_zero, List.getElem_cons_succ, Act.put, List.setIfInBounds_toArray, List.set_cons_zero, List.set_cons_succ]
    refine wpAnyH_take (i := 5) (oi := _) (v := ?vr85) rfl (by kernel_rfl) (by kernel_rfl) (by kernel_rfl) (fun _ _ _ h => h) (Or.inl ⟨by rfl, ?yr85⟩) (by assumption) ?rr85
    case yr85 => intro w1 hSw; obtain ⟨s1, s2, s3, s4⟩ := hSw; go_simp; try with_reducible rfl
    try simp only [List.getElem_toArray, List.getElem_cons_zero, List.getElem_cons_succ, Act.put, List.setIfInBounds_toArray, List.set_cons_zero, List.set_cons_succ]
    refine wpAnyH_take (i := 6) (oi := _) (v := ?vr86) rfl (by kernel_rfl) (by kernel_rfl) (by kernel_rfl) (fun _ _ _ h => h) (Or.inl ⟨by rfl, ?yr86⟩) (by assumption) ?rr86
    case yr86 => intro w1 hSw; obtain ⟨s1, s2, s3, s4⟩ := hSw; go_simp; try with_reducible rfl
    try simp only [List.getElem_toArray, List.getElem_cons_zero, List.getElem_cons_succ, Act.put, List.setIfInBounds_toArray, List.set_cons_zero, List.set_cons_succ]
    refine wpAnyH_take (i := 7) (oi := _) (v := ?vr87) rfl (by kernel_rfl) (by kernel_rfl) (by kernel_rfl) (fun _ _ _ h => h) (Or.inl ⟨by rfl, ?yr87⟩) (by assumption) ?rr87
    case yr87 => intro w1 hSw; obtain ⟨s1, s2, s3, s4⟩ := hSw; go_simp; try with_reducible rfl
    try simp only [List.getElem_toArray, List.getElem_cons_zero, List.getElem_cons_succ, Act.put, List.setIfInBounds_toArray, List.set_cons_zero, List.set_cons_succ]
    refine wpAnyH_take (i := 8) (oi := _) (v := ?vr88) rfl (by kernel_rfl) (by kernel_rfl) (by kernel_rfl) (fun _ _ _ h => h) (Or.inl ⟨by rfl, ?yr88⟩) (by assumption) ?rr88
    case yr88 => intro w1 hSw; obtain ⟨s1, s2, s3, s4⟩ := hSw; go_simp; try with_reducible rfl
    try simp only [List.getElem_toArray, List.getElem_cons_zero, List.getElem_cons_succ, Act.put, List.setIfInBounds_toArray, List.set_cons_zero, List.set_cons_succ]
    refine wpAnyH_take (i := 9) (oi := _) (v := ?vr89) rfl (by kernel_rfl) (by kernel_rfl) (by kernel_rfl) (fun _ _ _ h => h) (Or.inl ⟨by rfl, ?yr89⟩) (by assumption) ?rr89
    case yr89 => intro w1 hSw; obtain ⟨s1, s2, s3, s4⟩ := hSw; go_simp; try with_reducible rfl
    try simp only [List.getElem_toArray, List.getElem_cons_zero, List.getElem_cons_succ, Act.put, List.setIfInBounds_toArray, List.set_cons_zero, List.set_cons_succ]
    refine wpAnyH_take (i := 10) (oi := _) (v := ?vr810) rfl (by kernel_rfl) (by kernel_rfl) (by kernel_rfl) (fun _ _ _ h => h) (Or.inl ⟨by rfl, ?yr810⟩) (by assumption) ?rr810
    case yr810 => intro w1 hSw; obtain ⟨s1, s2, s3, s4⟩ := hSw; go_simp; try with_reducible rfl
    try simp only [List.getElem_toArray, List.getElem_cons_zero, List.getElem_cons_succ, Act.put, List.setIfInBounds_toArray, List.set_cons_zero, List.set_cons_succ]
    refine wpAnyH_take (i := 11) (oi := _) (v := ?vr811) rfl (by kernel_rfl) (by kernel_rfl) (by kernel_rfl) (fun _ _ _ h => h) (Or.inl ⟨by rfl, ?yr811⟩) (by assumption) ?rr811
    case yr811 => intro w1 hSw; obtain ⟨s1, s2, s3, s4⟩ := hSw; go_simp; try with_reducible rfl
    try simp only [List.getElem_toArray, List.getElem_cons_zero, List.getElem_cons_succ, Act.put, List.setIfInBounds_toArray, List.set_cons_zero, List.set_cons_succ]
    refine wpAnyH_take (i := 12) (oi := _) (v := ?vr812) rfl (by kernel_rfl) (by kernel_rfl) (by kernel_rfl) (fun _ _ _ h => h) (Or.inl ⟨by rfl, ?yr812⟩) (by assumption) ?rr812
    case yr812 => intro w1 hSw; obtain ⟨s1, s2, s3, s4⟩ := hSw; go_simp; try with_reducible rfl
    try simp only [List.getElem_toArray, List.getElem_cons_zero, List.getElem_cons_succ, Act.put, List.setIfInBounds_toArray, List.set_cons_zero, List.set_cons_succ]
    refine wpAnyH_take (i := 13) (oi := _) (v := ?vr813) rfl (by kernel_rfl) (by kernel_rfl) (by kernel_rfl) (fun _ _ _ h => h) (Or.inl ⟨by rfl, ?yr813⟩) (by assumption) ?rr813
    case yr813 => intro w1 hSw; obtain ⟨s1, s2, s3, s4⟩ := hSw; go_simp; try with_reducible rfl
    try simp only [List.getElem_toArray, List.getElem_cons_zero, List.getElem_cons_succ, Act.put, List.setIfInBounds_toArray, List.set_cons_zero, List.set_cons_succ]
    refine wpAnyH_take (i := 14) (oi := _) (v := ?vr814) rfl (by kernel_rfl) (by kernel_rfl) (by kernel_rfl) (fun _ _ _ h => h) (Or.inl ⟨by rfl, ?yr814⟩) (by assumption) ?rr814
    case yr814 => intro w1 hSw; obtain ⟨s1, s2, s3, s4⟩ := hSw; go_simp; try with_reducible rfl
    try simp only [List.getElem_toArray, List.getElem_cons_zero, List.getElem_cons_succ, Act.put, List.setIfInBounds_toArray, List.set_cons_zero, List.set_cons_succ]
    refine wpAnyH_take (i := 15) (oi := _) (v := ?vr815) rfl (by kernel_rfl) (by kernel_rfl) (by kernel_rfl) (fun _ _ _ h => h) (Or.inl ⟨by rfl, ?yr815⟩) (by assumption) ?rr815
    case yr815 => intro w1 hSw; obtain ⟨s1, s2, s3, s4⟩ := hSw; go_simp; try with_reducible rfl
    try simp only [List.getElem_toArray, List.getElem_cons_zero, List.getElem_cons_succ, Act.put, List.setIfInBounds_toArray, List.set_cons_zero, List.set_cons_succ]
    refine wpAnyH_take (i := 16) (oi := _) (v := ?vr816) rfl (by kernel_rfl) (by kernel_rfl) (by kernel_rfl) (fun _ _ _ h => h) (Or.inl ⟨by rfl, ?yr816⟩) (by assumption) ?rr816
    case yr816 => intro w1 hSw; obtain ⟨s1, s2, s3, s4⟩ := hSw; go_simp; try with_reducible rfl
    try simp only [List.getElem_toArray, List.getElem_cons_zero, List.getElem_cons_succ, Act.put, List.setIfInBounds_toArray, List.set_cons_zero, List.set_cons_succ]
    refine wpAnyH_take (i := 17) (oi := _) (v := ?vr817) rfl (by kernel_rfl) (by kernel_rfl) (by kernel_rfl) (fun _ _ _ h => h) (Or.inl ⟨by rfl, ?yr817⟩) (by assumption) ?rr817
    case yr817 => intro w1 hSw; obtain ⟨s1, s2, s3, s4⟩ := hSw; go_simp; try with_reducible rfl
    try simp only [List.getElem_toArray, List.getElem_cons_zero, List.getElem_cons_succ, Act.put, List.setIfInBounds_toArray, List.set_cons_zero, List.set_cons_succ]
    refine wpAnyH_take (i := 18) (oi := _) (v := ?vr818) rfl (by kernel_rfl) (by kernel_rfl) (by kernel_rfl) (fun _ _ _ h => h) (Or.inl ⟨by rfl, ?yr818⟩) (by assumption) ?rr818
    case yr818 => intro w1 hSw; obtain ⟨s1, s2, s3, s4⟩ := hSw; go_simp; try with_reducible rfl
    try simp only [List.getElem_toArray, List.getElem_cons_zero, List.getElem_cons_succ, Act.put, List.setIfInBounds_toArray, List.set_cons_zero, List.set_cons_succ]
    refine wpAnyH_take (i := 19) (oi := _) (v := ?vr819) rfl (by kernel_rfl) (by kernel_rfl) (by kernel_rfl) (fun _ _ _ h => h) (Or.inl ⟨by rfl, ?yr819⟩) (by assumption) ?rr819
    case yr819 => intro w1 hSw; obtain ⟨s1, s2, s3, s4⟩ := hSw; go_simp; try with_reducible rfl
    try simp only [List.getElem_toArray, List.getElem_cons_zero, List.getElem_cons_succ, Act.put, List.setIfInBounds_toArray, List.set_cons_zero, List.set_cons_succ]
    clear hw4 hfd HS3 HB3 HF3 HM3
    clear c0 c1 c2 c3 c4 c5 c6 d0 d1 d2 d3 d4 d5 d6 d7 d8 f0 f1 f2 f5 f6
    have hok1 : iKE.ok ((s1.n : Int)) := wf_of (by omega) (by have := HFEW.out; omega)
    have hne := HNE.out
    have hbb := HBB.out
    have hnn := HS4.out.ne
    obtain ⟨v0, st0, w5, hrunA, hfA, hnA⟩ := mentry HM4.out.1 (by have := HN.out; omega) hok1
    have bH5 := HS4.out.b.fr hfA (by omega)
    have bB5 := HB4.out.fr hfA (by omega)
    have HF5 : Hid (Fr (fun k => k = ob) w4 w5) := Lib.hid hfA
    obtain ⟨w6, hrunB, hfB, hMB⟩ := hnA w5 (e.ref) (Fr.refl _ _)
    have bH6 := bH5.fr hfB (by omega)
    have bB6 := bB5.fr hfB (by omega)
    have hok2 : iKE.ok (e.ref) := ok_of HRT.out
    have hm6 : ∃ c, c ≤ s.n ∧ Mp iKE w6 fb c (mI s1.from_) := by
      obtain ⟨c, hc, hM⟩ := HM4.out.2
      exact ⟨c, hc, (hM.fr hfA (by omega)).fr hfB (by omega)⟩
    obtain ⟨v1, st1, w7, hrunC, hfC, hnC⟩ := mentry hm6 (by have := HN.out; omega) hok2
    have bH7 := bH6.fr hfC (by omega)
    have bB7 := bB6.fr hfC (by omega)
    obtain ⟨w8, hrunD, hfD, hMD⟩ := hnC w7 ((s1.n : Int)) (Fr.refl _ _)
    have bH8 := bH7.fr hfD (by omega)
    have bB8 := bB7.fr hfD (by omega)
    have hfr48 : Fr (fun k => k = ob ∨ k = fb) w4 w8 := (((hfA.trans hfB).mono fun _ e => .inl e).trans ((hfC.trans hfD).mono fun _ e => .inr e))
    have hfr68 : Fr (fun k => k = fb) w6 w8 := hfC.trans hfD
    have HS8 : Hid (HS w8 hb kb ib ob fb { s1 with of_ := put1 s1.of_ s1.n (some e.ref), from_ := put1 s1.from_ e.ref (some s1.n) }) := Lib.hid (by
      obtain ⟨n1, n2, n3, n4, n5, n6⟩ := hnn
      have h4 := HS4.out
      have hN1 := HN1.out
      have hMB' : ∃ c, c ≤ s1.n ∧ Mp iKE w8 ob c (mI (put1 s1.of_ ((s1.n : Int)) (some (e.ref)))) := by
        obtain ⟨c, hc, hM⟩ := hMB
        exact ⟨c, by omega, hM.fr hfr68 (by omega)⟩
      have hMD' : ∃ c, c ≤ s1.n ∧ Mp iKE w8 fb c (mI (put1 s1.from_ (e.ref) (some ((s1.n : Int))))) := by
        obtain ⟨c, hc, hM⟩ := hMD
        exact ⟨c, by omega, hM⟩
      have hrestm : ∀ (b : Nat) (G : Int → Option Int), b ≠ ob → b ≠ fb → (∃ c, c ≤ s1.n ∧ Mp iKE w4 b c (mI G)) → ∃ c, c ≤ s1.n ∧ Mp iKE w8 b c (mI G) := fun b G h1 h2 h => by obtain ⟨c, hc, hM⟩ := h; exact ⟨c, hc, hM.fr hfr48 (by omega)⟩
      refine ⟨bH8, hrestm kb _ (by omega) (by omega) h4.k, hrestm ib _ (by omega) (by omega) h4.i, hMB', hMD', h4.ne, h4.few, ?_, ?_⟩
      · exact h4.dk
      · intro x v hx; by_cases e2 : x = (s1.n : Int); (simp [put1, e2] at hx; have := HRG.out; omega); exact h4.dv x v (by simpa [put1, e2] using hx))
    have HB8 := Lib.hid bB8
    have HF8 : Hid (Fr (Own hb kb ib ob fb) W w8) := Lib.hid (HF4.out.trans (hfr48.mono fun _ e => by rcases e with e | e <;> simp [Own, e]))
    clear hMB hMD hnA hnC hm6 hfr48 hfr68 hfA hfB hfC hfD HF5 hok1 hok2 hnn hbb hne HM4
    have d0 := bH5.cell 0
    have d7 := bH5.cell 7
    have d8 := bH5.cell 8
    have c2 := bB5.cell 2
    simp only [hcells, evc, List.getElem?_toArray, List.getElem?_cons_zero, List.getElem?_cons_succ] at d0 d7 d8 c2
    refine wpAnyH_ready (rs := [20]) (by kernel_rfl) (by simp) ?_
    refine AllReadyH.cons (o := _) rfl (fun K hK => ?_) AllReadyH.nil
    rw [if_pos (by rfl)]
    try simp only [List.getElem_toArray, List.getElem_cons_zero, List.getElem_cons_succ]
    go_simp
    refine hK.out _ _ ⟨d0, d7, d8, c2⟩ (fun hHeld2 => ?_)
    clear hK K hHeld
    try simp only [List.getElem_toArray, List.getElem_cons_zero, List.getElem_cons_succ, Act.put, List.setIfInBounds_toArray, List.set_cons_zero, List.set_cons_succ]
    clear d0 d7 d8 c2
    refine wpAnyH_take (i := 21) (oi := _) (v := ?vu821) rfl (by kernel_rfl) (by kernel_rfl) (by kernel_rfl) (fun _ _ _ h => h) (Or.inl ⟨by rfl, ?yu821⟩) (by assumption) ?ru821
    case yu821 => intro w1 hSw; obtain ⟨s1, s2, s3, s4⟩ := hSw; go_simp; try with_reducible rfl
    try simp only [List.getElem_toArray, List.getElem_cons_zero, List.getElem_cons_succ, Act.put, List.setIfInBounds_toArray, List.set_cons_zero, List.set_cons_succ]
    have d0 := bH6.cell 0
    have d7 := bH6.cell 7
    have d8 := bH6.cell 8
    have c2 := bB6.cell 2
    simp only [hcells, evc, List.getElem?_toArray, List.getElem?_cons_zero, List.getElem?_cons_succ] at d0 d7 d8 c2
    refine wpAnyH_ready (rs := [22]) (by kernel_rfl) (by simp) ?_
    refine AllReadyH.cons (o := _) rfl (fun K hK => ?_) AllReadyH.nil
    rw [if_pos (by rfl)]
    try simp only [List.getElem_toArray, List.getElem_cons_zero, List.getElem_cons_succ]
    go_simp
    refine hK.out _ _ ⟨d0, d7, d8, c2⟩ (fun hHeld3 => ?_)
    clear hK K hHeld2
    try simp only [List.getElem_toArray, List.getElem_cons_zero, List.getElem_cons_succ, Act.put, List.setIfInBounds_toArray, List.set_cons_zero, List.set_cons_succ]
    clear d0 d7 d8 c2
    have d0 := bH7.cell 0
    have d7 := bH7.cell 7
    have d8 := bH7.cell 8
    have c2 := bB7.cell 2
    simp only [hcells, evc, List.getElem?_toArray, List.getElem?_cons_zero, List.getElem?_cons_succ] at d0 d7 d8 c2
    refine wpAnyH_ready (rs := [23]) (by kernel_rfl) (by simp) ?_
    refine AllReadyH.cons (o := _) rfl (fun K hK => ?_) AllReadyH.nil
    rw [if_pos (by rfl)]
    try simp only [List.getElem_toArray, List.getElem_cons_zero, List.getElem_cons_succ]
    go_simp
    refine hK.out _ _ ⟨d0, d7, d8, c2⟩ (fun hHeld4 => ?_)
    clear hK K hHeld3
    try simp only [List.getElem_toArray, List.getElem_cons_zero, List.getElem_cons_succ, Act.put, List.setIfInBounds_toArray, List.set_cons_zero, List.set_cons_succ]
    clear d0 d7 d8 c2
    refine wpAnyH_take (i := 24) (oi := _) (v := ?vv824) rfl (by kernel_rfl) (by kernel_rfl) (by kernel_rfl) (fun _ _ _ h => h) (Or.inl ⟨by rfl, ?yv824⟩) (by assumption) ?rv824
    case yv824 => intro w1 hSw; obtain ⟨s1, s2, s3, s4⟩ := hSw; go_simp; try with_reducible rfl
    try simp only [List.getElem_toArray, List.getElem_cons_zero, List.getElem_cons_succ, Act.put, List.setIfInBounds_toArray, List.set_cons_zero, List.set_cons_succ]
    have d0 := bH8.cell 0
    have d7 := bH8.cell 7
    have d8 := bH8.cell 8
    have c2 := bB8.cell 2
    simp only [hcells, evc, List.getElem?_toArray, List.getElem?_cons_zero, List.getElem?_cons_succ] at d0 d7 d8 c2
    refine wpAnyH_ready (rs := [25]) (by kernel_rfl) (by simp) ?_
    refine AllReadyH.cons (o := _) rfl (fun K hK => ?_) AllReadyH.nil
    rw [if_pos (by rfl)]
    try simp only [List.getElem_toArray, List.getElem_cons_zero, List.getElem_cons_succ]
    go_simp
    refine hK.out _ _ ⟨d0, d7, d8, c2⟩ (fun hHeld5 => ?_)
    clear hK K hHeld4
    try simp only [List.getElem_toArray, List.getElem_cons_zero, List.getElem_cons_succ, Act.put, List.setIfInBounds_toArray, List.set_cons_zero, List.set_cons_succ]
    clear d0 d7 d8 c2
    refine wpAnyH_done (by kernel_rfl) ?_ _
    clear hHeld5 bH5 bH6 bH7 bH8 bB5 bB6 bB7 bB8 hrunA hrunB hrunC hrunD HS4 HB4 HF4
    have c0 := HB8.out.cell 0
    have c1 := HB8.out.cell 1
    have c2 := HB8.out.cell 2
    have c3 := HB8.out.cell 3
    have c4 := HB8.out.cell 4
    have c5 := HB8.out.cell 5
    have c6 := HB8.out.cell 6
    simp only [evc, List.getElem?_toArray, List.getElem?_cons_zero, List.getElem?_cons_succ] at c0 c1 c2 c3 c4 c5 c6
    have d0 := HS8.out.b.cell 0
    have d1 := HS8.out.b.cell 1
    have d2 := HS8.out.b.cell 2
    have d3 := HS8.out.b.cell 3
    have d4 := HS8.out.b.cell 4
    have d5 := HS8.out.b.cell 5
    have d6 := HS8.out.b.cell 6
    have d7 := HS8.out.b.cell 7
    have d8 := HS8.out.b.cell 8
    have f0 := HS8.out.b.frozen 0
    have f1 := HS8.out.b.frozen 1
    have f2 := HS8.out.b.frozen 2
    have f5 := HS8.out.b.frozen 5
    have f6 := HS8.out.b.frozen 6
    simp only [hcells, List.getElem?_toArray, List.getElem?_cons_zero, List.getElem?_cons_succ] at d0 d1 d2 d3 d4 d5 d6 d7 d8
    have HAD2 : Hid (addO s e = { s1 with of_ := put1 s1.of_ s1.n (some e.ref), from_ := put1 s1.from_ e.ref (some s1.n) }) := Lib.hid (by rw [HAD.out, closes_no pcl]; simp [turned, HK.out])
    clear HAD
    clear q2 q3 q4 q5 q6 q7 q8 q9 q10 q11 q12 q13 q14 q17 q18
    have HPC := Lib.hid pcl
    go_wp2_with (first | (go_at_call 100; refine (closes_any _ _).mono ?_; rintro e3 w9 ⟨rfl, rfl⟩; rw [HPC.out]) | go_in)
    go_ret2
    refine ⟨?_, ?_, HF8.out⟩
    · rw [HC.out]; rfl
    · rw [HAD2.out]; exact HS8.out
  have q8 : (e.k == 8) = false := by simp [k8]
  by_cases k9 : e.k = 9
  · have HK := Lib.hid k9
    clear k9
    have q2 : (e.k == 2) = false := by rw [HK.out]; rfl
    have q3 : (e.k == 3) = false := by rw [HK.out]; rfl
    have q4 : (e.k == 4) = false := by rw [HK.out]; rfl
    have q5 : (e.k == 5) = false := by rw [HK.out]; rfl
    have q6 : (e.k == 6) = false := by rw [HK.out]; rfl
    have q7 : (e.k == 7) = false := by rw [HK.out]; rfl
    have q8 : (e.k == 8) = false := by rw [HK.out]; rfl
    have q9 : (e.k == 9) = true := by rw [HK.out]; rfl
    have q10 : (e.k == 10) = false := by rw [HK.out]; rfl
    have q11 : (e.k == 11) = false := by rw [HK.out]; rfl
    have q12 : (e.k == 12) = false := by rw [HK.out]; rfl
    have q13 : (e.k == 13) = false := by rw [HK.out]; rfl
    have q14 : (e.k == 14) = false := by rw [HK.out]; rfl
    have q17 : (e.k == 17) = false := by rw [HK.out]; rfl
    have q18 : (e.k == 18) = false := by rw [HK.out]; rfl
    have pcl : closeB e.k = false := by rw [HK.out]; rfl
    have hok := ok_of HRT.out
    have HOK := Lib.hid hok
    have ml : ∀ z, (Instr.lookup 132 (.map (some ob)) (.int .i64 e.ref) false).run Try.prog (w3.drewN z) = .ok (.int .i64 ((s1.of_ e.ref).getD 0)) (w3.drewN z) := fun z => mlook (HS3.out.fr0 (Fr.drewN _ w3 z)).o hok
    obtain ⟨at9, hat9⟩ : ∃ z, ((s1.of_ e.ref).getD 0) = z := ⟨_, rfl⟩
    have HAT := Lib.hid hat9
    rw [hat9] at ml
    have hok9 : iKE.ok at9 := by
      rw [← hat9]
      cases ho : s1.of_ e.ref with
      | none => exact wf_of (by decide) (by decide)
      | some v => have := HS3.out.dv _ _ ho; exact wf_of (by simp; omega) (by simp; omega)
    have HOK9 := Lib.hid hok9
    clear hok hok9 hat9
    go_upto_region 23 with (fail)
    go_quiet (fail)
    have hfd : Fr (fun _ => False) w3 (w3.drewN nq) := Fr.drewN _ w3 nq
    have HS4 := Lib.hid (HS3.out.fr0 hfd)
    have HB4 := Lib.hid (HB3.out.fr hfd id)
    have HF4 := Lib.hid (HF3.out.trans (hfd.mono fun _ e => e.elim))
    obtain ⟨w4, hw4⟩ : ∃ w, w3.drewN nq = w := ⟨_, rfl⟩
    rw [hw4] at HS4 HB4 HF4 ⊢
    clear hw4 hfd ml HS3 HB3 HF3
    clear c0 c1 c2 c3 c4 c5 c6 d0 d1 d2 d3 d4 d5 d6 d7 d8 f0 f1 f2 f5 f6
    have c0 := HB4.out.cell 0
    have c1 := HB4.out.cell 1
    have c2 := HB4.out.cell 2
    have c3 := HB4.out.cell 3
    have c4 := HB4.out.cell 4
    have c5 := HB4.out.cell 5
    have c6 := HB4.out.cell 6
    simp only [evc, List.getElem?_toArray, List.getElem?_cons_zero, List.getElem?_cons_succ] at c0 c1 c2 c3 c4 c5 c6
    have d0 := HS4.out.b.cell 0
    have d1 := HS4.out.b.cell 1
    have d2 := HS4.out.b.cell 2
    have d3 := HS4.out.b.cell 3
    have d4 := HS4.out.b.cell 4
    have d5 := HS4.out.b.cell 5
    have d6 := HS4.out.b.cell 6
    have d7 := HS4.out.b.cell 7
    have d8 := HS4.out.b.cell 8
    have f0 := HS4.out.b.frozen 0
    have f1 := HS4.out.b.frozen 1
    have f2 := HS4.out.b.frozen 2
    have f5 := HS4.out.b.frozen 5
    have f6 := HS4.out.b.frozen 6
    simp only [hcells, List.getElem?_toArray, List.getElem?_cons_zero, List.getElem?_cons_succ] at d0 d1 d2 d3 d4 d5 d6 d7 d8
    go_upto_region 24 with (fail)
    have hfd : Fr (fun _ => False) w4 w4.drew := Fr.drewN _ w4 1
    have HS5 := Lib.hid (HS4.out.fr0 hfd)
    have HB5 := Lib.hid (HB4.out.fr hfd id)
    have HF5 := Lib.hid (HF4.out.trans (hfd.mono fun _ e => e.elim))
    obtain ⟨w5, hw5⟩ : ∃ w, w4.drew = w := ⟨_, rfl⟩
    rw [hw5] at HS5 HB5 HF5
    refine wp_region_held_drew (S := fun (w' : World) => w'.cell? ⟨hb, 7, none⟩ = some (.map (some ob)) ∧ w'.cell? ⟨bb, 2, none⟩ = some (.int .i64 e.ref)) (by kernel_rfl) ⟨d7, c2⟩ (fun hHeld => ?_)
    rw [hw5] at hHeld ⊢
    refine wpAnyH_take (i := 0) (oi := _) (v := ?vx90) rfl (by kernel_rfl) (by kernel_rfl) (by kernel_rfl) (fun _ _ _ h => h) (Or.inl ⟨by rfl, ?yx90⟩) (by assumption) ?rx90
    case yx90 => intro w1 hSw; obtain ⟨s1, s2⟩ := hSw; go_simp; try with_reducible rfl
    try simp only [List.getElem_toArray, List.getElem_cons_zero, List.getElem_cons_succ, Act.put, List.setIfInBounds_toArray, List.set_cons_zero, List.set_cons_succ]
    refine wpAnyH_take (i := 1) (oi := _) (v := ?vx91) rfl (by kernel_rfl) (by kernel_rfl) (by kernel_rfl) (fun _ _ _ h => h) (Or.inl ⟨by rfl, ?yx91⟩) (by assumption) ?rx91
    case yx91 => intro w1 hSw; obtain ⟨s1, s2⟩ := hSw; go_simp; try with_reducible rfl
    try simp only [List.getElem_toArray, List.getElem_cons_zero, List.getElem_cons_succ, Act.put, List.setIfInBounds_toArray, List.set_cons_zero, List.set_cons_succ]
    refine wpAnyH_take (i := 2) (oi := _) (v := ?vx92) rfl (by kernel_rfl) (by kernel_rfl) (by kernel_rfl) (fun _ _ _ h => h) (Or.inl ⟨by rfl, ?yx92⟩) (by assumption) ?rx92
    case yx92 => intro w1 hSw; obtain ⟨s1, s2⟩ := hSw; go_simp; try with_reducible rfl
    try simp only [List.getElem_toArray, List.getElem_cons_zero, List.getElem_cons_succ, Act.put, List.setIfInBounds_toArray, List.set_cons_zero, List.set_cons_succ]
    refine wpAnyH_take (i := 3) (oi := _) (v := ?vx93) rfl (by kernel_rfl) (by kernel_rfl) (by kernel_rfl) (fun _ _ _ h => h) (Or.inl ⟨by rfl, ?yx93⟩) (by assumption) ?rx93
    case yx93 => intro w1 hSw; obtain ⟨s1, s2⟩ := hSw; go_simp; try with_reducible rfl
    try simp only [List.getElem_toArray, List.getElem_cons_zero, List.getElem_cons_succ, Act.put, List.setIfInBounds_toArray, List.set_cons_zero, List.set_cons_succ]
    refine wpAnyH_take (i := 4) (oi := _) (v := ?vx94) rfl (by kernel_rfl) (by kernel_rfl) (by kernel_rfl) (fun _ _ _ h => h) (Or.inl ⟨by rfl, ?yx94⟩) (by assumption) ?rx94
    case yx94 => intro w1 hSw; obtain ⟨s1, s2⟩ := hSw; go_simp; try with_reducible rfl
    try simp only [List.getElem_toArray, List.getElem_cons_zero, List.getElem_cons_succ, Act.put, List.setIfInBounds_toArray, List.set_cons_zero, List.set_cons_succ]
    refine wpAnyH_take (i := 5) (oi := _) (v := ?vx95) rfl (by kernel_rfl) (by kernel_rfl) (by kernel_rfl) (fun _ _ _ h => h) (Or.inl ⟨by rfl, ?yx95⟩) (by assumption) ?rx95
    case yx95 => intro w1 hSw; obtain ⟨s1, s2⟩ := hSw; go_simp; try with_reducible rfl
    try simp only [List.getElem_toArray, List.getElem_cons_zero, List.getElem_cons_succ, Act.put, List.setIfInBounds_toArray, List.set_cons_zero, List.set_cons_succ]
    clear hw5 hfd HS4 HB4 HF4
    clear c0 c1 c2 c3 c4 c5 c6 d0 d1 d2 d3 d4 d5 d6 d7 d8 f0 f1 f2 f5 f6
    obtain ⟨w6, hrun6, hM6, hf6⟩ := mdrop HS5.out.o HOK.out 0
    have HS6 : Hid (HS w6 hb kb ib ob fb { s1 with of_ := put1 s1.of_ e.ref none }) := Lib.hid (by
      have h := HS5.out
      have hne := HNE.out
      obtain ⟨n1, n2, n3, n4, n5, n6⟩ := h.ne
      refine ⟨h.b.fr hf6 (by omega), ?_, ?_, hM6, ?_, h.ne, h.few, h.dk, fun x v hx => ?_⟩
      · obtain ⟨c, hc, hM⟩ := h.k; exact ⟨c, hc, hM.fr hf6 (by omega)⟩
      · obtain ⟨c, hc, hM⟩ := h.i; exact ⟨c, hc, hM.fr hf6 (by omega)⟩
      · obtain ⟨c, hc, hM⟩ := h.f; exact ⟨c, hc, hM.fr hf6 (by omega)⟩
      · by_cases ex : x = e.ref
        · simp [put1, ex] at hx
        · exact h.dv x v (by simpa [put1, ex] using hx))
    have HB6 := Lib.hid (HB5.out.fr hf6 (by have := HBB.out; omega))
    have HF6 : Hid (Fr (Own hb kb ib ob fb) W w6) := Lib.hid (HF5.out.trans (hf6.mono fun _ e => by simp [Own, e]))
    clear hM6 hf6 HS5 HB5 HF5
    have c0 := HB6.out.cell 0
    have c1 := HB6.out.cell 1
    have c2 := HB6.out.cell 2
    have c3 := HB6.out.cell 3
    have c4 := HB6.out.cell 4
    have c5 := HB6.out.cell 5
    have c6 := HB6.out.cell 6
    simp only [evc, List.getElem?_toArray, List.getElem?_cons_zero, List.getElem?_cons_succ] at c0 c1 c2 c3 c4 c5 c6
    have d0 := HS6.out.b.cell 0
    have d1 := HS6.out.b.cell 1
    have d2 := HS6.out.b.cell 2
    have d3 := HS6.out.b.cell 3
    have d4 := HS6.out.b.cell 4
    have d5 := HS6.out.b.cell 5
    have d6 := HS6.out.b.cell 6
    have d7 := HS6.out.b.cell 7
    have d8 := HS6.out.b.cell 8
    have f0 := HS6.out.b.frozen 0
    have f1 := HS6.out.b.frozen 1
    have f2 := HS6.out.b.frozen 2
    have f5 := HS6.out.b.frozen 5
    have f6 := HS6.out.b.frozen 6
    simp only [hcells, List.getElem?_toArray, List.getElem?_cons_zero, List.getElem?_cons_succ] at d0 d1 d2 d3 d4 d5 d6 d7 d8
    refine wpAnyH_ready (rs := [6]) (by kernel_rfl) (by simp) ?_
    refine AllReadyH.cons (o := _) rfl (fun K hK => ?_) AllReadyH.nil
    rw [if_pos (by rfl)]
    try simp only [List.getElem_toArray, List.getElem_cons_zero, List.getElem_cons_succ]
    go_simp
    refine hK.out _ _ ⟨d7, c2⟩ (fun hHeld2 => ?_)
    clear hK K hHeld
    try simp only [List.getElem_toArray, List.getElem_cons_zero, List.getElem_cons_succ, Act.put, List.setIfInBounds_toArray, List.set_cons_zero, List.set_cons_succ]
    refine wpAnyH_done (by kernel_rfl) ?_ _
    clear hHeld2 hrun6
    obtain ⟨w7, hrun7, hM7, hf7⟩ := mdrop HS6.out.f HOK9.out 0
    have HS7 : Hid (HS w7 hb kb ib ob fb { s1 with of_ := put1 s1.of_ e.ref none, from_ := put1 s1.from_ at9 none }) := Lib.hid (by
      have h := HS6.out
      have hne := HNE.out
      obtain ⟨n1, n2, n3, n4, n5, n6⟩ := h.ne
      refine ⟨h.b.fr hf7 (by omega), ?_, ?_, ?_, hM7, h.ne, h.few, h.dk, h.dv⟩
      · obtain ⟨c, hc, hM⟩ := h.k; exact ⟨c, hc, hM.fr hf7 (by omega)⟩
      · obtain ⟨c, hc, hM⟩ := h.i; exact ⟨c, hc, hM.fr hf7 (by omega)⟩
      · obtain ⟨c, hc, hM⟩ := h.o; exact ⟨c, hc, hM.fr hf7 (by omega)⟩)
    have HB7 := Lib.hid (HB6.out.fr hf7 (by have := HBB.out; omega))
    have HF7 : Hid (Fr (Own hb kb ib ob fb) W w7) := Lib.hid (HF6.out.trans (hf7.mono fun _ e => by simp [Own, e]))
    clear hM7 hf7 HB6 HF6
    go_upto_region 26 with (fail)
    clear hrun7
    have HDR := Lib.hid (drop_any w7 hb kb ib ob fb _ HS7.out at9 HOK9.out)
    go_upto_region 31 with (first | (go_at_call 99; refine HDR.out.mono ?_; rintro e2 w8 ⟨rfl, hs8, hf8⟩) | go_in)
    have HS8 := Lib.hid hs8
    have HB8 := Lib.hid (HB7.out.fr hf8 (by have := HBB.out; omega))
    have HF8 : Hid (Fr (Own hb kb ib ob fb) W w8) := Lib.hid (HF7.out.trans (hf8.mono fun _ e => by rcases e with e | e <;> simp [Own, e]))
    clear HDR hs8 hf8 HS7 HB7 HF7 HS6
    clear c0 c1 c2 c3 c4 c5 c6 d0 d1 d2 d3 d4 d5 d6 d7 d8 f0 f1 f2 f5 f6
    have c0 := HB8.out.cell 0
    have c1 := HB8.out.cell 1
    have c2 := HB8.out.cell 2
    have c3 := HB8.out.cell 3
    have c4 := HB8.out.cell 4
    have c5 := HB8.out.cell 5
    have c6 := HB8.out.cell 6
    simp only [evc, List.getElem?_toArray, List.getElem?_cons_zero, List.getElem?_cons_succ] at c0 c1 c2 c3 c4 c5 c6
    have d0 := HS8.out.b.cell 0
    have d1 := HS8.out.b.cell 1
    have d2 := HS8.out.b.cell 2
    have d3 := HS8.out.b.cell 3
    have d4 := HS8.out.b.cell 4
    have d5 := HS8.out.b.cell 5
    have d6 := HS8.out.b.cell 6
    have d7 := HS8.out.b.cell 7
    have d8 := HS8.out.b.cell 8
    have f0 := HS8.out.b.frozen 0
    have f1 := HS8.out.b.frozen 1
    have f2 := HS8.out.b.frozen 2
    have f5 := HS8.out.b.frozen 5
    have f6 := HS8.out.b.frozen 6
    simp only [hcells, dropped, List.getElem?_toArray, List.getElem?_cons_zero, List.getElem?_cons_succ] at d0 d1 d2 d3 d4 d5 d6 d7 d8
    have HAD2 : Hid (addO s e = dropped { s1 with of_ := put1 s1.of_ e.ref none, from_ := put1 s1.from_ at9 none } at9) := Lib.hid (by rw [HAD.out, closes_no pcl]; simp only [turned, HK.out]; simp [HAT.out])
    clear HAD
    clear q2 q3 q4 q5 q6 q7 q8 q9 q10 q11 q12 q13 q14 q17 q18
    have HPC := Lib.hid pcl
    go_wp2_with (first | (go_at_call 100; refine (closes_any _ _).mono ?_; rintro e3 w9 ⟨rfl, rfl⟩; rw [HPC.out]) | go_in)
    go_ret2
    refine ⟨?_, ?_, HF8.out⟩
    · rw [HC.out]; rfl
    · rw [HAD2.out]; exact HS8.out
  have q9 : (e.k == 9) = false := by simp [k9]
  by_cases k10 : e.k = 10
  · have HK := Lib.hid k10
    clear k10
    have q2 : (e.k == 2) = false := by rw [HK.out]; rfl
    have q3 : (e.k == 3) = false := by rw [HK.out]; rfl
    have q4 : (e.k == 4) = false := by rw [HK.out]; rfl
    have q5 : (e.k == 5) = false := by rw [HK.out]; rfl
    have q6 : (e.k == 6) = false := by rw [HK.out]; rfl
    have q7 : (e.k == 7) = false := by rw [HK.out]; rfl
    have q8 : (e.k == 8) = false := by rw [HK.out]; rfl
    have q9 : (e.k == 9) = false := by rw [HK.out]; rfl
    have q10 : (e.k == 10) = true := by rw [HK.out]; rfl
    have q11 : (e.k == 11) = false := by rw [HK.out]; rfl
    have q12 : (e.k == 12) = false := by rw [HK.out]; rfl
    have q13 : (e.k == 13) = false := by rw [HK.out]; rfl
    have q14 : (e.k == 14) = false := by rw [HK.out]; rfl
    have q17 : (e.k == 17) = false := by rw [HK.out]; rfl
    have q18 : (e.k == 18) = false := by rw [HK.out]; rfl
    have pcl : closeB e.k = false := by rw [HK.out]; rfl
    have hok := ok_of HRT.out
    have HOK := Lib.hid hok
    have ml : ∀ z, (Instr.lookup 132 (.map (some ob)) (.int .i64 e.ref) false).run Try.prog (w3.drewN z) = .ok (.int .i64 ((s1.of_ e.ref).getD 0)) (w3.drewN z) := fun z => mlook (HS3.out.fr0 (Fr.drewN _ w3 z)).o hok
    obtain ⟨at9, hat9⟩ : ∃ z, ((s1.of_ e.ref).getD 0) = z := ⟨_, rfl⟩
    have HAT := Lib.hid hat9
    rw [hat9] at ml
    have hok9 : iKE.ok at9 := by
      rw [← hat9]
      cases ho : s1.of_ e.ref with
      | none => exact wf_of (by decide) (by decide)
      | some v => have := HS3.out.dv _ _ ho; exact wf_of (by simp; omega) (by simp; omega)
    have HOK9 := Lib.hid hok9
    clear hok hok9 hat9
    go_upto_region 23 with (fail)
    go_quiet (fail)
    have hfd : Fr (fun _ => False) w3 (w3.drewN nq) := Fr.drewN _ w3 nq
    have HS4 := Lib.hid (HS3.out.fr0 hfd)
    have HB4 := Lib.hid (HB3.out.fr hfd id)
    have HF4 := Lib.hid (HF3.out.trans (hfd.mono fun _ e => e.elim))
    obtain ⟨w4, hw4⟩ : ∃ w, w3.drewN nq = w := ⟨_, rfl⟩
    rw [hw4] at HS4 HB4 HF4 ⊢
    clear hw4 hfd ml HS3 HB3 HF3
    clear c0 c1 c2 c3 c4 c5 c6 d0 d1 d2 d3 d4 d5 d6 d7 d8 f0 f1 f2 f5 f6
    have c0 := HB4.out.cell 0
    have c1 := HB4.out.cell 1
    have c2 := HB4.out.cell 2
    have c3 := HB4.out.cell 3
    have c4 := HB4.out.cell 4
    have c5 := HB4.out.cell 5
    have c6 := HB4.out.cell 6
    simp only [evc, List.getElem?_toArray, List.getElem?_cons_zero, List.getElem?_cons_succ] at c0 c1 c2 c3 c4 c5 c6
    have d0 := HS4.out.b.cell 0
    have d1 := HS4.out.b.cell 1
    have d2 := HS4.out.b.cell 2
    have d3 := HS4.out.b.cell 3
    have d4 := HS4.out.b.cell 4
    have d5 := HS4.out.b.cell 5
    have d6 := HS4.out.b.cell 6
    have d7 := HS4.out.b.cell 7
    have d8 := HS4.out.b.cell 8
    have f0 := HS4.out.b.frozen 0
    have f1 := HS4.out.b.frozen 1
    have f2 := HS4.out.b.frozen 2
    have f5 := HS4.out.b.frozen 5
    have f6 := HS4.out.b.frozen 6
    simp only [hcells, List.getElem?_toArray, List.getElem?_cons_zero, List.getElem?_cons_succ] at d0 d1 d2 d3 d4 d5 d6 d7 d8
    go_upto_region 24 with (fail)
    have hfd : Fr (fun _ => False) w4 w4.drew := Fr.drewN _ w4 1
    have HS5 := Lib.hid (HS4.out.fr0 hfd)
    have HB5 := Lib.hid (HB4.out.fr hfd id)
    have HF5 := Lib.hid (HF4.out.trans (hfd.mono fun _ e => e.elim))
    obtain ⟨w5, hw5⟩ : ∃ w, w4.drew = w := ⟨_, rfl⟩
    rw [hw5] at HS5 HB5 HF5
    refine wp_region_held_drew (S := fun (w' : World) => w'.cell? ⟨hb, 7, none⟩ = some (.map (some ob)) ∧ w'.cell? ⟨bb, 2, none⟩ = some (.int .i64 e.ref)) (by kernel_rfl) ⟨d7, c2⟩ (fun hHeld => ?_)
    rw [hw5] at hHeld ⊢
    refine wpAnyH_take (i := 0) (oi := _) (v := ?vx100) rfl (by kernel_rfl) (by kernel_rfl) (by kernel_rfl) (fun _ _ _ h => h) (Or.inl ⟨by rfl, ?yx100⟩) (by assumption) ?rx100
    case yx100 => intro w1 hSw; obtain ⟨s1, s2⟩ := hSw; go_simp; try with_reducible rfl
    try simp only [List.getElem_toArray, List.getElem_cons_zero, List.getElem_cons_succ, Act.put, List.setIfInBounds_toArray, List.set_cons_zero, List.set_cons_succ]
    refine wpAnyH_take (i := 1) (oi := _) (v := ?vx101) rfl (by kernel_rfl) (by kernel_rfl) (by kernel_rfl) (fun _ _ _ h => h) (Or.inl ⟨by rfl, ?yx101⟩) (by assumption) ?rx101
    case yx101 => intro w1 hSw; obtain ⟨s1, s2⟩ := hSw; go_simp; try with_reducible rfl
    try simp only [List.getElem_toArray, List.getElem_cons_zero, List.getElem_cons_succ, Act.put, List.setIfInBounds_toArray, List.set_cons_zero, List.set_cons_succ]
    refine wpAnyH_take (i := 2) (oi := _) (v := ?vx102) rfl (by kernel_rfl) (by kernel_rfl) (by kernel_rfl) (fun _ _ _ h => h) (Or.inl ⟨by rfl, ?yx102⟩) (by assumption) ?rx102
    case yx102 => intro w1 hSw; obtain ⟨s1, s2⟩ := hSw; go_simp; try with_reducible rfl
    try simp only [List.getElem_toArray, List.getElem_cons_zero, List.getElem_cons_succ, Act.put, List.setIfInBounds_toArray, List.set_cons_zero, List.set_cons_succ]
    refine wpAnyH_take (i := 3) (oi := _) (v := ?vx103) rfl (by kernel_rfl) (by kernel_rfl) (by kernel_rfl) (fun _ _ _ h => h) (Or.inl ⟨by rfl, ?yx103⟩) (by assumption) ?rx103
    case yx103 => intro w1 hSw; obtain ⟨s1, s2⟩ := hSw; go_simp; try with_reducible rfl
    try simp only [List.getElem_toArray, List.getElem_cons_zero, List.getElem_cons_succ, Act.put, List.setIfInBounds_toArray, List.set_cons_zero, List.set_cons_succ]
    refine wpAnyH_take (i := 4) (oi := _) (v := ?vx104) rfl (by kernel_rfl) (by kernel_rfl) (by kernel_rfl) (fun _ _ _ h => h) (Or.inl ⟨by rfl, ?yx104⟩) (by assumption) ?rx104
    case yx104 => intro w1 hSw; obtain ⟨s1, s2⟩ := hSw; go_simp; try with_reducible rfl
    try simp only [List.getElem_toArray, List.getElem_cons_zero, List.getElem_cons_succ, Act.put, List.setIfInBounds_toArray, List.set_cons_zero, List.set_cons_succ]
    refine wpAnyH_take (i := 5) (oi := _) (v := ?vx105) rfl (by kernel_rfl) (by kernel_rfl) (by kernel_rfl) (fun _ _ _ h => h) (Or.inl ⟨by rfl, ?yx105⟩) (by assumption) ?rx105
    case yx105 => intro w1 hSw; obtain ⟨s1, s2⟩ := hSw; go_simp; try with_reducible rfl
    try simp only [List.getElem_toArray, List.getElem_cons_zero, List.getElem_cons_succ, Act.put, List.setIfInBounds_toArray, List.set_cons_zero, List.set_cons_succ]
    clear hw5 hfd HS4 HB4 HF4
    clear c0 c1 c2 c3 c4 c5 c6 d0 d1 d2 d3 d4 d5 d6 d7 d8 f0 f1 f2 f5 f6
    obtain ⟨w6, hrun6, hM6, hf6⟩ := mdrop HS5.out.o HOK.out 0
    have HS6 : Hid (HS w6 hb kb ib ob fb { s1 with of_ := put1 s1.of_ e.ref none }) := Lib.hid (by
      have h := HS5.out
      have hne := HNE.out
      obtain ⟨n1, n2, n3, n4, n5, n6⟩ := h.ne
      refine ⟨h.b.fr hf6 (by omega), ?_, ?_, hM6, ?_, h.ne, h.few, h.dk, fun x v hx => ?_⟩
      · obtain ⟨c, hc, hM⟩ := h.k; exact ⟨c, hc, hM.fr hf6 (by omega)⟩
      · obtain ⟨c, hc, hM⟩ := h.i; exact ⟨c, hc, hM.fr hf6 (by omega)⟩
      · obtain ⟨c, hc, hM⟩ := h.f; exact ⟨c, hc, hM.fr hf6 (by omega)⟩
      · by_cases ex : x = e.ref
        · simp [put1, ex] at hx
        · exact h.dv x v (by simpa [put1, ex] using hx))
    have HB6 := Lib.hid (HB5.out.fr hf6 (by have := HBB.out; omega))
    have HF6 : Hid (Fr (Own hb kb ib ob fb) W w6) := Lib.hid (HF5.out.trans (hf6.mono fun _ e => by simp [Own, e]))
    clear hM6 hf6 HS5 HB5 HF5
    have c0 := HB6.out.cell 0
    have c1 := HB6.out.cell 1
    have c2 := HB6.out.cell 2
    have c3 := HB6.out.cell 3
    have c4 := HB6.out.cell 4
    have c5 := HB6.out.cell 5
    have c6 := HB6.out.cell 6
    simp only [evc, List.getElem?_toArray, List.getElem?_cons_zero, List.getElem?_cons_succ] at c0 c1 c2 c3 c4 c5 c6
    have d0 := HS6.out.b.cell 0
    have d1 := HS6.out.b.cell 1
    have d2 := HS6.out.b.cell 2
    have d3 := HS6.out.b.cell 3
    have d4 := HS6.out.b.cell 4
    have d5 := HS6.out.b.cell 5
    have d6 := HS6.out.b.cell 6
    have d7 := HS6.out.b.cell 7
    have d8 := HS6.out.b.cell 8
    have f0 := HS6.out.b.frozen 0
    have f1 := HS6.out.b.frozen 1
    have f2 := HS6.out.b.frozen 2
    have f5 := HS6.out.b.frozen 5
    have f6 := HS6.out.b.frozen 6
    simp only [hcells, List.getElem?_toArray, List.getElem?_cons_zero, List.getElem?_cons_succ] at d0 d1 d2 d3 d4 d5 d6 d7 d8
    refine wpAnyH_ready (rs := [6]) (by kernel_rfl) (by simp) ?_
    refine AllReadyH.cons (o := _) rfl (fun K hK => ?_) AllReadyH.nil
    rw [if_pos (by rfl)]
    try simp only [List.getElem_toArray, List.getElem_cons_zero, List.getElem_cons_succ]
    go_simp
    refine hK.out _ _ ⟨d7, c2⟩ (fun hHeld2 => ?_)
    clear hK K hHeld
    try simp only [List.getElem_toArray, List.getElem_cons_zero, List.getElem_cons_succ, Act.put, List.setIfInBounds_toArray, List.set_cons_zero, List.set_cons_succ]
    refine wpAnyH_done (by kernel_rfl) ?_ _
    clear hHeld2 hrun6
    obtain ⟨w7, hrun7, hM7, hf7⟩ := mdrop HS6.out.f HOK9.out 0
    have HS7 : Hid (HS w7 hb kb ib ob fb { s1 with of_ := put1 s1.of_ e.ref none, from_ := put1 s1.from_ at9 none }) := Lib.hid (by
      have h := HS6.out
      have hne := HNE.out
      obtain ⟨n1, n2, n3, n4, n5, n6⟩ := h.ne
      refine ⟨h.b.fr hf7 (by omega), ?_, ?_, ?_, hM7, h.ne, h.few, h.dk, h.dv⟩
      · obtain ⟨c, hc, hM⟩ := h.k; exact ⟨c, hc, hM.fr hf7 (by omega)⟩
      · obtain ⟨c, hc, hM⟩ := h.i; exact ⟨c, hc, hM.fr hf7 (by omega)⟩
      · obtain ⟨c, hc, hM⟩ := h.o; exact ⟨c, hc, hM.fr hf7 (by omega)⟩)
    have HB7 := Lib.hid (HB6.out.fr hf7 (by have := HBB.out; omega))
    have HF7 : Hid (Fr (Own hb kb ib ob fb) W w7) := Lib.hid (HF6.out.trans (hf7.mono fun _ e => by simp [Own, e]))
    clear hM7 hf7 HB6 HF6
    go_upto_region 26 with (fail)
    clear hrun7
    have HDR := Lib.hid (drop_any w7 hb kb ib ob fb _ HS7.out at9 HOK9.out)
    go_upto_region 31 with (first | (go_at_call 99; refine HDR.out.mono ?_; rintro e2 w8 ⟨rfl, hs8, hf8⟩) | go_in)
    have HS8 := Lib.hid hs8
    have HB8 := Lib.hid (HB7.out.fr hf8 (by have := HBB.out; omega))
    have HF8 : Hid (Fr (Own hb kb ib ob fb) W w8) := Lib.hid (HF7.out.trans (hf8.mono fun _ e => by rcases e with e | e <;> simp [Own, e]))
    clear HDR hs8 hf8 HS7 HB7 HF7 HS6
    clear c0 c1 c2 c3 c4 c5 c6 d0 d1 d2 d3 d4 d5 d6 d7 d8 f0 f1 f2 f5 f6
    have c0 := HB8.out.cell 0
    have c1 := HB8.out.cell 1
    have c2 := HB8.out.cell 2
    have c3 := HB8.out.cell 3
    have c4 := HB8.out.cell 4
    have c5 := HB8.out.cell 5
    have c6 := HB8.out.cell 6
    simp only [evc, List.getElem?_toArray, List.getElem?_cons_zero, List.getElem?_cons_succ] at c0 c1 c2 c3 c4 c5 c6
    have d0 := HS8.out.b.cell 0
    have d1 := HS8.out.b.cell 1
    have d2 := HS8.out.b.cell 2
    have d3 := HS8.out.b.cell 3
    have d4 := HS8.out.b.cell 4
    have d5 := HS8.out.b.cell 5
    have d6 := HS8.out.b.cell 6
    have d7 := HS8.out.b.cell 7
    have d8 := HS8.out.b.cell 8
    have f0 := HS8.out.b.frozen 0
    have f1 := HS8.out.b.frozen 1
    have f2 := HS8.out.b.frozen 2
    have f5 := HS8.out.b.frozen 5
    have f6 := HS8.out.b.frozen 6
    simp only [hcells, dropped, List.getElem?_toArray, List.getElem?_cons_zero, List.getElem?_cons_succ] at d0 d1 d2 d3 d4 d5 d6 d7 d8
    have HAD2 : Hid (addO s e = dropped { s1 with of_ := put1 s1.of_ e.ref none, from_ := put1 s1.from_ at9 none } at9) := Lib.hid (by rw [HAD.out, closes_no pcl]; simp only [turned, HK.out]; simp [HAT.out])
    clear HAD
    clear q2 q3 q4 q5 q6 q7 q8 q9 q10 q11 q12 q13 q14 q17 q18
    have HPC := Lib.hid pcl
    go_wp2_with (first | (go_at_call 100; refine (closes_any _ _).mono ?_; rintro e3 w9 ⟨rfl, rfl⟩; rw [HPC.out]) | go_in)
    go_ret2
    refine ⟨?_, ?_, HF8.out⟩
    · rw [HC.out]; rfl
    · rw [HAD2.out]; exact HS8.out
  have q10 : (e.k == 10) = false := by simp [k10]
  by_cases k11 : e.k = 11
  · have HK := Lib.hid k11
    clear k11
    have q2 : (e.k == 2) = false := by rw [HK.out]; rfl
    have q3 : (e.k == 3) = false := by rw [HK.out]; rfl
    have q4 : (e.k == 4) = false := by rw [HK.out]; rfl
    have q5 : (e.k == 5) = false := by rw [HK.out]; rfl
    have q6 : (e.k == 6) = false := by rw [HK.out]; rfl
    have q7 : (e.k == 7) = false := by rw [HK.out]; rfl
    have q8 : (e.k == 8) = false := by rw [HK.out]; rfl
    have q9 : (e.k == 9) = false := by rw [HK.out]; rfl
    have q10 : (e.k == 10) = false := by rw [HK.out]; rfl
    have q11 : (e.k == 11) = true := by rw [HK.out]; rfl
    have q12 : (e.k == 12) = false := by rw [HK.out]; rfl
    have q13 : (e.k == 13) = false := by rw [HK.out]; rfl
    have q14 : (e.k == 14) = false := by rw [HK.out]; rfl
    have q17 : (e.k == 17) = false := by rw [HK.out]; rfl
    have q18 : (e.k == 18) = false := by rw [HK.out]; rfl
    have pcl : closeB e.k = false := by rw [HK.out]; rfl
    have hok := ok_of HRT.out
    have HOK := Lib.hid hok
    have ml : ∀ z, (Instr.lookup 132 (.map (some ob)) (.int .i64 e.ref) false).run Try.prog (w3.drewN z) = .ok (.int .i64 ((s1.of_ e.ref).getD 0)) (w3.drewN z) := fun z => mlook (HS3.out.fr0 (Fr.drewN _ w3 z)).o hok
    obtain ⟨at9, hat9⟩ : ∃ z, ((s1.of_ e.ref).getD 0) = z := ⟨_, rfl⟩
    have HAT := Lib.hid hat9
    rw [hat9] at ml
    have hok9 : iKE.ok at9 := by
      rw [← hat9]
      cases ho : s1.of_ e.ref with
      | none => exact wf_of (by decide) (by decide)
      | some v => have := HS3.out.dv _ _ ho; exact wf_of (by simp; omega) (by simp; omega)
    have HOK9 := Lib.hid hok9
    clear hok hok9 hat9
    go_upto_region 23 with (fail)
    go_quiet (fail)
    have hfd : Fr (fun _ => False) w3 (w3.drewN nq) := Fr.drewN _ w3 nq
    have HS4 := Lib.hid (HS3.out.fr0 hfd)
    have HB4 := Lib.hid (HB3.out.fr hfd id)
    have HF4 := Lib.hid (HF3.out.trans (hfd.mono fun _ e => e.elim))
    obtain ⟨w4, hw4⟩ : ∃ w, w3.drewN nq = w := ⟨_, rfl⟩
    rw [hw4] at HS4 HB4 HF4 ⊢
    clear hw4 hfd ml HS3 HB3 HF3
    clear c0 c1 c2 c3 c4 c5 c6 d0 d1 d2 d3 d4 d5 d6 d7 d8 f0 f1 f2 f5 f6
    have c0 := HB4.out.cell 0
    have c1 := HB4.out.cell 1
    have c2 := HB4.out.cell 2
    have c3 := HB4.out.cell 3
    have c4 := HB4.out.cell 4
    have c5 := HB4.out.cell 5
    have c6 := HB4.out.cell 6
    simp only [evc, List.getElem?_toArray, List.getElem?_cons_zero, List.getElem?_cons_succ] at c0 c1 c2 c3 c4 c5 c6
    have d0 := HS4.out.b.cell 0
    have d1 := HS4.out.b.cell 1
    have d2 := HS4.out.b.cell 2
    have d3 := HS4.out.b.cell 3
    have d4 := HS4.out.b.cell 4
    have d5 := HS4.out.b.cell 5
    have d6 := HS4.out.b.cell 6
    have d7 := HS4.out.b.cell 7
    have d8 := HS4.out.b.cell 8
    have f0 := HS4.out.b.frozen 0
    have f1 := HS4.out.b.frozen 1
    have f2 := HS4.out.b.frozen 2
    have f5 := HS4.out.b.frozen 5
    have f6 := HS4.out.b.frozen 6
    simp only [hcells, List.getElem?_toArray, List.getElem?_cons_zero, List.getElem?_cons_succ] at d0 d1 d2 d3 d4 d5 d6 d7 d8
    go_upto_region 24 with (fail)
    have hfd : Fr (fun _ => False) w4 w4.drew := Fr.drewN _ w4 1
    have HS5 := Lib.hid (HS4.out.fr0 hfd)
    have HB5 := Lib.hid (HB4.out.fr hfd id)
    have HF5 := Lib.hid (HF4.out.trans (hfd.mono fun _ e => e.elim))
    obtain ⟨w5, hw5⟩ : ∃ w, w4.drew = w := ⟨_, rfl⟩
    rw [hw5] at HS5 HB5 HF5
    refine wp_region_held_drew (S := fun (w' : World) => w'.cell? ⟨hb, 7, none⟩ = some (.map (some ob)) ∧ w'.cell? ⟨bb, 2, none⟩ = some (.int .i64 e.ref)) (by kernel_rfl) ⟨d7, c2⟩ (fun hHeld => ?_)
    rw [hw5] at hHeld ⊢
    refine wpAnyH_take (i := 0) (oi := _) (v := ?vx110) rfl (by kernel_rfl) (by kernel_rfl) (by kernel_rfl) (fun _ _ _ h => h) (Or.inl ⟨by rfl, ?yx110⟩) (by assumption) ?rx110
    case yx110 => intro w1 hSw; obtain ⟨s1, s2⟩ := hSw; go_simp; try with_reducible rfl
    try simp only [List.getElem_toArray, List.getElem_cons_zero, List.getElem_cons_succ, Act.put, List.setIfInBounds_toArray, List.set_cons_zero, List.set_cons_succ]
    refine wpAnyH_take (i := 1) (oi := _) (v := ?vx111) rfl (by kernel_rfl) (by kernel_rfl) (by kernel_rfl) (fun _ _ _ h => h) (Or.inl ⟨by rfl, ?yx111⟩) (by assumption) ?rx111
    case yx111 => intro w1 hSw; obtain ⟨s1, s2⟩ := hSw; go_simp; try with_reducible rfl
    try simp only [List.getElem_toArray, List.getElem_cons_zero, List.getElem_cons_succ, Act.put, List.setIfInBounds_toArray, List.set_cons_zero, List.set_cons_succ]
    refine wpAnyH_take (i := 2) (oi := _) (v := ?vx112) rfl (by kernel_rfl) (by kernel_rfl) (by kernel_rfl) (fun _ _ _ h => h) (Or.inl ⟨by rfl, ?yx112⟩) (by assumption) ?rx112
    case yx112 => intro w1 hSw; obtain ⟨s1, s2⟩ := hSw; go_simp; try with_reducible rfl
    try simp only [List.getElem_toArray, List.getElem_cons_zero, List.getElem_cons_succ, Act.put, List.setIfInBounds_toArray, List.set_cons_zero, List.set_cons_succ]
    refine wpAnyH_take (i := 3) (oi := _) (v := ?vx113) rfl (by kernel_rfl) (by kernel_rfl) (by kernel_rfl) (fun _ _ _ h => h) (Or.inl ⟨by rfl, ?yx113⟩) (by assumption) ?rx113
    case yx113 => intro w1 hSw; obtain ⟨s1, s2⟩ := hSw; go_simp; try with_reducible rfl
    try simp only [List.getElem_toArray, List.getElem_cons_zero, List.getElem_cons_succ, Act.put, List.setIfInBounds_toArray, List.set_cons_zero, List.set_cons_succ]
    refine wpAnyH_take (i := 4) (oi := _) (v := ?vx114) rfl (by kernel_rfl) (by kernel_rfl) (by kernel_rfl) (fun _ _ _ h => h) (Or.inl ⟨by rfl, ?yx114⟩) (by assumption) ?rx114
    case yx114 => intro w1 hSw; obtain ⟨s1, s2⟩ := hSw; go_simp; try with_reducible rfl
    try simp only [List.getElem_toArray, List.getElem_cons_zero, List.getElem_cons_succ, Act.put, List.setIfInBounds_toArray, List.set_cons_zero, List.set_cons_succ]
    refine wpAnyH_take (i := 5) (oi := _) (v := ?vx115) rfl (by kernel_rfl) (by kernel_rfl) (by kernel_rfl) (fun _ _ _ h => h) (Or.inl ⟨by rfl, ?yx115⟩) (by assumption) ?rx115
    case yx115 => intro w1 hSw; obtain ⟨s1, s2⟩ := hSw; go_simp; try with_reducible rfl
    try simp only [List.getElem_toArray, List.getElem_cons_zero, List.getElem_cons_succ, Act.put, List.setIfInBounds_toArray, List.set_cons_zero, List.set_cons_succ]
    clear hw5 hfd HS4 HB4 HF4
    clear c0 c1 c2 c3 c4 c5 c6 d0 d1 d2 d3 d4 d5 d6 d7 d8 f0 f1 f2 f5 f6
    obtain ⟨w6, hrun6, hM6, hf6⟩ := mdrop HS5.out.o HOK.out 0
    have HS6 : Hid (HS w6 hb kb ib ob fb { s1 with of_ := put1 s1.of_ e.ref none }) := Lib.hid (by
      have h := HS5.out
      have hne := HNE.out
      obtain ⟨n1, n2, n3, n4, n5, n6⟩ := h.ne
      refine ⟨h.b.fr hf6 (by omega), ?_, ?_, hM6, ?_, h.ne, h.few, h.dk, fun x v hx => ?_⟩
      · obtain ⟨c, hc, hM⟩ := h.k; exact ⟨c, hc, hM.fr hf6 (by omega)⟩
      · obtain ⟨c, hc, hM⟩ := h.i; exact ⟨c, hc, hM.fr hf6 (by omega)⟩
      · obtain ⟨c, hc, hM⟩ := h.f; exact ⟨c, hc, hM.fr hf6 (by omega)⟩
      · by_cases ex : x = e.ref
        · simp [put1, ex] at hx
        · exact h.dv x v (by simpa [put1, ex] using hx))
    have HB6 := Lib.hid (HB5.out.fr hf6 (by have := HBB.out; omega))
    have HF6 : Hid (Fr (Own hb kb ib ob fb) W w6) := Lib.hid (HF5.out.trans (hf6.mono fun _ e => by simp [Own, e]))
    clear hM6 hf6 HS5 HB5 HF5
    have c0 := HB6.out.cell 0
    have c1 := HB6.out.cell 1
    have c2 := HB6.out.cell 2
    have c3 := HB6.out.cell 3
    have c4 := HB6.out.cell 4
    have c5 := HB6.out.cell 5
    have c6 := HB6.out.cell 6
    simp only [evc, List.getElem?_toArray, List.getElem?_cons_zero, List.getElem?_cons_succ] at c0 c1 c2 c3 c4 c5 c6
    have d0 := HS6.out.b.cell 0
    have d1 := HS6.out.b.cell 1
    have d2 := HS6.out.b.cell 2
    have d3 := HS6.out.b.cell 3
    have d4 := HS6.out.b.cell 4
    have d5 := HS6.out.b.cell 5
    have d6 := HS6.out.b.cell 6
    have d7 := HS6.out.b.cell 7
    have d8 := HS6.out.b.cell 8
    have f0 := HS6.out.b.frozen 0
    have f1 := HS6.out.b.frozen 1
    have f2 := HS6.out.b.frozen 2
    have f5 := HS6.out.b.frozen 5
    have f6 := HS6.out.b.frozen 6
    simp only [hcells, List.getElem?_toArray, List.getElem?_cons_zero, List.getElem?_cons_succ] at d0 d1 d2 d3 d4 d5 d6 d7 d8
    refine wpAnyH_ready (rs := [6]) (by kernel_rfl) (by simp) ?_
    refine AllReadyH.cons (o := _) rfl (fun K hK => ?_) AllReadyH.nil
    rw [if_pos (by rfl)]
    try simp only [List.getElem_toArray, List.getElem_cons_zero, List.getElem_cons_succ]
    go_simp
    refine hK.out _ _ ⟨d7, c2⟩ (fun hHeld2 => ?_)
    clear hK K hHeld
    try simp only [List.getElem_toArray, List.getElem_cons_zero, List.getElem_cons_succ, Act.put, List.setIfInBounds_toArray, List.set_cons_zero, List.set_cons_succ]
    refine wpAnyH_done (by kernel_rfl) ?_ _
    clear hHeld2 hrun6
    obtain ⟨w7, hrun7, hM7, hf7⟩ := mdrop HS6.out.f HOK9.out 0
    have HS7 : Hid (HS w7 hb kb ib ob fb { s1 with of_ := put1 s1.of_ e.ref none, from_ := put1 s1.from_ at9 none }) := Lib.hid (by
      have h := HS6.out
      have hne := HNE.out
      obtain ⟨n1, n2, n3, n4, n5, n6⟩ := h.ne
      refine ⟨h.b.fr hf7 (by omega), ?_, ?_, ?_, hM7, h.ne, h.few, h.dk, h.dv⟩
      · obtain ⟨c, hc, hM⟩ := h.k; exact ⟨c, hc, hM.fr hf7 (by omega)⟩
      · obtain ⟨c, hc, hM⟩ := h.i; exact ⟨c, hc, hM.fr hf7 (by omega)⟩
      · obtain ⟨c, hc, hM⟩ := h.o; exact ⟨c, hc, hM.fr hf7 (by omega)⟩)
    have HB7 := Lib.hid (HB6.out.fr hf7 (by have := HBB.out; omega))
    have HF7 : Hid (Fr (Own hb kb ib ob fb) W w7) := Lib.hid (HF6.out.trans (hf7.mono fun _ e => by simp [Own, e]))
    clear hM7 hf7 HB6 HF6
    go_upto_region 26 with (fail)
    clear hrun7
    have HDR := Lib.hid (drop_any w7 hb kb ib ob fb _ HS7.out at9 HOK9.out)
    go_upto_region 31 with (first | (go_at_call 99; refine HDR.out.mono ?_; rintro e2 w8 ⟨rfl, hs8, hf8⟩) | go_in)
    have HS8 := Lib.hid hs8
    have HB8 := Lib.hid (HB7.out.fr hf8 (by have := HBB.out; omega))
    have HF8 : Hid (Fr (Own hb kb ib ob fb) W w8) := Lib.hid (HF7.out.trans (hf8.mono fun _ e => by rcases e with e | e <;> simp [Own, e]))
    clear HDR hs8 hf8 HS7 HB7 HF7 HS6
    clear c0 c1 c2 c3 c4 c5 c6 d0 d1 d2 d3 d4 d5 d6 d7 d8 f0 f1 f2 f5 f6
    have c0 := HB8.out.cell 0
    have c1 := HB8.out.cell 1
    have c2 := HB8.out.cell 2
    have c3 := HB8.out.cell 3
    have c4 := HB8.out.cell 4
    have c5 := HB8.out.cell 5
    have c6 := HB8.out.cell 6
    simp only [evc, List.getElem?_toArray, List.getElem?_cons_zero, List.getElem?_cons_succ] at c0 c1 c2 c3 c4 c5 c6
    have d0 := HS8.out.b.cell 0
    have d1 := HS8.out.b.cell 1
    have d2 := HS8.out.b.cell 2
    have d3 := HS8.out.b.cell 3
    have d4 := HS8.out.b.cell 4
    have d5 := HS8.out.b.cell 5
    have d6 := HS8.out.b.cell 6
    have d7 := HS8.out.b.cell 7
    have d8 := HS8.out.b.cell 8
    have f0 := HS8.out.b.frozen 0
    have f1 := HS8.out.b.frozen 1
    have f2 := HS8.out.b.frozen 2
    have f5 := HS8.out.b.frozen 5
    have f6 := HS8.out.b.frozen 6
    simp only [hcells, dropped, List.getElem?_toArray, List.getElem?_cons_zero, List.getElem?_cons_succ] at d0 d1 d2 d3 d4 d5 d6 d7 d8
    have HAD2 : Hid (addO s e = dropped { s1 with of_ := put1 s1.of_ e.ref none, from_ := put1 s1.from_ at9 none } at9) := Lib.hid (by rw [HAD.out, closes_no pcl]; simp only [turned, HK.out]; simp [HAT.out])
    clear HAD
    clear q2 q3 q4 q5 q6 q7 q8 q9 q10 q11 q12 q13 q14 q17 q18
    have HPC := Lib.hid pcl
    go_wp2_with (first | (go_at_call 100; refine (closes_any _ _).mono ?_; rintro e3 w9 ⟨rfl, rfl⟩; rw [HPC.out]) | go_in)
    go_ret2
    refine ⟨?_, ?_, HF8.out⟩
    · rw [HC.out]; rfl
    · rw [HAD2.out]; exact HS8.out
  have q11 : (e.k == 11) = false := by simp [k11]
  by_cases k13 : e.k = 13
  · have HK := Lib.hid k13
    clear k13
    have q2 : (e.k == 2) = false := by rw [HK.out]; rfl
    have q3 : (e.k == 3) = false := by rw [HK.out]; rfl
    have q4 : (e.k == 4) = false := by rw [HK.out]; rfl
    have q5 : (e.k == 5) = false := by rw [HK.out]; rfl
    have q6 : (e.k == 6) = false := by rw [HK.out]; rfl
    have q7 : (e.k == 7) = false := by rw [HK.out]; rfl
    have q8 : (e.k == 8) = false := by rw [HK.out]; rfl
    have q9 : (e.k == 9) = false := by rw [HK.out]; rfl
    have q10 : (e.k == 10) = false := by rw [HK.out]; rfl
    have q11 : (e.k == 11) = false := by rw [HK.out]; rfl
    have q12 : (e.k == 12) = false := by rw [HK.out]; rfl
    have q13 : (e.k == 13) = true := by rw [HK.out]; rfl
    have q14 : (e.k == 14) = false := by rw [HK.out]; rfl
    have q17 : (e.k == 17) = false := by rw [HK.out]; rfl
    have q18 : (e.k == 18) = false := by rw [HK.out]; rfl
    have pcl : closeB e.k = false := by rw [HK.out]; rfl
    have HRG := Lib.hid (range_of HRT.out)
    have HDR := Lib.hid (drop_any w3 hb kb ib ob fb s1 HS3.out e.ref (ok_of HRT.out))
    go_upto_region 31 with (first | (go_at_call 99; refine HDR.out.mono ?_; rintro e2 w4 ⟨rfl, hs4, hf4⟩) | go_in)
    have HS4 := Lib.hid hs4
    have HB4 := Lib.hid (HB3.out.fr hf4 (by have := HBB.out; omega))
    have HF4 := Lib.hid (HF3.out.trans (hf4.mono fun _ e => e.elim (fun e => .inr (.inl e)) (fun e => .inr (.inr (.inl e))) : Fr (Own hb kb ib ob fb) _ _))
    clear HDR HRG hs4 hf4 HS3 HB3 HF3
    clear c0 c1 c2 c3 c4 c5 c6 d0 d1 d2 d3 d4 d5 d6 d7 d8 f0 f1 f2 f5 f6
    have c0 := HB4.out.cell 0
    have c1 := HB4.out.cell 1
    have c2 := HB4.out.cell 2
    have c3 := HB4.out.cell 3
    have c4 := HB4.out.cell 4
    have c5 := HB4.out.cell 5
    have c6 := HB4.out.cell 6
    simp only [evc, List.getElem?_toArray, List.getElem?_cons_zero, List.getElem?_cons_succ] at c0 c1 c2 c3 c4 c5 c6
    have d0 := HS4.out.b.cell 0
    have d1 := HS4.out.b.cell 1
    have d2 := HS4.out.b.cell 2
    have d3 := HS4.out.b.cell 3
    have d4 := HS4.out.b.cell 4
    have d5 := HS4.out.b.cell 5
    have d6 := HS4.out.b.cell 6
    have d7 := HS4.out.b.cell 7
    have d8 := HS4.out.b.cell 8
    have f0 := HS4.out.b.frozen 0
    have f1 := HS4.out.b.frozen 1
    have f2 := HS4.out.b.frozen 2
    have f5 := HS4.out.b.frozen 5
    have f6 := HS4.out.b.frozen 6
    simp only [hcells, dropped, List.getElem?_toArray, List.getElem?_cons_zero, List.getElem?_cons_succ] at d0 d1 d2 d3 d4 d5 d6 d7 d8
    have HAD2 : Hid (addO s e = dropped s1 e.ref) := Lib.hid (by rw [HAD.out, closes_no pcl]; simp [turned, HK.out])
    clear HAD
    clear q2 q3 q4 q5 q6 q7 q8 q9 q10 q11 q12 q13 q14 q17 q18
    have HPC := Lib.hid pcl
    go_wp2_with (first | (go_at_call 100; refine (closes_any _ _).mono ?_; rintro e3 w9 ⟨rfl, rfl⟩; rw [HPC.out]) | go_in)
    go_ret2
    refine ⟨?_, ?_, HF4.out⟩
    · rw [HC.out]; rfl
    · rw [HAD2.out]; exact HS4.out
  have q13 : (e.k == 13) = false := by simp [k13]
  by_cases k14 : e.k = 14
  · have HK := Lib.hid k14
    clear k14
    have q2 : (e.k == 2) = false := by rw [HK.out]; rfl
    have q3 : (e.k == 3) = false := by rw [HK.out]; rfl
    have q4 : (e.k == 4) = false := by rw [HK.out]; rfl
    have q5 : (e.k == 5) = false := by rw [HK.out]; rfl
    have q6 : (e.k == 6) = false := by rw [HK.out]; rfl
    have q7 : (e.k == 7) = false := by rw [HK.out]; rfl
    have q8 : (e.k == 8) = false := by rw [HK.out]; rfl
    have q9 : (e.k == 9) = false := by rw [HK.out]; rfl
    have q10 : (e.k == 10) = false := by rw [HK.out]; rfl
    have q11 : (e.k == 11) = false := by rw [HK.out]; rfl
    have q12 : (e.k == 12) = false := by rw [HK.out]; rfl
    have q13 : (e.k == 13) = false := by rw [HK.out]; rfl
    have q14 : (e.k == 14) = true := by rw [HK.out]; rfl
    have q17 : (e.k == 17) = false := by rw [HK.out]; rfl
    have q18 : (e.k == 18) = false := by rw [HK.out]; rfl
    have pcl : closeB e.k = false := by rw [HK.out]; rfl
    have HRG := Lib.hid (range_of HRT.out)
    have HDR := Lib.hid (drop_any w3 hb kb ib ob fb s1 HS3.out e.ref (ok_of HRT.out))
    go_upto_region 31 with (first | (go_at_call 99; refine HDR.out.mono ?_; rintro e2 w4 ⟨rfl, hs4, hf4⟩) | go_in)
    have HS4 := Lib.hid hs4
    have HB4 := Lib.hid (HB3.out.fr hf4 (by have := HBB.out; omega))
    have HF4 := Lib.hid (HF3.out.trans (hf4.mono fun _ e => e.elim (fun e => .inr (.inl e)) (fun e => .inr (.inr (.inl e))) : Fr (Own hb kb ib ob fb) _ _))
    clear HDR HRG hs4 hf4 HS3 HB3 HF3
    clear c0 c1 c2 c3 c4 c5 c6 d0 d1 d2 d3 d4 d5 d6 d7 d8 f0 f1 f2 f5 f6
    have c0 := HB4.out.cell 0
    have c1 := HB4.out.cell 1
    have c2 := HB4.out.cell 2
    have c3 := HB4.out.cell 3
    have c4 := HB4.out.cell 4
    have c5 := HB4.out.cell 5
    have c6 := HB4.out.cell 6
    simp only [evc, List.getElem?_toArray, List.getElem?_cons_zero, List.getElem?_cons_succ] at c0 c1 c2 c3 c4 c5 c6
    have d0 := HS4.out.b.cell 0
    have d1 := HS4.out.b.cell 1
    have d2 := HS4.out.b.cell 2
    have d3 := HS4.out.b.cell 3
    have d4 := HS4.out.b.cell 4
    have d5 := HS4.out.b.cell 5
    have d6 := HS4.out.b.cell 6
    have d7 := HS4.out.b.cell 7
    have d8 := HS4.out.b.cell 8
    have f0 := HS4.out.b.frozen 0
    have f1 := HS4.out.b.frozen 1
    have f2 := HS4.out.b.frozen 2
    have f5 := HS4.out.b.frozen 5
    have f6 := HS4.out.b.frozen 6
    simp only [hcells, dropped, List.getElem?_toArray, List.getElem?_cons_zero, List.getElem?_cons_succ] at d0 d1 d2 d3 d4 d5 d6 d7 d8
    have HAD2 : Hid (addO s e = dropped s1 e.ref) := Lib.hid (by rw [HAD.out, closes_no pcl]; simp [turned, HK.out])
    clear HAD
    clear q2 q3 q4 q5 q6 q7 q8 q9 q10 q11 q12 q13 q14 q17 q18
    have HPC := Lib.hid pcl
    go_wp2_with (first | (go_at_call 100; refine (closes_any _ _).mono ?_; rintro e3 w9 ⟨rfl, rfl⟩; rw [HPC.out]) | go_in)
    go_ret2
    refine ⟨?_, ?_, HF4.out⟩
    · rw [HC.out]; rfl
    · rw [HAD2.out]; exact HS4.out
  have q14 : (e.k == 14) = false := by simp [k14]
  by_cases k18 : e.k = 18
  · have HK := Lib.hid k18
    clear k18
    have q2 : (e.k == 2) = false := by rw [HK.out]; rfl
    have q3 : (e.k == 3) = false := by rw [HK.out]; rfl
    have q4 : (e.k == 4) = false := by rw [HK.out]; rfl
    have q5 : (e.k == 5) = false := by rw [HK.out]; rfl
    have q6 : (e.k == 6) = false := by rw [HK.out]; rfl
    have q7 : (e.k == 7) = false := by rw [HK.out]; rfl
    have q8 : (e.k == 8) = false := by rw [HK.out]; rfl
    have q9 : (e.k == 9) = false := by rw [HK.out]; rfl
    have q10 : (e.k == 10) = false := by rw [HK.out]; rfl
    have q11 : (e.k == 11) = false := by rw [HK.out]; rfl
    have q12 : (e.k == 12) = false := by rw [HK.out]; rfl
    have q13 : (e.k == 13) = false := by rw [HK.out]; rfl
    have q14 : (e.k == 14) = false := by rw [HK.out]; rfl
    have q17 : (e.k == 17) = false := by rw [HK.out]; rfl
    have q18 : (e.k == 18) = true := by rw [HK.out]; rfl
    have pcl : closeB e.k = false := by rw [HK.out]; rfl
    have HRG := Lib.hid (range_of HRT.out)
    have HDR := Lib.hid (drop_any w3 hb kb ib ob fb s1 HS3.out e.ref (ok_of HRT.out))
    go_upto_region 31 with (first | (go_at_call 99; refine HDR.out.mono ?_; rintro e2 w4 ⟨rfl, hs4, hf4⟩) | go_in)
    have HS4 := Lib.hid hs4
    have HB4 := Lib.hid (HB3.out.fr hf4 (by have := HBB.out; omega))
    have HF4 := Lib.hid (HF3.out.trans (hf4.mono fun _ e => e.elim (fun e => .inr (.inl e)) (fun e => .inr (.inr (.inl e))) : Fr (Own hb kb ib ob fb) _ _))
    clear HDR HRG hs4 hf4 HS3 HB3 HF3
    clear c0 c1 c2 c3 c4 c5 c6 d0 d1 d2 d3 d4 d5 d6 d7 d8 f0 f1 f2 f5 f6
    have c0 := HB4.out.cell 0
    have c1 := HB4.out.cell 1
    have c2 := HB4.out.cell 2
    have c3 := HB4.out.cell 3
    have c4 := HB4.out.cell 4
    have c5 := HB4.out.cell 5
    have c6 := HB4.out.cell 6
    simp only [evc, List.getElem?_toArray, List.getElem?_cons_zero, List.getElem?_cons_succ] at c0 c1 c2 c3 c4 c5 c6
    have d0 := HS4.out.b.cell 0
    have d1 := HS4.out.b.cell 1
    have d2 := HS4.out.b.cell 2
    have d3 := HS4.out.b.cell 3
    have d4 := HS4.out.b.cell 4
    have d5 := HS4.out.b.cell 5
    have d6 := HS4.out.b.cell 6
    have d7 := HS4.out.b.cell 7
    have d8 := HS4.out.b.cell 8
    have f0 := HS4.out.b.frozen 0
    have f1 := HS4.out.b.frozen 1
    have f2 := HS4.out.b.frozen 2
    have f5 := HS4.out.b.frozen 5
    have f6 := HS4.out.b.frozen 6
    simp only [hcells, dropped, List.getElem?_toArray, List.getElem?_cons_zero, List.getElem?_cons_succ] at d0 d1 d2 d3 d4 d5 d6 d7 d8
    have HAD2 : Hid (addO s e = dropped s1 e.ref) := Lib.hid (by rw [HAD.out, closes_no pcl]; simp [turned, HK.out])
    clear HAD
    clear q2 q3 q4 q5 q6 q7 q8 q9 q10 q11 q12 q13 q14 q17 q18
    have HPC := Lib.hid pcl
    go_wp2_with (first | (go_at_call 100; refine (closes_any _ _).mono ?_; rintro e3 w9 ⟨rfl, rfl⟩; rw [HPC.out]) | go_in)
    go_ret2
    refine ⟨?_, ?_, HF4.out⟩
    · rw [HC.out]; rfl
    · rw [HAD2.out]; exact HS4.out
  have q18 : (e.k == 18) = false := by simp [k18]
  have HAD2 : Hid (addO s e = closes s1 e) := Lib.hid (by rw [HAD.out]; simp [turned, k2, k3, k4, k5, k6, k7, k8, k9, k10, k11, k12, k13, k14, k17, k18])
  clear HAD
  cases pcl : closeB e.k with
  | false =>
    have HPC := Lib.hid pcl
    go_wp2_with (first | (go_at_call 100; refine (closes_any _ _).mono ?_; rintro e3 w9 ⟨rfl, rfl⟩; rw [HPC.out]) | go_in)
    go_ret2
    refine ⟨?_, ?_, HF3.out⟩
    · rw [HC.out]; rfl
    · rw [HAD2.out, closes_no HPC.out]; exact HS3.out
  | true =>
    have HPC := Lib.hid pcl
    go_upto_region 33 with (first | (go_at_call 100; refine (closes_any _ _).mono ?_; rintro e3 w9 ⟨rfl, rfl⟩; rw [HPC.out]) | go_in)
    have hb4 : Blk (w3.setCell ⟨hb, 2, none⟩ (.int .i64 e.k)) hb 134 (hcells { s1 with closed := e.k } kb ib ob fb) := by
      have := HS3.out.b.set 2 (.int .i64 e.k)
      simpa only [hcells, List.setIfInBounds_toArray, List.set_cons_zero, List.set_cons_succ] using this
    have hf4 : Fr (fun k => k = hb) w3 (w3.setCell ⟨hb, 2, none⟩ (.int .i64 e.k)) := Fr.setCell (S := fun k => k = hb) w3 ⟨hb, 2, none⟩ _ rfl
    obtain ⟨w4, hw4⟩ : ∃ w, w3.setCell ⟨hb, 2, none⟩ (.int .i64 e.k) = w := ⟨_, rfl⟩
    rw [hw4] at hb4 hf4 ⊢
    have HS4 := Lib.hid (HS3.out.cells { s1 with closed := e.k } hb4 hf4 rfl rfl rfl rfl (Nat.le_refl _) HS3.out.few)
    have HB4 := Lib.hid (HB3.out.fr hf4 HBB.out.1)
    have HF4 := Lib.hid (HF3.out.trans (hf4.mono fun _ e => .inl e : Fr (Own hb kb ib ob fb) _ _))
    clear hw4 hb4 hf4 HS3 HB3 HF3
    go_wp2
    go_ret2
    refine ⟨?_, ?_, HF4.out⟩
    · rw [HC.out]; rfl
    · rw [HAD2.out, closes_yes HPC.out]; exact HS4.out
end Go.Proofs.Ytnkelaohcbdjnaa.Ev
