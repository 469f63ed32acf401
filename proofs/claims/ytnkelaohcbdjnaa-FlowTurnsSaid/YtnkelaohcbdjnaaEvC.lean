/- Histories: none; what an event refers to. -/
import Derived.Test.YtnkelaohcbdjnaaEvB
set_option linter.unusedVariables false
set_option linter.unusedSimpArgs false
namespace Go.Proofs.Ytnkelaohcbdjnaa.Ev
open Go.RowKit Go.Maps
def hi0 : Hi := ⟨0, 0, 0, 0, false, fun _ => none, fun _ => none, fun _ => none, fun _ => none⟩
set_option maxRecDepth 100000 in
set_option maxHeartbeats 1000000 in
theorem begin_any (W : World) : Calls Try.prog 77 #[] W fun e W' => ∃ hb kb ib ob fb : Nat, e = .returned (.pointer (some ⟨hb, 0, none⟩)) ∧ W.heap.size ≤ hb ∧ W.heap.size ≤ kb ∧ W.heap.size ≤ ib ∧ W.heap.size ≤ ob ∧ W.heap.size ≤ fb ∧ HS W' hb kb ib ob fb hi0 ∧ Fr (fun _ => False) W W' := by
  have hmm := @run_makeMap Try.prog
  have hW : ∀ (w : World), Mp iKE (w.alloc (.map #[] 0)) w.heap.size 0 (mI fun _ => none) := fun w => Mp.made iKE w
  have m1 := hW W
  have m2 := hW (W.alloc (.map #[] 0))
  have m3 := hW ((W.alloc (.map #[] 0)).alloc (.map #[] 0))
  have m4 := hW (((W.alloc (.map #[] 0)).alloc (.map #[] 0)).alloc (.map #[] 0))
  have hHS : HS (((((W.alloc (.map #[] 0)).alloc (.map #[] 0)).alloc (.map #[] 0)).alloc (.map #[] 0)).alloc (.cells (hcells hi0 W.heap.size (W.heap.size + 1) (W.heap.size + 1 + 1) (W.heap.size + 1 + 1 + 1)) 134)) (W.heap.size + 1 + 1 + 1 + 1) W.heap.size (W.heap.size + 1) (W.heap.size + 1 + 1) (W.heap.size + 1 + 1 + 1) hi0 := by
    simp only [World.size_alloc] at m2 m3 m4
    refine ⟨?_, ⟨0, Nat.le_refl _, (((m1.alloc _).alloc _).alloc _).alloc _⟩, ⟨0, Nat.le_refl _, ((m2.alloc _).alloc _).alloc _⟩, ⟨0, Nat.le_refl _, (m3.alloc _).alloc _⟩, ⟨0, Nat.le_refl _, m4.alloc _⟩, by omega, by simp [hi0], fun x v h => (by cases h), fun x v h => (by cases h)⟩
    have := Blk.new ((((W.alloc (.map #[] 0)).alloc (.map #[] 0)).alloc (.map #[] 0)).alloc (.map #[] 0)) 134 (hcells hi0 W.heap.size (W.heap.size + 1) (W.heap.size + 1 + 1) (W.heap.size + 1 + 1 + 1))
    simpa only [World.size_alloc] using this
  have hF : Fr (fun _ => False) W (((((W.alloc (.map #[] 0)).alloc (.map #[] 0)).alloc (.map #[] 0)).alloc (.map #[] 0)).alloc (.cells (hcells hi0 W.heap.size (W.heap.size + 1) (W.heap.size + 1 + 1) (W.heap.size + 1 + 1 + 1)) 134)) := ((((Fr.alloc _ W _).trans (Fr.alloc _ _ _)).trans (Fr.alloc _ _ _)).trans (Fr.alloc _ _ _)).trans (Fr.alloc _ _ _)
  have HF := Lib.hid hF
  have HHS := Lib.hid hHS
  clear hW m1 m2 m3 m4 hHS hF
  go_enter Try.func77, Try.ntmps77
  go_wp2
  go_ret
  exact ⟨_, _, _, _, _, rfl, by omega, by omega, by omega, by omega, by omega, HHS.out, HF.out⟩
def refB (s : Hi) (e : Ev) : Bool :=
  if e.k = 3 then (s.task != 0) && (!s.begun && (e.ref == s.task))
  else if e.k = 4 ∨ e.k = 5 ∨ e.k = 6 then (s.task != 0) && (s.begun && (e.ref == s.task))
  else if e.k = 8 then ((s.kinds e.ref).getD 0 == 7) && !(s.from_ e.ref).isSome
  else if e.k = 9 ∨ e.k = 10 ∨ e.k = 11 then (s.of_ e.ref).getD 0 != 0
  else if e.k = 13 ∨ e.k = 14 then (s.kinds e.ref).getD 0 == 12
  else if e.k = 18 then (s.kinds e.ref).getD 0 == 17
  else e.ref == 0
set_option maxRecDepth 100000 in
set_option maxHeartbeats 2000000 in
theorem ref_any (W : World) (hb kb ib ob fb : Nat) (s : Hi) (h : HS W hb kb ib ob fb s) (e : Ev) (hx : iKE.ok e.ref) :
    Calls Try.prog 106 #[.pointer (some ⟨hb, 0, none⟩), .agg (evc e)] W fun r W' => r = .returned (.bool (refB s e)) ∧ Fr (fun _ => False) W W' := by
  have hB := Blk.new W 79 (evc e)
  have hF : Fr (fun _ => False) W (W.alloc (.cells (evc e) 79)) := Fr.alloc _ _ _
  obtain ⟨w1, hw1⟩ : ∃ w1, W.alloc (.cells (evc e) 79) = w1 := ⟨_, rfl⟩
  rw [hw1] at hB hF
  obtain ⟨k, at_, ref, id, list, n, ao, dl, cp⟩ := e
  simp only [evc] at hw1 hB ⊢
  have c0 := hB.cell 0
  have c2 := hB.cell 2
  have h1 := h.fr0 hF
  have d3 := h1.b.cell 3
  have d5 := h1.b.cell 5
  have d6 := h1.b.cell 6
  have d7 := h1.b.cell 7
  have d8 := h1.b.cell 8
  simp only [hcells, List.getElem?_toArray, List.getElem?_cons_zero, List.getElem?_cons_succ] at c0 c2 d3 d5 d6 d7 d8
  have mk : ∀ z, (Instr.lookup 132 (.map (some kb)) (.int .i64 ref) false).run Try.prog (w1.drewN z) = .ok (.int .i64 ((s.kinds ref).getD 0)) (w1.drewN z) := fun z => mlook (h1.fr0 (Fr.drewN _ w1 z)).k hx
  have mo : ∀ z, (Instr.lookup 132 (.map (some ob)) (.int .i64 ref) false).run Try.prog (w1.drewN z) = .ok (.int .i64 ((s.of_ ref).getD 0)) (w1.drewN z) := fun z => mlook (h1.fr0 (Fr.drewN _ w1 z)).o hx
  have mf : ∀ z, (Instr.lookup 132 (.map (some fb)) (.int .i64 ref) true).run Try.prog (w1.drewN z) = .ok (.tuple #[.int .i64 ((s.from_ ref).getD 0), .bool (s.from_ ref).isSome]) (w1.drewN z) := fun z => mlook_ok (h1.fr0 (Fr.drewN _ w1 z)).f hx
  obtain ⟨bb, hbb⟩ : ∃ b, W.heap.size = b := ⟨_, rfl⟩
  rw [hbb] at c0 c2
  have HF := Lib.hid hF
  clear hB hF h1 h
  obtain ⟨r, hr⟩ : ∃ r, refB s ⟨k, at_, ref, id, list, n, ao, dl, cp⟩ = r := ⟨_, rfl⟩
  simp only [hr]
  have HR := Lib.hid hr
  clear hr
  obtain ⟨zk, hzk⟩ : ∃ z, (s.kinds ref).getD 0 = z := ⟨_, rfl⟩
  obtain ⟨zo, hzo⟩ : ∃ z, (s.of_ ref).getD 0 = z := ⟨_, rfl⟩
  obtain ⟨zf, hzf⟩ : ∃ z, (s.from_ ref).getD 0 = z := ⟨_, rfl⟩
  obtain ⟨zb, hzb⟩ : ∃ z, (s.from_ ref).isSome = z := ⟨_, rfl⟩
  rw [hzk] at mk
  rw [hzo] at mo
  rw [hzf, hzb] at mf
  have HZ := Lib.hid (And.intro hzk (And.intro hzo hzb))
  obtain ⟨n0, at0, cl0, task, begun, kinds, ids, of0, from0⟩ := s
  dsimp only at d3 d5 d6 d7 d8
  clear hzk hzo hzf hzb
  go_enter Try.func106, Try.ntmps106
  go_upto_region 2 with (fail)
  try rw [hw1]
  try rw [hbb]
  clear hw1 hbb
  by_cases k3 : k = 3
  · subst k3
    by_cases ht : task = 0
    · subst ht
      go_upto_region 5 with (fail)
      go_quiet (fail)
      go_wp2
      go_ret
      obtain ⟨z1, z2, z3⟩ := HZ.out
      try dsimp only at z1 z2 z3
      exact ⟨by rw [← HR.out]; simp [refB, z1, z2, z3], HF.out.trans (Fr.drewN _ _ _)⟩
    · have q1 : (task != 0) = true := by simp [ht]
      cases begun with
      | true =>
        go_upto_region 5 with (fail)
        go_quiet (fail)
        go_wp2
        go_ret
        obtain ⟨z1, z2, z3⟩ := HZ.out
        try dsimp only at z1 z2 z3
        exact ⟨by rw [← HR.out]; simp [refB, z1, z2, z3, ht], HF.out.trans (Fr.drewN _ _ _)⟩
      | false =>
        go_upto_region 5 with (fail)
        go_quiet (fail)
        go_wp2
        go_ret
        obtain ⟨z1, z2, z3⟩ := HZ.out
        try dsimp only at z1 z2 z3
        exact ⟨by rw [← HR.out]; simp [refB, z1, z2, z3, ht], HF.out.trans (Fr.drewN _ _ _)⟩
  have n3 : (k == 3) = false := by simp [k3]
  by_cases k4 : k = 4
  · subst k4
    by_cases ht : task = 0
    · subst ht
      go_upto_region 9 with (fail)
      go_quiet (fail)
      go_wp2
      go_ret
      obtain ⟨z1, z2, z3⟩ := HZ.out
      try dsimp only at z1 z2 z3
      exact ⟨by rw [← HR.out]; simp [refB, z1, z2, z3], HF.out.trans (Fr.drewN _ _ _)⟩
    · have q1 : (task != 0) = true := by simp [ht]
      cases begun with
      | true =>
        go_upto_region 9 with (fail)
        go_quiet (fail)
        go_wp2
        go_ret
        obtain ⟨z1, z2, z3⟩ := HZ.out
        try dsimp only at z1 z2 z3
        exact ⟨by rw [← HR.out]; simp [refB, z1, z2, z3, ht], HF.out.trans (Fr.drewN _ _ _)⟩
      | false =>
        go_upto_region 9 with (fail)
        go_quiet (fail)
        go_wp2
        go_ret
        obtain ⟨z1, z2, z3⟩ := HZ.out
        try dsimp only at z1 z2 z3
        exact ⟨by rw [← HR.out]; simp [refB, z1, z2, z3, ht], HF.out.trans (Fr.drewN _ _ _)⟩
  have n4 : (k == 4) = false := by simp [k4]
  by_cases k5 : k = 5
  · subst k5
    by_cases ht : task = 0
    · subst ht
      go_upto_region 9 with (fail)
      go_quiet (fail)
      go_wp2
      go_ret
      obtain ⟨z1, z2, z3⟩ := HZ.out
      try dsimp only at z1 z2 z3
      exact ⟨by rw [← HR.out]; simp [refB, z1, z2, z3], HF.out.trans (Fr.drewN _ _ _)⟩
    · have q1 : (task != 0) = true := by simp [ht]
      cases begun with
      | true =>
        go_upto_region 9 with (fail)
        go_quiet (fail)
        go_wp2
        go_ret
        obtain ⟨z1, z2, z3⟩ := HZ.out
        try dsimp only at z1 z2 z3
        exact ⟨by rw [← HR.out]; simp [refB, z1, z2, z3, ht], HF.out.trans (Fr.drewN _ _ _)⟩
      | false =>
        go_upto_region 9 with (fail)
        go_quiet (fail)
        go_wp2
        go_ret
        obtain ⟨z1, z2, z3⟩ := HZ.out
        try dsimp only at z1 z2 z3
        exact ⟨by rw [← HR.out]; simp [refB, z1, z2, z3, ht], HF.out.trans (Fr.drewN _ _ _)⟩
  have n5 : (k == 5) = false := by simp [k5]
  by_cases k6 : k = 6
  · subst k6
    by_cases ht : task = 0
    · subst ht
      go_upto_region 9 with (fail)
      go_quiet (fail)
      go_wp2
      go_ret
      obtain ⟨z1, z2, z3⟩ := HZ.out
      try dsimp only at z1 z2 z3
      exact ⟨by rw [← HR.out]; simp [refB, z1, z2, z3], HF.out.trans (Fr.drewN _ _ _)⟩
    · have q1 : (task != 0) = true := by simp [ht]
      cases begun with
      | true =>
        go_upto_region 9 with (fail)
        go_quiet (fail)
        go_wp2
        go_ret
        obtain ⟨z1, z2, z3⟩ := HZ.out
        try dsimp only at z1 z2 z3
        exact ⟨by rw [← HR.out]; simp [refB, z1, z2, z3, ht], HF.out.trans (Fr.drewN _ _ _)⟩
      | false =>
        go_upto_region 9 with (fail)
        go_quiet (fail)
        go_wp2
        go_ret
        obtain ⟨z1, z2, z3⟩ := HZ.out
        try dsimp only at z1 z2 z3
        exact ⟨by rw [← HR.out]; simp [refB, z1, z2, z3, ht], HF.out.trans (Fr.drewN _ _ _)⟩
  have n6 : (k == 6) = false := by simp [k6]
  by_cases k8 : k = 8
  · subst k8
    by_cases h7 : zk = 7
    · subst h7
      cases zb with
      | true =>
        go_upto_region 11 with (fail)
        go_quiet (fail)
        go_upto_region 12 with (fail)
        go_quiet (fail)
        go_wp2
        go_ret
        obtain ⟨z1, z2, z3⟩ := HZ.out
        try dsimp only at z1 z2 z3
        exact ⟨by rw [← HR.out]; simp [refB, z1, z2, z3], HF.out.trans (Fr.drewN _ _ _)⟩
      | false =>
        go_upto_region 11 with (fail)
        go_quiet (fail)
        go_upto_region 12 with (fail)
        go_quiet (fail)
        go_wp2
        go_ret
        obtain ⟨z1, z2, z3⟩ := HZ.out
        try dsimp only at z1 z2 z3
        exact ⟨by rw [← HR.out]; simp [refB, z1, z2, z3], HF.out.trans (Fr.drewN _ _ _)⟩
    · have q1 : (zk == 7) = false := by simp [h7]
      go_upto_region 11 with (fail)
      go_quiet (fail)
      go_upto_region 12 with (fail)
      go_quiet (fail)
      go_wp2
      go_ret
      obtain ⟨z1, z2, z3⟩ := HZ.out
      try dsimp only at z1 z2 z3
      exact ⟨by rw [← HR.out]; simp [refB, z1, z2, z3, h7], HF.out.trans (Fr.drewN _ _ _)⟩
  have n8 : (k == 8) = false := by simp [k8]
  by_cases k9 : k = 9
  · subst k9
    by_cases h7 : zo = 0
    · subst h7
      go_upto_region 16 with (fail)
      go_quiet (fail)
      go_wp2
      go_ret
      obtain ⟨z1, z2, z3⟩ := HZ.out
      try dsimp only at z1 z2 z3
      exact ⟨by rw [← HR.out]; simp [refB, z1, z2, z3], HF.out.trans (Fr.drewN _ _ _)⟩
    · have q1 : (zo == 0) = false := by simp [h7]
      have q2 : (zo != 0) = true := by simp [h7]
      go_upto_region 16 with (fail)
      go_quiet (fail)
      go_wp2
      go_ret
      obtain ⟨z1, z2, z3⟩ := HZ.out
      try dsimp only at z1 z2 z3
      exact ⟨by rw [← HR.out]; simp [refB, z1, z2, z3, h7], HF.out.trans (Fr.drewN _ _ _)⟩
  have n9 : (k == 9) = false := by simp [k9]
  by_cases k10 : k = 10
  · subst k10
    by_cases h7 : zo = 0
    · subst h7
      go_upto_region 16 with (fail)
      go_quiet (fail)
      go_wp2
      go_ret
      obtain ⟨z1, z2, z3⟩ := HZ.out
      try dsimp only at z1 z2 z3
      exact ⟨by rw [← HR.out]; simp [refB, z1, z2, z3], HF.out.trans (Fr.drewN _ _ _)⟩
    · have q1 : (zo == 0) = false := by simp [h7]
      have q2 : (zo != 0) = true := by simp [h7]
      go_upto_region 16 with (fail)
      go_quiet (fail)
      go_wp2
      go_ret
      obtain ⟨z1, z2, z3⟩ := HZ.out
      try dsimp only at z1 z2 z3
      exact ⟨by rw [← HR.out]; simp [refB, z1, z2, z3, h7], HF.out.trans (Fr.drewN _ _ _)⟩
  have n10 : (k == 10) = false := by simp [k10]
  by_cases k11 : k = 11
  · subst k11
    by_cases h7 : zo = 0
    · subst h7
      go_upto_region 16 with (fail)
      go_quiet (fail)
      go_wp2
      go_ret
      obtain ⟨z1, z2, z3⟩ := HZ.out
      try dsimp only at z1 z2 z3
      exact ⟨by rw [← HR.out]; simp [refB, z1, z2, z3], HF.out.trans (Fr.drewN _ _ _)⟩
    · have q1 : (zo == 0) = false := by simp [h7]
      have q2 : (zo != 0) = true := by simp [h7]
      go_upto_region 16 with (fail)
      go_quiet (fail)
      go_wp2
      go_ret
      obtain ⟨z1, z2, z3⟩ := HZ.out
      try dsimp only at z1 z2 z3
      exact ⟨by rw [← HR.out]; simp [refB, z1, z2, z3, h7], HF.out.trans (Fr.drewN _ _ _)⟩
  have n11 : (k == 11) = false := by simp [k11]
  by_cases k13 : k = 13
  · subst k13
    by_cases h7 : zk = 12
    · subst h7
      go_upto_region 22 with (fail)
      go_quiet (fail)
      go_wp2
      go_ret
      obtain ⟨z1, z2, z3⟩ := HZ.out
      try dsimp only at z1 z2 z3
      exact ⟨by rw [← HR.out]; simp [refB, z1, z2, z3], HF.out.trans (Fr.drewN _ _ _)⟩
    · have q1 : (zk == 12) = false := by simp [h7]
      have q2 : (zk != 12) = true := by simp [h7]
      go_upto_region 22 with (fail)
      go_quiet (fail)
      go_wp2
      go_ret
      obtain ⟨z1, z2, z3⟩ := HZ.out
      try dsimp only at z1 z2 z3
      exact ⟨by rw [← HR.out]; simp [refB, z1, z2, z3, h7], HF.out.trans (Fr.drewN _ _ _)⟩
  have n13 : (k == 13) = false := by simp [k13]
  by_cases k14 : k = 14
  · subst k14
    by_cases h7 : zk = 12
    · subst h7
      go_upto_region 22 with (fail)
      go_quiet (fail)
      go_wp2
      go_ret
      obtain ⟨z1, z2, z3⟩ := HZ.out
      try dsimp only at z1 z2 z3
      exact ⟨by rw [← HR.out]; simp [refB, z1, z2, z3], HF.out.trans (Fr.drewN _ _ _)⟩
    · have q1 : (zk == 12) = false := by simp [h7]
      have q2 : (zk != 12) = true := by simp [h7]
      go_upto_region 22 with (fail)
      go_quiet (fail)
      go_wp2
      go_ret
      obtain ⟨z1, z2, z3⟩ := HZ.out
      try dsimp only at z1 z2 z3
      exact ⟨by rw [← HR.out]; simp [refB, z1, z2, z3, h7], HF.out.trans (Fr.drewN _ _ _)⟩
  have n14 : (k == 14) = false := by simp [k14]
  by_cases k18 : k = 18
  · subst k18
    by_cases h7 : zk = 17
    · subst h7
      go_upto_region 22 with (fail)
      go_quiet (fail)
      go_wp2
      go_ret
      obtain ⟨z1, z2, z3⟩ := HZ.out
      try dsimp only at z1 z2 z3
      exact ⟨by rw [← HR.out]; simp [refB, z1, z2, z3], HF.out.trans (Fr.drewN _ _ _)⟩
    · have q1 : (zk == 17) = false := by simp [h7]
      have q2 : (zk != 17) = true := by simp [h7]
      go_upto_region 22 with (fail)
      go_quiet (fail)
      go_wp2
      go_ret
      obtain ⟨z1, z2, z3⟩ := HZ.out
      try dsimp only at z1 z2 z3
      exact ⟨by rw [← HR.out]; simp [refB, z1, z2, z3, h7], HF.out.trans (Fr.drewN _ _ _)⟩
  have n18 : (k == 18) = false := by simp [k18]
  have HK := Lib.hid (show refB ⟨n0, at0, cl0, task, begun, kinds, ids, of0, from0⟩ ⟨k, at_, ref, id, list, n, ao, dl, cp⟩ = (ref == 0) by simp [refB, k3, k4, k5, k6, k8, k9, k10, k11, k13, k14, k18])
  by_cases h0 : ref = 0
  · subst h0
    go_wp2
    go_ret
    exact ⟨by rw [← HR.out, HK.out]; rfl, HF.out⟩
  · have q1 : (ref == 0) = false := by simp [h0]
    go_wp2
    go_ret
    exact ⟨by rw [← HR.out, HK.out, q1]; rfl, HF.out⟩
end Go.Proofs.Ytnkelaohcbdjnaa.Ev
