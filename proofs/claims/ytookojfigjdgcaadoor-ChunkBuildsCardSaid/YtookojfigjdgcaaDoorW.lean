/- A builder: Add. -/
import Derived.Test.YtookojfigjdgcaaDoorV
set_option linter.unusedVariables false
set_option linter.unusedSimpArgs false
namespace Go.Proofs.YtookojfigjdgcaaDoor
open Go.RowKit
set_option maxRecDepth 100000 in
set_option maxHeartbeats 4000000 in
/-- the builder's Add: what `add` answers, wrapped -/
theorem Add_any (W : World) (B bb : Nat) (id total sum : Int) (bs l : List UInt8) (h : BS W B bb id total sum bs) (hB : B ≤ W.heap.size) (pid pat ptot psum : Int) (ao : Option Addr) (dl cp : Nat) (hl : RowY W ao l) (hd : l.length = dl) (hdl : dl ≤ 1000000) (hcp : dl ≤ cp) (hcm : cp ≤ 9223372036854775807) (hbs : bs.length ≤ 1048576)
    (e : Int) (he : addE id total sum bs.length pid pat ptot psum dl = e) :
    Calls Tryd.prog 13 #[.pointer (some ⟨bb, 0, none⟩), .agg #[.int .i64 pid, .int .i64 pat, .int .i64 ptot, .int .u32 psum, .slice ao dl cp]] W fun r W' => Fr (fun k => k = bb) W W' ∧
      (e ≠ 0 → BS W' B bb id total sum bs ∧ ∃ pb, W.heap.size ≤ pb ∧ Blk W' pb 65 #[.int .i64 pid, .iface 63 (.int .i64 e)] ∧ r = .returned (.tuple #[.bool false, .iface 62 (.pointer (some ⟨pb, 0, none⟩))])) ∧
      (e = 0 → BS W' B bb (fresh id pid pid id) (fresh id pid ptot total) (fresh id pid psum sum) (addB id bs pid pat l) ∧ r = .returned (.tuple #[.bool ((((addB id bs pid pat l).length : Int)) == fresh id pid ptot total), .nilIface])) := by
  have hp := Blk.new W 36 #[.int .i64 pid, .int .i64 pat, .int .i64 ptot, .int .u32 psum, .slice ao dl cp]
  have hf : Fr (fun _ => False) W (W.alloc (.cells #[.int .i64 pid, .int .i64 pat, .int .i64 ptot, .int .u32 psum, .slice ao dl cp] 36)) := Fr.alloc _ _ _
  have hblt : bb < W.heap.size := by obtain ⟨v, hb, _⟩ := h; exact hb.lt
  obtain ⟨w1, hw1⟩ : ∃ w, W.alloc (.cells #[.int .i64 pid, .int .i64 pat, .int .i64 ptot, .int .u32 psum, .slice ao dl cp] 36) = w := ⟨_, rfl⟩
  obtain ⟨g, hg⟩ : ∃ g, W.heap.size = g := ⟨_, rfl⟩
  rw [hw1] at hp hf
  rw [hg] at hp hblt
  have hcall := (add_any w1 B bb id total sum bs l (h.fr0 hf) (by have := hf.size; omega) pid pat ptot psum ao dl cp (hl.fr0 hf) hd hdl hcp hcm hbs)
  rw [he] at hcall
  obtain ⟨bs2, hbs2⟩ : ∃ x, addB id bs pid pat l = x := ⟨_, rfl⟩
  obtain ⟨id2, hid2⟩ : ∃ x, fresh id pid pid id = x := ⟨_, rfl⟩
  obtain ⟨tot2, htot2⟩ : ∃ x, fresh id pid ptot total = x := ⟨_, rfl⟩
  obtain ⟨sum2, hsum2⟩ : ∃ x, fresh id pid psum sum = x := ⟨_, rfl⟩
  obtain ⟨m, hm⟩ : ∃ m, bs2.length = m := ⟨_, rfl⟩
  rw [hbs2, hid2, htot2, hsum2] at hcall ⊢
  rw [hm]
  have HM := Lib.hid hm
  have HCALL := Lib.hid hcall
  have HP := Lib.hid hp
  have HF := Lib.hid hf
  have HLT := Lib.hid hblt
  have HG := Lib.hid hg
  have s0 := hp.cell 0
  have s1 := hp.cell 1
  have s2 := hp.cell 2
  have s3 := hp.cell 3
  have s4 := hp.cell 4
  simp only [List.getElem?_toArray, List.getElem?_cons_zero, List.getElem?_cons_succ] at s0 s1 s2 s3 s4
  clear hcall hbs2 hid2 htot2 hsum2 hm h hB hl hd hdl hcp hcm hbs he hp hf hblt
  go_enter Tryd.func13, Tryd.ntmps13
  go_upto_region 2 with (first | (go_at_call 30; (try rw [hw1]); refine HCALL.out.mono ?_; rintro r1 w2 ⟨rfl, hf2, hbad, hgood⟩) | go_in)
  have HP2 := Lib.hid (HP.out.fr hf2 (by have := HLT.out; omega))
  have HF2 := Lib.hid ((HF.out.mono (S' := fun k => k = bb) fun _ e => e.elim).trans hf2)
  clear s0 s1 s2 s3 s4
  have s0 := HP2.out.cell 0
  simp only [List.getElem?_toArray, List.getElem?_cons_zero, List.getElem?_cons_succ] at s0
  by_cases e0 : e = 0
  · subst e0
    have HGOOD := Lib.hid (hgood rfl)
    clear hbad hgood hf2
    obtain ⟨v, hb, ho⟩ := HGOOD.out
    obtain ⟨bo, bc, rfl, _⟩ := ho.row
    rw [HM.out] at hb
    have b2 := hb.cell 2
    have b4 := hb.cell 4
    simp only [List.getElem?_toArray, List.getElem?_cons_zero, List.getElem?_cons_succ] at b2 b4
    clear hb ho
    go_upto_region 4 with (fail)
    go_quiet (fail)
    go_wp2
    go_ret2
    exact ⟨HF2.out.trans (Fr.drewN _ _ _), HGOOD.out.fr0 (Fr.drewN _ _ _), rfl⟩
  · have q1 : (e == 0) = false := by simp [e0]
    have q2 : (e != 0) = true := by simp [e0]
    have HBAD := Lib.hid (hbad e0)
    clear hbad hgood hf2 
    go_upto_region 3 with (fail)
    have FACT : Hid (∀ w', Fr (fun _ => False) w2 w' → w'.cell? ⟨g, 0, none⟩ = some (.int .i64 pid)) := Lib.hid (fun w' hf => (HP2.out.fr hf (fun e => e)).cell 0)
    have HBLK := Lib.hid (Blk.new w2.drew 65 #[.int .i64 pid, .iface 63 (.int .i64 e)])
    have HLEN : Hid (W.heap.size ≤ w2.drew.heap.size) := Lib.hid HF2.out.size
    refine wp_region_held_drew (S := fun (w' : World) => w'.cell? ⟨g, 0, none⟩ = some (.int .i64 pid)) (by kernel_rfl) (FACT.out _ (Fr.drewN _ w2 1)) (fun hHeld => ?_)
    have hfd : Fr (fun _ => False) w2 w2.drew := Fr.drewN _ w2 1
    obtain ⟨wd, hwd⟩ : ∃ w, w2.drew = w := ⟨_, rfl⟩
    rw [hwd] at hHeld hfd HBLK HLEN ⊢
    clear hwd
    have hfa : Fr (fun _ => False) w2 (wd.alloc (.cells #[.int .i64 pid, .iface 63 (.int .i64 e)] 65)) := hfd.trans (Fr.alloc _ _ _)
    have HFA := Lib.hid hfa
    clear hfd hfa
    refine wpAnyH_take (i := 0) (oi := _) (v := ?va0) rfl (by kernel_rfl) (by kernel_rfl) (by kernel_rfl) (fun _ _ _ h => h) (Or.inl ⟨by rfl, ?ya0⟩) (by assumption) ?ra0
    case ya0 => intro w1 hSw; have s1 := hSw; go_simp; try with_reducible rfl
    try simp only [List.getElem_toArray, List.getElem_cons_zero, List.getElem_cons_succ, Act.put, List.setIfInBounds_toArray, List.set_cons_zero, List.set_cons_succ]
    refine wpAnyH_take (i := 1) (oi := _) (v := ?va1) rfl (by kernel_rfl) (by kernel_rfl) (by kernel_rfl) (fun _ _ _ h => h) (Or.inl ⟨by rfl, ?ya1⟩) (by assumption) ?ra1
    case ya1 => intro w1 hSw; have s1 := hSw; go_simp; try with_reducible rfl
    try simp only [List.getElem_toArray, List.getElem_cons_zero, List.getElem_cons_succ, Act.put, List.setIfInBounds_toArray, List.set_cons_zero, List.set_cons_succ]
    refine wpAnyH_take (i := 2) (oi := _) (v := ?va2) rfl (by kernel_rfl) (by kernel_rfl) (by kernel_rfl) (fun _ _ _ h => h) (Or.inl ⟨by rfl, ?ya2⟩) (by assumption) ?ra2
    case ya2 => intro w1 hSw; have s1 := hSw; go_simp; try with_reducible rfl
    try simp only [List.getElem_toArray, List.getElem_cons_zero, List.getElem_cons_succ, Act.put, List.setIfInBounds_toArray, List.set_cons_zero, List.set_cons_succ]
    refine wpAnyH_take (i := 3) (oi := _) (v := ?va3) rfl (by kernel_rfl) (by kernel_rfl) (by kernel_rfl) (fun _ _ _ h => h) (Or.inl ⟨by rfl, ?ya3⟩) (by assumption) ?ra3
    case ya3 => intro w1 hSw; have s1 := hSw; go_simp; try with_reducible rfl
    try simp only [List.getElem_toArray, List.getElem_cons_zero, List.getElem_cons_succ, Act.put, List.setIfInBounds_toArray, List.set_cons_zero, List.set_cons_succ]
    refine wpAnyH_take (i := 4) (oi := _) (v := ?va4) rfl (by kernel_rfl) (by kernel_rfl) (by kernel_rfl) (fun _ _ _ h => h) (Or.inl ⟨by rfl, ?ya4⟩) (by assumption) ?ra4
    case ya4 => intro w1 hSw; have s1 := hSw; go_simp; try with_reducible rfl
    try simp only [List.getElem_toArray, List.getElem_cons_zero, List.getElem_cons_succ, Act.put, List.setIfInBounds_toArray, List.set_cons_zero, List.set_cons_succ]
    refine wpAnyH_take (i := 7) (oi := _) (v := ?va7) rfl (by kernel_rfl) (by kernel_rfl) (by kernel_rfl) (fun _ _ _ h => h) (Or.inl ⟨by rfl, ?ya7⟩) (by assumption) ?ra7
    case ya7 => intro w1 hSw; have s1 := hSw; go_simp; try with_reducible rfl
    try simp only [List.getElem_toArray, List.getElem_cons_zero, List.getElem_cons_succ, Act.put, List.setIfInBounds_toArray, List.set_cons_zero, List.set_cons_succ]
    refine wpAnyH_ready (rs := [5]) (by kernel_rfl) (by simp) ?_
    refine AllReadyH.cons (o := _) rfl (fun K hK => ?_) AllReadyH.nil
    rw [if_pos (by rfl)]
    try simp only [List.getElem_toArray, List.getElem_cons_zero, List.getElem_cons_succ]
    go_simp
    obtain ⟨wA, hwA⟩ : ∃ w, wd.alloc (.cells #[.int .i64 pid, .iface 63 (.int .i64 e)] 65) = w := ⟨_, rfl⟩
    rw [hwA] at HBLK HFA ⊢
    clear hwA
    refine hK.out _ _ (FACT.out _ HFA.out) (fun hHA => ?_)
    clear hK K hHeld
    try simp only [List.getElem_toArray, List.getElem_cons_zero, List.getElem_cons_succ, Act.put, List.setIfInBounds_toArray, List.set_cons_zero, List.set_cons_succ]
    refine wpAnyH_take (i := 6) (oi := _) (v := ?vb6) rfl (by kernel_rfl) (by kernel_rfl) (by kernel_rfl) (fun _ _ _ h => h) (Or.inl ⟨by rfl, ?yb6⟩) (by assumption) ?rb6
    case yb6 => intro w1 hSw; have s1 := hSw; go_simp; try with_reducible rfl
    try simp only [List.getElem_toArray, List.getElem_cons_zero, List.getElem_cons_succ, Act.put, List.setIfInBounds_toArray, List.set_cons_zero, List.set_cons_succ]
    refine wpAnyH_take (i := 8) (oi := _) (v := ?vb8) rfl (by kernel_rfl) (by kernel_rfl) (by kernel_rfl) (fun _ _ _ h => h) (Or.inl ⟨by rfl, ?yb8⟩) (by assumption) ?rb8
    case yb8 => intro w1 hSw; have s1 := hSw; go_simp; try with_reducible rfl
    try simp only [List.getElem_toArray, List.getElem_cons_zero, List.getElem_cons_succ, Act.put, List.setIfInBounds_toArray, List.set_cons_zero, List.set_cons_succ]
    refine wpAnyH_done (by kernel_rfl) ?_ _
    clear FACT
    go_wp2
    go_ret2
    exact ⟨HF2.out.trans (HFA.out.mono fun _ e => e.elim), fun _ => ⟨HBAD.out.fr0 HFA.out, _, HLEN.out, HBLK.out, rfl⟩, fun h => absurd h e0⟩
end Go.Proofs.YtookojfigjdgcaaDoor
