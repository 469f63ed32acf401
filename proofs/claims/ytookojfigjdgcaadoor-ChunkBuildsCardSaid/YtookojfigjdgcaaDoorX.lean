/- A builder: Done. -/
import Derived.Test.YtookojfigjdgcaaDoorW
set_option linter.unusedVariables false
set_option linter.unusedSimpArgs false
namespace Go.Proofs.YtookojfigjdgcaaDoor
open Go.RowKit
set_option maxRecDepth 100000 in
set_option maxHeartbeats 4000000 in
/-- the builder's Done -/
theorem Done_any (W : World) (B bb : Nat) (id total sum : Int) (bs : List UInt8) (h : BS W B bb id total sum bs) (hB : B ≤ W.heap.size) (hbs : bs.length ≤ 1048576) :
    Calls Tryd.prog 14 #[.pointer (some ⟨bb, 0, none⟩)] W fun r W' => Fr (fun k => k = bb) W W' ∧
      ((id < 0 ∨ (bs.length : Int) < total) → BS W' B bb id total sum bs ∧ ∃ pb, W.heap.size ≤ pb ∧ Blk W' pb 65 #[.int .i64 id, .iface 63 (.int .i64 6)] ∧ r = .returned (.tuple #[.slice none 0 0, .iface 62 (.pointer (some ⟨pb, 0, none⟩))])) ∧
      (¬ (id < 0 ∨ (bs.length : Int) < total) → BS W' B bb (-1) 0 0 [] ∧
        (((crc bs).toNat : Int) ≠ sum → ∃ pb, W.heap.size ≤ pb ∧ Blk W' pb 65 #[.int .i64 id, .iface 63 (.int .i64 9)] ∧ r = .returned (.tuple #[.slice none 0 0, .iface 62 (.pointer (some ⟨pb, 0, none⟩))])) ∧
        (((crc bs).toNat : Int) = sum → ∃ v, r = .returned (.tuple #[v, .nilIface]) ∧ OwnY W' B v bs)) := by
  obtain ⟨v, hb, ho⟩ := h
  obtain ⟨bo, bc, rfl, _⟩ := ho.row
  obtain ⟨n, hn⟩ : ∃ n, bs.length = n := ⟨_, rfl⟩
  rw [hn] at hb ho hbs ⊢
  have HBK := Lib.hid hb
  have HO := Lib.hid ho
  have HN := Lib.hid hn
  have HM := Lib.hid (And.intro hB hbs)
  obtain ⟨g, hg⟩ : ∃ g, W.heap.size = g := ⟨_, rfl⟩
  have HLT : Hid (bb < g) := Lib.hid (by rw [← hg]; exact hb.lt)
  have b0 := hb.cell 0
  have b1 := hb.cell 1
  have b2 := hb.cell 2
  have b3 := hb.cell 3
  have b4 := hb.cell 4
  simp only [List.getElem?_toArray, List.getElem?_cons_zero, List.getElem?_cons_succ] at b0 b1 b2 b3 b4
  clear hb ho hn hB hbs
  go_enter Tryd.func14, Tryd.ntmps14
  go_upto_region 2 with (fail)
  have HP : Hid (Blk (W.alloc (.cells #[.int .i64 id, .int .i64 0, .int .i64 total, .int .u32 sum, .slice bo n bc] 36)) g 36 #[.int .i64 id, .int .i64 0, .int .i64 total, .int .u32 sum, .slice bo n bc]) := Lib.hid (by rw [← hg]; exact Blk.new W _ _)
  have HF : Hid (Fr (fun _ => False) W (W.alloc (.cells #[.int .i64 id, .int .i64 0, .int .i64 total, .int .u32 sum, .slice bo n bc] 36))) := Lib.hid (Fr.alloc _ _ _)
  obtain ⟨w1, hw1⟩ : ∃ w, W.alloc (.cells #[.int .i64 id, .int .i64 0, .int .i64 total, .int .u32 sum, .slice bo n bc] 36) = w := ⟨_, rfl⟩
  rw [hw1] at HP HF ⊢
  clear hw1 b0 b1 b2 b3 b4
  have s0 := HP.out.cell 0
  have s2 := HP.out.cell 2
  have s3 := HP.out.cell 3
  have s4 := HP.out.cell 4
  simp only [List.getElem?_toArray, List.getElem?_cons_zero, List.getElem?_cons_succ] at s0 s2 s3 s4
  have HKEEP : Hid (∀ w', Fr (fun _ => False) w1 w' → BS w' B bb id total sum bs) := Lib.hid (fun w' hf => ⟨_, HBK.out.fr (HF.out.trans hf) (fun e => e), by
    have := HO.out.fr (HF.out.trans hf) (fun _ _ e => e)
    exact this⟩)
  by_cases hc : id < 0 ∨ (n : Int) < total
  · have HC := Lib.hid hc
    have fa : decide (id < 0) = true ∨ (decide (id < 0) = false ∧ decide ((n : Int) < total) = true) := by
      by_cases h1 : id < 0
      · exact .inl (decide_eq_true h1)
      · exact .inr ⟨decide_eq_false h1, decide_eq_true (hc.resolve_left h1)⟩
    clear hc
    have HP2 := HP
    obtain ⟨w2, hw2⟩ : ∃ w, w1 = w := ⟨_, rfl⟩
    have HF2 : Hid (Fr (fun k => k = bb) W w1) := Lib.hid (HF.out.mono fun _ e => e.elim)
    rw [hw2] at HP2 HF2 HKEEP s0 s2 s3 s4 ⊢
    clear hw2 HP HF
    rcases fa with fa | ⟨fa, fb⟩
    · skip
      go_upto_region 3 with (fail)
      have FACT : Hid (∀ w', Fr (fun _ => False) w2 w' → w'.cell? ⟨g, 0, none⟩ = some (.int .i64 id)) := Lib.hid (fun w' hf => (HP2.out.fr hf (fun e => e)).cell 0)
      have HBLK := Lib.hid (Blk.new w2.drew 65 #[.int .i64 id, .iface 63 (.int .i64 6)])
      have HLEN : Hid (W.heap.size ≤ w2.drew.heap.size) := Lib.hid HF2.out.size
      refine wp_region_held_drew (S := fun (w' : World) => w'.cell? ⟨g, 0, none⟩ = some (.int .i64 id)) (by kernel_rfl) (FACT.out _ (Fr.drewN _ w2 1)) (fun hHeld => ?_)
      have hfd : Fr (fun _ => False) w2 w2.drew := Fr.drewN _ w2 1
      obtain ⟨wd, hwd⟩ : ∃ w, w2.drew = w := ⟨_, rfl⟩
      rw [hwd] at hHeld hfd HBLK HLEN ⊢
      clear hwd
      have hfa : Fr (fun _ => False) w2 (wd.alloc (.cells #[.int .i64 id, .iface 63 (.int .i64 6)] 65)) := hfd.trans (Fr.alloc _ _ _)
      have HFA := Lib.hid hfa
      clear hfd hfa
      refine wpAnyH_take (i := 0) (oi := _) (v := ?va3u0) rfl (by kernel_rfl) (by kernel_rfl) (by kernel_rfl) (fun _ _ _ h => h) (Or.inl ⟨by rfl, ?ya3u0⟩) (by assumption) ?ra3u0
      case ya3u0 => intro w1 hSw; have s1 := hSw; go_simp; try with_reducible rfl
      try simp only [List.getElem_toArray, List.getElem_cons_zero, List.getElem_cons_succ, Act.put, List.setIfInBounds_toArray, List.set_cons_zero, List.set_cons_succ]
      refine wpAnyH_take (i := 1) (oi := _) (v := ?va3u1) rfl (by kernel_rfl) (by kernel_rfl) (by kernel_rfl) (fun _ _ _ h => h) (Or.inl ⟨by rfl, ?ya3u1⟩) (by assumption) ?ra3u1
      case ya3u1 => intro w1 hSw; have s1 := hSw; go_simp; try with_reducible rfl
      try simp only [List.getElem_toArray, List.getElem_cons_zero, List.getElem_cons_succ, Act.put, List.setIfInBounds_toArray, List.set_cons_zero, List.set_cons_succ]
      refine wpAnyH_take (i := 2) (oi := _) (v := ?va3u2) rfl (by kernel_rfl) (by kernel_rfl) (by kernel_rfl) (fun _ _ _ h => h) (Or.inl ⟨by rfl, ?ya3u2⟩) (by assumption) ?ra3u2
      case ya3u2 => intro w1 hSw; have s1 := hSw; go_simp; try with_reducible rfl
      try simp only [List.getElem_toArray, List.getElem_cons_zero, List.getElem_cons_succ, Act.put, List.setIfInBounds_toArray, List.set_cons_zero, List.set_cons_succ]
      refine wpAnyH_take (i := 3) (oi := _) (v := ?va3u3) rfl (by kernel_rfl) (by kernel_rfl) (by kernel_rfl) (fun _ _ _ h => h) (Or.inl ⟨by rfl, ?ya3u3⟩) (by assumption) ?ra3u3
      case ya3u3 => intro w1 hSw; have s1 := hSw; go_simp; try with_reducible rfl
      try simp only [List.getElem_toArray, List.getElem_cons_zero, List.getElem_cons_succ, Act.put, List.setIfInBounds_toArray, List.set_cons_zero, List.set_cons_succ]
      refine wpAnyH_take (i := 6) (oi := _) (v := ?va3u6) rfl (by kernel_rfl) (by kernel_rfl) (by kernel_rfl) (fun _ _ _ h => h) (Or.inl ⟨by rfl, ?ya3u6⟩) (by assumption) ?ra3u6
      case ya3u6 => intro w1 hSw; have s1 := hSw; go_simp; try with_reducible rfl
      try simp only [List.getElem_toArray, List.getElem_cons_zero, List.getElem_cons_succ, Act.put, List.setIfInBounds_toArray, List.set_cons_zero, List.set_cons_succ]
      refine wpAnyH_ready (rs := [4]) (by kernel_rfl) (by simp) ?_
      refine AllReadyH.cons (o := _) rfl (fun K hK => ?_) AllReadyH.nil
      rw [if_pos (by rfl)]
      try simp only [List.getElem_toArray, List.getElem_cons_zero, List.getElem_cons_succ]
      go_simp
      obtain ⟨wA, hwA⟩ : ∃ w, wd.alloc (.cells #[.int .i64 id, .iface 63 (.int .i64 6)] 65) = w := ⟨_, rfl⟩
      rw [hwA] at HBLK HFA ⊢
      clear hwA
      refine hK.out _ _ (FACT.out _ HFA.out) (fun hHA => ?_)
      clear hK K hHeld
      try simp only [List.getElem_toArray, List.getElem_cons_zero, List.getElem_cons_succ, Act.put, List.setIfInBounds_toArray, List.set_cons_zero, List.set_cons_succ]
      refine wpAnyH_take (i := 5) (oi := _) (v := ?vb3u5) rfl (by kernel_rfl) (by kernel_rfl) (by kernel_rfl) (fun _ _ _ h => h) (Or.inl ⟨by rfl, ?yb3u5⟩) (by assumption) ?rb3u5
      case yb3u5 => intro w1 hSw; have s1 := hSw; go_simp; try with_reducible rfl
      try simp only [List.getElem_toArray, List.getElem_cons_zero, List.getElem_cons_succ, Act.put, List.setIfInBounds_toArray, List.set_cons_zero, List.set_cons_succ]
      refine wpAnyH_take (i := 7) (oi := _) (v := ?vb3u7) rfl (by kernel_rfl) (by kernel_rfl) (by kernel_rfl) (fun _ _ _ h => h) (Or.inl ⟨by rfl, ?yb3u7⟩) (by assumption) ?rb3u7
      case yb3u7 => intro w1 hSw; have s1 := hSw; go_simp; try with_reducible rfl
      try simp only [List.getElem_toArray, List.getElem_cons_zero, List.getElem_cons_succ, Act.put, List.setIfInBounds_toArray, List.set_cons_zero, List.set_cons_succ]
      refine wpAnyH_done (by kernel_rfl) ?_ _
      clear FACT
      go_wp2
      go_ret2
      exact ⟨HF2.out.trans (HFA.out.mono fun _ e => e.elim), fun _ => ⟨HKEEP.out _ HFA.out, _, HLEN.out, HBLK.out, rfl⟩, fun h => absurd HC.out h⟩
    · skip
      go_upto_region 3 with (fail)
      have FACT : Hid (∀ w', Fr (fun _ => False) w2 w' → w'.cell? ⟨g, 0, none⟩ = some (.int .i64 id)) := Lib.hid (fun w' hf => (HP2.out.fr hf (fun e => e)).cell 0)
      have HBLK := Lib.hid (Blk.new w2.drew 65 #[.int .i64 id, .iface 63 (.int .i64 6)])
      have HLEN : Hid (W.heap.size ≤ w2.drew.heap.size) := Lib.hid HF2.out.size
      refine wp_region_held_drew (S := fun (w' : World) => w'.cell? ⟨g, 0, none⟩ = some (.int .i64 id)) (by kernel_rfl) (FACT.out _ (Fr.drewN _ w2 1)) (fun hHeld => ?_)
      have hfd : Fr (fun _ => False) w2 w2.drew := Fr.drewN _ w2 1
      obtain ⟨wd, hwd⟩ : ∃ w, w2.drew = w := ⟨_, rfl⟩
      rw [hwd] at hHeld hfd HBLK HLEN ⊢
      clear hwd
      have hfa : Fr (fun _ => False) w2 (wd.alloc (.cells #[.int .i64 id, .iface 63 (.int .i64 6)] 65)) := hfd.trans (Fr.alloc _ _ _)
      have HFA := Lib.hid hfa
      clear hfd hfa
      refine wpAnyH_take (i := 0) (oi := _) (v := ?va3v0) rfl (by kernel_rfl) (by kernel_rfl) (by kernel_rfl) (fun _ _ _ h => h) (Or.inl ⟨by rfl, ?ya3v0⟩) (by assumption) ?ra3v0
      case ya3v0 => intro w1 hSw; have s1 := hSw; go_simp; try with_reducible rfl
      try simp only [List.getElem_toArray, List.getElem_cons_zero, List.getElem_cons_succ, Act.put, List.setIfInBounds_toArray, List.set_cons_zero, List.set_cons_succ]
      refine wpAnyH_take (i := 1) (oi := _) (v := ?va3v1) rfl (by kernel_rfl) (by kernel_rfl) (by kernel_rfl) (fun _ _ _ h => h) (Or.inl ⟨by rfl, ?ya3v1⟩) (by assumption) ?ra3v1
      case ya3v1 => intro w1 hSw; have s1 := hSw; go_simp; try with_reducible rfl
      try simp only [List.getElem_toArray, List.getElem_cons_zero, List.getElem_cons_succ, Act.put, List.setIfInBounds_toArray, List.set_cons_zero, List.set_cons_succ]
      refine wpAnyH_take (i := 2) (oi := _) (v := ?va3v2) rfl (by kernel_rfl) (by kernel_rfl) (by kernel_rfl) (fun _ _ _ h => h) (Or.inl ⟨by rfl, ?ya3v2⟩) (by assumption) ?ra3v2
      case ya3v2 => intro w1 hSw; have s1 := hSw; go_simp; try with_reducible rfl
      try simp only [List.getElem_toArray, List.getElem_cons_zero, List.getElem_cons_succ, Act.put, List.setIfInBounds_toArray, List.set_cons_zero, List.set_cons_succ]
      refine wpAnyH_take (i := 3) (oi := _) (v := ?va3v3) rfl (by kernel_rfl) (by kernel_rfl) (by kernel_rfl) (fun _ _ _ h => h) (Or.inl ⟨by rfl, ?ya3v3⟩) (by assumption) ?ra3v3
      case ya3v3 => intro w1 hSw; have s1 := hSw; go_simp; try with_reducible rfl
      try simp only [List.getElem_toArray, List.getElem_cons_zero, List.getElem_cons_succ, Act.put, List.setIfInBounds_toArray, List.set_cons_zero, List.set_cons_succ]
      refine wpAnyH_take (i := 6) (oi := _) (v := ?va3v6) rfl (by kernel_rfl) (by kernel_rfl) (by kernel_rfl) (fun _ _ _ h => h) (Or.inl ⟨by rfl, ?ya3v6⟩) (by assumption) ?ra3v6
      case ya3v6 => intro w1 hSw; have s1 := hSw; go_simp; try with_reducible rfl
      try simp only [List.getElem_toArray, List.getElem_cons_zero, List.getElem_cons_succ, Act.put, List.setIfInBounds_toArray, List.set_cons_zero, List.set_cons_succ]
      refine wpAnyH_ready (rs := [4]) (by kernel_rfl) (by simp) ?_
      refine AllReadyH.cons (o := _) rfl (fun K hK => ?_) AllReadyH.nil
      rw [if_pos (by rfl)]
      try simp only [List.getElem_toArray, List.getElem_cons_zero, List.getElem_cons_succ]
      go_simp
      obtain ⟨wA, hwA⟩ : ∃ w, wd.alloc (.cells #[.int .i64 id, .iface 63 (.int .i64 6)] 65) = w := ⟨_, rfl⟩
      rw [hwA] at HBLK HFA ⊢
      clear hwA
      refine hK.out _ _ (FACT.out _ HFA.out) (fun hHA => ?_)
      clear hK K hHeld
      try simp only [List.getElem_toArray, List.getElem_cons_zero, List.getElem_cons_succ, Act.put, List.setIfInBounds_toArray, List.set_cons_zero, List.set_cons_succ]
      refine wpAnyH_take (i := 5) (oi := _) (v := ?vb3v5) rfl (by kernel_rfl) (by kernel_rfl) (by kernel_rfl) (fun _ _ _ h => h) (Or.inl ⟨by rfl, ?yb3v5⟩) (by assumption) ?rb3v5
      case yb3v5 => intro w1 hSw; have s1 := hSw; go_simp; try with_reducible rfl
      try simp only [List.getElem_toArray, List.getElem_cons_zero, List.getElem_cons_succ, Act.put, List.setIfInBounds_toArray, List.set_cons_zero, List.set_cons_succ]
      refine wpAnyH_take (i := 7) (oi := _) (v := ?vb3v7) rfl (by kernel_rfl) (by kernel_rfl) (by kernel_rfl) (fun _ _ _ h => h) (Or.inl ⟨by rfl, ?yb3v7⟩) (by assumption) ?rb3v7
      case yb3v7 => intro w1 hSw; have s1 := hSw; go_simp; try with_reducible rfl
      try simp only [List.getElem_toArray, List.getElem_cons_zero, List.getElem_cons_succ, Act.put, List.setIfInBounds_toArray, List.set_cons_zero, List.set_cons_succ]
      refine wpAnyH_done (by kernel_rfl) ?_ _
      clear FACT
      go_wp2
      go_ret2
      exact ⟨HF2.out.trans (HFA.out.mono fun _ e => e.elim), fun _ => ⟨HKEEP.out _ HFA.out, _, HLEN.out, HBLK.out, rfl⟩, fun h => absurd HC.out h⟩
  · have HC := Lib.hid hc
    have fa : decide (id < 0) = false := decide_eq_false (fun e => hc (.inl e))
    have fb : decide ((n : Int) < total) = false := decide_eq_false (fun e => hc (.inr e))
    clear hc
    have HBS1 := Lib.hid (HKEEP.out _ (Fr.refl _ w1))
    go_upto_region 5 with (first | (go_at_call 17; refine (drop_any w1 B bb id total sum bs HBS1.out).mono ?_; rintro r3 w2 ⟨⟨v3, rfl⟩, hbs3, hf3⟩) | go_in)
    have HP2 := Lib.hid (HP.out.fr hf3 (by have := HLT.out; omega))
    have hfw := (HF.out.mono (S' := fun k => k = bb) fun _ e => e.elim).trans hf3
    have HR2 : Hid (RowY w2 bo bs) := Lib.hid (RowY_own (HO.out.fr hfw (fun k hk e => HO.out.notBlk HBK.out (by decide) (e ▸ hk))))
    have HO2 : Hid (OwnY w2 B (.slice bo n bc) bs) := Lib.hid (HO.out.fr hfw (fun k hk e => HO.out.notBlk HBK.out (by decide) (e ▸ hk)))
    have HF2 := Lib.hid hfw
    have HBS2 := Lib.hid hbs3
    clear hf3 hfw hbs3 s0 s2 s3 s4 HKEEP HBS1
    have FACT5 : Hid (∀ w', Fr (fun _ => False) w2 w' → w'.cell? ⟨g, 4, none⟩ = some (.slice bo n bc) ∧ w'.cell? ⟨g, 3, none⟩ = some (.int .u32 sum)) := Lib.hid (fun w' hf => by
      have h := HP2.out.fr hf (fun e => e)
      exact ⟨h.cell 4, h.cell 3⟩)
    refine wp_region_held_drew (S := fun (w' : World) => w'.cell? ⟨g, 4, none⟩ = some (.slice bo n bc) ∧ w'.cell? ⟨g, 3, none⟩ = some (.int .u32 sum)) (by kernel_rfl) (FACT5.out _ (Fr.drewN _ w2 1)) (fun hHeld => ?_)
    have hfd : Fr (fun _ => False) w2 w2.drew := Fr.drewN _ w2 1
    obtain ⟨wd, hwd⟩ : ∃ w, w2.drew = w := ⟨_, rfl⟩
    rw [hwd] at hHeld hfd ⊢
    have HFD := Lib.hid hfd
    clear hwd hfd
    refine wpAnyH_take (i := 0) (oi := _) (v := ?vc50) rfl (by kernel_rfl) (by kernel_rfl) (by kernel_rfl) (fun _ _ _ h => h) (Or.inl ⟨by rfl, ?yc50⟩) (by assumption) ?rc50
    case yc50 => intro w1 hSw; obtain ⟨s1, s2⟩ := hSw; go_simp; try with_reducible rfl
    try simp only [List.getElem_toArray, List.getElem_cons_zero, List.getElem_cons_succ, Act.put, List.setIfInBounds_toArray, List.set_cons_zero, List.set_cons_succ]
    refine wpAnyH_take (i := 1) (oi := _) (v := ?vc51) rfl (by kernel_rfl) (by kernel_rfl) (by kernel_rfl) (fun _ _ _ h => h) (Or.inl ⟨by rfl, ?yc51⟩) (by assumption) ?rc51
    case yc51 => intro w1 hSw; obtain ⟨s1, s2⟩ := hSw; go_simp; try with_reducible rfl
    try simp only [List.getElem_toArray, List.getElem_cons_zero, List.getElem_cons_succ, Act.put, List.setIfInBounds_toArray, List.set_cons_zero, List.set_cons_succ]
    refine wpAnyH_take (i := 3) (oi := _) (v := ?vc53) rfl (by kernel_rfl) (by kernel_rfl) (by kernel_rfl) (fun _ _ _ h => h) (Or.inl ⟨by rfl, ?yc53⟩) (by assumption) ?rc53
    case yc53 => intro w1 hSw; obtain ⟨s1, s2⟩ := hSw; go_simp; try with_reducible rfl
    try simp only [List.getElem_toArray, List.getElem_cons_zero, List.getElem_cons_succ, Act.put, List.setIfInBounds_toArray, List.set_cons_zero, List.set_cons_succ]
    refine wpAnyH_take (i := 4) (oi := _) (v := ?vc54) rfl (by kernel_rfl) (by kernel_rfl) (by kernel_rfl) (fun _ _ _ h => h) (Or.inl ⟨by rfl, ?yc54⟩) (by assumption) ?rc54
    case yc54 => intro w1 hSw; obtain ⟨s1, s2⟩ := hSw; go_simp; try with_reducible rfl
    try simp only [List.getElem_toArray, List.getElem_cons_zero, List.getElem_cons_succ, Act.put, List.setIfInBounds_toArray, List.set_cons_zero, List.set_cons_succ]
    refine wpAnyH_ready (rs := [2]) (by kernel_rfl) (by simp) ?_
    refine AllReadyH.cons (o := _) rfl (fun K hK => ?_) AllReadyH.nil
    rw [if_pos (by rfl)]
    try simp only [List.getElem_toArray, List.getElem_cons_zero, List.getElem_cons_succ]
    go_simp
    go_at_call 21
    refine (sum_any wd bo bc n bs (HR2.out.fr0 HFD.out) HN.out (by have := HM.out; omega)).mono ?_
    rintro r5 w5 ⟨rfl, hf5⟩
    have hf5' := HFD.out.trans hf5
    refine hK.out _ _ (FACT5.out _ hf5') (fun hHA => ?_)
    clear hK K hHeld
    try simp only [List.getElem_toArray, List.getElem_cons_zero, List.getElem_cons_succ, Act.put, List.setIfInBounds_toArray, List.set_cons_zero, List.set_cons_succ]
    obtain ⟨x, hx⟩ : ∃ x : Int, ((crc bs).toNat : Int) = x := ⟨_, rfl⟩
    rw [hx]
    have HX := Lib.hid hx
    have HP5 := Lib.hid (HP2.out.fr hf5' (fun e => e))
    have HF5 := Lib.hid (HF2.out.trans (hf5'.mono (S' := fun k => k = bb) fun _ e => e.elim))
    have HO5 := Lib.hid (HO2.out.fr hf5' (fun _ _ e => e))
    have HBS5 := Lib.hid (HBS2.out.fr0 hf5')
    clear hf5 hf5' hx HP2 HF2 HO2 HBS2 HFD HP HF HR2
    by_cases hxs : x = sum
    · subst hxs
      have e1 : (x == x) = true := by simp
      have e2 : (x != x) = false := by simp
      refine wpAnyH_take (i := 5) (oi := _) (v := ?vd55) rfl (by kernel_rfl) (by kernel_rfl) (by kernel_rfl) (fun _ _ _ h => h) (Or.inl ⟨by rfl, ?yd55⟩) (by assumption) ?rd55
      case yd55 => intro w1 hSw; obtain ⟨s1, s2⟩ := hSw; go_simp; try with_reducible rfl
      try simp only [List.getElem_toArray, List.getElem_cons_zero, List.getElem_cons_succ, Act.put, List.setIfInBounds_toArray, List.set_cons_zero, List.set_cons_succ]
      refine wpAnyH_done (by kernel_rfl) ?_ _
      clear FACT5
      have s4 := HP5.out.cell 4
      simp only [List.getElem?_toArray, List.getElem?_cons_zero, List.getElem?_cons_succ] at s4
      go_wp2
      go_ret2
      exact ⟨HF5.out, fun h => absurd h HC.out, fun _ => ⟨HBS5.out, fun h => absurd HX.out h, fun _ => ⟨_, rfl, HO5.out⟩⟩⟩
    · have e1 : (x == sum) = false := by simp [hxs]
      have e2 : (x != sum) = true := by simp [hxs]
      have HXS := Lib.hid hxs
      clear hxs
      refine wpAnyH_take (i := 5) (oi := _) (v := ?ve55) rfl (by kernel_rfl) (by kernel_rfl) (by kernel_rfl) (fun _ _ _ h => h) (Or.inl ⟨by rfl, ?ye55⟩) (by assumption) ?re55
      case ye55 => intro w1 hSw; obtain ⟨s1, s2⟩ := hSw; go_simp; try with_reducible rfl
      try simp only [List.getElem_toArray, List.getElem_cons_zero, List.getElem_cons_succ, Act.put, List.setIfInBounds_toArray, List.set_cons_zero, List.set_cons_succ]
      refine wpAnyH_done (by kernel_rfl) ?_ _
      clear FACT5 hHA
      obtain ⟨w2, hw2⟩ : ∃ w, w5 = w := ⟨_, rfl⟩
      rw [hw2] at HP5 HF5 HBS5 HO5 ⊢
      clear hw2
      have HP2 := HP5
      have HF2 := HF5
      have s0 := HP2.out.cell 0
      simp only [List.getElem?_toArray, List.getElem?_cons_zero, List.getElem?_cons_succ] at s0
      go_upto_region 6 with (fail)
      have FACT : Hid (∀ w', Fr (fun _ => False) w2 w' → w'.cell? ⟨g, 0, none⟩ = some (.int .i64 id)) := Lib.hid (fun w' hf => (HP2.out.fr hf (fun e => e)).cell 0)
      have HBLK := Lib.hid (Blk.new w2.drew 65 #[.int .i64 id, .iface 63 (.int .i64 9)])
      have HLEN : Hid (W.heap.size ≤ w2.drew.heap.size) := Lib.hid HF2.out.size
      refine wp_region_held_drew (S := fun (w' : World) => w'.cell? ⟨g, 0, none⟩ = some (.int .i64 id)) (by kernel_rfl) (FACT.out _ (Fr.drewN _ w2 1)) (fun hHeld => ?_)
      have hfd : Fr (fun _ => False) w2 w2.drew := Fr.drewN _ w2 1
      obtain ⟨wd, hwd⟩ : ∃ w, w2.drew = w := ⟨_, rfl⟩
      rw [hwd] at hHeld hfd HBLK HLEN ⊢
      clear hwd
      have hfa : Fr (fun _ => False) w2 (wd.alloc (.cells #[.int .i64 id, .iface 63 (.int .i64 9)] 65)) := hfd.trans (Fr.alloc _ _ _)
      have HFA := Lib.hid hfa
      clear hfd hfa
      refine wpAnyH_take (i := 0) (oi := _) (v := ?va6w0) rfl (by kernel_rfl) (by kernel_rfl) (by kernel_rfl) (fun _ _ _ h => h) (Or.inl ⟨by rfl, ?ya6w0⟩) (by assumption) ?ra6w0
      case ya6w0 => intro w1 hSw; have s1 := hSw; go_simp; try with_reducible rfl
      try simp only [List.getElem_toArray, List.getElem_cons_zero, List.getElem_cons_succ, Act.put, List.setIfInBounds_toArray, List.set_cons_zero, List.set_cons_succ]
      refine wpAnyH_take (i := 1) (oi := _) (v := ?va6w1) rfl (by kernel_rfl) (by kernel_rfl) (by kernel_rfl) (fun _ _ _ h => h) (Or.inl ⟨by rfl, ?ya6w1⟩) (by assumption) ?ra6w1
      case ya6w1 => intro w1 hSw; have s1 := hSw; go_simp; try with_reducible rfl
      try simp only [List.getElem_toArray, List.getElem_cons_zero, List.getElem_cons_succ, Act.put, List.setIfInBounds_toArray, List.set_cons_zero, List.set_cons_succ]
      refine wpAnyH_take (i := 2) (oi := _) (v := ?va6w2) rfl (by kernel_rfl) (by kernel_rfl) (by kernel_rfl) (fun _ _ _ h => h) (Or.inl ⟨by rfl, ?ya6w2⟩) (by assumption) ?ra6w2
      case ya6w2 => intro w1 hSw; have s1 := hSw; go_simp; try with_reducible rfl
      try simp only [List.getElem_toArray, List.getElem_cons_zero, List.getElem_cons_succ, Act.put, List.setIfInBounds_toArray, List.set_cons_zero, List.set_cons_succ]
      refine wpAnyH_take (i := 3) (oi := _) (v := ?va6w3) rfl (by kernel_rfl) (by kernel_rfl) (by kernel_rfl) (fun _ _ _ h => h) (Or.inl ⟨by rfl, ?ya6w3⟩) (by assumption) ?ra6w3
      case ya6w3 => intro w1 hSw; have s1 := hSw; go_simp; try with_reducible rfl
      try simp only [List.getElem_toArray, List.getElem_cons_zero, List.getElem_cons_succ, Act.put, List.setIfInBounds_toArray, List.set_cons_zero, List.set_cons_succ]
      refine wpAnyH_take (i := 6) (oi := _) (v := ?va6w6) rfl (by kernel_rfl) (by kernel_rfl) (by kernel_rfl) (fun _ _ _ h => h) (Or.inl ⟨by rfl, ?ya6w6⟩) (by assumption) ?ra6w6
      case ya6w6 => intro w1 hSw; have s1 := hSw; go_simp; try with_reducible rfl
      try simp only [List.getElem_toArray, List.getElem_cons_zero, List.getElem_cons_succ, Act.put, List.setIfInBounds_toArray, List.set_cons_zero, List.set_cons_succ]
      refine wpAnyH_ready (rs := [4]) (by kernel_rfl) (by simp) ?_
      refine AllReadyH.cons (o := _) rfl (fun K hK => ?_) AllReadyH.nil
      rw [if_pos (by rfl)]
      try simp only [List.getElem_toArray, List.getElem_cons_zero, List.getElem_cons_succ]
      go_simp
      obtain ⟨wA, hwA⟩ : ∃ w, wd.alloc (.cells #[.int .i64 id, .iface 63 (.int .i64 9)] 65) = w := ⟨_, rfl⟩
      rw [hwA] at HBLK HFA ⊢
      clear hwA
      refine hK.out _ _ (FACT.out _ HFA.out) (fun hHA => ?_)
      clear hK K hHeld
      try simp only [List.getElem_toArray, List.getElem_cons_zero, List.getElem_cons_succ, Act.put, List.setIfInBounds_toArray, List.set_cons_zero, List.set_cons_succ]
      refine wpAnyH_take (i := 5) (oi := _) (v := ?vb6w5) rfl (by kernel_rfl) (by kernel_rfl) (by kernel_rfl) (fun _ _ _ h => h) (Or.inl ⟨by rfl, ?yb6w5⟩) (by assumption) ?rb6w5
      case yb6w5 => intro w1 hSw; have s1 := hSw; go_simp; try with_reducible rfl
      try simp only [List.getElem_toArray, List.getElem_cons_zero, List.getElem_cons_succ, Act.put, List.setIfInBounds_toArray, List.set_cons_zero, List.set_cons_succ]
      refine wpAnyH_take (i := 7) (oi := _) (v := ?vb6w7) rfl (by kernel_rfl) (by kernel_rfl) (by kernel_rfl) (fun _ _ _ h => h) (Or.inl ⟨by rfl, ?yb6w7⟩) (by assumption) ?rb6w7
      case yb6w7 => intro w1 hSw; have s1 := hSw; go_simp; try with_reducible rfl
      try simp only [List.getElem_toArray, List.getElem_cons_zero, List.getElem_cons_succ, Act.put, List.setIfInBounds_toArray, List.set_cons_zero, List.set_cons_succ]
      refine wpAnyH_done (by kernel_rfl) ?_ _
      clear FACT
      go_wp2
      go_ret2
      exact ⟨HF2.out.trans (HFA.out.mono fun _ e => e.elim), fun h => absurd h HC.out, fun _ => ⟨HBS5.out.fr0 HFA.out, fun _ => ⟨_, HLEN.out, HBLK.out, rfl⟩, fun h => absurd (HX.out.symm.trans h) HXS.out⟩⟩
end Go.Proofs.YtookojfigjdgcaaDoor
