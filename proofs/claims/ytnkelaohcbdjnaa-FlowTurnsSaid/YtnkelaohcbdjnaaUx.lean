/- What closes a run. -/
import Derived.Test.YtnkelaohcbdjnaaLx
import Derived.Test.YtnkelaohcbdjnaaHx
set_option linter.unusedVariables false
set_option linter.unusedSimpArgs false
namespace Go.Proofs.Ytnkelaohcbdjnaa
open Go.RowKit Go.Maps
/-- a run that is closed -/
def shut (s : FSt) (k now : Int) (ds : List Value) : FSt := { s with task := 0, mc := 0, mp := fun _ => none, l := s.l ++ [⟨k, now, 0, 0, 0, 0, ds⟩] }
theorem statusK_snoc (l : List Rv) (e : Rv) (k : Int) {st : Int} (hk : (if k = 19 then 6 else if k = 20 then 2 else if k = 21 then 3 else if k = 22 then 4 else if k = 23 then 5 else 1) = st) (he : e.k = k) : statusK (l ++ [e]) = st := by
  unfold statusK
  rw [List.getLast?_concat]
  dsimp only
  rw [he]
  exact hk
set_option maxRecDepth 100000 in
set_option maxHeartbeats 2000000 in
theorem close19 (S : Nat → Prop) (W : World) (hS : ∀ k, S k → k < W.heap.size) (fb mb : Nat) (s : FSt) (h : FL S W fb mb s) (hf : S fb) (hfm : S mb) (hl : s.l.length ≤ 50000) (now : Int) (ao : Option Addr) (dl cp : Nat) (ds : List Value) (hd : RowB S W (.slice ao dl cp) ds) (hdl : ds.length ≤ 100000) (hd1 : ∀ u ∈ ds, u.oneCell' = true) :
    Calls Try.prog 71 #[.pointer (some ⟨fb, 0, none⟩), .int .i64 19, .slice ao dl cp, .int .i64 now] W fun e W' => ∃ (ob : Nat) (v2 : Value), e = .returned (.slice (some ⟨ob, 0, none⟩) 1 1) ∧ W.heap.size ≤ ob ∧ Blk W' ob 40 #[.int .i64 8, .int .i64 0, .int .i64 0, .int .i64 0, .int .i64 0, .int .i64 0, .int .i64 0, v2] ∧ RowB (fun _ => False) W' v2 ds ∧ FL S W' fb mb (shut s 19 now ds) ∧ Fr (fun k => k = fb ∨ k = mb) W W' := by
  have HP := Lib.hid (put19_any S W hS fb mb s h hf hfm hl now 0 0 0 0 _ ds (hd.to (fun k _ e => e.elim)) hdl hd1)
  have HD := Lib.hid hd
  have HD1 := Lib.hid hd1
  have HSM : Hid (∀ k, k = fb ∨ k = mb → S k) := Lib.hid (fun k e => e.elim (fun e => e ▸ hf) (fun e => e ▸ hfm))
  clear h hd hd1 hS
  go_enter Try.func71, Try.ntmps71
  go_upto_region 2 with (first | (go_at_call 38; refine HP.out.mono ?_; rintro e w1 ⟨rfl, hfl1, hf1⟩) | go_in)
  have HF1 := Lib.hid hf1
  have HFL1 : Hid (FL S w1 fb mb (shut s 19 now ds)) := Lib.hid hfl1
  have HDV := Lib.hid (HD.out.fr (hf1.mono HSM.out))
  clear hf1 hfl1 HP HD
  go_wp2_with (first | (go_at_call 72; refine (clone_any S (fun _ => False) w1 _ ds HDV.out (by omega) HD1.out (fun k e => e.elim)).mono ?_; rintro e w2 ⟨v2, rfl, hr2, hf2⟩; have hr3 := hr2; obtain ⟨ao3, cp3, rfl, _⟩ := hr3; obtain ⟨n3, hn3⟩ : ∃ n, ds.length = n := ⟨_, rfl⟩; rw [hn3] at hr2 ⊢) | go_in)
  go_ret
  obtain ⟨v2, hv2⟩ : ∃ v, Value.slice ao3 n3 cp3 = v := ⟨_, rfl⟩
  rw [hv2]
  have hfA : Fr (fun _ => False) w1 (w2.alloc (.cells #[.int .i64 8, .int .i64 0, .int .i64 0, .int .i64 0, .int .i64 0, .int .i64 0, .int .i64 0, v2] 40)) := hf2.trans (Fr.alloc _ _ _)
  exact ⟨w2.heap.size, v2, rfl, Nat.le_trans HF1.out.size hf2.size, Blk.new w2 40 #[.int .i64 8, .int .i64 0, .int .i64 0, .int .i64 0, .int .i64 0, .int .i64 0, .int .i64 0, v2], (hv2 ▸ hr2).fr ((Fr.alloc (fun _ => False) w2 _)), HFL1.out.fr0 hfA, HF1.out.trans (hfA.mono fun _ e => e.elim)⟩
set_option maxRecDepth 100000 in
set_option maxHeartbeats 2000000 in
theorem close20 (S : Nat → Prop) (W : World) (hS : ∀ k, S k → k < W.heap.size) (fb mb : Nat) (s : FSt) (h : FL S W fb mb s) (hf : S fb) (hfm : S mb) (hl : s.l.length ≤ 50000) (now : Int) (ao : Option Addr) (dl cp : Nat) (ds : List Value) (hd : RowB S W (.slice ao dl cp) ds) (hdl : ds.length ≤ 100000) (hd1 : ∀ u ∈ ds, u.oneCell' = true) :
    Calls Try.prog 71 #[.pointer (some ⟨fb, 0, none⟩), .int .i64 20, .slice ao dl cp, .int .i64 now] W fun e W' => ∃ (ob : Nat) (v2 : Value), e = .returned (.slice (some ⟨ob, 0, none⟩) 1 1) ∧ W.heap.size ≤ ob ∧ Blk W' ob 40 #[.int .i64 7, .int .i64 0, .int .i64 0, .int .i64 0, .int .i64 0, .int .i64 0, .int .i64 2, v2] ∧ RowB (fun _ => False) W' v2 ds ∧ FL S W' fb mb (shut s 20 now ds) ∧ Fr (fun k => k = fb ∨ k = mb) W W' := by
  have HP := Lib.hid (put20_any S W hS fb mb s h hf hfm hl now 0 0 0 0 _ ds (hd.to (fun k _ e => e.elim)) hdl hd1)
  have HD := Lib.hid hd
  have HD1 := Lib.hid hd1
  have HSM : Hid (∀ k, k = fb ∨ k = mb → S k) := Lib.hid (fun k e => e.elim (fun e => e ▸ hf) (fun e => e ▸ hfm))
  clear h hd hd1 hS
  go_enter Try.func71, Try.ntmps71
  go_upto_region 2 with (first | (go_at_call 38; refine HP.out.mono ?_; rintro e w1 ⟨rfl, hfl1, hf1⟩) | go_in)
  have HF1 := Lib.hid hf1
  have HFL1 : Hid (FL S w1 fb mb (shut s 20 now ds)) := Lib.hid hfl1
  have HDV := Lib.hid (HD.out.fr (hf1.mono HSM.out))
  have HST : Hid (∀ w', Fr (fun _ => False) w1 w' → Calls Try.prog 16 #[.pointer (some ⟨fb, 0, none⟩)] w' fun e W' => e = .returned (.int .i64 2) ∧ w' = W') := Lib.hid (fun w' hf => by
    have := status_any S w' fb mb _ (HFL1.out.fr0 hf)
    rwa [show statusK (shut s 20 now ds).l = 2 from statusK_snoc _ _ 20 (by decide) rfl] at this)
  clear hf1 hfl1 HP HD
  go_wp2_with (first | (go_at_call 16; refine (HST.out _ (Fr.refl _ w1)).mono ?_; rintro e w2 ⟨rfl, rfl⟩) | (go_at_call 72; refine (clone_any S (fun _ => False) w1 _ ds HDV.out (by omega) HD1.out (fun k e => e.elim)).mono ?_; rintro e w2 ⟨v2, rfl, hr2, hf2⟩; have hr3 := hr2; obtain ⟨ao3, cp3, rfl, _⟩ := hr3; obtain ⟨n3, hn3⟩ : ∃ n, ds.length = n := ⟨_, rfl⟩; rw [hn3] at hr2 ⊢) | go_in)
  go_ret
  obtain ⟨v2, hv2⟩ : ∃ v, Value.slice ao3 n3 cp3 = v := ⟨_, rfl⟩
  rw [hv2]
  have hfA : Fr (fun _ => False) w1 (w2.alloc (.cells #[.int .i64 7, .int .i64 0, .int .i64 0, .int .i64 0, .int .i64 0, .int .i64 0, .int .i64 2, v2] 40)) := hf2.trans (Fr.alloc _ _ _)
  exact ⟨w2.heap.size, v2, rfl, Nat.le_trans HF1.out.size hf2.size, Blk.new w2 40 #[.int .i64 7, .int .i64 0, .int .i64 0, .int .i64 0, .int .i64 0, .int .i64 0, .int .i64 2, v2], (hv2 ▸ hr2).fr ((Fr.alloc (fun _ => False) w2 _)), HFL1.out.fr0 hfA, HF1.out.trans (hfA.mono fun _ e => e.elim)⟩
set_option maxRecDepth 100000 in
set_option maxHeartbeats 2000000 in
theorem close21 (S : Nat → Prop) (W : World) (hS : ∀ k, S k → k < W.heap.size) (fb mb : Nat) (s : FSt) (h : FL S W fb mb s) (hf : S fb) (hfm : S mb) (hl : s.l.length ≤ 50000) (now : Int) (ao : Option Addr) (dl cp : Nat) (ds : List Value) (hd : RowB S W (.slice ao dl cp) ds) (hdl : ds.length ≤ 100000) (hd1 : ∀ u ∈ ds, u.oneCell' = true) :
    Calls Try.prog 71 #[.pointer (some ⟨fb, 0, none⟩), .int .i64 21, .slice ao dl cp, .int .i64 now] W fun e W' => ∃ (ob : Nat) (v2 : Value), e = .returned (.slice (some ⟨ob, 0, none⟩) 1 1) ∧ W.heap.size ≤ ob ∧ Blk W' ob 40 #[.int .i64 7, .int .i64 0, .int .i64 0, .int .i64 0, .int .i64 0, .int .i64 0, .int .i64 3, v2] ∧ RowB (fun _ => False) W' v2 ds ∧ FL S W' fb mb (shut s 21 now ds) ∧ Fr (fun k => k = fb ∨ k = mb) W W' := by
  have HP := Lib.hid (put21_any S W hS fb mb s h hf hfm hl now 0 0 0 0 _ ds (hd.to (fun k _ e => e.elim)) hdl hd1)
  have HD := Lib.hid hd
  have HD1 := Lib.hid hd1
  have HSM : Hid (∀ k, k = fb ∨ k = mb → S k) := Lib.hid (fun k e => e.elim (fun e => e ▸ hf) (fun e => e ▸ hfm))
  clear h hd hd1 hS
  go_enter Try.func71, Try.ntmps71
  go_upto_region 2 with (first | (go_at_call 38; refine HP.out.mono ?_; rintro e w1 ⟨rfl, hfl1, hf1⟩) | go_in)
  have HF1 := Lib.hid hf1
  have HFL1 : Hid (FL S w1 fb mb (shut s 21 now ds)) := Lib.hid hfl1
  have HDV := Lib.hid (HD.out.fr (hf1.mono HSM.out))
  have HST : Hid (∀ w', Fr (fun _ => False) w1 w' → Calls Try.prog 16 #[.pointer (some ⟨fb, 0, none⟩)] w' fun e W' => e = .returned (.int .i64 3) ∧ w' = W') := Lib.hid (fun w' hf => by
    have := status_any S w' fb mb _ (HFL1.out.fr0 hf)
    rwa [show statusK (shut s 21 now ds).l = 3 from statusK_snoc _ _ 21 (by decide) rfl] at this)
  clear hf1 hfl1 HP HD
  go_wp2_with (first | (go_at_call 16; refine (HST.out _ (Fr.refl _ w1)).mono ?_; rintro e w2 ⟨rfl, rfl⟩) | (go_at_call 72; refine (clone_any S (fun _ => False) w1 _ ds HDV.out (by omega) HD1.out (fun k e => e.elim)).mono ?_; rintro e w2 ⟨v2, rfl, hr2, hf2⟩; have hr3 := hr2; obtain ⟨ao3, cp3, rfl, _⟩ := hr3; obtain ⟨n3, hn3⟩ : ∃ n, ds.length = n := ⟨_, rfl⟩; rw [hn3] at hr2 ⊢) | go_in)
  go_ret
  obtain ⟨v2, hv2⟩ : ∃ v, Value.slice ao3 n3 cp3 = v := ⟨_, rfl⟩
  rw [hv2]
  have hfA : Fr (fun _ => False) w1 (w2.alloc (.cells #[.int .i64 7, .int .i64 0, .int .i64 0, .int .i64 0, .int .i64 0, .int .i64 0, .int .i64 3, v2] 40)) := hf2.trans (Fr.alloc _ _ _)
  exact ⟨w2.heap.size, v2, rfl, Nat.le_trans HF1.out.size hf2.size, Blk.new w2 40 #[.int .i64 7, .int .i64 0, .int .i64 0, .int .i64 0, .int .i64 0, .int .i64 0, .int .i64 3, v2], (hv2 ▸ hr2).fr ((Fr.alloc (fun _ => False) w2 _)), HFL1.out.fr0 hfA, HF1.out.trans (hfA.mono fun _ e => e.elim)⟩
set_option maxRecDepth 100000 in
set_option maxHeartbeats 2000000 in
theorem close22 (S : Nat → Prop) (W : World) (hS : ∀ k, S k → k < W.heap.size) (fb mb : Nat) (s : FSt) (h : FL S W fb mb s) (hf : S fb) (hfm : S mb) (hl : s.l.length ≤ 50000) (now : Int) (ao : Option Addr) (dl cp : Nat) (ds : List Value) (hd : RowB S W (.slice ao dl cp) ds) (hdl : ds.length ≤ 100000) (hd1 : ∀ u ∈ ds, u.oneCell' = true) :
    Calls Try.prog 71 #[.pointer (some ⟨fb, 0, none⟩), .int .i64 22, .slice ao dl cp, .int .i64 now] W fun e W' => ∃ (ob : Nat) (v2 : Value), e = .returned (.slice (some ⟨ob, 0, none⟩) 1 1) ∧ W.heap.size ≤ ob ∧ Blk W' ob 40 #[.int .i64 7, .int .i64 0, .int .i64 0, .int .i64 0, .int .i64 0, .int .i64 0, .int .i64 4, v2] ∧ RowB (fun _ => False) W' v2 ds ∧ FL S W' fb mb (shut s 22 now ds) ∧ Fr (fun k => k = fb ∨ k = mb) W W' := by
  have HP := Lib.hid (put22_any S W hS fb mb s h hf hfm hl now 0 0 0 0 _ ds (hd.to (fun k _ e => e.elim)) hdl hd1)
  have HD := Lib.hid hd
  have HD1 := Lib.hid hd1
  have HSM : Hid (∀ k, k = fb ∨ k = mb → S k) := Lib.hid (fun k e => e.elim (fun e => e ▸ hf) (fun e => e ▸ hfm))
  clear h hd hd1 hS
  go_enter Try.func71, Try.ntmps71
  go_upto_region 2 with (first | (go_at_call 38; refine HP.out.mono ?_; rintro e w1 ⟨rfl, hfl1, hf1⟩) | go_in)
  have HF1 := Lib.hid hf1
  have HFL1 : Hid (FL S w1 fb mb (shut s 22 now ds)) := Lib.hid hfl1
  have HDV := Lib.hid (HD.out.fr (hf1.mono HSM.out))
  have HST : Hid (∀ w', Fr (fun _ => False) w1 w' → Calls Try.prog 16 #[.pointer (some ⟨fb, 0, none⟩)] w' fun e W' => e = .returned (.int .i64 4) ∧ w' = W') := Lib.hid (fun w' hf => by
    have := status_any S w' fb mb _ (HFL1.out.fr0 hf)
    rwa [show statusK (shut s 22 now ds).l = 4 from statusK_snoc _ _ 22 (by decide) rfl] at this)
  clear hf1 hfl1 HP HD
  go_wp2_with (first | (go_at_call 16; refine (HST.out _ (Fr.refl _ w1)).mono ?_; rintro e w2 ⟨rfl, rfl⟩) | (go_at_call 72; refine (clone_any S (fun _ => False) w1 _ ds HDV.out (by omega) HD1.out (fun k e => e.elim)).mono ?_; rintro e w2 ⟨v2, rfl, hr2, hf2⟩; have hr3 := hr2; obtain ⟨ao3, cp3, rfl, _⟩ := hr3; obtain ⟨n3, hn3⟩ : ∃ n, ds.length = n := ⟨_, rfl⟩; rw [hn3] at hr2 ⊢) | go_in)
  go_ret
  obtain ⟨v2, hv2⟩ : ∃ v, Value.slice ao3 n3 cp3 = v := ⟨_, rfl⟩
  rw [hv2]
  have hfA : Fr (fun _ => False) w1 (w2.alloc (.cells #[.int .i64 7, .int .i64 0, .int .i64 0, .int .i64 0, .int .i64 0, .int .i64 0, .int .i64 4, v2] 40)) := hf2.trans (Fr.alloc _ _ _)
  exact ⟨w2.heap.size, v2, rfl, Nat.le_trans HF1.out.size hf2.size, Blk.new w2 40 #[.int .i64 7, .int .i64 0, .int .i64 0, .int .i64 0, .int .i64 0, .int .i64 0, .int .i64 4, v2], (hv2 ▸ hr2).fr ((Fr.alloc (fun _ => False) w2 _)), HFL1.out.fr0 hfA, HF1.out.trans (hfA.mono fun _ e => e.elim)⟩
set_option maxRecDepth 100000 in
set_option maxHeartbeats 2000000 in
theorem close23 (S : Nat → Prop) (W : World) (hS : ∀ k, S k → k < W.heap.size) (fb mb : Nat) (s : FSt) (h : FL S W fb mb s) (hf : S fb) (hfm : S mb) (hl : s.l.length ≤ 50000) (now : Int) (ao : Option Addr) (dl cp : Nat) (ds : List Value) (hd : RowB S W (.slice ao dl cp) ds) (hdl : ds.length ≤ 100000) (hd1 : ∀ u ∈ ds, u.oneCell' = true) :
    Calls Try.prog 71 #[.pointer (some ⟨fb, 0, none⟩), .int .i64 23, .slice ao dl cp, .int .i64 now] W fun e W' => ∃ (ob : Nat) (v2 : Value), e = .returned (.slice (some ⟨ob, 0, none⟩) 1 1) ∧ W.heap.size ≤ ob ∧ Blk W' ob 40 #[.int .i64 7, .int .i64 0, .int .i64 0, .int .i64 0, .int .i64 0, .int .i64 0, .int .i64 5, v2] ∧ RowB (fun _ => False) W' v2 ds ∧ FL S W' fb mb (shut s 23 now ds) ∧ Fr (fun k => k = fb ∨ k = mb) W W' := by
  have HP := Lib.hid (put23_any S W hS fb mb s h hf hfm hl now 0 0 0 0 _ ds (hd.to (fun k _ e => e.elim)) hdl hd1)
  have HD := Lib.hid hd
  have HD1 := Lib.hid hd1
  have HSM : Hid (∀ k, k = fb ∨ k = mb → S k) := Lib.hid (fun k e => e.elim (fun e => e ▸ hf) (fun e => e ▸ hfm))
  clear h hd hd1 hS
  go_enter Try.func71, Try.ntmps71
  go_upto_region 2 with (first | (go_at_call 38; refine HP.out.mono ?_; rintro e w1 ⟨rfl, hfl1, hf1⟩) | go_in)
  have HF1 := Lib.hid hf1
  have HFL1 : Hid (FL S w1 fb mb (shut s 23 now ds)) := Lib.hid hfl1
  have HDV := Lib.hid (HD.out.fr (hf1.mono HSM.out))
  have HST : Hid (∀ w', Fr (fun _ => False) w1 w' → Calls Try.prog 16 #[.pointer (some ⟨fb, 0, none⟩)] w' fun e W' => e = .returned (.int .i64 5) ∧ w' = W') := Lib.hid (fun w' hf => by
    have := status_any S w' fb mb _ (HFL1.out.fr0 hf)
    rwa [show statusK (shut s 23 now ds).l = 5 from statusK_snoc _ _ 23 (by decide) rfl] at this)
  clear hf1 hfl1 HP HD
  go_wp2_with (first | (go_at_call 16; refine (HST.out _ (Fr.refl _ w1)).mono ?_; rintro e w2 ⟨rfl, rfl⟩) | (go_at_call 72; refine (clone_any S (fun _ => False) w1 _ ds HDV.out (by omega) HD1.out (fun k e => e.elim)).mono ?_; rintro e w2 ⟨v2, rfl, hr2, hf2⟩; have hr3 := hr2; obtain ⟨ao3, cp3, rfl, _⟩ := hr3; obtain ⟨n3, hn3⟩ : ∃ n, ds.length = n := ⟨_, rfl⟩; rw [hn3] at hr2 ⊢) | go_in)
  go_ret
  obtain ⟨v2, hv2⟩ : ∃ v, Value.slice ao3 n3 cp3 = v := ⟨_, rfl⟩
  rw [hv2]
  have hfA : Fr (fun _ => False) w1 (w2.alloc (.cells #[.int .i64 7, .int .i64 0, .int .i64 0, .int .i64 0, .int .i64 0, .int .i64 0, .int .i64 5, v2] 40)) := hf2.trans (Fr.alloc _ _ _)
  exact ⟨w2.heap.size, v2, rfl, Nat.le_trans HF1.out.size hf2.size, Blk.new w2 40 #[.int .i64 7, .int .i64 0, .int .i64 0, .int .i64 0, .int .i64 0, .int .i64 0, .int .i64 5, v2], (hv2 ▸ hr2).fr ((Fr.alloc (fun _ => False) w2 _)), HFL1.out.fr0 hfA, HF1.out.trans (hfA.mono fun _ e => e.elim)⟩
set_option maxRecDepth 100000 in
set_option maxHeartbeats 2000000 in
theorem done5 (S : Nat → Prop) (W : World) (hS : ∀ k, S k → k < W.heap.size) (fb mb : Nat) (s : FSt) (h : FL S W fb mb s) (hf : S fb) (hfm : S mb) (hl : s.l.length ≤ 50000) (now : Int) (ao : Option Addr) (dl cp : Nat) (ds : List Value) (hd : RowB (fun _ => False) W (.slice ao dl cp) ds) (hdl : ds.length ≤ 100000) (hd1 : ∀ u ∈ ds, u.oneCell' = true) :
    Calls Try.prog 48 #[.pointer (some ⟨fb, 0, none⟩), .agg #[.int .i64 5, .int .i64 0, .int .i64 0, .int .i64 0, .slice ao dl cp], .int .i64 now] W fun e W' => ∃ (ob : Nat) (v2 : Value), e = .returned (.slice (some ⟨ob, 0, none⟩) 1 1) ∧ W.heap.size ≤ ob ∧ Blk W' ob 40 #[.int .i64 7, .int .i64 0, .int .i64 0, .int .i64 0, .int .i64 0, .int .i64 0, .int .i64 2, v2] ∧ RowB (fun _ => False) W' v2 ds ∧ FL S W' fb mb (shut s 20 now ds) ∧ Fr (fun k => k = fb ∨ k = mb) W W' := by
  have hB := Blk.new W 24 #[.int .i64 5, .int .i64 0, .int .i64 0, .int .i64 0, .slice ao dl cp]
  have hF : Fr (fun _ => False) W (W.alloc (.cells #[.int .i64 5, .int .i64 0, .int .i64 0, .int .i64 0, .slice ao dl cp] 24)) := Fr.alloc _ _ _
  obtain ⟨w0, hw0⟩ : ∃ w0, W.alloc (.cells #[.int .i64 5, .int .i64 0, .int .i64 0, .int .i64 0, .slice ao dl cp] 24) = w0 := ⟨_, rfl⟩
  rw [hw0] at hB hF
  have c4 := hB.cell 4
  simp only [List.getElem?_toArray, List.getElem?_cons_zero, List.getElem?_cons_succ] at c4
  have HFL := Lib.hid h
  have HSS := Lib.hid hS
  have HD := Lib.hid (hd.fr hF)
  have HD1 := Lib.hid hd1
  have HB := Lib.hid hB
  have HF := Lib.hid hF
  have hlt : ∀ k, S k → k < w0.heap.size := fun k e => Nat.lt_of_lt_of_le (hS k e) hF.size
  have HLT := Lib.hid hlt
  clear h hS hd hd1 hB hF hlt
  go_enter Try.func48, Try.ntmps48
  go_upto_region 1 with (fail)
  try rw [hw0]
  clear hw0
  go_upto_region 2 with (first | (go_at_call 72; refine (clone_any (fun _ => False) S w0 _ ds HD.out (by omega) HD1.out HLT.out).mono ?_; rintro e w1 ⟨v, rfl, hr1, hf1⟩) | go_in)
  have hr1' := hr1
  obtain ⟨ao1, cp1, rfl, _⟩ := hr1'
  have HR1 := Lib.hid hr1
  have HF1 := Lib.hid hf1
  have hB1 := HB.out.fr hf1 id
  have e0 := hB1.cell 0
  have e1 := hB1.cell 1
  have e2 := hB1.cell 2
  have e3 := hB1.cell 3
  simp only [List.getElem?_toArray, List.getElem?_cons_zero, List.getElem?_cons_succ] at e0 e1 e2 e3
  obtain ⟨bb, hbb⟩ : ∃ b, W.heap.size = b := ⟨_, rfl⟩
  obtain ⟨n1, hn1⟩ : ∃ b, ds.length = b := ⟨_, rfl⟩
  rw [hn1]
  rw [hbb] at e0 e1 e2 e3 ⊢
  have HN1 := Lib.hid hn1
  have HBB := Lib.hid hbb
  clear hr1 hf1 HD c4 hn1 hbb
  have HB1 := Lib.hid hB1
  clear hB1
  go_upto_region 3 with (fail)
  have hfA : Fr (fun _ => False) w1 (w1.alloc (.cells #[.int .i64 0, .int .i64 now, .int .i64 0, .int .i64 0, .int .i64 0, .int .i64 0, .slice ao1 n1 cp1] 79)) := Fr.alloc _ _ _
  obtain ⟨w2, hw2⟩ : ∃ w2, w1.alloc (.cells #[.int .i64 0, .int .i64 now, .int .i64 0, .int .i64 0, .int .i64 0, .int .i64 0, .slice ao1 n1 cp1] 79) = w2 := ⟨_, rfl⟩
  rw [hw2] at hfA ⊢
  have f0 := (HB1.out.fr hfA id).cell 0
  rw [HBB.out] at f0
  simp only [List.getElem?_toArray, List.getElem?_cons_zero] at f0
  have HFA := Lib.hid hfA
  clear hw2 hfA e0 e1 e2 e3
  go_upto_region 18 with (fail)
  have hfC : Fr (fun _ => False) w2 (w2.alloc (.cells #[.int .i64 0, .int .i64 0, .int .i64 0, .int .i64 0, .int .i64 0, .int .i64 20, .int .i64 21, .int .i64 22, .int .i64 19] 122)) := Fr.alloc _ _ _
  have hC := Blk.new w2 122 #[.int .i64 0, .int .i64 0, .int .i64 0, .int .i64 0, .int .i64 0, .int .i64 20, .int .i64 21, .int .i64 22, .int .i64 19]
  obtain ⟨w3, hw3⟩ : ∃ w3, w2.alloc (.cells #[.int .i64 0, .int .i64 0, .int .i64 0, .int .i64 0, .int .i64 0, .int .i64 20, .int .i64 21, .int .i64 22, .int .i64 19] 122) = w3 := ⟨_, rfl⟩
  rw [hw3] at hfC hC ⊢
  have q0 := hC.cell 5
  simp only [List.getElem?_toArray, List.getElem?_cons_zero, List.getElem?_cons_succ] at q0
  have g0 := (HB1.out.fr (HFA.out.trans hfC) id).cell 0
  rw [HBB.out] at g0
  simp only [List.getElem?_toArray, List.getElem?_cons_zero] at g0
  have hfW := ((HF.out.trans HF1.out).trans HFA.out).trans hfC
  have HFW := Lib.hid hfW
  have HCL := Lib.hid (close20 S w3 (fun k e => Nat.lt_of_lt_of_le (HSS.out k e) hfW.size) fb mb s (HFL.out.fr0 hfW) hf hfm hl now ao1 n1 cp1 ds (by rw [← HN1.out]; exact (HR1.out.fr (HFA.out.mono fun _ e => e.elim)).fr (hfC.mono fun _ e => e.elim)) hdl HD1.out)
  obtain ⟨tb, htb⟩ : ∃ b, w2.heap.size = b := ⟨_, rfl⟩
  rw [htb] at q0 ⊢
  clear htb hw3 hfC hC hfW f0
  go_wp2_with (first | (go_at_call 71; refine HCL.out.mono ?_; rintro e w4 ⟨ob, v2, rfl, hob, hbo, hrb, hfl, hf4⟩) | go_in)
  go_ret
  exact ⟨ob, v2, rfl, Nat.le_trans HFW.out.size hob, hbo, hrb, hfl, (HFW.out.mono fun _ e => e.elim).trans hf4⟩
set_option maxRecDepth 100000 in
set_option maxHeartbeats 2000000 in
theorem done6 (S : Nat → Prop) (W : World) (hS : ∀ k, S k → k < W.heap.size) (fb mb : Nat) (s : FSt) (h : FL S W fb mb s) (hf : S fb) (hfm : S mb) (hl : s.l.length ≤ 50000) (now : Int) (ao : Option Addr) (dl cp : Nat) (ds : List Value) (hd : RowB (fun _ => False) W (.slice ao dl cp) ds) (hdl : ds.length ≤ 100000) (hd1 : ∀ u ∈ ds, u.oneCell' = true) :
    Calls Try.prog 48 #[.pointer (some ⟨fb, 0, none⟩), .agg #[.int .i64 6, .int .i64 0, .int .i64 0, .int .i64 0, .slice ao dl cp], .int .i64 now] W fun e W' => ∃ (ob : Nat) (v2 : Value), e = .returned (.slice (some ⟨ob, 0, none⟩) 1 1) ∧ W.heap.size ≤ ob ∧ Blk W' ob 40 #[.int .i64 7, .int .i64 0, .int .i64 0, .int .i64 0, .int .i64 0, .int .i64 0, .int .i64 3, v2] ∧ RowB (fun _ => False) W' v2 ds ∧ FL S W' fb mb (shut s 21 now ds) ∧ Fr (fun k => k = fb ∨ k = mb) W W' := by
  have hB := Blk.new W 24 #[.int .i64 6, .int .i64 0, .int .i64 0, .int .i64 0, .slice ao dl cp]
  have hF : Fr (fun _ => False) W (W.alloc (.cells #[.int .i64 6, .int .i64 0, .int .i64 0, .int .i64 0, .slice ao dl cp] 24)) := Fr.alloc _ _ _
  obtain ⟨w0, hw0⟩ : ∃ w0, W.alloc (.cells #[.int .i64 6, .int .i64 0, .int .i64 0, .int .i64 0, .slice ao dl cp] 24) = w0 := ⟨_, rfl⟩
  rw [hw0] at hB hF
  have c4 := hB.cell 4
  simp only [List.getElem?_toArray, List.getElem?_cons_zero, List.getElem?_cons_succ] at c4
  have HFL := Lib.hid h
  have HSS := Lib.hid hS
  have HD := Lib.hid (hd.fr hF)
  have HD1 := Lib.hid hd1
  have HB := Lib.hid hB
  have HF := Lib.hid hF
  have hlt : ∀ k, S k → k < w0.heap.size := fun k e => Nat.lt_of_lt_of_le (hS k e) hF.size
  have HLT := Lib.hid hlt
  clear h hS hd hd1 hB hF hlt
  go_enter Try.func48, Try.ntmps48
  go_upto_region 1 with (fail)
  try rw [hw0]
  clear hw0
  go_upto_region 2 with (first | (go_at_call 72; refine (clone_any (fun _ => False) S w0 _ ds HD.out (by omega) HD1.out HLT.out).mono ?_; rintro e w1 ⟨v, rfl, hr1, hf1⟩) | go_in)
  have hr1' := hr1
  obtain ⟨ao1, cp1, rfl, _⟩ := hr1'
  have HR1 := Lib.hid hr1
  have HF1 := Lib.hid hf1
  have hB1 := HB.out.fr hf1 id
  have e0 := hB1.cell 0
  have e1 := hB1.cell 1
  have e2 := hB1.cell 2
  have e3 := hB1.cell 3
  simp only [List.getElem?_toArray, List.getElem?_cons_zero, List.getElem?_cons_succ] at e0 e1 e2 e3
  obtain ⟨bb, hbb⟩ : ∃ b, W.heap.size = b := ⟨_, rfl⟩
  obtain ⟨n1, hn1⟩ : ∃ b, ds.length = b := ⟨_, rfl⟩
  rw [hn1]
  rw [hbb] at e0 e1 e2 e3 ⊢
  have HN1 := Lib.hid hn1
  have HBB := Lib.hid hbb
  clear hr1 hf1 HD c4 hn1 hbb
  have HB1 := Lib.hid hB1
  clear hB1
  go_upto_region 3 with (fail)
  have hfA : Fr (fun _ => False) w1 (w1.alloc (.cells #[.int .i64 0, .int .i64 now, .int .i64 0, .int .i64 0, .int .i64 0, .int .i64 0, .slice ao1 n1 cp1] 79)) := Fr.alloc _ _ _
  obtain ⟨w2, hw2⟩ : ∃ w2, w1.alloc (.cells #[.int .i64 0, .int .i64 now, .int .i64 0, .int .i64 0, .int .i64 0, .int .i64 0, .slice ao1 n1 cp1] 79) = w2 := ⟨_, rfl⟩
  rw [hw2] at hfA ⊢
  have f0 := (HB1.out.fr hfA id).cell 0
  rw [HBB.out] at f0
  simp only [List.getElem?_toArray, List.getElem?_cons_zero] at f0
  have HFA := Lib.hid hfA
  clear hw2 hfA e0 e1 e2 e3
  go_upto_region 18 with (fail)
  have hfC : Fr (fun _ => False) w2 (w2.alloc (.cells #[.int .i64 0, .int .i64 0, .int .i64 0, .int .i64 0, .int .i64 0, .int .i64 20, .int .i64 21, .int .i64 22, .int .i64 19] 122)) := Fr.alloc _ _ _
  have hC := Blk.new w2 122 #[.int .i64 0, .int .i64 0, .int .i64 0, .int .i64 0, .int .i64 0, .int .i64 20, .int .i64 21, .int .i64 22, .int .i64 19]
  obtain ⟨w3, hw3⟩ : ∃ w3, w2.alloc (.cells #[.int .i64 0, .int .i64 0, .int .i64 0, .int .i64 0, .int .i64 0, .int .i64 20, .int .i64 21, .int .i64 22, .int .i64 19] 122) = w3 := ⟨_, rfl⟩
  rw [hw3] at hfC hC ⊢
  have q0 := hC.cell 6
  simp only [List.getElem?_toArray, List.getElem?_cons_zero, List.getElem?_cons_succ] at q0
  have g0 := (HB1.out.fr (HFA.out.trans hfC) id).cell 0
  rw [HBB.out] at g0
  simp only [List.getElem?_toArray, List.getElem?_cons_zero] at g0
  have hfW := ((HF.out.trans HF1.out).trans HFA.out).trans hfC
  have HFW := Lib.hid hfW
  have HCL := Lib.hid (close21 S w3 (fun k e => Nat.lt_of_lt_of_le (HSS.out k e) hfW.size) fb mb s (HFL.out.fr0 hfW) hf hfm hl now ao1 n1 cp1 ds (by rw [← HN1.out]; exact (HR1.out.fr (HFA.out.mono fun _ e => e.elim)).fr (hfC.mono fun _ e => e.elim)) hdl HD1.out)
  obtain ⟨tb, htb⟩ : ∃ b, w2.heap.size = b := ⟨_, rfl⟩
  rw [htb] at q0 ⊢
  clear htb hw3 hfC hC hfW f0
  go_wp2_with (first | (go_at_call 71; refine HCL.out.mono ?_; rintro e w4 ⟨ob, v2, rfl, hob, hbo, hrb, hfl, hf4⟩) | go_in)
  go_ret
  exact ⟨ob, v2, rfl, Nat.le_trans HFW.out.size hob, hbo, hrb, hfl, (HFW.out.mono fun _ e => e.elim).trans hf4⟩
set_option maxRecDepth 100000 in
set_option maxHeartbeats 2000000 in
theorem done7 (S : Nat → Prop) (W : World) (hS : ∀ k, S k → k < W.heap.size) (fb mb : Nat) (s : FSt) (h : FL S W fb mb s) (hf : S fb) (hfm : S mb) (hl : s.l.length ≤ 50000) (now : Int) (ao : Option Addr) (dl cp : Nat) (ds : List Value) (hd : RowB (fun _ => False) W (.slice ao dl cp) ds) (hdl : ds.length ≤ 100000) (hd1 : ∀ u ∈ ds, u.oneCell' = true) :
    Calls Try.prog 48 #[.pointer (some ⟨fb, 0, none⟩), .agg #[.int .i64 7, .int .i64 0, .int .i64 0, .int .i64 0, .slice ao dl cp], .int .i64 now] W fun e W' => ∃ (ob : Nat) (v2 : Value), e = .returned (.slice (some ⟨ob, 0, none⟩) 1 1) ∧ W.heap.size ≤ ob ∧ Blk W' ob 40 #[.int .i64 7, .int .i64 0, .int .i64 0, .int .i64 0, .int .i64 0, .int .i64 0, .int .i64 4, v2] ∧ RowB (fun _ => False) W' v2 ds ∧ FL S W' fb mb (shut s 22 now ds) ∧ Fr (fun k => k = fb ∨ k = mb) W W' := by
  have hB := Blk.new W 24 #[.int .i64 7, .int .i64 0, .int .i64 0, .int .i64 0, .slice ao dl cp]
  have hF : Fr (fun _ => False) W (W.alloc (.cells #[.int .i64 7, .int .i64 0, .int .i64 0, .int .i64 0, .slice ao dl cp] 24)) := Fr.alloc _ _ _
  obtain ⟨w0, hw0⟩ : ∃ w0, W.alloc (.cells #[.int .i64 7, .int .i64 0, .int .i64 0, .int .i64 0, .slice ao dl cp] 24) = w0 := ⟨_, rfl⟩
  rw [hw0] at hB hF
  have c4 := hB.cell 4
  simp only [List.getElem?_toArray, List.getElem?_cons_zero, List.getElem?_cons_succ] at c4
  have HFL := Lib.hid h
  have HSS := Lib.hid hS
  have HD := Lib.hid (hd.fr hF)
  have HD1 := Lib.hid hd1
  have HB := Lib.hid hB
  have HF := Lib.hid hF
  have hlt : ∀ k, S k → k < w0.heap.size := fun k e => Nat.lt_of_lt_of_le (hS k e) hF.size
  have HLT := Lib.hid hlt
  clear h hS hd hd1 hB hF hlt
  go_enter Try.func48, Try.ntmps48
  go_upto_region 1 with (fail)
  try rw [hw0]
  clear hw0
  go_upto_region 2 with (first | (go_at_call 72; refine (clone_any (fun _ => False) S w0 _ ds HD.out (by omega) HD1.out HLT.out).mono ?_; rintro e w1 ⟨v, rfl, hr1, hf1⟩) | go_in)
  have hr1' := hr1
  obtain ⟨ao1, cp1, rfl, _⟩ := hr1'
  have HR1 := Lib.hid hr1
  have HF1 := Lib.hid hf1
  have hB1 := HB.out.fr hf1 id
  have e0 := hB1.cell 0
  have e1 := hB1.cell 1
  have e2 := hB1.cell 2
  have e3 := hB1.cell 3
  simp only [List.getElem?_toArray, List.getElem?_cons_zero, List.getElem?_cons_succ] at e0 e1 e2 e3
  obtain ⟨bb, hbb⟩ : ∃ b, W.heap.size = b := ⟨_, rfl⟩
  obtain ⟨n1, hn1⟩ : ∃ b, ds.length = b := ⟨_, rfl⟩
  rw [hn1]
  rw [hbb] at e0 e1 e2 e3 ⊢
  have HN1 := Lib.hid hn1
  have HBB := Lib.hid hbb
  clear hr1 hf1 HD c4 hn1 hbb
  have HB1 := Lib.hid hB1
  clear hB1
  go_upto_region 3 with (fail)
  have hfA : Fr (fun _ => False) w1 (w1.alloc (.cells #[.int .i64 0, .int .i64 now, .int .i64 0, .int .i64 0, .int .i64 0, .int .i64 0, .slice ao1 n1 cp1] 79)) := Fr.alloc _ _ _
  obtain ⟨w2, hw2⟩ : ∃ w2, w1.alloc (.cells #[.int .i64 0, .int .i64 now, .int .i64 0, .int .i64 0, .int .i64 0, .int .i64 0, .slice ao1 n1 cp1] 79) = w2 := ⟨_, rfl⟩
  rw [hw2] at hfA ⊢
  have f0 := (HB1.out.fr hfA id).cell 0
  rw [HBB.out] at f0
  simp only [List.getElem?_toArray, List.getElem?_cons_zero] at f0
  have HFA := Lib.hid hfA
  clear hw2 hfA e0 e1 e2 e3
  go_upto_region 18 with (fail)
  have hfC : Fr (fun _ => False) w2 (w2.alloc (.cells #[.int .i64 0, .int .i64 0, .int .i64 0, .int .i64 0, .int .i64 0, .int .i64 20, .int .i64 21, .int .i64 22, .int .i64 19] 122)) := Fr.alloc _ _ _
  have hC := Blk.new w2 122 #[.int .i64 0, .int .i64 0, .int .i64 0, .int .i64 0, .int .i64 0, .int .i64 20, .int .i64 21, .int .i64 22, .int .i64 19]
  obtain ⟨w3, hw3⟩ : ∃ w3, w2.alloc (.cells #[.int .i64 0, .int .i64 0, .int .i64 0, .int .i64 0, .int .i64 0, .int .i64 20, .int .i64 21, .int .i64 22, .int .i64 19] 122) = w3 := ⟨_, rfl⟩
  rw [hw3] at hfC hC ⊢
  have q0 := hC.cell 7
  simp only [List.getElem?_toArray, List.getElem?_cons_zero, List.getElem?_cons_succ] at q0
  have g0 := (HB1.out.fr (HFA.out.trans hfC) id).cell 0
  rw [HBB.out] at g0
  simp only [List.getElem?_toArray, List.getElem?_cons_zero] at g0
  have hfW := ((HF.out.trans HF1.out).trans HFA.out).trans hfC
  have HFW := Lib.hid hfW
  have HCL := Lib.hid (close22 S w3 (fun k e => Nat.lt_of_lt_of_le (HSS.out k e) hfW.size) fb mb s (HFL.out.fr0 hfW) hf hfm hl now ao1 n1 cp1 ds (by rw [← HN1.out]; exact (HR1.out.fr (HFA.out.mono fun _ e => e.elim)).fr (hfC.mono fun _ e => e.elim)) hdl HD1.out)
  obtain ⟨tb, htb⟩ : ∃ b, w2.heap.size = b := ⟨_, rfl⟩
  rw [htb] at q0 ⊢
  clear htb hw3 hfC hC hfW f0
  go_wp2_with (first | (go_at_call 71; refine HCL.out.mono ?_; rintro e w4 ⟨ob, v2, rfl, hob, hbo, hrb, hfl, hf4⟩) | go_in)
  go_ret
  exact ⟨ob, v2, rfl, Nat.le_trans HFW.out.size hob, hbo, hrb, hfl, (HFW.out.mono fun _ e => e.elim).trans hf4⟩
set_option maxRecDepth 100000 in
set_option maxHeartbeats 2000000 in
theorem done8 (S : Nat → Prop) (W : World) (hS : ∀ k, S k → k < W.heap.size) (fb mb : Nat) (s : FSt) (h : FL S W fb mb s) (hf : S fb) (hfm : S mb) (hl : s.l.length ≤ 50000) (now : Int) (ao : Option Addr) (dl cp : Nat) (ds : List Value) (hd : RowB (fun _ => False) W (.slice ao dl cp) ds) (hdl : ds.length ≤ 100000) (hd1 : ∀ u ∈ ds, u.oneCell' = true) :
    Calls Try.prog 48 #[.pointer (some ⟨fb, 0, none⟩), .agg #[.int .i64 8, .int .i64 0, .int .i64 0, .int .i64 0, .slice ao dl cp], .int .i64 now] W fun e W' => ∃ (ob : Nat) (v2 : Value), e = .returned (.slice (some ⟨ob, 0, none⟩) 1 1) ∧ W.heap.size ≤ ob ∧ Blk W' ob 40 #[.int .i64 8, .int .i64 0, .int .i64 0, .int .i64 0, .int .i64 0, .int .i64 0, .int .i64 0, v2] ∧ RowB (fun _ => False) W' v2 ds ∧ FL S W' fb mb (shut s 19 now ds) ∧ Fr (fun k => k = fb ∨ k = mb) W W' := by
  have hB := Blk.new W 24 #[.int .i64 8, .int .i64 0, .int .i64 0, .int .i64 0, .slice ao dl cp]
  have hF : Fr (fun _ => False) W (W.alloc (.cells #[.int .i64 8, .int .i64 0, .int .i64 0, .int .i64 0, .slice ao dl cp] 24)) := Fr.alloc _ _ _
  obtain ⟨w0, hw0⟩ : ∃ w0, W.alloc (.cells #[.int .i64 8, .int .i64 0, .int .i64 0, .int .i64 0, .slice ao dl cp] 24) = w0 := ⟨_, rfl⟩
  rw [hw0] at hB hF
  have c4 := hB.cell 4
  simp only [List.getElem?_toArray, List.getElem?_cons_zero, List.getElem?_cons_succ] at c4
  have HFL := Lib.hid h
  have HSS := Lib.hid hS
  have HD := Lib.hid (hd.fr hF)
  have HD1 := Lib.hid hd1
  have HB := Lib.hid hB
  have HF := Lib.hid hF
  have hlt : ∀ k, S k → k < w0.heap.size := fun k e => Nat.lt_of_lt_of_le (hS k e) hF.size
  have HLT := Lib.hid hlt
  clear h hS hd hd1 hB hF hlt
  go_enter Try.func48, Try.ntmps48
  go_upto_region 1 with (fail)
  try rw [hw0]
  clear hw0
  go_upto_region 2 with (first | (go_at_call 72; refine (clone_any (fun _ => False) S w0 _ ds HD.out (by omega) HD1.out HLT.out).mono ?_; rintro e w1 ⟨v, rfl, hr1, hf1⟩) | go_in)
  have hr1' := hr1
  obtain ⟨ao1, cp1, rfl, _⟩ := hr1'
  have HR1 := Lib.hid hr1
  have HF1 := Lib.hid hf1
  have hB1 := HB.out.fr hf1 id
  have e0 := hB1.cell 0
  have e1 := hB1.cell 1
  have e2 := hB1.cell 2
  have e3 := hB1.cell 3
  simp only [List.getElem?_toArray, List.getElem?_cons_zero, List.getElem?_cons_succ] at e0 e1 e2 e3
  obtain ⟨bb, hbb⟩ : ∃ b, W.heap.size = b := ⟨_, rfl⟩
  obtain ⟨n1, hn1⟩ : ∃ b, ds.length = b := ⟨_, rfl⟩
  rw [hn1]
  rw [hbb] at e0 e1 e2 e3 ⊢
  have HN1 := Lib.hid hn1
  have HBB := Lib.hid hbb
  clear hr1 hf1 HD c4 hn1 hbb
  have HB1 := Lib.hid hB1
  clear hB1
  go_upto_region 3 with (fail)
  have hfA : Fr (fun _ => False) w1 (w1.alloc (.cells #[.int .i64 0, .int .i64 now, .int .i64 0, .int .i64 0, .int .i64 0, .int .i64 0, .slice ao1 n1 cp1] 79)) := Fr.alloc _ _ _
  obtain ⟨w2, hw2⟩ : ∃ w2, w1.alloc (.cells #[.int .i64 0, .int .i64 now, .int .i64 0, .int .i64 0, .int .i64 0, .int .i64 0, .slice ao1 n1 cp1] 79) = w2 := ⟨_, rfl⟩
  rw [hw2] at hfA ⊢
  have f0 := (HB1.out.fr hfA id).cell 0
  rw [HBB.out] at f0
  simp only [List.getElem?_toArray, List.getElem?_cons_zero] at f0
  have HFA := Lib.hid hfA
  clear hw2 hfA e0 e1 e2 e3
  go_upto_region 18 with (fail)
  have hfC : Fr (fun _ => False) w2 (w2.alloc (.cells #[.int .i64 0, .int .i64 0, .int .i64 0, .int .i64 0, .int .i64 0, .int .i64 20, .int .i64 21, .int .i64 22, .int .i64 19] 122)) := Fr.alloc _ _ _
  have hC := Blk.new w2 122 #[.int .i64 0, .int .i64 0, .int .i64 0, .int .i64 0, .int .i64 0, .int .i64 20, .int .i64 21, .int .i64 22, .int .i64 19]
  obtain ⟨w3, hw3⟩ : ∃ w3, w2.alloc (.cells #[.int .i64 0, .int .i64 0, .int .i64 0, .int .i64 0, .int .i64 0, .int .i64 20, .int .i64 21, .int .i64 22, .int .i64 19] 122) = w3 := ⟨_, rfl⟩
  rw [hw3] at hfC hC ⊢
  have q0 := hC.cell 8
  simp only [List.getElem?_toArray, List.getElem?_cons_zero, List.getElem?_cons_succ] at q0
  have g0 := (HB1.out.fr (HFA.out.trans hfC) id).cell 0
  rw [HBB.out] at g0
  simp only [List.getElem?_toArray, List.getElem?_cons_zero] at g0
  have hfW := ((HF.out.trans HF1.out).trans HFA.out).trans hfC
  have HFW := Lib.hid hfW
  have HCL := Lib.hid (close19 S w3 (fun k e => Nat.lt_of_lt_of_le (HSS.out k e) hfW.size) fb mb s (HFL.out.fr0 hfW) hf hfm hl now ao1 n1 cp1 ds (by rw [← HN1.out]; exact (HR1.out.fr (HFA.out.mono fun _ e => e.elim)).fr (hfC.mono fun _ e => e.elim)) hdl HD1.out)
  obtain ⟨tb, htb⟩ : ∃ b, w2.heap.size = b := ⟨_, rfl⟩
  rw [htb] at q0 ⊢
  clear htb hw3 hfC hC hfW f0
  go_wp2_with (first | (go_at_call 71; refine HCL.out.mono ?_; rintro e w4 ⟨ob, v2, rfl, hob, hbo, hrb, hfl, hf4⟩) | go_in)
  go_ret
  exact ⟨ob, v2, rfl, Nat.le_trans HFW.out.size hob, hbo, hrb, hfl, (HFW.out.mono fun _ e => e.elim).trans hf4⟩
end Go.Proofs.Ytnkelaohcbdjnaa
