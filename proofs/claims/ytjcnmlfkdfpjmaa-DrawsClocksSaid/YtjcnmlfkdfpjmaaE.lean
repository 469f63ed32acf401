/- Due. -/
import Derived.Test.YtjcnmlfkdfpjmaaD
import Derived.LoopTactic
set_option linter.unusedVariables false
set_option linter.unusedSimpArgs false
namespace Go.Proofs.Ytjcnmlfkdfpjmaa
open Go.RowKit Go.Maps Go.Sort Go.Shelf
variable {W : World} {cb mb N : Nat} {now : Int} {F : Int → Option Int}
theorem infoE3 : (Try.prog.info? 3).map (fun i => (i.zero, i.size, i.bytes)) = some (some (.int .i64 0), 1, 8) := by kernel_rfl
def zv (l : List Int) : List Value := l.map (Value.int .i64)
theorem zv_len (l : List Int) : (zv l).length = l.length := by simp [zv]
/-- a slice that shows integers, its row at or behind B -/
def RowI (W : World) (B : Nat) (ao : Option Addr) (l : List Int) : Prop := l.length = 0 ∨ ∃ g, ao = some ⟨g, 0, none⟩ ∧ B ≤ g ∧ ∀ (j : Nat) (x : Int), l[j]? = some x → W.cell? ⟨g, j, none⟩ = some (.int .i64 x)
theorem RowI.fr {S : Nat → Prop} {W W' : World} {B : Nat} {ao : Option Addr} {l : List Int} (h : RowI W B ao l) (hf : Fr S W W') (hS : ∀ k, S k → k < B) : RowI W' B ao l := by
  rcases h with h | ⟨g, h1, h2, h3⟩
  · exact .inl h
  · exact .inr ⟨g, h1, h2, fun j x hj => (World.cell?_of_block (hf.block g (lt_of_cell (h3 j x hj)) (fun e => by have := hS _ e; omega))).trans (h3 j x hj)⟩
theorem row_form {W : World} {B : Nat} {v : Value} {l : List Int} (h : W.ownsRow B 3 1 v l.length (zv l)) : ∃ ao cp, v = .slice ao l.length cp ∧ l.length ≤ cp ∧ cp ≤ maxLen ∧ RowI W B ao l := by
  have hcs := h
  rcases h.2 with ⟨rfl, h0⟩ | ⟨g, cp, cur, rfl, hb, hgb, hnc, hcm, _, _⟩
  · exact ⟨none, 0, by rw [h0], by omega, by decide, .inl h0⟩
  · refine ⟨some ⟨g, 0, none⟩, cp, rfl, hnc, hcm, .inr ⟨g, rfl, hb, fun j x hj => ?_⟩⟩
    rw [hcs.cellAt j (by have := (List.getElem?_eq_some_iff.1 hj).1; omega)]
    simp [zv, hj]
theorem take_filter (p : Int → Bool) (zs : List Int) (i : Nat) (z : Int) (h : zs[i]? = some z) : (zs.take (i + 1)).filter p = (zs.take i).filter p ++ (if p z then [z] else []) := by
  rw [List.take_add_one, h, List.filter_append]
  congr 1
  simp [List.filter]
  cases p z <;> rfl
def dueOf (F : Int → Option Int) (now : Int) (l : List Int) : List Int := l.filter (fun x => decide (atF F x ≤ now))
/-- what is due, by tick and number -/
def DueL (F : Int → Option Int) (now : Int) (l : List Int) : Prop := l.Pairwise (ltA F) ∧ ∀ x, x ∈ l ↔ iKE.ok x ∧ ∃ t, F x = some t ∧ t ≤ now
theorem due_of {l : List Int} (h1 : l.Pairwise (ltA F)) (h2 : ∀ x, x ∈ l ↔ iKE.ok x ∧ F x ≠ none) : DueL F now (dueOf F now l) := by
  refine ⟨h1.filter _, fun x => ?_⟩
  unfold dueOf
  rw [List.mem_filter, h2, and_assoc]
  refine and_congr_right fun _ => ?_
  unfold atF
  cases F x <;> simp
def less (F : Int → Option Int) (l : List Int) : Int → Option Int := fun x => if x ∈ l then none else F x
theorem less_next (F : Int → Option Int) (l : List Int) (i : Nat) (z : Int) (h : l[i]? = some z) (y : Int) : put1 (less F (l.take i)) z none y = less F (l.take (i + 1)) y := by
  unfold put1 less
  rw [List.take_add_one, h]
  by_cases e : y = z
  · simp [e]
  · simp [e]
set_option maxRecDepth 100000 in
set_option maxHeartbeats 2000000 in
theorem due_any (h : CK W cb mb now N F) (hN : N ≤ 500000) :
    Calls Try.prog 15 #[.pointer (some ⟨cb, 0, none⟩)] W fun e W' => ∃ (ao : Option Addr) (cp : Nat) (l : List Int), e = .returned (.slice ao l.length cp) ∧ DueL F now l ∧ l.length ≤ N ∧ RowI W' W.heap.size ao l ∧ CK W' cb mb now N (less F l) ∧ Fr (fun k => k = mb) W W' := by
  have hlt := h.lt
  have H := Lib.hid h
  have c1 := h.s.cell 1
  simp only [List.getElem?_toArray, List.getElem?_cons_zero, List.getElem?_cons_succ] at c1
  have cK : ∀ mb W, Calls Try.prog 32 #[.map mb] W fun e w' => e = .returned (.func (.func 43) #[] #[.pointer (some ⟨W.heap.size, 0, none⟩)]) ∧ w' = W.alloc (.cells #[.map mb] 32) := fun mb W => callsIn_wide.1 (AnyZI.keys_in Try.keys32 Fence.wide 5 trivial rfl mb W)
  have CK1 := Lib.hid cK
  clear cK h
  go_enter Try.func15, Try.ntmps15
  go_wp2_with (go_at_call 32; refine (CK1.out _ _).mono ?_; rintro e w' ⟨rfl, rfl⟩)
  have hf0 : Fr (fun _ => False) W ((W.alloc (.cells #[.pointer (some ⟨cb, 0, none⟩)] 30)).alloc (.cells #[.map (some mb)] 32)) := (Fr.alloc _ _ _).trans (Fr.alloc _ _ _)
  refine (sf_any (H.out.kept hf0) (by omega) (W.heap.size + 1) W.heap.size (by simp) (by simp)).mono ?_
  rintro e W3 ⟨v, ss, rfl, hrow, hsort, hmem, hlen, hb3⟩
  have hf3 : Fr (fun _ => False) W W3 := hf0.trans ⟨hb3.os, hb3.tape, hb3.output, hb3.size, fun k hk _ => hb3.block k hk⟩
  have hbx : W3.cell? ⟨W.heap.size, 0, none⟩ = some (.pointer (some ⟨cb, 0, none⟩)) := (hb3.cell (p := ⟨W.heap.size, 0, none⟩) (by simp; omega)).trans (by simp)
  have hK3 := H.out.kept hf3
  obtain ⟨ao, cp, rfl, hcp, _, hrI⟩ := row_form hrow
  rw [World.size_alloc, World.size_alloc] at hrI
  have HD := Lib.hid (due_of (now := now) hsort hmem)
  have HMEM := Lib.hid hmem
  have HF3 := Lib.hid hf3
  have HK3 := Lib.hid hK3
  obtain ⟨n, hn⟩ : ∃ n, ss.length = n := ⟨_, rfl⟩
  rw [hn] at hlen hcp ⊢
  have HN := Lib.hid hn
  have hs3 : W.heap.size < W3.heap.size := lt_of_cell hbx
  obtain ⟨i0, hi, hz0, hz1, hz2⟩ := info_parts infoE3
  clear hf0 hb3 hrow hsort hmem hf3 hK3 hn c1
  go_wp2
  go_loopw [4, 18] (fun ov kv wr => ∃ i : Nat, i ≤ n ∧ kv = .int .i64 i ∧ wr.ownsRow W3.heap.size 3 1 ov (dueOf F now (ss.take i)).length (zv (dueOf F now (ss.take i))) ∧ W3.grownBy wr none) (fun _ kv _ => n - (intOf kv).toNat)
  case atStart => exact ⟨0, Nat.zero_le _, rfl, World.ownsRow_nil _ _ _ _, World.grownBy.refl _ _⟩
  case round =>
    obtain ⟨i, hi2, rfl, hown, hg⟩ := hrel
    have hfr : Fr (fun _ => False) W3 wr := Fr.grown hg (fun k e => nomatch e)
    by_cases hlt : i < n
    · have p0 : decide ((i : Int) < n) = true := decide_eq_true (by omega)
      rcases hrI with h0 | ⟨b, rfl, hBb, hcc⟩
      · have := HN.out; omega
      obtain ⟨z, hz⟩ : ∃ z, ss[i]? = some z := ⟨_, List.getElem?_eq_getElem (by rw [HN.out]; exact hlt)⟩
      have hci : wr.cell? ⟨b, i, none⟩ = some (.int .i64 z) := hg.cell (hcc i _ hz) (by simp)
      have hzok : iKE.ok z := ((HMEM.out z).1 (List.mem_of_getElem? hz)).1
      have hKr := HK3.out.kept hfr
      have hrun : ∀ n, (Instr.lookup 32 (.map (some mb)) (.int .i64 z) false).run Try.prog (wr.drewN n) = .ok (.int .i64 (atF F z)) (wr.drewN n) := fun n => (hKr.kept (Fr.drewN _ wr n)).look hzok
      have k0 := hKr.s.cell 0
      have k1 := hKr.s.cell 1
      simp only [List.getElem?_toArray, List.getElem?_cons_zero, List.getElem?_cons_succ] at k0 k1
      have kbx : wr.cell? ⟨W.heap.size, 0, none⟩ = some (.pointer (some ⟨cb, 0, none⟩)) := hg.cell hbx (by simp)
      have hsucc : dueOf F now (ss.take (i + 1)) = dueOf F now (ss.take i) ++ (if decide (atF F z ≤ now) then [z] else []) := take_filter _ ss i z hz
      obtain ⟨t, ht⟩ : ∃ t, atF F z = t := ⟨_, rfl⟩
      rw [ht] at hrun hsucc
      obtain ⟨ys, hys⟩ : ∃ ys, dueOf F now (ss.take i) = ys := ⟨_, rfl⟩
      have hyl : ys.length ≤ i := by
        rw [← hys]
        exact Nat.le_trans (List.length_filter_le _ _) (by rw [List.length_take]; omega)
      rw [hys] at hown hsucc
      have HS := Lib.hid hsucc
      have HKR := Lib.hid hKr
      clear hcc hz hsucc hys hKr hzok ht hfr
      by_cases hp : t ≤ now
      · have pt : decide (t ≤ now) = true := decide_eq_true hp
        rw [pt] at HS
        have hownq : ∀ q, ((wr.drewN q).alloc (.cells #[.int .i64 z] 3)).ownsRow W3.heap.size 3 1 u4 ys.length (zv ys) := fun q => (show (wr.drewN q).ownsRow W3.heap.size 3 1 u4 ys.length (zv ys) from hown).alloc _
        have hnews : ∀ (q j : Nat) (u : Value), [Value.int .i64 z][j]? = some u → ((wr.drewN q).alloc (.cells #[.int .i64 z] 3)).cell? ((⟨wr.heap.size, 0, none⟩ : Addr).add j) = some u := fun q j u hj => by
          rw [off_add, Nat.zero_add]
          show ((wr.drewN q).alloc _).cell? ⟨(wr.drewN q).heap.size, j, none⟩ = some u
          rw [World.cell?_alloc_mark]
          simpa using hj
        have hone : ∀ u ∈ [Value.int .i64 z], u.oneCell' = true := by simp; rfl
        have b1 : ys.length + 1 ≤ maxLen := by unfold maxLen; omega
        have b2 : (ys.length + 1) * 8 ≤ 140737488355328 := by omega
        have hsz : ∀ q, W3.heap.size ≤ ((wr.drewN q).alloc (.cells #[.int .i64 z] 3)).heap.size := fun q => by have := hg.size; simp; omega
        have hob := hown.lt
        have HOW := Lib.hid hownq
        have HNW := Lib.hid hnews
        have HSZ := Lib.hid hsz
        clear hown hownq hnews hsz
        go_wp2
        go_quiet (fail)
        go_wp2_with (at_builtin; refine wpList_append_own _ rfl _ _ _ rfl W3.heap.size 3 i0 (.int .i64 0) 1 8 Try.underlying29 hi hz0 hz1 hz2 rfl Nat.zero_lt_one u4 ys.length (zv ys) rfl (HOW.out _) ⟨wr.heap.size, 0, none⟩ 1 1 [.int .i64 z] rfl rfl (HNW.out _) hone b1 b2 (HSZ.out _) ?_; intro v' W1 hown1 hgrow1 hnil1; have HO1 := Lib.hid hown1; have HG1 := Lib.hid hgrow1; clear hown1 hgrow1 hnil1)
        go_roundw
        case rel =>
          refine ⟨i + 1, by omega, by go_num, ?_, ?_⟩
          · rw [HS.out]
            have := HO1.out
            simpa [zv] using this
          · exact (hg.trans ((show wr.grownBy (wr.drewN _) none from ⟨rfl, rfl, rfl, Nat.le_refl _, fun _ _ _ => rfl⟩).trans (World.grownBy_alloc (wr.drewN _) _ none))).andThen HG1.out (fun j e => .inl (hob j e).1)
        case measure => simp [intOf]; omega
      · have pt : decide (t ≤ now) = false := decide_eq_false hp
        rw [pt] at HS
        clear hp
        go_wp2
        go_quiet (fail)
        go_wp2
        go_roundw
        case rel =>
          refine ⟨i + 1, by omega, by go_num, ?_, hg.trans ⟨rfl, rfl, rfl, Nat.le_refl _, fun _ _ _ => rfl⟩⟩
          rw [HS.out]
          simpa using (show (wr.drewN _).ownsRow W3.heap.size 3 1 u4 ys.length (zv ys) from hown)
        case measure => simp [intOf]; omega
    · obtain rfl : i = n := by omega
      have p0 : decide ((i : Int) < i) = false := decide_eq_false (by omega)
      rw [List.take_of_length_le (by rw [HN.out]; exact Nat.le_refl _)] at hown
      have hfl : (dueOf F now ss).length ≤ i := by rw [← HN.out]; exact List.length_filter_le _ _
      obtain ⟨l, hl⟩ : ∃ l, dueOf F now ss = l := ⟨_, rfl⟩
      rw [hl] at hown hfl HD
      obtain ⟨ao2, cp2, rfl, hcp2, hcm2, hr2⟩ := row_form hown
      obtain ⟨m, hm⟩ : ∃ m, l.length = m := ⟨_, rfl⟩
      rw [hm] at hfl hcp2 ⊢
      have HMM := Lib.hid hm
      have hf1 : Fr (fun _ => False) W wr := HF3.out.trans hfr
      have hKr := (H.out.kept hf1).congr (F' := less F (l.take 0)) (fun x => by unfold less; simp)
      have kbx : wr.cell? ⟨W.heap.size, 0, none⟩ = some (.pointer (some ⟨cb, 0, none⟩)) := hg.cell hbx (by simp)
      have HKR := Lib.hid hKr
      have HF1 := Lib.hid (hf1.mono (S' := fun k => k = mb) (fun k e => e.elim))
      have HR2 := Lib.hid hr2
      have hwl : W3.heap.size ≤ wr.heap.size := hg.size
      clear hown hl hm hKr hr2 hf1 hfr hg hrI
      go_wp2
      obtain ⟨wo, rfl⟩ : ∃ wo : World, wo = wr := ⟨_, rfl⟩
      go_loopw [40] (fun kv wr => ∃ j : Nat, j ≤ m ∧ kv = .int .i64 j ∧ CK wr cb mb now N (less F (l.take j)) ∧ RowI wr W3.heap.size ao2 l ∧ Fr (fun k => k = mb) W wr ∧ wr.cell? ⟨W.heap.size, 0, none⟩ = some (.pointer (some ⟨cb, 0, none⟩))) (fun kv _ => m - (intOf kv).toNat)
      case atStart => exact ⟨0, Nat.zero_le _, rfl, HKR.out, HR2.out, HF1.out, kbx⟩
      case round =>
        obtain ⟨j, hj2, rfl, hK, hR, hF, hbx2⟩ := hrel
        by_cases hlt : j < m
        · have p0 : decide ((j : Int) < m) = true := decide_eq_true (by omega)
          obtain ⟨z, hz⟩ : ∃ z, l[j]? = some z := ⟨_, List.getElem?_eq_getElem (by rw [HMM.out]; exact hlt)⟩
          rcases hR with h0 | ⟨b, rfl, hBb, hcc⟩
          · have := HMM.out; omega
          have hci : wr.cell? ⟨b, j, none⟩ = some (.int .i64 z) := hcc j z hz
          have hzok : iKE.ok z := ((HD.out.2 z).1 (List.mem_of_getElem? hz)).1
          have k1 := hK.s.cell 1
          simp only [List.getElem?_toArray, List.getElem?_cons_zero, List.getElem?_cons_succ] at k1
          obtain ⟨W5, hrun5, hK5, hf5⟩ := hK.drop hzok 0
          have hRR : RowI wr W3.heap.size (some ⟨b, 0, none⟩) l := .inr ⟨b, rfl, hBb, hcc⟩
          have HR5 := Lib.hid (hRR.fr hf5 (fun k e => by omega))
          have HK5 := Lib.hid (hK5.congr (less_next F l j z hz))
          have HF5 := Lib.hid (hF.trans hf5)
          have HB5 := Lib.hid ((World.cell?_of_block (hf5.block W.heap.size (lt_of_cell hbx2) (fun e => by omega))).trans hbx2)
          clear hcc hz hK hzok hK5 hf5 hRR hF HKR HR2 HF1
          go_wp2
          go_roundw
          case rel => exact ⟨j + 1, by omega, by go_num, HK5.out, HR5.out, HF5.out, HB5.out⟩
          case measure => simp [intOf]; omega
        · obtain rfl : j = m := by omega
          have p0 : decide ((j : Int) < j) = false := decide_eq_false (by omega)
          rw [List.take_of_length_le (by rw [HMM.out]; exact Nat.le_refl _)] at hK
          have HK := Lib.hid hK
          clear hK HKR HR2 HF1
          go_wp2
          go_ret
          refine ⟨ao2, cp2, l, by rw [HMM.out]; rfl, HD.out, by rw [HMM.out]; omega, ?_, HK.out, hF⟩
          rcases hR with h0 | ⟨b, h1, h2, h3⟩
          · exact .inl h0
          · exact .inr ⟨b, h1, by omega, h3⟩
end Go.Proofs.Ytjcnmlfkdfpjmaa
