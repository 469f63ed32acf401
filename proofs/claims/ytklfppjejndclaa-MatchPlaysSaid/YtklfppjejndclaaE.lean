/- Keep by a rest, Names, Clear, over the lists of text D. -/
import Derived.Test.YtklfppjejndclaaD
set_option linter.unusedVariables false
set_option linter.unusedSimpArgs false
namespace Go.Proofs.Ytklfppjejndclaa.P2
open Go.RowKit Go.Maps Go.Sort Go.Shelf
variable {S : Nat → Prop}
/-- the test: the rest by d is r -/
def prd (d r t : Int) : Bool := t.tmod d == r
set_option maxRecDepth 100000 in
theorem clo_any (W : World) (pb qb : Nat) (d r t : Int) (hpb : W.cell? ⟨pb, 0, none⟩ = some (.int .i64 d)) (hqb : W.cell? ⟨qb, 4, none⟩ = some (.int .i64 r)) (hd : 1 ≤ d) :
    Calls Try.prog 17 #[.int .i64 t, .pointer (some ⟨pb, 0, none⟩), .pointer (some ⟨qb, 0, none⟩)] W fun e W' => e = .returned (.bool (prd d r t)) ∧ ∃ n, W' = W.drewN n := by
  have p0 : (d == 0) = false := by rw [beq_eq_false_iff_ne]; omega
  have p1 : d ≠ 0 := by omega
  go_enter Try.func17, Try.ntmps17
  go_wp2
  go_quiet (fail)
  go_wp2
  go_ret
  exact ⟨rfl, _, rfl⟩
set_option maxRecDepth 100000 in
set_option maxHeartbeats 1000000 in
/-- those of which the test says yes stay -/
theorem keep_any (W : World) (sb mb : Nat) (most : Int) (N : Nat) (L : Int → List Value) (h : LS S 55 W sb mb most N L) (hN : N < maxLen) (x : Int) (hx : iKE.ok x) (zs : List Int) (hL : L x = zv zs) (hle : zs.length ≤ 500000)
    (hS : ∀ k, S k → k < W.heap.size) (pb qb : Nat) (d r : Int) (hpb : W.cell? ⟨pb, 0, none⟩ = some (.int .i64 d)) (hqb : W.cell? ⟨qb, 4, none⟩ = some (.int .i64 r)) (hd : 1 ≤ d) :
    Calls Try.prog 11 #[.pointer (some ⟨sb, 0, none⟩), .int .i64 x, .func (.func 17) #[] #[.pointer (some ⟨pb, 0, none⟩), .pointer (some ⟨qb, 0, none⟩)]] W fun e W' =>
      e = .returned (.int .i64 ((zs.length : Int) - ((zs.filter (prd d r)).length : Int))) ∧ LS S 55 W' sb mb most (N + 1) (fun y => if y = x then zv (zs.filter (prd d r)) else L y) ∧ W.grownBy W' (some mb) := by
  have H := Lib.hid h
  have c1 := h.s.cell 1
  simp only [List.getElem?_toArray, List.getElem?_cons_zero, List.getElem?_cons_succ] at c1
  obtain ⟨c, F, hc, hM, hr⟩ := h.m
  have hmlt := hM.lt
  have hzl := zv_len zs
  obtain ⟨ao, cap, hu, hcells⟩ : ∃ ao cap, (F x).getD (.slice none 0 0) = .slice ao zs.length cap ∧ (zs.length = 0 ∨ ∃ b o, ao = some ⟨b, o, none⟩ ∧ ∀ j v, (zv zs)[j]? = some v → W.cell? ⟨b, o + j, none⟩ = some v) := by
    have hr' := hr x hx
    rw [hL] at hr'
    rcases hr' with ⟨hF, h0⟩ | ⟨b, o, cap, hF, h1, h2, h3, h4, h5⟩
    · have : zs.length = 0 := by rw [← hzl, h0]; rfl
      exact ⟨none, 0, by rw [hF, this]; rfl, .inl this⟩
    · exact ⟨some ⟨b, o, none⟩, cap, by rw [hF, ← hzl]; rfl, .inr ⟨b, o, rfl, h5⟩⟩
  have HC := Lib.hid hcells
  have HCLO : Hid (∀ W' t, W.grownBy W' none → Calls Try.prog 17 #[.int .i64 t, .pointer (some ⟨pb, 0, none⟩), .pointer (some ⟨qb, 0, none⟩)] W' fun e W'' => e = .returned (.bool (prd d r t)) ∧ ∃ n, W'' = W'.drewN n) :=
    Lib.hid fun W' t hg => clo_any W' pb qb d r t (hg.cell hpb (by simp)) (hg.cell hqb (by simp)) hd
  obtain ⟨i0, hi, hz0, hz1, hz2⟩ := info_parts infoIE
  obtain ⟨n, hn⟩ : ∃ n, zs.length = n := ⟨_, rfl⟩
  rw [hn] at hu hle
  have HLN := Lib.hid hn
  have hlenB : (n : Int) ≤ 500000 := by omega
  clear hcells hr h hL hzl hpb hqb hn
  go_enter Try.func11, Try.ntmps11
  go_wp2_with (at_lookup; refine wpLook rfl _ _ rfl Try.underlying53 (zeroIL _) hM rfl (x := x) rfl hx hu ?_)
  go_loopw [8, 19] (fun ov kv wr => ∃ i : Nat, i ≤ n ∧ kv = .int .i64 i ∧ wr.ownsRow W.heap.size 3 1 ov ((zs.take i).filter (prd d r)).length (zv ((zs.take i).filter (prd d r))) ∧ W.grownBy wr none) (fun _ kv _ => n - (intOf kv).toNat)
  case atStart => exact ⟨0, Nat.zero_le _, rfl, World.ownsRow_nil _ _ _ _, World.grownBy.refl _ _⟩
  case round =>
    obtain ⟨i, hi2, rfl, hown, hg⟩ := hrel
    by_cases hlt : i < n
    · have p0 : decide ((i : Int) < n) = true := decide_eq_true (by omega)
      rcases HC.out with h0 | ⟨b, o, rfl, hcc⟩
      · have := HLN.out; omega
      obtain ⟨z, hz⟩ : ∃ z, zs[i]? = some z := ⟨_, List.getElem?_eq_getElem (by rw [HLN.out]; exact hlt)⟩
      have hci : wr.cell? ⟨b, o + i, none⟩ = some (.int .i64 z) := hg.cell (hcc i _ (by simp [zv, hz])) (by simp)
      have hsucc := take_filter_succ (prd d r) zs i z hz
      have hcl := Lib.hid (HCLO.out wr z hg)
      obtain ⟨ys, hys⟩ : ∃ ys, (zs.take i).filter (prd d r) = ys := ⟨_, rfl⟩
      have hyl : ys.length ≤ i := by
        rw [← hys]
        exact Nat.le_trans (List.length_filter_le _ _) (by rw [List.length_take]; omega)
      rw [hys] at hown hsucc
      have HS := Lib.hid hsucc
      clear hcc hz hsucc hys
      by_cases hp : (prd d r z) = true
      · rw [hp] at HS hcl
        have hown' : ∀ q, ((wr.drewN q).alloc (.cells #[.int .i64 z] 3)).ownsRow W.heap.size 3 1 u8 ys.length (zv ys) := fun q => (show (wr.drewN q).ownsRow W.heap.size 3 1 u8 ys.length (zv ys) from hown).alloc _
        have hnews : ∀ (q j : Nat) (u : Value), [Value.int .i64 z][j]? = some u → ((wr.drewN q).alloc (.cells #[.int .i64 z] 3)).cell? ((⟨wr.heap.size, 0, none⟩ : Addr).add j) = some u := fun q j u hj => by
          rw [off_add, Nat.zero_add]
          show ((wr.drewN q).alloc _).cell? ⟨(wr.drewN q).heap.size, j, none⟩ = some u
          rw [World.cell?_alloc_mark]
          simpa using hj
        have HOWN := Lib.hid hown'
        have HNEWS := Lib.hid hnews
        have hone : ∀ u ∈ [Value.int .i64 z], u.oneCell' = true := by simp; rfl
        have b1 : ys.length + 1 ≤ maxLen := by unfold maxLen; omega
        have b2 : (ys.length + 1) * 8 ≤ 140737488355328 := by omega
        have hsz : ∀ q, W.heap.size ≤ ((wr.drewN q).alloc (.cells #[.int .i64 z] 3)).heap.size := fun q => by have := hg.size; simp; omega
        have HSZ := Lib.hid hsz
        have hob := hown.lt
        clear hown hown' hnews hsz
        go_wp2_with (first | (go_at_call 17; refine hcl.out.mono ?_; rintro e w' ⟨rfl, nd, rfl⟩) | (at_builtin; refine wpList_append_own _ rfl _ _ _ rfl W.heap.size 3 i0 (.int .i64 0) 1 8 Try.underlying22 hi hz0 hz1 hz2 rfl Nat.zero_lt_one u8 ys.length (zv ys) rfl (HOWN.out _) ⟨wr.heap.size, 0, none⟩ 1 1 [.int .i64 z] rfl rfl (HNEWS.out _) hone b1 b2 (HSZ.out _) ?_; intro v' W1 hown1 hgrow1 hnil1; have HO1 := Lib.hid hown1; have HG1 := Lib.hid hgrow1; clear hown1 hgrow1 hnil1))
        go_roundw
        case rel =>
          refine ⟨i + 1, by omega, by go_num, ?_, ?_⟩
          · rw [HS.out]
            have := HO1.out
            simpa [zv] using this
          · exact (hg.trans ((show wr.grownBy (wr.drewN nd) none from ⟨rfl, rfl, rfl, Nat.le_refl _, fun _ _ _ => rfl⟩).trans (World.grownBy_alloc (wr.drewN nd) _ none))).andThen HG1.out (fun j e => .inl (hob j e).1)
        case measure => simp [intOf]; omega
      · have hpf : (prd d r z) = false := by simpa using hp
        rw [hpf] at HS hcl
        clear hp hpf
        go_wp2_with (go_at_call 17; refine hcl.out.mono ?_; rintro e w' ⟨rfl, nd, rfl⟩)
        go_roundw
        case rel =>
          refine ⟨i + 1, by omega, by go_num, ?_, hg.trans ⟨rfl, rfl, rfl, Nat.le_refl _, fun _ _ _ => rfl⟩⟩
          rw [HS.out]
          simpa using (show (wr.drewN nd).ownsRow W.heap.size 3 1 u8 ys.length (zv ys) from hown)
        case measure => simp [intOf]; omega
    · obtain rfl : i = n := by omega
      have p0 : decide ((i : Int) < i) = false := decide_eq_false (by omega)
      rw [List.take_of_length_le (by rw [HLN.out]; exact Nat.le_refl _)] at hown
      have hfl : (zs.filter (prd d r)).length ≤ i := by rw [← HLN.out]; exact List.length_filter_le _ _
      obtain ⟨ys, hys⟩ : ∃ ys, zs.filter (prd d r) = ys := ⟨_, rfl⟩
      rw [hys] at hown hfl
      have HYS := Lib.hid hys
      have hform : ∃ ao2 cp, u8 = .slice ao2 ys.length cp ∧ ys.length ≤ cp ∧ cp ≤ maxLen ∧ (ys.length ≠ 0 → ∃ b o, ao2 = some ⟨b, o, none⟩ ∧ (b ≠ mb ∧ ¬ S b) ∧ ∀ j v, (zv ys)[j]? = some v → wr.cell? ⟨b, o + j, none⟩ = some v) := by
        have hcs := hown
        obtain ⟨h1, h2⟩ := hown
        rcases h2 with ⟨rfl, h0⟩ | ⟨g, cp, cur, rfl, hb, hgb, hnc, hcm, _, _⟩
        · exact ⟨none, 0, by rw [h0], by omega, by decide, fun h => absurd h0 h⟩
        · refine ⟨some ⟨g, 0, none⟩, cp, rfl, hnc, hcm, fun _ => ⟨g, 0, rfl, ⟨by omega, fun e => by have := hS g e; omega⟩, fun j v hj => ?_⟩⟩
          rw [Nat.zero_add, hcs.cellAt j (by have := (List.getElem?_eq_some_iff.1 hj).1; rw [zv_len] at this; omega)]
          exact hj
      obtain ⟨ao2, cp, rfl, hcp, hcm, hrow⟩ := hform
      have hset := Lib.hid (setI_any wr sb mb most N L (H.out.kept hg) hN x hx ao2 ys.length cp (zv ys) (zv_len ys) ⟨hcp, hcm⟩ (zv_one ys) hrow)
      have hnb : ys.length ≤ 500000 := by omega
      clear hown hys hrow
      go_wp2_with (go_at_call 29; refine hset.out.mono ?_; rintro e w3 ⟨rfl, hls, hg3⟩; have HLS := Lib.hid hls; have HG3 := Lib.hid hg3; clear hls hg3)
      go_ret
      refine ⟨?_, by rw [HYS.out]; exact HLS.out, ?_⟩
      · rw [HLN.out, HYS.out]; rfl
      · exact (⟨hg.os, hg.tape, hg.output, hg.size, fun k h1 _ => hg.block k h1 (by simp)⟩ : W.grownBy wr (some mb)).trans HG3.out
set_option maxRecDepth 100000 in
set_option maxHeartbeats 1000000 in
theorem names_any (W : World) (sb mb : Nat) (most : Int) (N : Nat) (L : Int → List Value) (h : LS S 55 W sb mb most N L) (hN : N ≤ 1000000) :
    Calls Try.prog 13 #[.pointer (some ⟨sb, 0, none⟩)] W fun e W' => ∃ (v : Value) (ks : List Int), e = .returned v ∧ W'.ownsRow W.heap.size 3 1 v ks.length (zv ks) ∧ ks.Pairwise (· < ·) ∧ (∀ x, x ∈ ks ↔ iKE.ok x ∧ L x ≠ []) ∧ ks.length ≤ N ∧ Below W.heap.size W W' := by
  have c1 := h.s.cell 1
  simp only [List.getElem?_toArray, List.getElem?_cons_zero, List.getElem?_cons_succ] at c1
  obtain ⟨c, F, hc, hM, hr⟩ := h.m
  have hbl := hM.lt
  obtain ⟨D, hown, hsize, hD⟩ := hM
  obtain ⟨k1, k2, k3⟩ := keys_of under3 hown
  have hmem : ∀ x, x ∈ intKeys D ↔ iKE.ok x ∧ L x ≠ [] := fun x => by
    rw [k3 x]
    refine and_congr_right fun hx => ?_
    have h1 := (hD x hx).1
    have h1' : Maps.has D (.int .i64 x) = (F x).isSome := h1
    rw [h1']
    rcases hr x hx with ⟨hF, h0⟩ | ⟨b, o, cap, hF, h0, _⟩
    · rw [hF, h0]; simp
    · rw [hF]; simp [h0]
  have hmax : Maps.size D ≤ maxLen := by unfold maxLen; omega
  have hbytes : Maps.size D * 8 ≤ 140737488355328 := by omega
  refine (callsIn_wide (n := 6)).1 ?_
  have hseq : SeqGives Fence.wide 2 Try.prog 44 #[.pointer (some ⟨W.heap.size, 0, none⟩)] encZ (fun ss => ss.Perm (intKeys D)) (Maps.size D) (W.alloc (.cells #[.map (some mb)] 53)) :=
    AnyZI.keys_gives (ρ := Try.keys34_ren) { Try.keys34 with } Fence.wide _ trivial rfl (by omega) W.heap.size mb c D _ (by simp) (by simp) (by
      obtain ⟨es, clock, hb, Ft, hs, hD⟩ := hown
      exact ⟨es, clock, (Below.heap_alloc _ _ mb hbl).trans hb, Ft, hs, hD⟩)
  have cK : ∀ mb W, CallsIn Fence.wide 5 Try.prog 34 #[.map mb] W fun e w' => e = .returned (.func (.func 44) #[] #[.pointer (some ⟨W.heap.size, 0, none⟩)]) ∧ w' = W.alloc (.cells #[.map mb] 53) := fun mb W => AnyZI.keys_in Try.keys34 Fence.wide 5 trivial rfl mb W
  have cS := AnyZI.sorted_in Try.sorted33 Fence.wide 5 trivial trivial trivial trivial rfl (by omega) (sorts _) (enters_of Try.func43 (by kernel_rfl) rfl) 44 #[.pointer (some ⟨W.heap.size, 0, none⟩)] trivial (enters_of Try.func44 (by kernel_rfl) rfl) _ _ hmax hbytes _ hseq
  change CallsIn _ _ Try.prog 33 _ _ _ at cS
  have hfK : Fence.wide.fn 34 := trivial
  have hfS : Fence.wide.fn 33 := trivial
  have CS := Lib.hid cS
  have CK := Lib.hid cK
  have HM := Lib.hid (And.intro k1 hmem)
  have HL := Lib.hid (k2.trans hsize)
  clear cS cK hmem k1 k2 k3 hr hD hown hsize hmax hbytes hseq h
  refine callsIn_of_wp Try.func13 rfl trivial ?_ rfl
  simp only [Try.ntmps13, List.size_toArray, List.length_cons, List.length_nil, Nat.reduceAdd, Nat.reduceSub, Array.replicate_succ, Array.replicate_zero, List.push_toArray, List.append_toArray, List.nil_append, List.cons_append]
  gi_wp2_with (first
    | (gi_at_call 34; refine (CK.out _ _).mono ?_; rintro e w' ⟨rfl, rfl⟩)
    | (gi_at_call 33; refine CS.out.mono ?_; rintro e w' ⟨v, ss, rfl, hS, hrow, hnil, hb⟩))
  go_ret
  have hp := (List.mergeSort_perm ss leI).trans hS
  refine ⟨v, ss.mergeSort leI, rfl, ?_, sorted_strict (hS.nodup_iff.2 HM.out.1), fun x => by rw [hp.mem_iff]; exact HM.out.2 x, ?_, ((Below.refl _ W).alloc (Nat.le_refl _) _).trans (hb.mono (by simp))⟩
  · rw [List.length_mergeSort]
    exact ownsRow_base_a hrow (by simp)
  · rw [hp.length_eq, HL.out]; exact hc
/-- no such size -/
theorem newI_no (W : World) (most : Int) (h1 : ¬ (1 ≤ most ∧ most ≤ 65536)) : Calls Try.prog 7 #[.int .i64 most] W fun e W' => e = .returned (.tuple #[.pointer none, .int .i64 1]) ∧ W = W' := by
  by_cases h2 : most < 1
  · have p1 : decide (most < 1) = true := decide_eq_true h2
    go_enter Try.func7, Try.ntmps7
    go_wp2
    go_ret2
    exact ⟨rfl, rfl⟩
  · have p1 : decide (most < 1) = false := decide_eq_false h2
    have p2 : decide (65536 < most) = true := decide_eq_true (by omega)
    go_enter Try.func7, Try.ntmps7
    go_wp2
    go_ret2
    exact ⟨rfl, rfl⟩
theorem newR_no (W : World) (most : Int) (h1 : ¬ (1 ≤ most ∧ most ≤ 65536)) : Calls Try.prog 14 #[.int .i64 most] W fun e W' => e = .returned (.tuple #[.pointer none, .int .i64 1]) ∧ W = W' := by
  by_cases h2 : most < 1
  · have p1 : decide (most < 1) = true := decide_eq_true h2
    go_enter Try.func14, Try.ntmps14
    go_wp2
    go_ret2
    exact ⟨rfl, rfl⟩
  · have p1 : decide (most < 1) = false := decide_eq_false h2
    have p2 : decide (65536 < most) = true := decide_eq_true (by omega)
    go_enter Try.func14, Try.ntmps14
    go_wp2
    go_ret2
    exact ⟨rfl, rfl⟩
theorem newR_yes (W : World) (most : Int) (h1 : 1 ≤ most) (h2 : most ≤ 65536) : Calls Try.prog 14 #[.int .i64 most] W fun e W' => e = .returned (.tuple #[.pointer (some ⟨W.heap.size, 0, none⟩), .int .i64 0]) ∧ W' = W.alloc (.cells #[.int .i64 most, .slice none 0 0] 64) := by
  have p1 : decide (most < 1) = false := decide_eq_false (by omega)
  have p2 : decide (65536 < most) = false := decide_eq_false (by omega)
  go_enter Try.func14, Try.ntmps14
  go_wp2
  go_ret2
  exact ⟨rfl, rfl⟩
set_option maxRecDepth 100000 in
/-- Clear -/
theorem clear_any (W : World) (sb mb : Nat) (most : Int) (N : Nat) (L : Int → List Value) (h : LS S 55 W sb mb most N L) (hN : N < maxLen) (x : Int) (hx : iKE.ok x) :
    Calls Try.prog 20 #[.pointer (some ⟨sb, 0, none⟩), .int .i64 x] W fun e W' => e = .returned (.int .i64 ((L x).length : Int)) ∧ LS S 55 W' sb mb most (N + 1) (fun y => if y = x then [] else L y) ∧ W.grownBy W' (some mb) := by
  have HL := Lib.hid (lenI_any W sb mb most N L h x hx)
  have HS := Lib.hid (setI_any W sb mb most N L h hN x hx none 0 0 [] rfl ⟨Nat.le_refl _, by decide⟩ (fun v hv => absurd hv List.not_mem_nil) (fun h => absurd rfl h))
  clear h
  go_enter Try.func20, Try.ntmps20
  go_wp2_with (first
    | (go_at_call 9; refine HL.out.mono ?_; rintro e w' ⟨rfl, rfl⟩)
    | (go_at_call 29; refine HS.out.mono ?_; rintro e w3 ⟨rfl, hls, hg3⟩; have HLS := Lib.hid hls; have HG3 := Lib.hid hg3; clear hls hg3))
  go_ret
  exact ⟨rfl, HLS.out, HG3.out⟩
end Go.Proofs.Ytklfppjejndclaa.P2
