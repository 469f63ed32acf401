/- Keep. -/
import Derived.Test.YtklfppjejndclaaA
set_option linter.unusedVariables false
set_option linter.unusedSimpArgs false
namespace Go.Proofs.Ytklfppjejndclaa
open Go.RowKit Go.Maps
def zv (l : List Int) : List Value := l.map (Value.int .i64)
theorem zv_len (l : List Int) : (zv l).length = l.length := by simp [zv]
theorem zv_one (l : List Int) : ∀ u ∈ zv l, u.oneCell' = true := by
  intro u hu
  obtain ⟨b, _, rfl⟩ := List.mem_map.1 hu
  rfl
set_option maxRecDepth 100000 in
theorem clo_any (W : World) (pb : Nat) (d t : Int) (hpb : W.cell? ⟨pb, 0, none⟩ = some (.int .i64 d)) (hd : 1 ≤ d) (hd2 : d ≤ 10) :
    Calls Try.prog 12 #[.int .i64 t, .pointer (some ⟨pb, 0, none⟩)] W fun e W' => e = .returned (.bool (t.tmod d != 0)) ∧ W = W' := by
  go_enter Try.func12, Try.ntmps12
  go_wp2
  go_ret
  exact ⟨rfl, rfl⟩
theorem take_filter_succ (p : Int → Bool) (zs : List Int) (i : Nat) (z : Int) (h : zs[i]? = some z) : (zs.take (i + 1)).filter p = (zs.take i).filter p ++ (if p z then [z] else []) := by
  rw [List.take_add_one, h, List.filter_append]
  congr 1
  simp [List.filter]
  cases p z <;> rfl
set_option maxRecDepth 100000 in
set_option maxHeartbeats 1000000 in
/-- those of which the test says yes stay -/
theorem keep_any (W : World) (sb mb : Nat) (most : Int) (N : Nat) (L : Int → List Value) (h : LS 55 W sb mb most N L) (hN : N < maxLen) (x : Int) (hx : iKE.ok x) (zs : List Int) (hL : L x = zv zs) (hle : zs.length ≤ 500000)
    (pb : Nat) (d : Int) (hpb : W.cell? ⟨pb, 0, none⟩ = some (.int .i64 d)) (hd : 1 ≤ d) (hd2 : d ≤ 10) :
    Calls Try.prog 11 #[.pointer (some ⟨sb, 0, none⟩), .int .i64 x, .func (.func 12) #[] #[.pointer (some ⟨pb, 0, none⟩)]] W fun e W' =>
      e = .returned (.int .i64 ((zs.length : Int) - ((zs.filter (fun t => t.tmod d != 0)).length : Int))) ∧ LS 55 W' sb mb most (N + 1) (fun y => if y = x then zv (zs.filter (fun t => t.tmod d != 0)) else L y) ∧ W.grownBy W' (some mb) := by
  have H := Lib.hid h
  have c1 := h.s.cell 1
  simp only [List.getElem?_toArray, List.getElem?_cons_zero, List.getElem?_cons_succ] at c1
  obtain ⟨c, F, hc, hM, hr⟩ := h.m
  have hmlt := hM.lt
  have hzl := zv_len zs
  obtain ⟨ao, cap, hu, hcells⟩ : ∃ ao cap, (F x).getD (.slice none 0 0) = .slice ao zs.length cap ∧ (zs.length = 0 ∨ ∃ b o, ao = some ⟨b, o, none⟩ ∧ ∀ j v, (zv zs)[j]? = some v → W.cell? ⟨b, o + j, none⟩ = some v) := by
    have hr' := hr x hx
    rw [hL] at hr'
    rcases hr' with ⟨hF, h0⟩ | ⟨b, o, cap, hF, h1, h2, h3, h4, h5⟩
    · have : zs.length = 0 := by rw [← hzl, h0]; rfl
      exact ⟨none, 0, by rw [hF, this]; rfl, .inl this⟩
    · exact ⟨some ⟨b, o, none⟩, cap, by rw [hF, ← hzl]; rfl, .inr ⟨b, o, rfl, h5⟩⟩
  have HC := Lib.hid hcells
  have HCLO : Hid (∀ W' t, W.grownBy W' none → Calls Try.prog 12 #[.int .i64 t, .pointer (some ⟨pb, 0, none⟩)] W' fun e W'' => e = .returned (.bool (t.tmod d != 0)) ∧ W' = W'') :=
    Lib.hid fun W' t hg => clo_any W' pb d t (hg.cell hpb (by simp)) hd hd2
  obtain ⟨i0, hi, hz0, hz1, hz2⟩ := info_parts infoIE
  obtain ⟨n, hn⟩ : ∃ n, zs.length = n := ⟨_, rfl⟩
  rw [hn] at hu hle
  have HLN := Lib.hid hn
  have hlenB : (n : Int) ≤ 500000 := by omega
  clear hcells hr h hL hzl hpb hn
  go_enter Try.func11, Try.ntmps11
  go_wp2_with (at_lookup; refine wpLook rfl _ _ rfl Try.underlying53 (zeroIL _) hM rfl (x := x) rfl hx hu ?_)
  go_loopw [8, 19] (fun ov kv wr => ∃ i : Nat, i ≤ n ∧ kv = .int .i64 i ∧ wr.ownsRow W.heap.size 3 1 ov ((zs.take i).filter (fun t => t.tmod d != 0)).length (zv ((zs.take i).filter (fun t => t.tmod d != 0))) ∧ W.grownBy wr none) (fun _ kv _ => n - (intOf kv).toNat)
  case atStart => exact ⟨0, Nat.zero_le _, rfl, World.ownsRow_nil _ _ _ _, World.grownBy.refl _ _⟩
  case round =>
    obtain ⟨i, hi2, rfl, hown, hg⟩ := hrel
    by_cases hlt : i < n
    · have p0 : decide ((i : Int) < n) = true := decide_eq_true (by omega)
      rcases HC.out with h0 | ⟨b, o, rfl, hcc⟩
      · have := HLN.out; omega
      obtain ⟨z, hz⟩ : ∃ z, zs[i]? = some z := ⟨_, List.getElem?_eq_getElem (by rw [HLN.out]; exact hlt)⟩
      have hci : wr.cell? ⟨b, o + i, none⟩ = some (.int .i64 z) := hg.cell (hcc i _ (by simp [zv, hz])) (by simp)
      have hsucc := take_filter_succ (fun t => t.tmod d != 0) zs i z hz
      have hcl := Lib.hid (HCLO.out wr z hg)
      obtain ⟨ys, hys⟩ : ∃ ys, (zs.take i).filter (fun t => t.tmod d != 0) = ys := ⟨_, rfl⟩
      have hyl : ys.length ≤ i := by
        rw [← hys]
        exact Nat.le_trans (List.length_filter_le _ _) (by rw [List.length_take]; omega)
      rw [hys] at hown hsucc
      have HS := Lib.hid hsucc
      clear hcc hz hsucc hys
      by_cases hp : (z.tmod d != 0) = true
      · rw [hp] at HS hcl
        have hown' : (wr.alloc (.cells #[.int .i64 z] 3)).ownsRow W.heap.size 3 1 u8 ys.length (zv ys) := hown.alloc _
        have hnews : ∀ (j : Nat) (u : Value), [Value.int .i64 z][j]? = some u → (wr.alloc (.cells #[.int .i64 z] 3)).cell? ((⟨wr.heap.size, 0, none⟩ : Addr).add j) = some u := fun j u hj => by
          rw [off_add, Nat.zero_add, World.cell?_alloc_mark]
          simpa using hj
        have hone : ∀ u ∈ [Value.int .i64 z], u.oneCell' = true := by simp; rfl
        have b1 : ys.length + 1 ≤ maxLen := by unfold maxLen; omega
        have b2 : (ys.length + 1) * 8 ≤ 140737488355328 := by omega
        have hsz : W.heap.size ≤ (wr.alloc (.cells #[.int .i64 z] 3)).heap.size := by have := hg.size; simp; omega
        have hob := hown.lt
        clear hown
        go_wp2_with (first | (go_at_call 12; refine hcl.out.mono ?_; rintro e w' ⟨rfl, rfl⟩) | (at_builtin; refine wpList_append_own _ rfl _ _ _ rfl W.heap.size 3 i0 (.int .i64 0) 1 8 Try.underlying22 hi hz0 hz1 hz2 rfl Nat.zero_lt_one u8 ys.length (zv ys) rfl hown' ⟨wr.heap.size, 0, none⟩ 1 1 [.int .i64 z] rfl rfl hnews hone b1 b2 hsz ?_; intro v' W1 hown1 hgrow1 hnil1; have HO1 := Lib.hid hown1; have HG1 := Lib.hid hgrow1; clear hown1 hgrow1 hnil1))
        go_roundw
        case rel =>
          refine ⟨i + 1, by omega, by go_num, ?_, ?_⟩
          · rw [HS.out]
            have := HO1.out
            simpa [zv] using this
          · exact (hg.trans (World.grownBy_alloc wr _ none)).andThen HG1.out (fun j e => .inl (hob j e).1)
        case measure => simp [intOf]; omega
      · have hpf : (z.tmod d != 0) = false := by simpa using hp
        rw [hpf] at HS hcl
        clear hp hpf
        go_wp2_with (go_at_call 12; refine hcl.out.mono ?_; rintro e w' ⟨rfl, rfl⟩)
        go_roundw
        case rel =>
          refine ⟨i + 1, by omega, by go_num, ?_, hg⟩
          rw [HS.out]
          simpa using hown
        case measure => simp [intOf]; omega
    · obtain rfl : i = n := by omega
      have p0 : decide ((i : Int) < i) = false := decide_eq_false (by omega)
      rw [List.take_of_length_le (by rw [HLN.out]; exact Nat.le_refl _)] at hown
      have hfl : (zs.filter (fun t => t.tmod d != 0)).length ≤ i := by rw [← HLN.out]; exact List.length_filter_le _ _
      obtain ⟨ys, hys⟩ : ∃ ys, zs.filter (fun t => t.tmod d != 0) = ys := ⟨_, rfl⟩
      rw [hys] at hown hfl
      have HYS := Lib.hid hys
      have hform : ∃ ao2 cp, u8 = .slice ao2 ys.length cp ∧ ys.length ≤ cp ∧ cp ≤ maxLen ∧ (ys.length ≠ 0 → ∃ b o, ao2 = some ⟨b, o, none⟩ ∧ b ≠ mb ∧ ∀ j v, (zv ys)[j]? = some v → wr.cell? ⟨b, o + j, none⟩ = some v) := by
        have hcs := hown
        obtain ⟨h1, h2⟩ := hown
        rcases h2 with ⟨rfl, h0⟩ | ⟨g, cp, cur, rfl, hb, hgb, hnc, hcm, _, _⟩
        · exact ⟨none, 0, by rw [h0], by omega, by decide, fun h => absurd h0 h⟩
        · refine ⟨some ⟨g, 0, none⟩, cp, rfl, hnc, hcm, fun _ => ⟨g, 0, rfl, by omega, fun j v hj => ?_⟩⟩
          rw [Nat.zero_add, hcs.cellAt j (by have := (List.getElem?_eq_some_iff.1 hj).1; rw [zv_len] at this; omega)]
          exact hj
      obtain ⟨ao2, cp, rfl, hcp, hcm, hrow⟩ := hform
      have hset := Lib.hid (setI_any wr sb mb most N L (H.out.kept hg) hN x hx ao2 ys.length cp (zv ys) (zv_len ys) ⟨hcp, hcm⟩ (zv_one ys) hrow)
      have hnb : ys.length ≤ 500000 := by omega
      clear hown hys hrow
      go_wp2_with (go_at_call 29; refine hset.out.mono ?_; rintro e w3 ⟨rfl, hls, hg3⟩; have HLS := Lib.hid hls; have HG3 := Lib.hid hg3; clear hls hg3)
      go_ret
      refine ⟨?_, by rw [HYS.out]; exact HLS.out, ?_⟩
      · rw [HLN.out, HYS.out]; rfl
      · exact (⟨hg.os, hg.tape, hg.output, hg.size, fun k h1 _ => hg.block k h1 (by simp)⟩ : W.grownBy wr (some mb)).trans HG3.out
end Go.Proofs.Ytklfppjejndclaa
