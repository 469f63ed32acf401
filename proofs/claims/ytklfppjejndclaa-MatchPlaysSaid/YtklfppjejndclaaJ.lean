/- The reference's All. -/
import Derived.Test.YtklfppjejndclaaI
set_option linter.unusedVariables false
set_option linter.unusedSimpArgs false
namespace Go.Proofs.Ytklfppjejndclaa.P2
open Go.RowKit Go.Maps Go.Sort
variable {W : World} {rb B0 : Nat} {T : Int} {L : List (Int × Int)}
def ofL (L : List (Int × Int)) (x : Int) : List (Int × Int) := L.filter (fun p => p.1 == x)
def allOf (L : List (Int × Int)) (ys : List Int) : List (Int × Int) := ys.flatMap (ofL L)
theorem allOf_succ {ys : List Int} {j : Nat} {y : Int} (h : ys[j]? = some y) : allOf L (ys.take (j + 1)) = allOf L (ys.take j) ++ ofL L y := by
  unfold allOf
  rw [List.take_add_one, h, List.flatMap_append]
  simp
theorem ofL_succ {i : Nat} {q : Int × Int} (h : L[i]? = some q) (x : Int) : ofL (L.take (i + 1)) x = ofL (L.take i) x ++ (if (q.1 == x) = true then [q] else []) := filter_succ _ h
theorem ofL_len (L : List (Int × Int)) (x : Int) : (ofL L x).length ≤ L.length := List.length_filter_le _ _
set_option maxRecDepth 100000 in
set_option maxHeartbeats 2000000 in
theorem rall_any (h : RC W rb B0 T L) (hL : L.length ≤ 1000) :
    Calls Try.prog 37 #[.pointer (some ⟨rb, 0, none⟩)] W fun e W' => ∃ (v : Value) (ys : List Int), e = .returned v ∧ NamesOf L ys ∧ W'.ownsRow W.heap.size 66 2 v (allOf L ys).length (flat (allOf L ys)) ∧ (allOf L ys).length ≤ 1001000 ∧ Fr (fun _ => False) W W' := by
  have HNM := Lib.hid (rnames_any h hL)
  obtain ⟨ao, cp0, hs, hcp, hcm, hc⟩ := h.open
  have c1 := hs.cell 1
  simp only [List.getElem?_toArray, List.getElem?_cons_zero, List.getElem?_cons_succ] at c1
  obtain ⟨n, hn⟩ : ∃ n, L.length = n := ⟨_, rfl⟩
  rw [hn] at c1 hcp hL
  have HN := Lib.hid hn
  have HC := Lib.hid hc
  have hrl := hs.lt
  obtain ⟨i0, hi0, hz0, hz1, hz2⟩ := info_parts infoA
  have hone : ∀ q : Int × Int, ∀ u ∈ [Value.int .i64 q.1, .int .i64 q.2], u.oneCell' = true := by
    intro q u hu; simp at hu; rcases hu with rfl | rfl <;> rfl
  clear h hs hc
  go_enter Try.func37, Try.ntmps37
  go_wp2_with fail
  refine HNM.out.mono ?_
  rintro e W1 ⟨v, ys, rfl, hown, hna, hyl, hf1⟩
  have k1 := (World.cell?_of_block (hf1.block rb hrl id)).trans c1
  have hrl1 : rb < W1.heap.size := Nat.lt_of_lt_of_le hrl hf1.size
  have HF1 := Lib.hid hf1
  have HNA := Lib.hid hna
  rw [hn] at hyl
  obtain ⟨m, hm⟩ : ∃ m, ys.length = m := ⟨_, rfl⟩
  have HM := Lib.hid hm
  rw [hm] at hown hyl
  obtain ⟨ao3, cp, rfl, hcp2, hcm2, hfm⟩ : ∃ (ao3 : Option Addr) (cp : Nat), v = .slice ao3 m cp ∧ m ≤ cp ∧ cp ≤ maxLen ∧ ((ao3 = none ∧ m = 0) ∨ ∃ go, ao3 = some ⟨go, 0, none⟩ ∧ ∀ (j : Nat) (y : Int), ys[j]? = some y → W1.cell? ⟨go, j, none⟩ = some (.int .i64 y)) := by
    have hcs := hown
    rcases hown.2 with ⟨h, h0⟩ | ⟨go, cp, cur, rfl, hb, hgb, hnc, hcm, _, _⟩
    · subst h0; exact ⟨none, 0, h, Nat.le_refl _, by decide, .inl ⟨rfl, rfl⟩⟩
    · refine ⟨_, cp, rfl, hnc, hcm, .inr ⟨go, rfl, fun j y hj => ?_⟩⟩
      rw [hcs.cellAt j (by have := (List.getElem?_eq_some_iff.1 hj).1; omega)]
      simp [zv, hj]
  have hrows : (ao = none ∧ n = 0) ∨ ∃ g, ao = some ⟨g, 0, none⟩ ∧ ∀ (j : Nat) (p : Int × Int), L[j]? = some p → W1.cell? ⟨g, j * 2, none⟩ = some (.int .i64 p.1) ∧ W1.cell? ⟨g, j * 2 + 1, none⟩ = some (.int .i64 p.2) := by
    rcases HC.out with ⟨h1, h2, _⟩ | ⟨g, h1, hg, hcell⟩
    · exact .inl ⟨h1, by rw [← hn, h2]; rfl⟩
    · refine .inr ⟨g, h1, fun j p hj => ?_⟩
      have d0 := hcell (j * 2) _ (flat_at hj).1
      have d1 := hcell (j * 2 + 1) _ (flat_at hj).2
      exact ⟨(World.cell?_of_block (hf1.block g (lt_of_cell d0) id)).trans d0, (World.cell?_of_block (hf1.block g (lt_of_cell d1) id)).trans d1⟩
  have HFM := Lib.hid hfm
  have HR := Lib.hid hrows
  have hWs : W.heap.size ≤ W1.heap.size := hf1.size
  have hmn : m * n ≤ 1000000 := Nat.le_trans (Nat.mul_le_mul hyl hL) (by omega)
  clear hown hna hm hfm hrows hf1 hn c1
  go_wp2
  go_loopw [3, 5] (fun ov kv wr => ∃ (j : Nat), j ≤ m ∧ kv = .int .i64 j ∧ wr.ownsRow W1.heap.size 66 2 ov (allOf L (ys.take j)).length (flat (allOf L (ys.take j))) ∧ (allOf L (ys.take j)).length ≤ j * n ∧ Fr (fun _ => False) W1 wr) (fun _ kv _ => m - (intOf kv).toNat)
  case atStart => exact ⟨0, by omega, rfl, World.ownsRow_nil _ _ _ _, by simp [allOf], Fr.refl _ _⟩
  case round =>
    obtain ⟨j, hj, rfl, hown, hlen, hfr⟩ := hrel
    by_cases hlt : j < m
    · have p0 : decide ((j : Int) < m) = true := decide_eq_true (by omega)
      have j0' : (j : Int) < (m : Int) := by omega
      obtain ⟨y, hy⟩ : ∃ y, ys[j]? = some y := ⟨_, List.getElem?_eq_getElem (by rw [HM.out]; exact hlt)⟩
      obtain ⟨M0, hM0⟩ : ∃ M, allOf L (ys.take j) = M := ⟨_, rfl⟩
      have HSU := Lib.hid (allOf_succ (L := L) hy)
      rw [hM0] at hown hlen HSU
      have HFR := Lib.hid hfr
      have HY := Lib.hid hy
      have hjn : j * n + n ≤ 1000000 := by
        have h1 : (j + 1) * n ≤ m * n := Nat.mul_le_mul_right n hlt
        rw [Nat.add_mul, Nat.one_mul] at h1
        omega
      have HLB : Hid (j * n + n = (j + 1) * n) := Lib.hid (by rw [Nat.add_mul, Nat.one_mul])
      obtain ⟨jn, hjn2⟩ : ∃ x, j * n = x := ⟨_, rfl⟩
      rw [hjn2] at hlen hjn HLB
      have OWN0 := Lib.hid hown
      clear hM0 hfr hy hjn2 hown
      go_wp2
      go_loopw [3, 6] (fun ov kv wr => ∃ (i : Nat), i ≤ n ∧ kv = .int .i64 i ∧ wr.ownsRow W1.heap.size 66 2 ov (M0 ++ ofL (L.take i) y).length (flat (M0 ++ ofL (L.take i) y)) ∧ Fr (fun _ => False) W1 wr) (fun _ kv _ => n - (intOf kv).toNat)
      case atStart => exact ⟨0, by omega, rfl, by simpa [ofL] using OWN0.out, HFR.out⟩
      case round =>
        obtain ⟨i, hi, rfl, hown, hfq⟩ := hrel
        have HFQ := Lib.hid hfq
        have c1q := (World.cell?_of_block (hfq.block rb hrl1 id)).trans k1
        by_cases hlt2 : i < n
        · have p2 : decide ((i : Int) < n) = true := decide_eq_true (by omega)
          have i0' : (i : Int) < (n : Int) := by omega
          obtain ⟨q, hq⟩ : ∃ q, L[i]? = some q := ⟨_, List.getElem?_eq_getElem (by rw [HN.out]; exact hlt2)⟩
          rcases HR.out with ⟨_, h⟩ | ⟨g, rfl, hcell⟩
          · omega
          rcases HFM.out with ⟨_, h⟩ | ⟨go, rfl, hoc⟩
          · omega
          have d0 := (hcell i q hq).1
          have d1 := (hcell i q hq).2
          have d2 := hoc j y HY.out
          have e0 := (World.cell?_of_block (hfq.block g (lt_of_cell d0) id)).trans d0
          have e1 := (World.cell?_of_block (hfq.block g (lt_of_cell d1) id)).trans d1
          have e2 := (World.cell?_of_block (hfq.block go (lt_of_cell d2) id)).trans d2
          have hsu := ofL_succ hq y
          have hol : (ofL (L.take i) y).length ≤ i := Nat.le_trans (ofL_len _ _) (by rw [List.length_take]; omega)
          obtain ⟨ms, hms⟩ : ∃ ms, M0 ++ ofL (L.take i) y = ms := ⟨_, rfl⟩
          have hml : ms.length ≤ jn + n := by rw [← hms, List.length_append]; omega
          have HS2 : Hid (M0 ++ ofL (L.take (i + 1)) y = ms ++ (if (q.1 == y) = true then [q] else [])) := Lib.hid (by rw [hsu, ← List.append_assoc, hms])
          rw [hms] at hown
          have OWN := Lib.hid hown
          have b1 : ms.length + 1 ≤ maxLen := by unfold maxLen; omega
          have b2 : (ms.length + 1) * 16 ≤ 140737488355328 := by omega
          have hszq : W1.heap.size ≤ wr.heap.size := hfq.size
          clear hcell hq hsu hms hown d0 d1 d2 hoc hfq
          by_cases hid : q.1 = y
          · have t1 : (q.1 == y) = true := by simp [hid]
            have T1 := Lib.hid t1
            have hown' : ∀ z, ((wr.drewN z).alloc (.cells #[.int .i64 q.1, .int .i64 q.2] 66)).ownsRow W1.heap.size 66 2 u3 ms.length (flat ms) := fun z => (show (wr.drewN z).ownsRow W1.heap.size 66 2 u3 ms.length (flat ms) from OWN.out).alloc _
            have hnews : ∀ (z j : Nat) (u : Value), [Value.int .i64 q.1, .int .i64 q.2][j]? = some u → ((wr.drewN z).alloc (.cells #[.int .i64 q.1, .int .i64 q.2] 66)).cell? ((⟨wr.heap.size, 0, none⟩ : Addr).add j) = some u := fun z j u hj => by
              rw [off_add, Nat.zero_add]
              show ((wr.drewN z).alloc _).cell? ⟨(wr.drewN z).heap.size, j, none⟩ = some u
              rw [World.cell?_alloc_mark]
              simpa using hj
            have HOWN := Lib.hid hown'
            have HNEWS := Lib.hid hnews
            have hsz : ∀ z, W1.heap.size ≤ ((wr.drewN z).alloc (.cells #[.int .i64 q.1, .int .i64 q.2] 66)).heap.size := fun z => by simp; omega
            have HSZ := Lib.hid hsz
            clear hown' hnews hsz hid
            go_wp2
            go_quiet (fail)
            go_wp2_with (first
              | (at_builtin
                 refine wpList_append_own_at _ rfl _ _ 62 rfl W1.heap.size 66 i0 _ 2 16 Try.underlying62 hi0 hz0 hz1 hz2 rfl (by decide) u3 ms.length (flat ms) rfl (HOWN.out _) ⟨wr.heap.size, 0, none⟩ 1 1 [.int .i64 q.1, .int .i64 q.2] rfl rfl (HNEWS.out _) (hone q) b1 b2 (HSZ.out _) ?_
                 intro v' W2 hown1 hgrow1 hnil1 hblk1
                 have HO1 := Lib.hid hown1
                 have HGG := Lib.hid hgrow1
                 clear hown1 hgrow1 hnil1 hblk1)
              | fail)
            go_roundw
            case rel =>
              refine ⟨i + 1, by omega, by go_num, ?_, ?_⟩
              · rw [HS2.out, if_pos T1.out, List.length_append, flat_append]
                exact HO1.out
              · have h1 := (HFQ.out.trans (Fr.drewN _ wr nq)).trans (Fr.alloc (fun _ => False) (wr.drewN nq) (.cells #[.int .i64 q.1, .int .i64 q.2] 66))
                have hg := HGG.out
                refine ⟨hg.os.trans h1.os, hg.tape.trans h1.tape, hg.output.trans h1.output, Nat.le_trans h1.size hg.size, fun k hk hn => (hg.block k (Nat.lt_of_lt_of_le hk h1.size) (fun e => ?_)).trans (h1.block k hk hn)⟩
                have := (OWN.out.lt k e.symm).1
                omega
            case measure => simp [intOf]; omega
          · have t1 : (q.1 == y) = false := by simp [hid]
            have T1 := Lib.hid t1
            clear hid
            go_wp2
            go_quiet (fail)
            go_wp2
            go_roundw
            case rel =>
              refine ⟨i + 1, by omega, by go_num, ?_, HFQ.out.trans (Fr.drewN _ _ _)⟩
              rw [HS2.out, if_neg (by rw [T1.out]; decide), List.append_nil]
              exact OWN.out
            case measure => simp [intOf]; omega
        · obtain rfl : i = n := by omega
          have p2 : decide ((i : Int) < i) = false := decide_eq_false (by omega)
          have ht : L.take i = L := List.take_of_length_le (by rw [HN.out]; exact Nat.le_refl _)
          rw [ht] at hown
          have hol := ofL_len L y
          rw [HN.out] at hol
          have hml : (M0 ++ ofL L y).length ≤ jn + i := by rw [List.length_append]; omega
          have OWN := Lib.hid hown
          clear hown ht hol hfq
          go_wp2
          go_roundw
          case rel => exact ⟨j + 1, by omega, by go_num, by rw [HSU.out]; exact OWN.out, by rw [HSU.out, ← HLB.out]; exact hml, HFQ.out⟩
          case measure => simp [intOf]; omega
    · obtain rfl : j = m := by omega
      have p0 : decide ((j : Int) < j) = false := decide_eq_false (by omega)
      have ht : ys.take j = ys := List.take_of_length_le (by rw [HM.out]; exact Nat.le_refl _)
      rw [ht] at hown hlen
      have OWN := Lib.hid hown
      have HFR := Lib.hid hfr
      have hl2 : (allOf L ys).length ≤ 1001000 := by omega
      clear hown ht hfr hlen
      go_wp2
      go_ret
      exact ⟨u3, ys, rfl, HNA.out, ownsG_base OWN.out hWs, hl2, HF1.out.trans HFR.out⟩
end Go.Proofs.Ytklfppjejndclaa.P2
