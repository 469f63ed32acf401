/- The walk of DrawsTwins. -/
import Derived.Test.YtjcnmlfkdfpjmaaG
import Derived.Deep.RegionHeld3
import Derived.Deep.MidRow
import Derived.Deep.Cut
set_option linter.unusedVariables false
set_option linter.unusedSimpArgs false
namespace Go.Proofs.Ytjcnmlfkdfpjmaa
open Go.RowKit Go.Maps
/-- a state behind some draws -/
def its (s : Int) : Nat → Int
  | 0 => s
  | k + 1 => up (its s k)
def seqU (s : Int) (a j : Nat) : List Value := (List.range j).map (fun m => .int .u64 (nx (its s (a + m))))
theorem seqU_len (s : Int) (a j : Nat) : (seqU s a j).length = j := by simp [seqU]
theorem seqU_succ (s : Int) (a j : Nat) : seqU s a (j + 1) = seqU s a j ++ [.int .u64 (nx (its s (a + j)))] := by simp [seqU, List.range_succ]
theorem seqU_at (s : Int) (a j m : Nat) (h : m < j) : (seqU s a j)[m]? = some (.int .u64 (nx (its s (a + m)))) := by simp [seqU, h]
theorem Fr.to_grown {A : Nat} {w w' : World} (h : Fr (fun k => k = A) w w') : w.grownBy w' (some A) := ⟨h.os, h.tape, h.output, h.size, fun k hk hne => h.block k hk (fun e => hne (by rw [e]))⟩
theorem Blk.kept' {W W' : World} {B : Nat} {t : TypeId} {cs : Array Value} {row : Option Nat} (h : Blk W B t cs) (hg : W.grownBy W' row) (hne : some B ≠ row) : Blk W' B t cs := (hg.block B h.lt hne).trans h
theorem infoU : (Try.prog.info? 22).map (fun i => (i.zero, i.size, i.bytes)) = some (some (.int .u64 0), 1, 8) := by kernel_rfl
set_option maxRecDepth 100000 in
set_option maxHeartbeats 2000000 in
theorem twins_law (s ah n : Int) (W : World) : Calls Try.prog 6 #[.int .u64 s, .int .i64 ah, .int .i64 n] W fun e W' => e = .returned (.bool true) ∧ Below W.heap.size W W' := by
  go_enter Try.func6, Try.ntmps6
  go_wp2_with fail
  refine (known_any _).mono ?_
  rintro e w1 ⟨rfl, b1⟩
  by_cases h1 : ah < 0
  · have p1 : decide (ah < 0) = true := decide_eq_true h1
    go_wp2
    go_ret
    exact ⟨rfl, b1⟩
  have p1 : decide (ah < 0) = false := decide_eq_false h1
  by_cases h2 : 500 < ah
  · have p2 : decide (500 < ah) = true := decide_eq_true h2
    go_wp2
    go_ret
    exact ⟨rfl, b1⟩
  have p2 : decide (500 < ah) = false := decide_eq_false h2
  by_cases h3 : n < 0
  · have p3 : decide (n < 0) = true := decide_eq_true h3
    go_wp2
    go_ret
    exact ⟨rfl, b1⟩
  have p3 : decide (n < 0) = false := decide_eq_false h3
  by_cases h4 : 200 < n
  · have p4 : decide (200 < n) = true := decide_eq_true h4
    go_wp2
    go_ret
    exact ⟨rfl, b1⟩
  have p4 : decide (200 < n) = false := decide_eq_false h4
  go_wp2_with fail
  refine (new_any _ _).mono ?_
  rintro e w2 ⟨rfl, s2, f2⟩
  have b2 := b1.trans (f2.below b1.size (fun k e => e.elim))
  have hs1 := b1.size
  clear f2 b1
  obtain ⟨a, rfl⟩ : ∃ a : Nat, ah = a := ⟨ah.toNat, by omega⟩
  obtain ⟨m, rfl⟩ : ∃ m : Nat, n = m := ⟨n.toNat, by omega⟩
  obtain ⟨A, hA⟩ : ∃ A, w1.heap.size = A := ⟨_, rfl⟩
  rw [hA] at hs1 s2 ⊢
  clear hA
  go_wp2
  go_loopw [8] (fun kv wr => ∃ k : Nat, k ≤ a ∧ kv = .int .i64 k ∧ Src wr A (its s k) k ∧ Below W.heap.size W wr) (fun kv _ => a - (intOf kv).toNat)
  case atStart => exact ⟨0, by omega, rfl, s2, b2⟩
  case round =>
    obtain ⟨k, hk, rfl, hS, hb⟩ := hrel
    clear s2 b2
    by_cases hlt : k < a
    · have p0 : decide ((k : Int) < a) = true := decide_eq_true (by omega)
      have HN := Lib.hid (next_any wr A _ _ hS (by omega) (by omega))
      clear hS
      go_wp2_with fail
      refine HN.out.mono ?_
      rintro e w3 ⟨rfl, hS3, hf3⟩
      have hb3 := hb.trans (hf3.below hb.size (fun k e => by omega))
      have HS3 := Lib.hid hS3
      clear hf3 hS3 HN hb
      go_wp2
      go_roundw
      case rel => exact ⟨k + 1, by omega, by go_num, HS3.out, hb3⟩
      case measure => simp [intOf]; omega
    · obtain rfl : k = a := by omega
      have p0 : decide ((k : Int) < k) = false := decide_eq_false (by omega)
      have HT := Lib.hid (twin_any wr A _ _ hS)
      have HS := Lib.hid hS
      clear hS
      go_wp2_with fail
      refine HT.out.mono ?_
      rintro e w4 ⟨rfl, hT4, hf4⟩
      have hS4 : Src w4 A (its s k) k := Blk.fr HS.out hf4 id
      have hb4 := hb.trans (hf4.below hb.size (fun k e => e.elim))
      have hAl := HS.out.lt
      obtain ⟨B, hB⟩ : ∃ B, wr.heap.size = B := ⟨_, rfl⟩
      have hBW : W.heap.size ≤ B := by rw [← hB]; exact hb.size
      rw [hB] at hAl hT4 ⊢
      have hBl : B < w4.heap.size := hT4.lt
      have HC1 := Lib.hid (count_any w4 A _ _ hS4)
      have HC2 := Lib.hid (count_any w4 B _ _ hT4)
      have HS4 := Lib.hid hS4
      have HT4 := Lib.hid hT4
      clear hB hf4 hS4 hT4 HT HS hb
      go_wp2_with fail
      refine HC2.out.mono ?_
      rintro e w' ⟨rfl, rfl⟩
      go_wp2_with fail
      refine HC1.out.mono ?_
      rintro e w' ⟨rfl, rfl⟩
      obtain ⟨i0, hi, hz0, hz1, hz2⟩ := info_parts infoU
      clear HC1 HC2
      go_wp2
      obtain ⟨Z, hZ⟩ : ∃ Z, w4.heap.size = Z := ⟨_, rfl⟩
      have HZ := Lib.hid hZ
      rw [hZ] at hBl
      clear hZ
      go_loopw [10, 11] (fun lv kv wr => ∃ j : Nat, j ≤ m ∧ kv = .int .i64 j ∧ Src wr A (its s (k + j)) ((k + j : Nat) : Int) ∧ wr.ownsRow Z 22 1 lv j (seqU s k j) ∧ Fr (fun b => b = A) w4 wr) (fun _ kv _ => m - (intOf kv).toNat)
      case atStart => exact ⟨0, by omega, rfl, HS4.out, World.ownsRow_nil _ _ _ _, Fr.refl _ _⟩
      case round =>
        obtain ⟨j, hj, rfl, hS, hown, hf⟩ := hrel
        by_cases hlt2 : j < m
        · have p5 : decide ((j : Int) < m) = true := decide_eq_true (by omega)
          have HN := Lib.hid (next_any wr A _ _ hS (by omega) (by omega))
          obtain ⟨v, hv⟩ : ∃ v, nx (its s (k + j)) = v := ⟨_, rfl⟩
          have hsq := seqU_succ s k j
          rw [hv] at HN hsq
          have HSQ := Lib.hid hsq
          have HOW := Lib.hid hown
          have hsz0 := hf.size
          rw [HZ.out] at hsz0
          have hob := hown.lt
          clear hS hv hsq hown
          go_wp2_with fail
          refine HN.out.mono ?_
          rintro e w5 ⟨rfl, hS5, hf5⟩
          have hne : u10.ownBlock = none ∨ u10.ownBlock ≠ some A := by
            cases h : u10.ownBlock with
            | none => exact .inl rfl
            | some g => exact .inr (fun e => by have := (hob g h).1; have := Option.some.inj e; omega)
          have hown5 := (HOW.out.kept hf5.to_grown hne).alloc (.cells #[.int .u64 v] 22)
          have hnews : ∀ (q : Nat) (u : Value), [Value.int .u64 v][q]? = some u → (w5.alloc (.cells #[.int .u64 v] 22)).cell? ((⟨w5.heap.size, 0, none⟩ : Addr).add q) = some u := fun q u hq => by
            rw [off_add, Nat.zero_add, World.cell?_alloc_mark]
            simpa using hq
          have hone : ∀ u ∈ [Value.int .u64 v], u.oneCell' = true := by simp; rfl
          have c1 : j + 1 ≤ maxLen := by unfold maxLen; omega
          have c2 : (j + 1) * 8 ≤ 140737488355328 := by omega
          have hsz : Z ≤ (w5.alloc (.cells #[.int .u64 v] 22)).heap.size := by have := hf5.size; simp; omega
          have HS5 := Lib.hid hS5
          have HO5 := Lib.hid hown5
          have HNW := Lib.hid hnews
          have HF5 := Lib.hid ((hf.trans hf5).trans (Fr.alloc _ w5 (.cells #[.int .u64 v] 22)))
          have hA5 := hS5.lt
          clear hS5 hown5 hnews hf5 hf hsz0 HN
          go_wp2_with (at_builtin; refine wpList_append_own _ rfl _ _ _ rfl Z 22 i0 (.int .u64 0) 1 8 Try.underlying48 hi hz0 hz1 hz2 rfl Nat.zero_lt_one u10 j (seqU s k j) rfl HO5.out ⟨w5.heap.size, 0, none⟩ 1 1 [.int .u64 v] rfl rfl HNW.out hone c1 c2 hsz ?_; intro v' W1 hown1 hgrow1 hnil1; have HO1 := Lib.hid hown1; have HG1 := Lib.hid hgrow1; clear hown1 hgrow1 hnil1)
          go_roundw
          case rel =>
            have hfg : Fr (fun b => b = A) w4 W1 := by
              refine ⟨HG1.out.os.trans HF5.out.os, HG1.out.tape.trans HF5.out.tape, HG1.out.output.trans HF5.out.output, Nat.le_trans HF5.out.size HG1.out.size, fun b hb hnA => ?_⟩
              refine (HG1.out.block b (Nat.lt_of_lt_of_le hb HF5.out.size) (fun e => ?_)).trans (HF5.out.block b hb hnA)
              have := (hob b e.symm).1
              have := HZ.out
              omega
            refine ⟨j + 1, by omega, by go_num, ?_, by rw [HSQ.out]; exact HO1.out, hfg⟩
            refine ((HS5.out.alloc _).kept' HG1.out (fun e => ?_))
            have := (hob A e.symm).1
            omega
          case measure => simp [intOf]; omega
        · obtain rfl : j = m := by omega
          have p5 : decide ((j : Int) < j) = false := decide_eq_false (by omega)
          obtain ⟨ao, cp, rfl, hrow⟩ : ∃ ao cp, u10 = .slice ao j cp ∧ (j = 0 ∨ ∃ g, ao = some ⟨g, 0, none⟩ ∧ Z ≤ g ∧ ∀ q, q < j → wr.cell? ⟨g, q, none⟩ = some (.int .u64 (nx (its s (k + q))))) := by
            have hcs := hown
            rcases hown.2 with ⟨rfl, h0⟩ | ⟨g, cp, cur, rfl, hb', hgb, hnc, hcm, _, _⟩
            · exact ⟨none, 0, by rw [h0], .inl h0⟩
            · exact ⟨some ⟨g, 0, none⟩, cp, rfl, .inr ⟨g, rfl, hb', fun q hq => by
                rw [hcs.cellAt q (by omega)]
                exact seqU_at s k j q hq⟩⟩
          have HN := Lib.hid (next_any wr A _ _ hS (by omega) (by omega))
          have hTr := Lib.hid (HT4.out.fr hf (fun e => by omega))
          have hbr := hb4.trans (hf.below hb4.size (fun k e => by omega))
          clear hown hS hf hb4 HS4 HT4
          go_wp2_with fail
          refine HN.out.mono ?_
          rintro e w6 ⟨rfl, hS6, hf6⟩
          have hT6 : Src w6 B (its s k) k := hTr.out.fr hf6 (fun e => by omega)
          have hrow6 : j = 0 ∨ ∃ g, ao = some ⟨g, 0, none⟩ ∧ Z ≤ g ∧ ∀ q, q < j → w6.cell? ⟨g, q, none⟩ = some (.int .u64 (nx (its s (k + q)))) := by
            rcases hrow with h | ⟨g, h1, h2, h3⟩
            · exact .inl h
            · exact .inr ⟨g, h1, h2, fun q hq => (World.cell?_of_block (hf6.block g (lt_of_cell (h3 q hq)) (fun e => by omega))).trans (h3 q hq)⟩
          have hb6 := hbr.trans (hf6.below hbr.size (fun k e => by omega))
          have HR6 := Lib.hid hrow6
          have HS6 := Lib.hid hS6
          clear hrow hrow6 hbr HN hTr hS6 hf6
          go_wp2
          go_loopw [12] (fun kv wr => ∃ q : Nat, q ≤ j ∧ kv = .int .i64 q ∧ Src wr B (its s (k + q)) ((k + q : Nat) : Int) ∧ Fr (fun b => b = B) w6 wr) (fun kv _ => j - (intOf kv).toNat)
          case atStart => exact ⟨0, by omega, rfl, hT6, Fr.refl _ _⟩
          case round =>
            obtain ⟨q, hq, rfl, hT, hf7⟩ := hrel
            clear hT6
            by_cases hlt3 : q < j
            · have p6 : decide ((q : Int) < j) = true := decide_eq_true (by omega)
              rcases HR6.out with h0 | ⟨g, rfl, hg, hcl⟩
              · omega
              have hcq : wr.cell? ⟨g, q, none⟩ = some (.int .u64 (nx (its s (k + q)))) := (World.cell?_of_block (hf7.block g (lt_of_cell (hcl q hlt3)) (fun e => by omega))).trans (hcl q hlt3)
              have HN := Lib.hid (next_any wr.drew B (its s (k + q)) ((k + q : Nat) : Int) hT (by omega) (by omega))
              obtain ⟨v, hv⟩ : ∃ v, nx (its s (k + q)) = v := ⟨_, rfl⟩
              rw [hv] at hcq HN
              have hgB : g ≠ B := by omega
              have i1 : (q : Int) < (j : Int) := by omega
              have HF7 := Lib.hid hf7
              clear hT hv hcl hf7
              go_upto_region 24 with (fail)
              refine wp_region_held_drew (S := fun (w' : World) => w'.cell? ⟨g, q, none⟩ = some (.int .u64 v)) (by kernel_rfl) hcq (fun hHeld => ?_)
              refine wpAnyH_take (i := 0) (oi := _) (v := ?v0) rfl (by kernel_rfl) (by kernel_rfl) (by kernel_rfl) (fun _ _ _ h => h) (Or.inl ⟨by rfl, ?y0⟩) (by assumption) ?r0
              case y0 => intro w1 hSw; go_simp; try with_reducible rfl
              try simp only [List.getElem_toArray, List.getElem_cons_zero, List.getElem_cons_succ, Act.put, List.setIfInBounds_toArray, List.set_cons_zero, List.set_cons_succ]
              refine wpAnyH_take (i := 2) (oi := _) (v := ?v2) rfl (by kernel_rfl) (by kernel_rfl) (by kernel_rfl) (fun _ _ _ h => h) (Or.inl ⟨by rfl, ?y2⟩) (by assumption) ?r2
              case y2 => intro w1 hSw; go_simp; try with_reducible rfl
              try simp only [List.getElem_toArray, List.getElem_cons_zero, List.getElem_cons_succ, Act.put, List.setIfInBounds_toArray, List.set_cons_zero, List.set_cons_succ]
              refine wpAnyH_take (i := 3) (oi := _) (v := ?v3) rfl (by kernel_rfl) (by kernel_rfl) (by kernel_rfl) (fun _ _ _ h => h) (Or.inl ⟨by rfl, ?y3⟩) (by assumption) ?r3
              case y3 => intro w1 hSw; go_simp; try with_reducible rfl
              try simp only [List.getElem_toArray, List.getElem_cons_zero, List.getElem_cons_succ, Act.put, List.setIfInBounds_toArray, List.set_cons_zero, List.set_cons_succ]
              refine wpAnyH_take (i := 4) (oi := _) (v := ?v4) rfl (by kernel_rfl) (by kernel_rfl) (by kernel_rfl) (fun _ _ _ h => h) (Or.inl ⟨by rfl, ?y4⟩) (by assumption) ?r4
              case y4 => intro w1 hSw; go_simp; try with_reducible rfl
              try simp only [List.getElem_toArray, List.getElem_cons_zero, List.getElem_cons_succ, Act.put, List.setIfInBounds_toArray, List.set_cons_zero, List.set_cons_succ]
              refine wpAnyH_take (i := 5) (oi := _) (v := ?v5) rfl (by kernel_rfl) (by kernel_rfl) (by kernel_rfl) (fun _ _ _ h => h) (Or.inl ⟨by rfl, ?y5⟩) (by assumption) ?r5
              case y5 => intro w1 hSw; go_simp; try with_reducible rfl
              try simp only [List.getElem_toArray, List.getElem_cons_zero, List.getElem_cons_succ, Act.put, List.setIfInBounds_toArray, List.set_cons_zero, List.set_cons_succ]
              refine wpAnyH_ready (rs := [1]) (by kernel_rfl) (by simp) ?_
              refine AllReadyH.cons (o := _) rfl (fun K hK => ?_) AllReadyH.nil
              rw [if_pos (by rfl)]
              try simp only [List.getElem_toArray, List.getElem_cons_zero, List.getElem_cons_succ]
              go_simp
              refine HN.out.mono ?_
              rintro e w8 ⟨rfl, hT8, hf8⟩
              have hc8 : w8.cell? ⟨g, q, none⟩ = some (.int .u64 v) := (World.cell?_of_block (hf8.block g (lt_of_cell (W := wr.drew) hcq) hgB)).trans hcq
              refine hK.out _ _ hc8 (fun hHeld2 => ?_)
              clear hK K
              try simp only [List.getElem_toArray, List.getElem_cons_zero, List.getElem_cons_succ, Act.put, List.setIfInBounds_toArray, List.set_cons_zero, List.set_cons_succ]
              refine wpAnyH_take (i := 6) (oi := _) (v := ?v6) rfl (by kernel_rfl) (by kernel_rfl) (by kernel_rfl) (fun _ _ _ h => h) (Or.inl ⟨by rfl, ?y6⟩) (by assumption) ?r6
              case y6 => intro w1 hSw; go_simp; try with_reducible rfl
              try simp only [List.getElem_toArray, List.getElem_cons_zero, List.getElem_cons_succ, Act.put, List.setIfInBounds_toArray, List.set_cons_zero, List.set_cons_succ]
              refine wpAnyH_done (by kernel_rfl) ?_ _
              have HT8 := Lib.hid hT8
              have HF8 := Lib.hid ((HF7.out.trans (Fr.drewN _ wr 1)).trans hf8)
              clear hT8 hf8 HF7 HN hHeld2 hHeld hcq hc8
              go_wp2
              go_roundw
              case rel => exact ⟨q + 1, by omega, by go_num, HT8.out, HF8.out⟩
              case measure => simp [intOf]; omega
            · obtain rfl : q = j := by omega
              have p6 : decide ((q : Int) < q) = false := decide_eq_false (by omega)
              have hA7 : Src wr A (its s (k + q + 1)) ((k + q : Nat) + 1 : Int) := HS6.out.fr hf7 (fun e => by omega)
              have HC1 := Lib.hid (count_any wr A _ _ hA7)
              have HC2 := Lib.hid (count_any wr B _ _ hT)
              have HB := Lib.hid (hb6.trans (hf7.below hb6.size (fun k e => by omega)))
              have e1 : (((k + q : Nat) : Int) + 1 == (k : Int) + q + 1) = true := by rw [beq_iff_eq]; omega
              have e2 : (((k + q : Nat) : Int) == (k : Int) + q) = true := by rw [beq_iff_eq]; omega
              clear hA7 hT hf7 hb6 HS6
              go_wp2_with fail
              refine HC1.out.mono ?_
              rintro e w' ⟨rfl, rfl⟩
              go_wp2_with fail
              refine HC2.out.mono ?_
              rintro e w' ⟨rfl, rfl⟩
              go_wp2
              go_ret
              exact ⟨rfl, HB.out⟩
end Go.Proofs.Ytjcnmlfkdfpjmaa
