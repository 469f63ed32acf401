/- The walk of DedupOnce. -/
import Derived.Test.YtkodkimfoihbhaaG
set_option linter.unusedVariables false
set_option linter.unusedSimpArgs false
namespace Go.Proofs.Ytkodkimfoihbhaa
open Go.RowKit Go.Maps
variable {sb lb tb : Nat} {win : Int} {c N : Nat} {G : Int × Int → Option (List Value)} {T : Int → Int}
theorem top_rises (win : Int) (G : Int × Int → Option (List Value)) (T : Int → Int) (x y z : Int) : T z ≤ Tput win G T x y z := by
  unfold Tput
  split
  · split
    · unfold updT
      split
      · rename_i h1 h2 h3; subst h3; omega
      · omega
    · omega
  · omega
theorem put_stays {x y cl sq : Int} {r r0 : List Value} (hG : G (cl, sq) = some r0) (hin : Tput win G T x y cl - win < sq) : Gput win G T x y r (cl, sq) = some r0 := by
  unfold Gput
  by_cases hc : code win G T x y = 0
  · rw [if_pos hc]
    have hne : ¬ (cl, sq) = (x, y) := fun e => by
      rw [e] at hG
      unfold code at hc
      rw [hG] at hc
      by_cases h1 : Bad x y
      · rw [if_pos h1] at hc; cases hc
      · rw [if_neg h1] at hc
        by_cases h2 : y ≤ T x - win
        · rw [if_pos h2] at hc; cases hc
        · rw [if_neg h2] at hc
          simp at hc
    have hu : updG G (x, y) (some r) (cl, sq) = some r0 := by unfold updG; rw [if_neg hne]; exact hG
    by_cases ht : T x < y
    · rw [if_pos ht]
      unfold del
      rw [if_neg]
      · exact hu
      · rintro ⟨h1, h2, h3⟩
        dsimp only at h1 h2 h3
        subst h1
        unfold Tput at hin
        rw [if_pos hc, if_pos ht] at hin
        unfold updT at hin
        rw [if_pos rfl] at hin
        unfold numOf at h3
        split at h3 <;> omega
    · rw [if_neg ht]; exact hu
  · rw [if_neg hc]; exact hG
theorem put_fresh {win cl sq : Int} (r : List Value) (hw : 1 ≤ win) (h1 : 0 ≤ cl) (h2 : cl ≤ 100) (h3 : 1 ≤ sq) (h4 : sq ≤ 1000) :
    code win kg0 kt0 cl sq = 0 ∧ Tput win kg0 kt0 cl sq cl = sq ∧ Gput win kg0 kt0 cl sq r (cl, sq) = some r := by
  have hb : ¬ Bad cl sq := by unfold Bad; omega
  have hc : code win kg0 kt0 cl sq = 0 := by
    unfold code
    rw [if_neg hb, if_neg (by unfold kt0; omega)]
    rfl
  have ht : kt0 cl < sq := by unfold kt0; omega
  refine ⟨hc, ?_, ?_⟩
  · unfold Tput
    rw [if_pos hc, if_pos ht]
    unfold updT
    rw [if_pos rfl]
  · unfold Gput
    rw [if_pos hc, if_pos ht]
    unfold del
    rw [if_neg]
    · unfold updG; rw [if_pos rfl]
    · rintro ⟨_, h5, h6⟩
      dsimp only at h5 h6
      unfold numOf at h6
      split at h6 <;> omega
def first : List Value := [.int .u8 102, .int .u8 105, .int .u8 114, .int .u8 115, .int .u8 116]
set_option maxRecDepth 100000 in
set_option maxHeartbeats 4000000 in
theorem once_law (w : World) (wi : Int) (hwi : (Lit.int .i64 wi).wf = true) (a : Option Addr) (n cap : Nat) (p : Play) (hA : Acts w w.heap.size a n p) (hP : PlayOk n p) (hn : n ≤ 9223372036854775807)
    (cl : Int) (hcw : (Lit.int .i64 cl).wf = true) (sq : Int) (hsw : (Lit.int .i64 sq).wf = true) :
    Calls Try.prog 3 #[.int .i64 wi, .slice a n cap, .int .i64 cl, .int .i64 sq] w fun e W' => e = .returned (.bool true) ∧ Below w.heap.size w W' := by
  have kf := fun W : World => Lib.run_convert_bytes_const (P := Try.prog) W 30 5 #[.int .u8 102, .int .u8 105, .int .u8 114, .int .u8 115, .int .u8 116] 5 5 Try.underlying30 under5
  go_enter Try.func3, Try.ntmps3
  go_wp2_with fail
  refine (known_any _).mono ?_
  rintro e w1 ⟨rfl, b1⟩
  have hs1 := b1.size
  have hA1 : Acts w1 w.heap.size a n p := hA.fr ⟨b1.os, b1.tape, b1.output, b1.size, fun k hk hn => b1.block k (by unfold From at hn; omega)⟩
  have HA1 := Lib.hid hA1
  clear hA hA1
  have HP := Lib.hid hP
  clear hP
  go_wp2_with fail
  refine (few_any w1 w.heap.size a n cap p HA1.out HP.out hn).mono ?_
  rintro e w2 ⟨q, rfl, rfl, hq⟩
  cases q with
  | false =>
    go_wp2
    go_ret
    exact ⟨rfl, b1⟩
  | true =>
  obtain ⟨hn200, htot⟩ := hq rfl
  clear hq
  by_cases h1 : wi < 1
  · have p1 : decide (wi < 1) = true := decide_eq_true h1
    go_wp2
    go_ret
    exact ⟨rfl, b1⟩
  have p1 : decide (wi < 1) = false := decide_eq_false h1
  by_cases h2 : 4096 < wi
  · have p2 : decide (4096 < wi) = true := decide_eq_true h2
    go_wp2
    go_ret
    exact ⟨rfl, b1⟩
  have p2 : decide (4096 < wi) = false := decide_eq_false h2
  by_cases h3 : cl < 0
  · have p3 : decide (cl < 0) = true := decide_eq_true h3
    go_wp2
    go_ret
    exact ⟨rfl, b1⟩
  have p3 : decide (cl < 0) = false := decide_eq_false h3
  by_cases h4 : 100 < cl
  · have p4 : decide (100 < cl) = true := decide_eq_true h4
    go_wp2
    go_ret
    exact ⟨rfl, b1⟩
  have p4 : decide (100 < cl) = false := decide_eq_false h4
  by_cases h5 : sq < 1
  · have p5 : decide (sq < 1) = true := decide_eq_true h5
    go_wp2
    go_ret
    exact ⟨rfl, b1⟩
  have p5 : decide (sq < 1) = false := decide_eq_false h5
  by_cases h6 : 1000 < sq
  · have p6 : decide (1000 < sq) = true := decide_eq_true h6
    go_wp2
    go_ret
    exact ⟨rfl, b1⟩
  have p6 : decide (1000 < sq) = false := decide_eq_false h6
  have hq := put_fresh (win := wi) first (by omega) (cl := cl) (by omega) (by omega) (sq := sq) (by omega) (by omega)
  obtain ⟨q1, q2, q3⟩ := hq
  have Q2 := Lib.hid q2
  have Q3 := Lib.hid q3
  have Q1 := Lib.hid q1
  clear q1 q2 q3
  go_wp2_with fail
  refine (new_yes _ wi (by omega) (by omega)).mono ?_
  rintro e w3 ⟨rfl, hB3, hf3⟩
  have hs3 := hf3.size
  have hlt := hB3.s.lt
  have HB3 : Hid (TB w3 (w1.heap.size + 2) w1.heap.size (w1.heap.size + 1) wi 0 0 kg0 kt0) := Lib.hid hB3
  have hF1 : Fr (From w.heap.size) w w1 := ⟨b1.os, b1.tape, b1.output, b1.size, fun k hk hn => b1.block k (by unfold From at hn; omega)⟩
  have HF3 := Lib.hid (hf3.mono (S' := From w.heap.size) fun _ e => e.elim)
  have HF1 := Lib.hid (hF1.trans HF3.out)
  have htwo : ∀ k, Two w1.heap.size (w1.heap.size + 1) k → From w.heap.size k := fun k hk => by unfold From; rcases hk with rfl | rfl <;> omega
  have HT := Lib.hid htwo
  have htri : ∀ k, Tri (w1.heap.size + 2) w1.heap.size (w1.heap.size + 1) k → From w.heap.size k := fun k hk => by unfold From; rcases hk with rfl | rfl | rfl <;> omega
  have HTR := Lib.hid htri
  have HA3 := Lib.hid (HA1.out.fr HF3.out)
  clear hB3 hf3 hF1 htwo htri b1
  obtain ⟨lb, hlb⟩ : ∃ lb, lb = w1.heap.size := ⟨_, rfl⟩
  rw [← hlb] at HB3 HT HTR hlt ⊢
  have HLB := Lib.hid hlb
  clear hlb hs3 HA1 HF3
  go_wp2_with fail
  have hrow := lit_row (S := Tri (lb + 2) lb (lb + 1)) w3 #[.int .u8 102, .int .u8 105, .int .u8 114, .int .u8 115, .int .u8 116] 5 rfl (by decide) (5, 6) (tri_lt HB3.out)
  have hfa := Fr.alloc (fun _ => False) w3 (.cells #[.int .u8 102, .int .u8 105, .int .u8 114, .int .u8 115, .int .u8 116] 5 (5, 6))
  have hBa := HB3.out.fr hfa
  refine (put_any _ hBa (by omega) (by omega) cl sq _ first hrow ⟨by decide, bs_one [102, 105, 114, 115, 116]⟩).mono ?_
  rintro e w4 ⟨rfl, hB4, hf4⟩
  have hFa := (hfa.mono (S' := From w.heap.size) fun _ e => e.elim).trans (hf4.mono HT.out)
  have HB4 := Lib.hid hB4
  have HF4 := Lib.hid (HF1.out.trans hFa)
  have HA4 := Lib.hid (HA3.out.fr hFa)
  rw [Q1.out]
  clear hB4 hFa hf4 hBa hfa hrow kf HA3 HF1 HB3
  go_wp2
  go_loopw [11, 12] (fun gv iv wr => ∃ (i : Nat) (g : Bool) (c N : Nat) (G : Int × Int → Option (List Value)) (T : Int → Int), i ≤ n ∧ iv = .int .i64 i ∧ gv = .bool g ∧ c ≤ i + 1 ∧ N ≤ i + 1 ∧ TB wr (lb + 2) lb (lb + 1) wi c N G T ∧ (g = true → sq ≤ T cl - wi) ∧ (T cl - wi < sq → G (cl, sq) = some first) ∧ Fr (From w.heap.size) w4 wr) (fun _ iv _ => n - (intOf iv).toNat)
  case atStart => exact ⟨0, false, _, _, _, _, Nat.zero_le _, rfl, rfl, Cput_le _ _ _ _ _ _ _, Nat.le_refl _, HB4.out, fun h => (by cases h), fun _ => Q3.out, Fr.refl _ _⟩
  case round =>
    obtain ⟨i, g, c, N, G, T, hi, rfl, rfl, hc, hN, hB, hg, hin, hf⟩ := hrel
    by_cases hlt : i < n
    · have p0 : decide ((i : Int) < n) = true := decide_eq_true (by omega)
      have hsz := HP.out.sz i hlt
      have htl := total_le p n i hlt
      have hbl : (p.by_ i).length ≤ 8192 := by omega
      have hA5 := HA4.out.fr hf
      rcases hA5 with h0 | ⟨B, o, rfl, hb, hcs⟩
      · omega
      obtain ⟨c0, c1, c2, c3, hr⟩ := hcs i hlt
      clear hcs
      have HBB := Lib.hid hB
      have HR := Lib.hid hr
      have HG := Lib.hid hg
      have HIN := Lib.hid hin
      have HFF := Lib.hid hf
      clear hB hr hg hin hf
      go_upto_region 12 with (fail)
      refine wp_region_held_drew (S := fun (w' : World) => w'.cell? ⟨B, o + i * 4 + 1, none⟩ = some (.int .i64 (p.cl i)) ∧ w'.cell? ⟨B, o + i * 4 + 2, none⟩ = some (.int .i64 (p.sq i)) ∧ w'.cell? ⟨B, o + i * 4 + 3, none⟩ = some (p.an i)) (by kernel_rfl) ⟨c1, c2, c3⟩ (fun hHeld => ?_)
      refine wpAnyH_take (i := 0) (oi := _) (v := ?v0) rfl (by kernel_rfl) (by kernel_rfl) (by kernel_rfl) (fun _ _ _ h => h) (Or.inl ⟨by rfl, ?y0⟩) (by assumption) ?r0
      case y0 => intro w1 hSw; obtain ⟨s1, s2, s3⟩ := hSw; go_simp; try with_reducible rfl
      try simp only [List.getElem_toArray, List.getElem_cons_zero, List.getElem_cons_succ, Act.put, List.setIfInBounds_toArray, List.set_cons_zero, List.set_cons_succ]
      refine wpAnyH_take (i := 1) (oi := _) (v := ?v1) rfl (by kernel_rfl) (by kernel_rfl) (by kernel_rfl) (fun _ _ _ h => h) (Or.inl ⟨by rfl, ?y1⟩) (by assumption) ?r1
      case y1 => intro w1 hSw; obtain ⟨s1, s2, s3⟩ := hSw; go_simp; try with_reducible rfl
      try simp only [List.getElem_toArray, List.getElem_cons_zero, List.getElem_cons_succ, Act.put, List.setIfInBounds_toArray, List.set_cons_zero, List.set_cons_succ]
      refine wpAnyH_take (i := 2) (oi := _) (v := ?v2) rfl (by kernel_rfl) (by kernel_rfl) (by kernel_rfl) (fun _ _ _ h => h) (Or.inl ⟨by rfl, ?y2⟩) (by assumption) ?r2
      case y2 => intro w1 hSw; obtain ⟨s1, s2, s3⟩ := hSw; go_simp; try with_reducible rfl
      try simp only [List.getElem_toArray, List.getElem_cons_zero, List.getElem_cons_succ, Act.put, List.setIfInBounds_toArray, List.set_cons_zero, List.set_cons_succ]
      refine wpAnyH_take (i := 3) (oi := _) (v := ?v3) rfl (by kernel_rfl) (by kernel_rfl) (by kernel_rfl) (fun _ _ _ h => h) (Or.inl ⟨by rfl, ?y3⟩) (by assumption) ?r3
      case y3 => intro w1 hSw; obtain ⟨s1, s2, s3⟩ := hSw; go_simp; try with_reducible rfl
      try simp only [List.getElem_toArray, List.getElem_cons_zero, List.getElem_cons_succ, Act.put, List.setIfInBounds_toArray, List.set_cons_zero, List.set_cons_succ]
      refine wpAnyH_take (i := 4) (oi := _) (v := ?v4) rfl (by kernel_rfl) (by kernel_rfl) (by kernel_rfl) (fun _ _ _ h => h) (Or.inl ⟨by rfl, ?y4⟩) (by assumption) ?r4
      case y4 => intro w1 hSw; obtain ⟨s1, s2, s3⟩ := hSw; go_simp; try with_reducible rfl
      try simp only [List.getElem_toArray, List.getElem_cons_zero, List.getElem_cons_succ, Act.put, List.setIfInBounds_toArray, List.set_cons_zero, List.set_cons_succ]
      refine wpAnyH_take (i := 5) (oi := _) (v := ?v5) rfl (by kernel_rfl) (by kernel_rfl) (by kernel_rfl) (fun _ _ _ h => h) (Or.inl ⟨by rfl, ?y5⟩) (by assumption) ?r5
      case y5 => intro w1 hSw; obtain ⟨s1, s2, s3⟩ := hSw; go_simp; try with_reducible rfl
      try simp only [List.getElem_toArray, List.getElem_cons_zero, List.getElem_cons_succ, Act.put, List.setIfInBounds_toArray, List.set_cons_zero, List.set_cons_succ]
      refine wpAnyH_take (i := 6) (oi := _) (v := ?v6) rfl (by kernel_rfl) (by kernel_rfl) (by kernel_rfl) (fun _ _ _ h => h) (Or.inl ⟨by rfl, ?y6⟩) (by assumption) ?r6
      case y6 => intro w1 hSw; obtain ⟨s1, s2, s3⟩ := hSw; go_simp; try with_reducible rfl
      try simp only [List.getElem_toArray, List.getElem_cons_zero, List.getElem_cons_succ, Act.put, List.setIfInBounds_toArray, List.set_cons_zero, List.set_cons_succ]
      refine wpAnyH_take (i := 7) (oi := _) (v := ?v7) rfl (by kernel_rfl) (by kernel_rfl) (by kernel_rfl) (fun _ _ _ h => h) (Or.inl ⟨by rfl, ?y7⟩) (by assumption) ?r7
      case y7 => intro w1 hSw; obtain ⟨s1, s2, s3⟩ := hSw; go_simp; try with_reducible rfl
      try simp only [List.getElem_toArray, List.getElem_cons_zero, List.getElem_cons_succ, Act.put, List.setIfInBounds_toArray, List.set_cons_zero, List.set_cons_succ]
      refine wpAnyH_take (i := 8) (oi := _) (v := ?v8) rfl (by kernel_rfl) (by kernel_rfl) (by kernel_rfl) (fun _ _ _ h => h) (Or.inl ⟨by rfl, ?y8⟩) (by assumption) ?r8
      case y8 => intro w1 hSw; obtain ⟨s1, s2, s3⟩ := hSw; go_simp; try with_reducible rfl
      try simp only [List.getElem_toArray, List.getElem_cons_zero, List.getElem_cons_succ, Act.put, List.setIfInBounds_toArray, List.set_cons_zero, List.set_cons_succ]
      refine wpAnyH_take (i := 9) (oi := _) (v := ?v9) rfl (by kernel_rfl) (by kernel_rfl) (by kernel_rfl) (fun _ _ _ h => h) (Or.inl ⟨by rfl, ?y9⟩) (by assumption) ?r9
      case y9 => intro w1 hSw; obtain ⟨s1, s2, s3⟩ := hSw; go_simp; try with_reducible rfl
      try simp only [List.getElem_toArray, List.getElem_cons_zero, List.getElem_cons_succ, Act.put, List.setIfInBounds_toArray, List.set_cons_zero, List.set_cons_succ]
      refine wpAnyH_take (i := 10) (oi := _) (v := ?v10) rfl (by kernel_rfl) (by kernel_rfl) (by kernel_rfl) (fun _ _ _ h => h) (Or.inl ⟨by rfl, ?y10⟩) (by assumption) ?r10
      case y10 => intro w1 hSw; obtain ⟨s1, s2, s3⟩ := hSw; go_simp; try with_reducible rfl
      try simp only [List.getElem_toArray, List.getElem_cons_zero, List.getElem_cons_succ, Act.put, List.setIfInBounds_toArray, List.set_cons_zero, List.set_cons_succ]
      refine wpAnyH_take (i := 11) (oi := _) (v := ?v11) rfl (by kernel_rfl) (by kernel_rfl) (by kernel_rfl) (fun _ _ _ h => h) (Or.inl ⟨by rfl, ?y11⟩) (by assumption) ?r11
      case y11 => intro w1 hSw; obtain ⟨s1, s2, s3⟩ := hSw; go_simp; try with_reducible rfl
      try simp only [List.getElem_toArray, List.getElem_cons_zero, List.getElem_cons_succ, Act.put, List.setIfInBounds_toArray, List.set_cons_zero, List.set_cons_succ]
      refine wpAnyH_take (i := 12) (oi := _) (v := ?v12) rfl (by kernel_rfl) (by kernel_rfl) (by kernel_rfl) (fun _ _ _ h => h) (Or.inl ⟨by rfl, ?y12⟩) (by assumption) ?r12
      case y12 => intro w1 hSw; obtain ⟨s1, s2, s3⟩ := hSw; go_simp; try with_reducible rfl
      try simp only [List.getElem_toArray, List.getElem_cons_zero, List.getElem_cons_succ, Act.put, List.setIfInBounds_toArray, List.set_cons_zero, List.set_cons_succ]
      refine wpAnyH_take (i := 13) (oi := _) (v := ?v13) rfl (by kernel_rfl) (by kernel_rfl) (by kernel_rfl) (fun _ _ _ h => h) (Or.inl ⟨by rfl, ?y13⟩) (by assumption) ?r13
      case y13 => intro w1 hSw; obtain ⟨s1, s2, s3⟩ := hSw; go_simp; try with_reducible rfl
      try simp only [List.getElem_toArray, List.getElem_cons_zero, List.getElem_cons_succ, Act.put, List.setIfInBounds_toArray, List.set_cons_zero, List.set_cons_succ]
      refine wpAnyH_take (i := 14) (oi := _) (v := ?v14) rfl (by kernel_rfl) (by kernel_rfl) (by kernel_rfl) (fun _ _ _ h => h) (Or.inl ⟨by rfl, ?y14⟩) (by assumption) ?r14
      case y14 => intro w1 hSw; obtain ⟨s1, s2, s3⟩ := hSw; go_simp; try with_reducible rfl
      try simp only [List.getElem_toArray, List.getElem_cons_zero, List.getElem_cons_succ, Act.put, List.setIfInBounds_toArray, List.set_cons_zero, List.set_cons_succ]
      refine wpAnyH_take (i := 15) (oi := _) (v := ?v15) rfl (by kernel_rfl) (by kernel_rfl) (by kernel_rfl) (fun _ _ _ h => h) (Or.inl ⟨by rfl, ?y15⟩) (by assumption) ?r15
      case y15 => intro w1 hSw; obtain ⟨s1, s2, s3⟩ := hSw; go_simp; try with_reducible rfl
      try simp only [List.getElem_toArray, List.getElem_cons_zero, List.getElem_cons_succ, Act.put, List.setIfInBounds_toArray, List.set_cons_zero, List.set_cons_succ]
      refine wpAnyH_ready (rs := [16]) (by kernel_rfl) (by simp) ?_
      refine AllReadyH.cons (o := _) rfl (fun K hK => ?_) AllReadyH.nil
      rw [if_pos (by rfl)]
      try simp only [List.getElem_toArray, List.getElem_cons_zero, List.getElem_cons_succ]
      go_simp
      have hfd : Fr (fun _ => False) wr wr.drew := Fr.drewN _ wr 1
      have hBd := HBB.out.fr hfd
      have hRd := (RowB.fr (S := From w.heap.size) HR.out (hfd.mono fun _ e => e.elim)).to (S' := Tri (lb + 2) lb (lb + 1)) (fun k _ hk => HTR.out k hk)
      refine (put_any _ hBd (by omega) (by omega) (p.cl i) (p.sq i) _ _ hRd ⟨hbl, HP.out.one i hlt⟩).mono ?_
      rintro e w5 ⟨rfl, hB5, hf5⟩
      have hf5' : Fr (From w.heap.size) wr w5 := (hfd.mono fun _ e => e.elim).trans (hf5.mono HT.out)
      have hkp : ∀ {j : Nat} {v : Value}, wr.cell? ⟨B, j, none⟩ = some v → w5.cell? ⟨B, j, none⟩ = some v := fun {j v} hc => by
        rw [← hc]
        exact World.cell?_of_block (hf5'.block B (lt_of_cell hc) (fun e => by unfold From at e; omega))
      refine hK.out _ _ ⟨hkp c1, hkp c2, hkp c3⟩ (fun hHeld2 => ?_)
      have HB5 := Lib.hid hB5
      have HF5 := Lib.hid (HFF.out.trans hf5')
      have CL := Lib.hid (Cput_le wi c G T (p.cl i) (p.sq i) (p.by_ i))
      clear hK K hHeld hHeld2 hkp hf5 hf5' hB5 hRd hBd hfd c0 c1 c2 c3 HR HFF HBB
      try simp only [List.getElem_toArray, List.getElem_cons_zero, List.getElem_cons_succ, Act.put, List.setIfInBounds_toArray, List.set_cons_zero, List.set_cons_succ]
      refine wpAnyH_done (by kernel_rfl) ?_ _
      have hstay : Tput wi G T (p.cl i) (p.sq i) cl - wi < sq → Gput wi G T (p.cl i) (p.sq i) (p.by_ i) (cl, sq) = some first := fun h => put_stays (HIN.out (by have := top_rises wi G T (p.cl i) (p.sq i) cl; omega)) h
      have hgn : g = true → sq ≤ Tput wi G T (p.cl i) (p.sq i) cl - wi := fun h => by have := HG.out h; have := top_rises wi G T (p.cl i) (p.sq i) cl; omega
      obtain ⟨G', hG'⟩ : ∃ G', G' = Gput wi G T (p.cl i) (p.sq i) (p.by_ i) := ⟨_, rfl⟩
      obtain ⟨T', hT'⟩ : ∃ T', T' = Tput wi G T (p.cl i) (p.sq i) := ⟨_, rfl⟩
      obtain ⟨c', hc'⟩ : ∃ c', c' = Cput wi c G T (p.cl i) (p.sq i) (p.by_ i) := ⟨_, rfl⟩
      rw [← hG'] at hstay
      rw [← hT'] at hstay hgn
      rw [← hG', ← hT', ← hc'] at HB5
      have hcl' : c' ≤ i + 2 := by rw [hc']; have := CL.out; omega
      have HST := Lib.hid hstay
      have HGN := Lib.hid hgn
      have hT5 := HB5.out.tr cl
      have hxok : iKE.ok cl := hcw
      have hbad : ¬ Bad cl sq := by unfold Bad; omega
      have HBAD := Lib.hid hbad
      clear hG' hT' hc' hstay hgn HIN HG CL hbad
      go_wp2_with fail
      refine (look_any _ HB5.out cl sq).mono ?_
      rintro e w6 ⟨⟨v, rfl, hv⟩, hf6⟩
      have HB6 := Lib.hid (HB5.out.fr hf6)
      have HF6 := Lib.hid (HF5.out.trans (hf6.mono fun _ e => e.elim))
      have htop := Lib.hid (top_any _ HB6.out cl hxok)
      by_cases hin : T' cl - wi < sq
      · have hg1 := HST.out hin
        have hcode : code wi G' T' cl sq = 1 := by unfold code; rw [if_neg HBAD.out, if_neg (by omega), hg1]; rfl
        have hst := str_of [102, 105, 114, 115, 116] (hv first hg1 hcode)
        have p7 : decide (T' cl - wi < sq) = true := decide_eq_true hin
        cases g with
        | true => exact absurd (HGN.out rfl) (by omega)
        | false =>
        rw [hcode]
        clear hv hf6 hg1 hcode HGN
        go_wp2_with (go_at_call 11; refine htop.out.mono ?_; rintro e w7 ⟨rfl, rfl⟩)
        go_roundw
        case rel => exact ⟨i + 1, false, c', N + 1, G', T', by omega, by go_num, rfl, by omega, by omega, HB6.out, fun h => (by cases h), HST.out, HF6.out⟩
        case measure => simp [intOf]; omega
      · have hcode : code wi G' T' cl sq = 2 := by unfold code; rw [if_neg HBAD.out, if_pos (by omega)]
        have p7 : decide (T' cl - wi < sq) = false := decide_eq_false hin
        rw [hcode]
        clear hv hf6 hcode
        cases g
        all_goals
          go_wp2_with (go_at_call 11; refine htop.out.mono ?_; rintro e w7 ⟨rfl, rfl⟩)
          go_roundw
          case rel => exact ⟨i + 1, true, c', N + 1, G', T', by omega, by go_num, rfl, by omega, by omega, HB6.out, fun _ => (by omega), HST.out, HF6.out⟩
          case measure => simp [intOf]; omega
    · obtain rfl : i = n := by omega
      have p0 : decide ((i : Int) < i) = false := decide_eq_false (by omega)
      go_wp2
      go_ret
      exact ⟨rfl, (HF4.out.trans hf).below (Nat.le_refl _) (fun k hk => hk)⟩
end Go.Proofs.Ytkodkimfoihbhaa
