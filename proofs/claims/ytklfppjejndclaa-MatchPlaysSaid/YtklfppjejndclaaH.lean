/- The reference's Keep. -/
import Derived.Test.YtklfppjejndclaaG
set_option linter.unusedVariables false
set_option linter.unusedSimpArgs false
namespace Go.Proofs.Ytklfppjejndclaa.P2
open Go.RowKit Go.Maps Go.Sort
variable {W : World} {rb B0 : Nat} {T : Int} {L : List (Int × Int)}
/-- what stays -/
def kp (x d r : Int) (p : Int × Int) : Bool := p.1 != x || prd d r p.2
theorem filter_succ {α : Type} (f : α → Bool) {l : List α} {i : Nat} {z : α} (h : l[i]? = some z) : (l.take (i + 1)).filter f = (l.take i).filter f ++ (if f z = true then [z] else []) := by
  rw [List.take_add_one, h, List.filter_append]
  congr 1
  simp [List.filter]
  cases f z <;> rfl
theorem At_keep (L : List (Int × Int)) (x d r y : Int) : At (L.filter (kp x d r)) y = if y = x then (At L x).filter (prd d r) else At L y := by
  induction L with
  | nil => simp [At]
  | cons p L ih =>
    have hc : ∀ M y, At (p :: M) y = (if p.1 = y then [p.2] else []) ++ At M y := fun M y => by
      rw [← At_one, ← At_append]; rfl
    by_cases hk : kp x d r p = true
    · rw [List.filter_cons_of_pos hk, hc, ih, hc, hc]
      by_cases e : y = x
      · subst e
        simp only [if_true]
        rw [List.filter_append]
        congr 1
        by_cases e2 : p.1 = y
        · simp [kp, e2] at hk
          simp [e2, hk]
        · simp [e2]
      · simp only [e, if_false]
    · rw [List.filter_cons_of_neg hk, ih, hc, hc]
      simp [kp] at hk
      by_cases e : y = x
      · subst e
        simp [hk.1, hk.2]
      · have : ¬ p.1 = y := fun e' => e (by rw [← e', hk.1])
        simp [e, this]
set_option maxRecDepth 100000 in
set_option maxHeartbeats 1000000 in
theorem rkeep_any (h : RC W rb B0 T L) (hL : L.length ≤ 1000) (x d r : Int) (hd : 1 ≤ d) :
    Calls Try.prog 18 #[.pointer (some ⟨rb, 0, none⟩), .int .i64 x, .int .i64 d, .int .i64 r] W fun e W' => e = .returned (.int .i64 ((L.length : Int) - ((L.filter (kp x d r)).length : Int))) ∧ Turn W W' rb ∧ RC W' rb B0 T (L.filter (kp x d r)) := by
  obtain ⟨ao, cp, hs, hcp, hcm, hc⟩ := h.open
  have c1 := hs.cell 1
  simp only [List.getElem?_toArray, List.getElem?_cons_zero, List.getElem?_cons_succ] at c1
  have H := Lib.hid h
  have HS := Lib.hid hs
  obtain ⟨n, hn⟩ : ∃ n, L.length = n := ⟨_, rfl⟩
  rw [hn] at c1 hcp hL HS ⊢
  have HN := Lib.hid hn
  have HC := Lib.hid hc
  have hrl := hs.lt
  have pd0 : (d == 0) = false := by rw [beq_eq_false_iff_ne]; omega
  have pd1 : d ≠ 0 := by omega
  obtain ⟨i0, hi0, hz0, hz1, hz2⟩ := info_parts infoA
  have hone : ∀ q : Int × Int, ∀ u ∈ [Value.int .i64 q.1, .int .i64 q.2], u.oneCell' = true := by
    intro q u hu; simp at hu; rcases hu with rfl | rfl <;> rfl
  clear h hs hn hc
  go_enter Try.func18, Try.ntmps18
  go_wp2
  go_loopw [9, 10] (fun lv kv wr => ∃ i : Nat, i ≤ n ∧ kv = .int .i64 i ∧ wr.ownsRow W.heap.size 66 2 lv ((L.take i).filter (kp x d r)).length (flat ((L.take i).filter (kp x d r))) ∧ Fr (fun _ => False) W wr) (fun _ kv _ => n - (intOf kv).toNat)
  case atStart => exact ⟨0, by omega, rfl, World.ownsRow_nil _ _ _ _, Fr.refl _ _⟩
  case round =>
    obtain ⟨i, hi, rfl, hown, hfr⟩ := hrel
    have k1 := (World.cell?_of_block (hfr.block rb hrl id)).trans c1
    have kz := (HS.out.fr hfr id).frozen 1
    have hsz0 := hfr.size
    have HFR := Lib.hid hfr
    by_cases hlt : i < n
    · have p0 : decide ((i : Int) < n) = true := decide_eq_true (by omega)
      have i0' : (i : Int) < (n : Int) := by omega
      obtain ⟨q, hq⟩ : ∃ q, L[i]? = some q := ⟨_, List.getElem?_eq_getElem (by rw [HN.out]; exact hlt)⟩
      rcases HC.out with ⟨_, h, _⟩ | ⟨g, rfl, hg, hcell⟩
      · have := HN.out; rw [h] at this; simp at this; omega
      have d0 := hcell (i * 2) _ (flat_at hq).1
      have d1 := hcell (i * 2 + 1) _ (flat_at hq).2
      have e0 := (World.cell?_of_block (hfr.block g (lt_of_cell d0) id)).trans d0
      have e1 := (World.cell?_of_block (hfr.block g (lt_of_cell d1) id)).trans d1
      have hsu := filter_succ (kp x d r) hq
      obtain ⟨ys, hys⟩ : ∃ ys, (L.take i).filter (kp x d r) = ys := ⟨_, rfl⟩
      have hyl : ys.length ≤ i := by
        rw [← hys]
        exact Nat.le_trans (List.length_filter_le _ _) (by rw [List.length_take]; omega)
      rw [hys] at hown hsu
      have HSU := Lib.hid hsu
      have OWN := Lib.hid hown
      have b1 : ys.length + 1 ≤ maxLen := by unfold maxLen; omega
      have b2 : (ys.length + 1) * 16 ≤ 140737488355328 := by omega
      clear hcell hq hsu hys hown d0 d1 c1 hfr
      by_cases hid : q.1 = x
      · have t1 : (q.1 != x) = false := by simp [hid]
        by_cases hp : (q.2.tmod d == r) = true
        · have HK : Hid (kp x d r q = true) := Lib.hid (by unfold kp prd; simp only [hp, Bool.or_true])
          clear hid
          have hown' : (wr.alloc (.cells #[.int .i64 q.1, .int .i64 q.2] 66)).ownsRow W.heap.size 66 2 u9 ys.length (flat ys) := OWN.out.alloc _
          have hnews : ∀ (j : Nat) (u : Value), [Value.int .i64 q.1, .int .i64 q.2][j]? = some u → (wr.alloc (.cells #[.int .i64 q.1, .int .i64 q.2] 66)).cell? ((⟨wr.heap.size, 0, none⟩ : Addr).add j) = some u := fun j u hj => by
            rw [off_add, Nat.zero_add, World.cell?_alloc_mark]
            simpa using hj
          have HOWN := Lib.hid hown'
          have HNEWS := Lib.hid hnews
          have hsz : W.heap.size ≤ (wr.alloc (.cells #[.int .i64 q.1, .int .i64 q.2] 66)).heap.size := by simp; omega
          clear hown' hnews
          go_wp2_with (first
            | (at_builtin
               refine wpList_append_own_at _ rfl _ _ 62 rfl W.heap.size 66 i0 _ 2 16 Try.underlying62 hi0 hz0 hz1 hz2 rfl (by decide) u9 ys.length (flat ys) rfl HOWN.out ⟨wr.heap.size, 0, none⟩ 1 1 [.int .i64 q.1, .int .i64 q.2] rfl rfl HNEWS.out (hone q) b1 b2 hsz ?_
               intro v' W1 hown1 hgrow1 hnil1 hblk1
               have HO1 := Lib.hid hown1
               have HG1 := Lib.hid (((Fr.alloc (fun _ => False) wr (.cells #[.int .i64 q.1, .int .i64 q.2] 66))).by_own hgrow1)
               have HGG := Lib.hid hgrow1
               clear hown1 hgrow1 hnil1 hblk1)
            | fail)
          go_roundw
          case rel =>
            refine ⟨i + 1, by omega, by go_num, ?_, ?_⟩
            · rw [HSU.out, if_pos HK.out, List.length_append, flat_append]
              exact HO1.out
            · have h1 := HFR.out.trans (Fr.alloc (fun _ => False) wr (.cells #[.int .i64 q.1, .int .i64 q.2] 66))
              exact h1.by_own HGG.out (fun k e => (OWN.out.lt k e).1)
          case measure => simp [intOf]; omega
        · have hpf : (q.2.tmod d == r) = false := by simpa using hp
          have HK : Hid (¬ kp x d r q = true) := Lib.hid (by unfold kp prd; simp only [t1, hpf]; decide)
          clear hid hp
          go_wp2
          go_roundw
          case rel =>
            refine ⟨i + 1, by omega, by go_num, ?_, HFR.out⟩
            rw [HSU.out, if_neg HK.out, List.append_nil]
            exact OWN.out
          case measure => simp [intOf]; omega
      · have t1 : (q.1 != x) = true := by simp [hid]
        have HK : Hid (kp x d r q = true) := Lib.hid (by unfold kp; simp only [t1, Bool.true_or])
        clear hid
        have hown' : (wr.alloc (.cells #[.int .i64 q.1, .int .i64 q.2] 66)).ownsRow W.heap.size 66 2 u9 ys.length (flat ys) := OWN.out.alloc _
        have hnews : ∀ (j : Nat) (u : Value), [Value.int .i64 q.1, .int .i64 q.2][j]? = some u → (wr.alloc (.cells #[.int .i64 q.1, .int .i64 q.2] 66)).cell? ((⟨wr.heap.size, 0, none⟩ : Addr).add j) = some u := fun j u hj => by
          rw [off_add, Nat.zero_add, World.cell?_alloc_mark]
          simpa using hj
        have HOWN := Lib.hid hown'
        have HNEWS := Lib.hid hnews
        have hsz : W.heap.size ≤ (wr.alloc (.cells #[.int .i64 q.1, .int .i64 q.2] 66)).heap.size := by simp; omega
        clear hown' hnews
        go_wp2_with (first
          | (at_builtin
             refine wpList_append_own_at _ rfl _ _ 62 rfl W.heap.size 66 i0 _ 2 16 Try.underlying62 hi0 hz0 hz1 hz2 rfl (by decide) u9 ys.length (flat ys) rfl HOWN.out ⟨wr.heap.size, 0, none⟩ 1 1 [.int .i64 q.1, .int .i64 q.2] rfl rfl HNEWS.out (hone q) b1 b2 hsz ?_
             intro v' W1 hown1 hgrow1 hnil1 hblk1
             have HO1 := Lib.hid hown1
             have HG1 := Lib.hid (((Fr.alloc (fun _ => False) wr (.cells #[.int .i64 q.1, .int .i64 q.2] 66))).by_own hgrow1)
             have HGG := Lib.hid hgrow1
             clear hown1 hgrow1 hnil1 hblk1)
          | fail)
        go_roundw
        case rel =>
          refine ⟨i + 1, by omega, by go_num, ?_, ?_⟩
          · rw [HSU.out, if_pos HK.out, List.length_append, flat_append]
            exact HO1.out
          · have h1 := HFR.out.trans (Fr.alloc (fun _ => False) wr (.cells #[.int .i64 q.1, .int .i64 q.2] 66))
            exact h1.by_own HGG.out (fun k e => (OWN.out.lt k e).1)
        case measure => simp [intOf]; omega
    · obtain rfl : i = n := by omega
      have p0 : decide ((i : Int) < i) = false := decide_eq_false (by omega)
      have hlf : (L.filter (kp x d r)).length ≤ i := by rw [← HN.out]; exact List.length_filter_le _ _
      rw [List.take_of_length_le (by rw [HN.out]; exact Nat.le_refl _)] at hown
      obtain ⟨M, hM⟩ : ∃ M, L.filter (kp x d r) = M := ⟨_, rfl⟩
      rw [hM] at hown hlf
      have HM := Lib.hid hM
      have hput := H.out.put HFR.out (Nat.le_refl _) hown
      have htu : Turn W (wr.setCell ⟨rb, 1, none⟩ u9) rb := ⟨hput.2.mono fun k e => .inl e, fun k hk => .inr (by
        have hb := (HS.out.fr HFR.out id).set 1 u9
        rw [rowB_of (T := T) (sv := u9) (by simpa using hb)] at hk
        exact (hown.lt k hk).1)⟩
      obtain ⟨a3, q3, rfl⟩ := owns_slice hown
      have HP := Lib.hid hput.1
      have HT := Lib.hid htu
      obtain ⟨m, hm⟩ : ∃ m, M.length = m := ⟨_, rfl⟩
      rw [hm] at hlf HP HT ⊢
      have HMM := Lib.hid hm
      clear hown hput htu hM hm hfr
      go_wp2
      go_ret
      refine ⟨?_, HT.out, by rw [HM.out]; exact HP.out⟩
      rw [HM.out, HMM.out]; rfl
end Go.Proofs.Ytklfppjejndclaa.P2
