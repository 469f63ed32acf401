/- The walk of QuorumVotes. -/
import Derived.Test.YtfeaoapjgcibmaaI
import Derived.Deep.AppendLies
import Derived.OwnWalk
import Derived.Deep.DeepMust
import Derived.RowKit2
import Derived.Maps.AppendAt
set_option linter.unusedVariables false
set_option linter.unusedSimpArgs false
namespace Go.Proofs.Ytfeaoapjgcibmaa
open Go.RowKit Go.Shelf
attribute [local go_sem] Oper.semAt_some
theorem info4 : (Try.prog.info? 4).map (fun i => (i.zero, i.size, i.bytes)) = some (some (.bool false), 1, 1) := by kernel_rfl
def bl (y : Nat → Bool) (n : Nat) : List Value := (List.range n).map fun j => .bool (y j)
theorem bl_length (y : Nat → Bool) (n : Nat) : (bl y n).length = n := by simp [bl]
theorem bl_at (y : Nat → Bool) (n j : Nat) (h : j < n) : (bl y n)[j]? = some (.bool (y j)) := by simp [bl, h]
theorem bl_one (y : Nat → Bool) (n : Nat) : ∀ u ∈ bl y n, u.oneCell' = true := by
  intro u hu
  simp only [bl, List.mem_map] at hu
  obtain ⟨j, _, rfl⟩ := hu
  rfl
theorem bl_news {W : World} {b o n : Nat} {y : Nat → Bool} (hc : ∀ j, j < n → W.cell? ⟨b, o + j, none⟩ = some (.bool (y j))) : ∀ j u, (bl y n)[j]? = some u → W.cell? ((⟨b, o, none⟩ : Addr).add j) = some u := by
  intro j u h
  have hj : j < n := by have := (List.getElem?_eq_some_iff.1 h).1; rw [bl_length] at this; exact this
  rw [bl_at y n j hj] at h
  cases h
  rw [off_add]
  exact hc j hj
theorem bl_snoc (y : Nat → Bool) (n : Nat) (v : Bool) : bl y n ++ [.bool v] = bl (fun j => if j < n then y j else v) (n + 1) := by
  apply List.ext_getElem?
  intro j
  by_cases h : j < n
  · rw [List.getElem?_append_left (by rw [bl_length]; exact h), bl_at _ _ _ h, bl_at _ _ _ (by omega)]
    simp [h]
  · by_cases e : j = n
    · subst e
      rw [List.getElem?_append_right (by rw [bl_length]; omega), bl_at _ _ _ (by omega), bl_length]
      simp
    · rw [List.getElem?_eq_none (by simp [bl_length]; omega), List.getElem?_eq_none (by rw [bl_length]; omega)]
/-- a row of bools of the call's own, as cells -/
theorem own_cells {W : World} {base g n cap : Nat} {y : Nat → Bool} (h : W.ownsRow base 4 1 (.slice (some ⟨g, 0, none⟩) n cap) n (bl y n)) : (∀ j, j < n → W.cell? ⟨g, j, none⟩ = some (.bool (y j)) ∧ W.frozen? ⟨g, j, none⟩ = false) ∧ base ≤ g := by
  obtain ⟨hl, h⟩ := h
  rcases h with ⟨h, _⟩ | ⟨g', cap', cur, he, hb, hg, _, _, hs, ht⟩
  · cases h
  · simp only [Value.slice.injEq, Option.some.injEq, Addr.mk.injEq, and_true, true_and] at he
    obtain ⟨rfl, rfl⟩ := he
    refine ⟨fun j hj => ⟨?_, by simp [World.frozen?, hg]⟩, hb⟩
    have : (cur.toList.take (n * 1))[j]? = some (.bool (y j)) := by rw [ht]; exact bl_at y n j hj
    rw [Nat.mul_one, List.getElem?_take_of_lt hj] at this
    simp only [World.cell?, hg]
    simpa using this
def turn (y : Nat → Bool) (k : Nat) : Nat → Bool := fun j => if j = k then true else y j
theorem row_turn {W : World} {g n k : Nat} {y : Nat → Bool} (hn : k < n) (hc : ∀ j, j < n → W.cell? ⟨g, j, none⟩ = some (.bool (y j)) ∧ W.frozen? ⟨g, j, none⟩ = false) : Row (W.setCell ⟨g, k, none⟩ (.bool true)) (some ⟨g, 0, none⟩) n (fun j => .bool (turn y k j)) := by
  refine .inr ⟨g, 0, rfl, ?_, fun j hj => ?_⟩
  · have := lt_of_cell (hc k hn).1
    rw [show (W.setCell ⟨g, k, none⟩ (.bool true)).heap.size = W.heap.size from by simp]
    exact this
  · rw [Nat.zero_add]
    by_cases e : j = k
    · subst e
      have : turn y j j = true := by simp [turn]
      simp only [this]
      exact World.cell?_setCell_same' _ _ _ (by rw [(hc j hj).1]; rfl)
    · have : turn y k j = y j := by simp [turn, e]
      simp only [this]
      rw [World.cell?_setCell_other _ _ _ _ (fun h => e (by cases h; rfl))]
      exact (hc j hj).1
theorem own_start {W : World} {base g n cap : Nat} {y : Nat → Bool} (h : W.ownsRow base 4 1 (.slice (some ⟨g, 0, none⟩) (0 + n) cap) (0 + n) (bl y 0 ++ bl y n)) : (∀ j, j < n → W.cell? ⟨g, j, none⟩ = some (.bool (y j)) ∧ W.frozen? ⟨g, j, none⟩ = false) ∧ base ≤ g := by
  rw [Nat.zero_add, show bl y 0 = [] from rfl, List.nil_append] at h
  exact own_cells h
theorem turn_won (m : Nat → Int) (y : Nat → Bool) (k n : Nat) (h : won m y n = true) : won m (turn y k) n = true :=
  won_mono m y _ n n (fun x hx hy => ⟨hx, by unfold turn; split <;> first | rfl | exact hy⟩) h
theorem turn_lost (m : Nat → Int) (y : Nat → Bool) (k n : Nat) (h : lost m (turn y k) n = true) : lost m y n = true :=
  lost_mono m _ y n n (fun x hx hy => ⟨hx, by unfold turn at hy; split at hy <;> first | exact hy | (cases hy)⟩) h
theorem own_norm {W : World} {base g n cap : Nat} {y : Nat → Bool} (h : W.ownsRow base 4 1 (.slice (some ⟨g, 0, none⟩) (0 + n) cap) (0 + n) (bl y 0 ++ bl y n)) : W.ownsRow base 4 1 (.slice (some ⟨g, 0, none⟩) n cap) n (bl y n) := by
  rw [Nat.zero_add, show bl y 0 = [] from rfl, List.nil_append] at h
  exact h
theorem own_more {W : World} {base g n cap : Nat} {y : Nat → Bool} {v : Bool} (h : W.ownsRow base 4 1 (.slice (some ⟨g, 0, none⟩) (n + 1) cap) (n + 1) (bl y n ++ bl (fun _ => v) 1)) : W.ownsRow base 4 1 (.slice (some ⟨g, 0, none⟩) (n + 1) cap) (n + 1) (bl (fun j => if j < n then y j else v) (n + 1)) := by
  rw [← bl_snoc]
  exact h
theorem row_own {W : World} {base g n cap : Nat} {y : Nat → Bool} (h : W.ownsRow base 4 1 (.slice (some ⟨g, 0, none⟩) (n + 1) cap) (n + 1) (bl y (n + 1))) : Row W (some ⟨g, 0, none⟩) (n + 1) (fun j => .bool (y j)) := by
  obtain ⟨h, _⟩ := own_cells h
  exact .inr ⟨g, 0, rfl, lt_of_cell (h 0 (by omega)).1, fun j hj => by rw [Nat.zero_add]; exact (h j hj).1⟩
theorem new_one (W : World) (v : Bool) : ∀ j, j < 1 → (W.alloc (.cells #[.bool v] 4)).cell? ⟨W.heap.size, 0 + j, none⟩ = some (.bool ((fun _ => v) j)) := by
  intro j hj
  obtain rfl : j = 0 := by omega
  exact (Boxed.new W 4 (.bool v)).cell
theorem size_le (W : World) (o : Obj) : W.heap.size ≤ (W.alloc o).heap.size := by simp
theorem more_won (m : Nat → Int) (y : Nat → Bool) (n : Nat) (v : Bool) (h : won m y n = true) : won m (fun j => if j < n then y j else v) (n + 1) = true :=
  won_mono m y _ n (n + 1) (fun x hx hy => ⟨by omega, by simp only [hx, if_true]; exact hy⟩) h
theorem more_lost (m : Nat → Int) (y : Nat → Bool) (n : Nat) (v : Bool) (h : lost m y n = true) : lost m (fun j => if j < n then y j else v) (n + 1) = true :=
  lost_mono m y _ n (n + 1) (fun x hx hy => ⟨by omega, by simp only [hx, if_true]; exact hy⟩) h
theorem app36 {W : World} {ops : Array Oper} {rest : List Oper} {o : Oper} {A : Act} {Q : Exit → Act → World → Prop} (hgd : o.guard = none) (s x : Operand)
    (ho : o.op = .call { callee := .builtin .append, args := #[s, x], argTypes := #[36, 36] }) {base g0 n c0 b off m c : Nat} {y z : Nat → Bool} (hs : A.eval s = .slice (some ⟨g0, 0, none⟩) n c0) (hx : A.eval x = .slice (some ⟨b, off, none⟩) m c)
    (hown : W.ownsRow base 4 1 (.slice (some ⟨g0, 0, none⟩) n c0) n (bl y n)) (hnews : ∀ j, j < m → W.cell? ⟨b, off + j, none⟩ = some (.bool (z j))) (hm : 0 < m) (hle : n + m ≤ 1000) (hbase : base ≤ W.heap.size)
    (h : ∀ g cap W', W'.ownsRow base 4 1 (.slice (some ⟨g, 0, none⟩) (n + m) cap) (n + m) (bl y n ++ bl z m) → W.grownBy W' (some g0) → g < W'.heap.size → wpList Try.prog ops Q rest (A.put o.dst (.slice (some ⟨g, 0, none⟩) (n + m) cap)) W') : wpList Try.prog ops Q (o :: rest) A W := by
  obtain ⟨i0, hi, hz0, hz1, hz2⟩ := info_parts info4
  exact wpList_append_lies W hgd s x 36 ho base 4 i0 (.bool false) 1 1 Try.underlying36 hi hz0 hz1 hz2 rfl (by decide) _ n (bl y n) hs hown ⟨b, off, none⟩ m c (bl z m) hx (by rw [bl_length, Nat.mul_one]) (bl_news hnews) (bl_one z m) hm (by unfold maxLen; omega) (by omega) hbase W.heap.size rfl (fun g cap W' h1 h2 _ h4 => h g cap W' h1 h2 h4)
theorem grown_below {w W W' : World} {v : Value} (hg : W.grownBy W' v.ownBlock) (hv : ∀ x, v.ownBlock = some x → w.heap.size ≤ x) (hb : Below w.heap.size w W) : Below w.heap.size w W' :=
  hb.grown hg hb.size (fun j hj => hv j hj)
set_option maxRecDepth 100000 in
set_option maxHeartbeats 4000000 in
theorem votes_law (w : World) (m : Nat → Int) (hm : ∀ k, k < 9 → 0 ≤ m k ∧ m k ≤ 255) (a : Option Addr) (len cap : Nat) (y : Nat → Bool) (hlc : len ≤ cap) (hcap : cap ≤ 9223372036854775807) (hrow' : Row w a cap (fun j => .bool (y j))) (k : Int) (hk : (Lit.int .i64 k).wf = true) (more : Bool) :
    Calls Try.prog 5 #[.agg #[.int .u8 (m 0), .int .u8 (m 1), .int .u8 (m 2), .int .u8 (m 3), .int .u8 (m 4), .int .u8 (m 5), .int .u8 (m 6), .int .u8 (m 7), .int .u8 (m 8)], .slice a len cap, .int .i64 k, .bool more] w fun e W' => e = .returned (.bool true) ∧ Below w.heap.size w W' := by
  have hrow : Row w a len (fun j => .bool (y j)) := by
    rcases hrow' with h | ⟨b, o, h1, h2, h3⟩
    · exact .inl (by omega)
    · exact .inr ⟨b, o, h1, h2, fun j hj => h3 j (by omega)⟩
  clear hrow'
  go_enter Try.func5, Try.ntmps5
  go_wp2_with fail
  refine (known_any _).mono ?_
  rintro e w1 ⟨rfl, hb1⟩
  have B1 : Blk w1 w.heap.size 25 (arr m) := (Blk.new w 25 (arr m)).below hb1
  have q1 : Below w.heap.size w w1 := ((Below.refl _ w).alloc (Nat.le_refl _) _).trans (hb1.mono (by simp))
  have hs1 := q1.size
  clear hb1
  obtain ⟨x0, x1, x2, x3, x4, x5, x6, x7, x8⟩ := cells9 B1
  go_wp2_with fail
  refine (right_any m hm _).mono ?_
  rintro e w2 ⟨rfl, hb2⟩
  have B2 : Blk w2 w.heap.size 25 (arr m) := B1.below hb2
  have q2 : Below w.heap.size w w2 := q1.trans (hb2.mono hs1)
  have hs2 := q2.size
  clear hb2 B1 x0 x1 x2 x3 x4 x5 x6 x7 x8
  cases hok : okM m with
  | false =>
    clear hok
    go_wp2
    go_ret
    exact ⟨rfl, q2⟩
  | true =>
    clear hok
    by_cases hlen : 9 < len
    · have p1 : decide (9 < (len : Int)) = true := decide_eq_true (by omega)
      go_wp2
      go_ret
      exact ⟨rfl, q2⟩
    · have p1 : decide (9 < (len : Int)) = false := decide_eq_false (by omega)
      by_cases hk0 : k < 0
      · have p2 : decide (k < 0) = true := decide_eq_true hk0
        go_wp2
        go_ret
        exact ⟨rfl, q2⟩
      · have p2 : decide (k < 0) = false := decide_eq_false hk0
        by_cases hkl : (len : Int) ≤ k
        · have p3 : decide ((len : Int) ≤ k) = true := decide_eq_true hkl
          go_wp2
          go_ret
          exact ⟨rfl, q2⟩
        · have p3 : decide ((len : Int) ≤ k) = false := decide_eq_false hkl
          obtain ⟨q, rfl⟩ := Int.eq_ofNat_of_zero_le (Int.not_lt.1 hk0)
          have hql : q < len := by omega
          clear hk0 hkl
          obtain ⟨x0, x1, x2, x3, x4, x5, x6, x7, x8⟩ := cells9 B2
          go_wp2_with fail
          refine (votes_any m hm a len cap (by omega) y _ (hrow.below q2)).mono ?_
          rintro e w3 ⟨rfl, hb3⟩
          have B3 : Blk w3 w.heap.size 25 (arr m) := B2.below hb3
          have q3 : Below w.heap.size w w3 := q2.trans (hb3.mono hs2)
          have hs3 := q3.size
          have hB3 := B3.lt
          clear hb3 B2 x0 x1 x2 x3 x4 x5 x6 x7 x8
          have hr3 : Row w3 a len (fun j => .bool (y j)) := hrow.below q3
          rcases hr3 with h0 | ⟨b, o, rfl, hb, hc⟩
          · omega
          have hc' : ∀ j, j < len → (w3.alloc (.cells #[] 4)).cell? ⟨b, o + j, none⟩ = some (.bool (y j)) := fun j hj =>
            (((Below.refl w3.heap.size w3).alloc (Nat.le_refl _) (.cells #[] 4)).cell (p := ⟨b, o + j, none⟩) hb).trans (hc j hj)
          have hown : (w3.alloc (.cells #[] 4)).ownsRow w3.heap.size 4 1 (.slice (some ⟨w3.heap.size, 0, none⟩) 0 0) 0 (bl y 0) := ⟨rfl, .inr ⟨_, 0, #[], rfl, Nat.le_refl _, World.alloc_heap_new _ _, Nat.le_refl _, by decide, rfl, rfl⟩⟩
          have hlen0 : 0 < len := by omega
          have hlen1 : 0 + len ≤ 1000 := by omega
          have hbase : w3.heap.size ≤ (w3.alloc (.cells #[] 4)).heap.size := by simp
          obtain ⟨W1, hW1⟩ : ∃ x, won m y len = x := ⟨_, rfl⟩
          obtain ⟨L1, hL1⟩ : ∃ x, lost m y len = x := ⟨_, rfl⟩
          have hnb : ¬ (W1 = true ∧ L1 = true) := fun h => not_both m y len (hW1.trans h.1) (hL1.trans h.2)
          rw [hW1, hL1]
          have HW := Lib.hid hW1
          have HL := Lib.hid hL1
          have HC := Lib.hid hc
          have HC' := Lib.hid hc'
          clear hW1 hL1 hc hc'
          cases W1 <;> cases L1 <;> first | (exact absurd ⟨rfl, rfl⟩ hnb) | skip
          all_goals
            clear hnb
            go_wp2_with (at_builtin; refine app36 rfl _ _ rfl rfl rfl hown HC'.out hlen0 hlen1 hbase ?_; intro g cap1 w4 hown4' hgrow4 hlt4; obtain ⟨hy4', hg4⟩ := own_start hown4'; have hfc := (hy4' q hql).1; have hff := (hy4' q hql).2; have hy4 := Lib.hid hy4'; clear hy4' hown4'; have B4 : Blk w4 w.heap.size 25 (arr m) := (B3.alloc _).kept hgrow4 (fun e => Nat.ne_of_lt hB3 (Option.some.inj e)); obtain ⟨x0, x1, x2, x3, x4, x5, x6, x7, x8⟩ := cells9 B4)
            have q4 : Below w.heap.size w w4 := (q3.alloc hs3 _).grown hgrow4 (Nat.le_trans hs3 (by simp)) (fun j e => by injection e with e; omega)
            have q4' : Below w.heap.size w (w4.setCell ⟨g, q, none⟩ (.bool true)) := q4.setCell (p := ⟨g, q, none⟩) (by show w.heap.size ≤ g; omega) _
            clear hfc hff hown HC' hbase
            refine (votes_any m hm _ len _ (by omega) (turn y q) _ (row_turn hql hy4.out)).mono ?_
            have B4' : Blk (w4.setCell ⟨g, q, none⟩ (.bool true)) w.heap.size 25 (arr m) := B4.otherAt (by omega) _ _
            obtain ⟨W2, hW2⟩ : ∃ x, won m (turn y q) len = x := ⟨_, rfl⟩
            obtain ⟨L2, hL2⟩ : ∃ x, lost m (turn y q) len = x := ⟨_, rfl⟩
            have hWm := turn_won m y q len
            have hLm := turn_lost m y q len
            have hnb2 : ¬ (W2 = true ∧ L2 = true) := fun h => not_both m _ len (hW2.trans h.1) (hL2.trans h.2)
            rw [hW2] at hWm
            rw [hL2] at hLm
            rw [HW.out] at hWm
            rw [HL.out] at hLm
            rw [hW2, hL2]
            clear hW2 hL2
            rintro e w5 ⟨rfl, hb5⟩
            have B5 : Blk w5 w.heap.size 25 (arr m) := B4'.below hb5
            have q5 : Below w.heap.size w w5 := q4'.trans (hb5.mono q4'.size)
            have hs5 := q5.size
            have q34 : Below w3.heap.size w3 w4 := ((Below.refl w3.heap.size w3).alloc (Nat.le_refl _) _).grown hgrow4 (by simp) (fun j e => by cases e; exact Nat.le_refl _)
            have q35 : Below w3.heap.size w3 w5 := (q34.setCell (p := ⟨g, q, none⟩) (by show w3.heap.size ≤ g; omega) _).trans (hb5.mono (by have := q34.size; simpa using this))
            have hs35 := q35.size
            have hb45 : w4.heap.size ≤ w5.heap.size := by have := hb5.size; simpa using this
            clear hb5 B4 B4' q4 q4' x0 x1 x2 x3 x4 x5 x6 x7 x8 hy4 hgrow4
            have hbq : b < w5.heap.size := by omega
            have hc5' : ∀ j, j < len → w5.cell? ⟨b, o + j, none⟩ = some (.bool (y j)) := fun j hj => ((q35).cell (p := ⟨b, o + j, none⟩) hb).trans (HC.out j hj)
            have HC5 := Lib.hid hc5'
            clear hc5'
            cases W2 <;> cases L2 <;> first | (exact absurd ⟨rfl, rfl⟩ hnb2) | (exact absurd (hWm rfl) (by decide)) | (exact absurd (hLm rfl) (by decide)) | skip
          all_goals
            clear hWm hLm hnb2
            have hc5 : ∀ j, j < len → (w5.alloc (.cells #[] 4)).cell? ⟨b, o + j, none⟩ = some (.bool (y j)) := fun j hj =>
              (((Below.refl w5.heap.size w5).alloc (Nat.le_refl _) (.cells #[] 4)).cell (p := ⟨b, o + j, none⟩) hbq).trans (HC5.out j hj)
            have HCc := Lib.hid hc5
            clear hc5 HC5
            have hown5 : (w5.alloc (.cells #[] 4)).ownsRow w5.heap.size 4 1 (.slice (some ⟨w5.heap.size, 0, none⟩) 0 0) 0 (bl y 0) := ⟨rfl, .inr ⟨_, 0, #[], rfl, Nat.le_refl _, World.alloc_heap_new _ _, Nat.le_refl _, by decide, rfl, rfl⟩⟩
            have hbase5 : w5.heap.size ≤ (w5.alloc (.cells #[] 4)).heap.size := by simp
            have hB5 := B5.lt
            have hone : 0 < 1 := by omega
            have hlen2 : len + 1 ≤ 1000 := by omega
            have tok1 : True := trivial
            go_wp2_with (first | (at_builtin; have _t := tok1; refine app36 rfl _ _ rfl rfl rfl hown5 HCc.out hlen0 hlen1 hbase5 ?_; intro g2 cap2 w6 hown6' hgrow6 hlt6; clear tok1; have hown6 := own_norm hown6'; have hg2 := (own_cells hown6).2; clear hown6'; have B6 : Blk w6 w.heap.size 25 (arr m) := (B5.alloc _).kept hgrow6 (fun e => Nat.ne_of_lt hB5 (Option.some.inj e)); have hsz6 : w5.heap.size ≤ w6.heap.size := Nat.le_trans hbase5 hgrow6.size) | (at_builtin; refine app36 rfl _ _ rfl rfl rfl (hown6.alloc _) (new_one w6 more) hone hlen2 (Nat.le_trans hsz6 (size_le w6 _)) ?_; intro g3 cap3 w7 hown7' hgrow7 hlt7; have hown7 := own_more hown7'; clear hown7'; have B7 : Blk w7 w.heap.size 25 (arr m) := (B6.alloc _).kept hgrow7 (fun e => Nat.ne_of_lt (Nat.lt_of_lt_of_le hB5 hg2) (Option.some.inj e)); obtain ⟨x0, x1, x2, x3, x4, x5, x6, x7, x8⟩ := cells9 B7))
            have q6 : Below w.heap.size w w6 := (q5.alloc hs5 _).grown hgrow6 (Nat.le_trans hs5 (by simp)) (fun j e => by cases e; exact hs5)
            have q7 : Below w.heap.size w w7 := (q6.alloc q6.size _).grown hgrow7 (Nat.le_trans q6.size (by simp)) (fun j e => by cases e; omega)
            refine (votes_any m hm _ (len + 1) _ (by omega) (fun j => if j < len then y j else more) _ (row_own hown7)).mono ?_
            obtain ⟨W3, hW3⟩ : ∃ x, won m (fun j => if j < len then y j else more) (len + 1) = x := ⟨_, rfl⟩
            obtain ⟨L3, hL3⟩ : ∃ x, lost m (fun j => if j < len then y j else more) (len + 1) = x := ⟨_, rfl⟩
            have hWm := more_won m y len more
            have hLm := more_lost m y len more
            have hnb2 : ¬ (W3 = true ∧ L3 = true) := fun h => not_both m _ (len + 1) (hW3.trans h.1) (hL3.trans h.2)
            rw [HW.out, hW3] at hWm
            rw [HL.out, hL3] at hLm
            rw [hW3, hL3]
            clear hW3 hL3
            rintro e w8 ⟨rfl, hb8⟩
            clear hown7 hown6 B7 B6 B5 x0 x1 x2 x3 x4 x5 x6 x7 x8 hgrow6 hgrow7
            cases W3 <;> cases L3 <;> first | (exact absurd ⟨rfl, rfl⟩ hnb2) | (exact absurd (hWm rfl) (by decide)) | (exact absurd (hLm rfl) (by decide)) | skip
          all_goals
            go_wp2
            go_ret
            exact ⟨rfl, q7.trans (hb8.mono q7.size)⟩
end Go.Proofs.Ytfeaoapjgcibmaa

