/- The walk of MatchOrder. -/
import Derived.Test.YtklfppjejndclaaB
set_option linter.unusedVariables false
set_option linter.unusedSimpArgs false
namespace Go.Proofs.Ytklfppjejndclaa
open Go.RowKit Go.Maps
/-- a row of values that a slice shows -/
def Row (w : World) (a : Option Addr) (n : Nat) (f : Nat → Value) : Prop := n = 0 ∨ ∃ b o, a = some ⟨b, o, none⟩ ∧ b < w.heap.size ∧ ∀ j, j < n → w.cell? ⟨b, o + j, none⟩ = some (f j)
theorem Row.below {w w' : World} {a : Option Addr} {n : Nat} {f : Nat → Value} (h : Row w a n f) (hb : Below w.heap.size w w') : Row w' a n f := by
  rcases h with h | ⟨b, o, h1, h2, h3⟩
  · exact .inl h
  · exact .inr ⟨b, o, h1, Nat.lt_of_lt_of_le h2 hb.size, fun j hj => (hb.cell (p := ⟨b, o + j, none⟩) h2).trans (h3 j hj)⟩
def Lr (f : Nat → Int) (d : Int) (i : Nat) (x : Int) : List Nat := (List.range i).filter (fun j => decide ((f j).tmod d = x))
def vi (j : Nat) : Value := .int .i64 (j : Int)
theorem Lr_succ (f : Nat → Int) (d : Int) (i : Nat) (x : Int) : Lr f d (i + 1) x = if x = (f i).tmod d then Lr f d i x ++ [i] else Lr f d i x := by
  unfold Lr
  rw [List.range_succ, List.filter_append]
  by_cases h : x = (f i).tmod d
  · subst h; simp [List.filter]
  · rw [if_neg h]
    have : decide ((f i).tmod d = x) = false := decide_eq_false (fun e => h e.symm)
    simp [List.filter, this]
theorem Lr_len (f : Nat → Int) (d : Int) (i : Nat) (x : Int) : (Lr f d i x).length ≤ i := by
  have := List.length_filter_le (fun j => decide ((f j).tmod d = x)) (List.range i)
  rw [List.length_range] at this
  exact this
theorem Lr_mem {f : Nat → Int} {d : Int} {i : Nat} {x : Int} {t : Nat} (h : t ∈ Lr f d i x) : t < i ∧ (f t).tmod d = x := by
  have := List.mem_filter.1 h
  exact ⟨List.mem_range.1 this.1, by simpa using this.2⟩
theorem Lr_at {f : Nat → Int} {d : Int} {i : Nat} {x : Int} {j t : Nat} (h : (Lr f d i x)[j]? = some t) : t < i ∧ (f t).tmod d = x := Lr_mem (List.mem_of_getElem? h)
theorem Lr_rise {f : Nat → Int} {d : Int} {i : Nat} {x : Int} {j t u : Nat} (h : (Lr f d i x)[j]? = some t) (h2 : (Lr f d i x)[j + 1]? = some u) : t < u := by
  have hp : (Lr f d i x).Pairwise (· < ·) := List.Pairwise.filter _ List.pairwise_lt_range
  obtain ⟨h3, rfl⟩ := List.getElem?_eq_some_iff.1 h
  obtain ⟨h4, rfl⟩ := List.getElem?_eq_some_iff.1 h2
  exact List.pairwise_iff_getElem.1 hp _ _ _ _ (Nat.lt_succ_self j)
/-- how many stand in lists below one -/
def below (f : Nat → Int) (d : Int) (n : Nat) (k : Int) : Nat := ((List.range n).filter (fun j => decide ((f j).tmod d < k))).length
theorem below_succ (f : Nat → Int) (d : Int) (n : Nat) (k : Int) : below f d n (k + 1) = below f d n k + (Lr f d n k).length := by
  unfold below Lr
  induction n with
  | zero => rfl
  | succ n ih =>
    rw [List.range_succ, List.filter_append, List.filter_append, List.filter_append, List.length_append, List.length_append, List.length_append, ih]
    have h : ([n].filter (fun j => decide ((f j).tmod d < k + 1))).length = ([n].filter (fun j => decide ((f j).tmod d < k))).length + ([n].filter (fun j => decide ((f j).tmod d = k))).length := by
      by_cases h1 : (f n).tmod d < k
      · have h2 : (f n).tmod d < k + 1 := by omega
        have h3 : ¬ (f n).tmod d = k := by omega
        simp [List.filter, h1, h2, h3]
      · by_cases h3 : (f n).tmod d = k
        · have h2 : decide ((f n).tmod d < k + 1) = true := decide_eq_true (by omega)
          have h1' : decide ((f n).tmod d < k) = false := decide_eq_false h1
          have h3' : decide ((f n).tmod d = k) = true := decide_eq_true h3
          simp only [List.filter, h1', h2, h3', List.length_cons, List.length_nil]
        · have h2 : ¬ (f n).tmod d < k + 1 := by omega
          simp [List.filter, h1, h2, h3]
    omega
theorem tmod_bd (a d : Int) (hd : 0 < d) : -d < a.tmod d ∧ a.tmod d < d := by
  refine ⟨?_, Int.tmod_lt_of_pos a hd⟩
  by_cases h0 : 0 ≤ a
  · have := Int.tmod_nonneg d h0; omega
  · have e : a.tmod d = -((-a).tmod d) := by rw [Int.neg_tmod]; omega
    have := Int.tmod_lt_of_pos (-a) hd
    omega
theorem below_start (f : Nat → Int) (d : Int) (n : Nat) (hd : 0 < d) : below f d n (-d) = 0 := by
  unfold below
  rw [List.length_eq_zero_iff, List.filter_eq_nil_iff]
  intro j _
  have := tmod_bd (f j) d hd
  simp; omega
theorem below_end (f : Nat → Int) (d : Int) (n : Nat) (hd : 0 < d) : below f d n d = n := by
  unfold below
  rw [List.filter_eq_self.2 (fun j _ => by have := tmod_bd (f j) d hd; simp; omega), List.length_range]
theorem below_le (f : Nat → Int) (d : Int) (n : Nat) (k : Int) : below f d n k ≤ n := by
  have := List.length_filter_le (fun j => decide ((f j).tmod d < k)) (List.range n)
  rw [List.length_range] at this
  exact this
/-- the lists, when those below k are empty and j of list k are gone -/
def Lkj (f : Nat → Int) (d : Int) (n : Nat) (k : Int) (j : Nat) : Int → List Value := fun y => if y < k then [] else if y = k then ((Lr f d n k).drop j).map vi else (Lr f d n y).map vi
def lastOf (f : Nat → Int) (d : Int) (n : Nat) (k : Int) (j : Nat) : Int := match j with | 0 => -1 | j + 1 => ((((Lr f d n k)[j]?).getD 0 : Nat) : Int)
theorem Lkj_at (f : Nat → Int) (d : Int) (n : Nat) (k : Int) (j : Nat) : Lkj f d n k j k = ((Lr f d n k).drop j).map vi := by unfold Lkj; simp
theorem Lkj_next (f : Nat → Int) (d : Int) (n : Nat) (k : Int) (j : Nat) (y : Int) : (if y = k then ((Lr f d n k).drop (j + 1)).map vi else Lkj f d n k j y) = Lkj f d n k (j + 1) y := by
  unfold Lkj
  by_cases h : y = k
  · subst h; simp
  · simp [h]
theorem Lkj_over (f : Nat → Int) (d : Int) (n : Nat) (k : Int) (j : Nat) (hj : (Lr f d n k).length ≤ j) (y : Int) : Lkj f d n k j y = Lkj f d n (k + 1) 0 y := by
  unfold Lkj
  by_cases h : y < k
  · rw [if_pos h, if_pos (by omega)]
  · by_cases h2 : y = k
    · subst h2
      rw [if_neg (by omega), if_pos rfl, if_pos (by omega), List.drop_eq_nil_of_le hj]; rfl
    · rw [if_neg h, if_neg h2, if_neg (by omega)]
      by_cases h3 : y = k + 1
      · rw [if_pos h3, h3]; rfl
      · rw [if_neg h3]
theorem Lkj_start (f : Nat → Int) (d : Int) (n : Nat) (hd : 0 < d) (y : Int) : (Lr f d n y).map vi = Lkj f d n (-d) 0 y := by
  unfold Lkj
  by_cases h : y < -d
  · rw [if_pos h]
    have : Lr f d n y = [] := by
      unfold Lr
      rw [List.filter_eq_nil_iff]
      intro j _
      have := tmod_bd (f j) d hd
      simp; omega
    rw [this]; rfl
  · rw [if_neg h]
    by_cases h2 : y = -d
    · rw [if_pos h2, h2]; rfl
    · rw [if_neg h2]
theorem wf_of {x : Int} (h1 : -9223372036854775808 ≤ x) (h2 : x ≤ 9223372036854775807) : (Lit.int .i64 x).wf = true := WalkArith.wf_i64 ⟨h1, h2⟩
set_option maxRecDepth 100000 in
set_option maxHeartbeats 4000000 in
theorem order_law (w : World) (a : Option Addr) (n cap : Nat) (f : Nat → Int) (hl : n ≤ 9223372036854775807) (hrow : Row w a n (fun j => .int .i64 (f j))) (hwf : ∀ j, j < n → (Lit.int .i64 (f j)).wf = true) (d : Int) (hdw : (Lit.int .i64 d).wf = true) :
    Calls Try.prog 3 #[.slice a n cap, .int .i64 d] w fun e W' => e = .returned (.bool true) ∧ Below w.heap.size w W' := by
  go_enter Try.func3, Try.ntmps3
  go_wp2_with fail
  refine (known_any _).mono ?_
  rintro e w1 ⟨rfl, b1⟩
  have hs1 := b1.size
  by_cases h1 : 300 < n
  · have p1 : decide (300 < (n : Int)) = true := decide_eq_true (by omega)
    go_wp2
    go_ret
    exact ⟨rfl, b1⟩
  have p1 : decide (300 < (n : Int)) = false := decide_eq_false (by omega)
  by_cases h2 : d < 1
  · have p2 : decide (d < 1) = true := decide_eq_true h2
    go_wp2
    go_ret
    exact ⟨rfl, b1⟩
  have p2 : decide (d < 1) = false := decide_eq_false h2
  by_cases h3 : 20 < d
  · have p3 : decide (20 < d) = true := decide_eq_true h3
    go_wp2
    go_ret
    exact ⟨rfl, b1⟩
  have p3 : decide (20 < d) = false := decide_eq_false h3
  have hd0 : 0 < d := by omega
  go_wp2_with fail
  refine (newI_yes _ 300 (by omega) (by omega)).mono ?_
  rintro e w2 ⟨rfl, hls, hw2⟩
  have b2 : Below w.heap.size w w2 := by rw [hw2]; exact (b1.alloc hs1 _).alloc (by simp; omega) _
  clear hw2
  go_wp2
  have HROW := Lib.hid hrow
  have HWF := Lib.hid hwf
  clear hrow hwf
  go_loopw [7] (fun i wr => ∃ i' : Nat, i' ≤ n ∧ i = .int .i64 i' ∧ LS 55 wr (w1.heap.size + 1) w1.heap.size 300 i' (fun x => (Lr f d i' x).map vi) ∧ Below w.heap.size w wr) (fun i _ => n - (intOf i).toNat)
  case atStart => exact ⟨0, by omega, rfl, hls.congr (fun x => rfl), b2⟩
  case round =>
    obtain ⟨i, hi, rfl, hI, hb⟩ := hrel
    clear hls b2
    by_cases hlt : i < n
    · have p0 : decide ((i : Int) < n) = true := decide_eq_true (by omega)
      rcases HROW.out.below hb with h0 | ⟨B, o, rfl, hB, hc⟩
      · omega
      have hci := hc i hlt
      dsimp only at hci
      have hbd := tmod_bd (f i) d hd0
      have hxok : iKE.ok ((f i).tmod d) := wf_of (by omega) (by omega)
      have hlen := Lr_len f d i ((f i).tmod d)
      have hpush := Lib.hid (pushI_room wr _ _ _ _ _ hI (by unfold maxLen; omega) (by omega) ((f i).tmod d) hxok (i : Int) (by rw [List.length_map]; omega))
      have hnext : ∀ x, (if x = (f i).tmod d then (Lr f d i ((f i).tmod d)).map vi ++ [.int .i64 (i : Int)] else (Lr f d i x).map vi) = (Lr f d (i + 1) x).map vi := fun x => by
        rw [Lr_succ]
        by_cases e : x = (f i).tmod d
        · rw [if_pos e, if_pos e, e, List.map_append]; rfl
        · rw [if_neg e, if_neg e]
      have HNX := Lib.hid hnext
      clear hc hnext
      go_wp2_with (go_at_call 8; refine hpush.out.mono ?_; rintro e w3 ⟨rfl, hI3, hg3⟩; have HI3 := Lib.hid hI3; have HG3 := Lib.hid hg3; clear hI3 hg3)
      go_roundw
      case rel => exact ⟨i + 1, by omega, by go_num, HI3.out.congr HNX.out, hb.grown HG3.out hb.size (fun j e => by have := Option.some.inj e; omega)⟩
      case measure => simp [intOf]; omega
    · obtain rfl : i = n := by omega
      have p0 : decide ((i : Int) < i) = false := decide_eq_false (by omega)
      have hst := below_start f d i hd0
      have hI0 := hI.congr (Lkj_start f d i hd0)
      have HST := Lib.hid hst
      have HI0 := Lib.hid hI0
      clear hst hI0 hI
      go_wp2
      obtain ⟨wo, rfl⟩ : ∃ wo : World, wo = wr := ⟨_, rfl⟩
      go_loopw [8, 9] (fun c kv wr => ∃ k : Int, -d ≤ k ∧ k ≤ d ∧ kv = .int .i64 k ∧ c = .int .i64 (below f d i k : Int) ∧ LS 55 wr (w1.heap.size + 1) w1.heap.size 300 (i + below f d i k) (Lkj f d i k 0) ∧ Below w.heap.size w wr) (fun _ kv _ => (d - intOf kv).toNat)
      case atStart => exact ⟨-d, by omega, by omega, rfl, by rw [HST.out]; rfl, by rw [HST.out]; exact HI0.out, hb⟩
      case round =>
        obtain ⟨k, hk1, hk2, rfl, rfl, hI, hb1⟩ := hrel
        have hble := below_le f d i k
        by_cases hkd : k < d
        · have pk : decide (k < d) = true := decide_eq_true hkd
          have hbs := below_succ f d i k
          have hble1 := below_le f d i (k + 1)
          have HBS := Lib.hid hbs
          have hokk : iKE.ok k := wf_of (by omega) (by omega)
          have HII := Lib.hid hI
          have hlt2 := Lr_len f d i k
          obtain ⟨bk, hbk⟩ : ∃ bk, below f d i k = bk := ⟨_, rfl⟩
          obtain ⟨ln, hln⟩ : ∃ ln, (Lr f d i k).length = ln := ⟨_, rfl⟩
          rw [hbk] at hble HII HBS
          rw [hln] at hlt2 HBS
          rw [hbk]
          have HBK := Lib.hid hbk
          have HLN := Lib.hid hln
          have hsum : bk + ln ≤ i := by rw [← HBS.out]; exact hble1
          clear hbs hI hbk hln hble1
          go_wp2
          obtain ⟨wo2, rfl⟩ : ∃ wo2 : World, wo2 = wr := ⟨_, rfl⟩
          go_loopw [8, 10] (fun c lv wr => ∃ j : Nat, j ≤ ln ∧ lv = .int .i64 (lastOf f d i k j) ∧ c = .int .i64 ((bk + j : Nat) : Int) ∧ LS 55 wr (w1.heap.size + 1) w1.heap.size 300 (i + bk + j) (Lkj f d i k j) ∧ Below w.heap.size w wr) (fun c _ _ => bk + ln - (intOf c).toNat)
          case atStart => exact ⟨0, by omega, rfl, rfl, HII.out, hb1⟩
          case round =>
            obtain ⟨j, hj, rfl, rfl, hI, hb2⟩ := hrel
            have hLat := Lkj_at f d i k j
            have hlen := Lib.hid (lenI_any wr _ _ _ _ _ hI k hokk)
            have hLen : (Lkj f d i k j k).length = ln - j := by rw [hLat, List.length_map, List.length_drop, HLN.out]
            rw [hLen] at hlen
            by_cases hjl : j < ln
            · obtain ⟨t, ht⟩ : ∃ t, (Lr f d i k)[j]? = some t := ⟨_, List.getElem?_eq_getElem (by rw [HLN.out]; exact hjl)⟩
              obtain ⟨ht1, ht2⟩ := Lr_at ht
              have hpop := Lib.hid (popI_some wr _ _ _ _ _ hI (by unfold maxLen; omega) k hokk (.int .i64 (t : Int)) (((Lr f d i k).drop (j + 1)).map vi) (by
                rw [hLat, List.drop_eq_getElem?_toList_append, ht]; rfl) (by rw [List.length_map, List.length_drop, HLN.out]; omega))
              have hlast : lastOf f d i k j < (t : Int) := by
                cases j with
                | zero => show (-1 : Int) < t; omega
                | succ j' =>
                  obtain ⟨u, hu⟩ : ∃ u, (Lr f d i k)[j']? = some u := ⟨_, List.getElem?_eq_getElem (by rw [HLN.out]; omega)⟩
                  have := Lr_rise hu ht
                  show ((((Lr f d i k)[j']?).getD 0 : Nat) : Int) < t
                  rw [hu]
                  show (u : Int) < t
                  omega
              have hlast2 : lastOf f d i k (j + 1) = (t : Int) := by
                show ((((Lr f d i k)[j]?).getD 0 : Nat) : Int) = t
                rw [ht]; rfl
              have HL2 := Lib.hid hlast2
              obtain ⟨la, hla⟩ : ∃ la, lastOf f d i k j = la := ⟨_, rfl⟩
              rw [hla] at hlast ⊢
              have p4 : decide ((t : Int) ≤ la) = false := decide_eq_false (by omega)
              have p5 : decide (0 < ((ln - j : Nat) : Int)) = true := decide_eq_true (by omega)
              have p6 : (((f t).tmod d) != k) = false := by rw [ht2]; simp
              have hsum2 : ((bk + j : Nat) : Int) ≤ 1000 := by omega
              have HNX := Lib.hid (Lkj_next f d i k j)
              rcases HROW.out with h0 | ⟨B, o, rfl, hB, hcr⟩
              · omega
              have hct := Lib.hid (hcr t ht1)
              clear hI hLat hLen ht ht2 hla hlast hlast2 hcr
              go_wp2_with (first | (go_at_call 9; refine hlen.out.mono ?_; rintro e w' ⟨rfl, rfl⟩) | (go_at_call 10; refine hpop.out.mono ?_; rintro e w4 ⟨rfl, hI4, hg4⟩; have HI4 := Lib.hid hI4; have hb4 := hb2.grown hg4 hb2.size (fun j e => Nat.le_trans hs1 (Nat.le_of_eq (Option.some.inj e))); have c4 := (hb4.cell (p := ⟨B, o + t, none⟩) hB).trans hct.out; clear hI4 hg4))
              go_roundw
              case rel => exact ⟨j + 1, by omega, by rw [HL2.out], by go_num, HI4.out.congr HNX.out, hb4⟩
              case measure => simp [intOf]; omega
            · obtain rfl : j = ln := by omega
              have p5 : decide (0 < ((j - j : Nat) : Int)) = false := decide_eq_false (by omega)
              have HOV := Lib.hid (hI.congr (Lkj_over f d i k j (by rw [HLN.out]; omega)))
              clear hI hLat hLen
              go_wp2_with (go_at_call 9; refine hlen.out.mono ?_; rintro e w' ⟨rfl, rfl⟩)
              go_roundw
              case rel => exact ⟨k + 1, by omega, by omega, rfl, by rw [HBS.out]; push_cast; rfl, by rw [HBS.out, ← Nat.add_assoc]; exact HOV.out, hb2⟩
              case measure => simp [intOf]; omega
        · obtain rfl : k = d := by omega
          have pk : decide (k < k) = false := decide_eq_false (by omega)
          have hend := below_end f k i hd0
          have pe : ((below f k i k : Int) == (i : Int)) = true := by rw [hend]; simp
          clear hend
          go_wp2
          go_ret
          exact ⟨rfl, hb1⟩
end Go.Proofs.Ytklfppjejndclaa
