/- The walk of FenceRises. -/
import Derived.Test.YtfdipgnlafhlbaaC
import Derived.LoopTactic
import Derived.Deep.LoopGhost
import Derived.Deep.DeepCutAuto
set_option linter.unusedVariables false
namespace Go.Proofs.Ytfdipgnlafhlbaa
open Go.RowKit
/-- a slice of integers that came in: nil, or a row of cells -/
def IsRow (k : IntKind) (w : World) (a : Option Addr) (len cap : Nat) (zs : List Int) : Prop :=
  (a = none ∧ len = 0 ∧ cap = 0 ∧ zs = []) ∨
  ∃ x, a = some x ∧ len ≤ cap ∧ cap ≤ maxLen ∧ zs.length = cap ∧ (∀ i, i < zs.length → w.cell? (x.add i) = some (.int k (zs.getD i 0))) ∧ ∀ n ∈ zs, (Lit.int k n).wf = true
/-- it is empty, or its elements lie at an address -/
def Ints (k : IntKind) (w : World) (b off len : Nat) (z : Nat → Int) : Prop := b < w.heap.size ∧ ∀ i, i < len → w.cell? ⟨b, off + i, none⟩ = some (.int k (z i)) ∧ (Lit.int k (z i)).wf = true
theorem IsRow.flat {k : IntKind} {w : World} {a : Option Addr} {len cap : Nat} {zs : List Int} (h : IsRow k w a len cap zs) :
    len ≤ 9223372036854775807 ∧ (len = 0 ∨ (0 < len ∧ ∃ b off z, a = some ⟨b, off, none⟩ ∧ Ints k w b off len z)) := by
  rcases h with ⟨rfl, rfl, rfl, rfl⟩ | ⟨x, rfl, hl, hm, hz, hc, hw⟩
  · exact ⟨by omega, .inl rfl⟩
  · unfold maxLen at hm
    refine ⟨by omega, ?_⟩
    by_cases h0 : len = 0
    · exact .inl h0
    · right
      obtain ⟨b, off, rfl, hc'⟩ := ints_at hc (by omega)
      refine ⟨by omega, b, off, fun i => zs.getD i 0, rfl, ?_, fun i hi => ⟨hc' i (by omega), ?_⟩⟩
      · have := hc' 0 (by omega)
        exact World.block_lt_of_cell? _ _ this
      · refine hw _ ?_
        show zs.getD i 0 ∈ zs
        rw [List.getD_eq_getElem?_getD, List.getElem?_eq_getElem (by omega)]
        exact List.getElem_mem _
/-- what Acquire answers, in the two cases that the law tells apart -/
theorem acq_two (R ow s : Int) : (s = R ∧ (acqF R ow s).2.2 = 0 ∧ (acqF R ow s).1 = R + 1 ∧ (acqF R ow s).2.1 = ow) ∨ (¬ (acqF R ow s).2.2 = 0 ∧ (acqF R ow s).1 = 0 ∧ (acqF R ow s).2.1 = 0) := by
  unfold acqF
  split
  · right; simp
  · split
    · left; simp_all
    · right; simp
theorem chk_same (R : Int) (h : ¬ R = 0) : chkF R R = 0 := by unfold chkF; rw [if_pos ⟨rfl, h⟩]
theorem chk_less (R : Int) : chkF (R + 1) R = 25 := by unfold chkF; rw [if_neg (by omega)]
def Bx2 (w : World) (B : Nat) (a b : Int) : Prop := At2 w B a b ∧ ∀ o, w.frozen? ⟨B, o, none⟩ = false
theorem Bx2.next {w w' : World} {B : Nat} {a b : Int} (h : Bx2 w B a b) (hb : Below w.heap.size w w') : Bx2 w' B a b :=
  ⟨h.1.next hb, fun o => (hb.frozen (p := ⟨B, o, none⟩) h.1.1).trans (h.2 o)⟩
theorem Bx2.new (w : World) (a b : Int) (T : Nat) : Bx2 (w.alloc (.cells #[.int .i64 a, .int .i64 b] T)) w.heap.size a b :=
  ⟨At2.new w a b T, fun o => by simp [go_sem]⟩
theorem rSum {k n : Nat} {zk : Int} (h : (Lit.int .i64 zk).wf = true) : -2 ≤ zk.tmod 3 ∧ zk.tmod 3 ≤ 2 := by
  have := Int.tmod_lt_of_pos zk (b := 3) (by decide)
  have h2 : -3 < zk.tmod 3 := by
    by_cases h0 : 0 ≤ zk
    · have := Int.tmod_nonneg 3 h0; omega
    · have e : zk.tmod 3 = -((-zk).tmod 3) := by rw [Int.neg_tmod]; omega
      have := Int.tmod_lt_of_pos (-zk) (b := 3) (by decide)
      omega
  omega
theorem rKeep {W w' w'' : World} {B b x : Nat} {R O ow : Int} {X : Prop} (h : At2 W B R O) (hb : b < W.heap.size) (hc : W.cell? ⟨b, x, none⟩ = some (.int .i64 ow)) (hbb : Below w'.heap.size w' w'') (hx : Below W.heap.size W w' ∧ X) :
    Below W.heap.size W w'' ∧ w''.cell? ⟨B, 0, none⟩ = some (.int .i64 R) ∧ w''.cell? ⟨B, 1, none⟩ = some (.int .i64 O) ∧ w''.cell? ⟨b, x, none⟩ = some (.int .i64 ow) := by
  have H := hx.1.trans (hbb.mono hx.1.size)
  obtain ⟨_, h1, h2⟩ := h.below H h.1
  exact ⟨H, h1, h2, (H.cell (p := ⟨b, x, none⟩) hb).trans hc⟩
theorem rKeep2 {W w'' : World} {B B8 b x : Nat} {R O ow a v : Int} (h : At2 W B R O) (h8 : At2 W B8 a v) (hb : b < W.heap.size) (hc : W.cell? ⟨b, x, none⟩ = some (.int .i64 ow)) (H : Below W.heap.size W w'') :
    Below W.heap.size W w'' ∧ w''.cell? ⟨B, 0, none⟩ = some (.int .i64 R) ∧ w''.cell? ⟨B, 1, none⟩ = some (.int .i64 O) ∧ w''.cell? ⟨B8, 0, none⟩ = some (.int .i64 a) ∧ w''.cell? ⟨B8, 1, none⟩ = some (.int .i64 v) ∧ w''.cell? ⟨b, x, none⟩ = some (.int .i64 ow) := by
  obtain ⟨_, h1, h2⟩ := h.below H h.1
  obtain ⟨_, h3, h4⟩ := h8.below H h8.1
  exact ⟨H, h1, h2, h3, h4, (H.cell (p := ⟨b, x, none⟩) hb).trans hc⟩
theorem acqn_as (R O owner seen a b c : Int) (h : Hid (acqF R owner seen = (a, b, c))) (h0 : R ≤ 9223372036854775807) (w : World) :
    Calls Try.prog 8 #[.agg #[.int .i64 R, .int .i64 O], .int .i64 owner, .int .i64 seen] w fun e w' => e = .returned (.tuple #[.agg #[.int .i64 a, .int .i64 b], .int .i64 c]) ∧ ∃ o1 o2, w' = (w.alloc o1).alloc o2 := by
  have := acq_new R O owner seen w h0; rw [h.out] at this; exact this
theorem Bx2.grow {w w' : World} {B N : Nat} {a b : Int} (h : Bx2 w B a b) (hb : Below N w w') (hN : B < N) : Bx2 w' B a b :=
  ⟨h.1.below hb hN, fun o => (hb.frozen (p := ⟨B, o, none⟩) hN).trans (h.2 o)⟩
theorem Bx2.drew {w : World} {B : Nat} {a b : Int} (h : Bx2 w B a b) : Bx2 w.drew B a b := h.grow ((Below.refl w.heap.size w).drew) h.1.1
theorem Bx2.alloc {w : World} {B : Nat} {a b : Int} (h : Bx2 w B a b) (o : Obj) : Bx2 (w.alloc o) B a b := h.grow ((Below.refl w.heap.size w).alloc (Nat.le_refl _) _) h.1.1
theorem Bx2.set {w : World} {B : Nat} {a b : Int} (h : Bx2 w B a b) (x y : Int) : Bx2 ((w.setCell ⟨B, 0, none⟩ (.int .i64 x)).setCell ⟨B, 1, none⟩ (.int .i64 y)) B x y := by
  obtain ⟨⟨h0, h1, h2⟩, h3⟩ := h
  refine ⟨⟨by simpa using h0, ?_, ?_⟩, fun o => by simp [go_sem, h3]⟩
  · simp [go_sem, h1]
  · simp [go_sem, h2]
/-- what lies behind the statement g, e := f.Acquire(..) -/
def Got (w : World) (N B5 : Nat) (R O ow s : Int) (s8 s9 : Value) (wx : World) : Prop :=
  ∃ (B8 : Nat) (a v c : Int), s8 = .pointer (some ⟨B8, 0, none⟩) ∧ s9 = .int .i64 c ∧ Bx2 wx B8 a v ∧ Bx2 wx B5 R O ∧ B5 < B8 ∧ Below N w wx ∧ ((R = s ∧ c = 0 ∧ a = R + 1 ∧ v = ow) ∨ (¬ c = 0 ∧ a = 0 ∧ v = 0))
set_option maxRecDepth 100000 in
set_option maxHeartbeats 2000000 in
theorem rises_core (b off n : Nat) (z : Nat → Int) (cap : Nat) (sa : Option Addr) (sb so m : Nat) (sz : Nat → Int) (scap : Nat) (w : World) (hn : n ≤ 250) (hm : m ≤ 250) (hz : Ints .i64 w b off n z) 
    (hs : m = 0 ∨ sa = some ⟨sb, so, none⟩) (hsz : m = 0 ∨ Ints .i64 w sb so m sz) :
    Calls Try.prog 3 #[.slice (some ⟨b, off, none⟩) n cap, .slice sa m scap] w fun e w' => e = .returned (.bool true) ∧ Below w.heap.size w w' := by
  go_enter Try.func3, Try.ntmps3
  go_wp2_with (go_at_call 7; refine (known_any _).mono ?_; rintro e' w1 ⟨rfl, hb1⟩)
  have B0 : Bx2 (w1.alloc (.cells #[.int .i64 0, .int .i64 0] 25)) w1.heap.size 0 0 := Bx2.new _ _ _ _
  have p0 : Below w.heap.size w (w1.alloc (.cells #[.int .i64 0, .int .i64 0] 25)) := bAl hb1 (Nat.le_refl _) _
  have z1 : w.heap.size ≤ w1.heap.size := hb1.size
  clear hb1
  go_loopg [6] n (fun g i wr => ∃ (k : Nat) (R O : Int), k + g = n ∧ i = .int .i64 k ∧ Bx2 wr w1.heap.size R O ∧ 0 ≤ R ∧ R ≤ k ∧ Below w.heap.size w wr)
  case atStart => exact ⟨0, 0, 0, by omega, rfl, B0, by omega, by omega, p0⟩
  case round =>
    obtain ⟨k, R, O, hk, rfl, hB, hR0, hRk, hb⟩ := hrel
    have hkn : k ≤ n := by omega
    have Hk := Lib.hid hk
    clear hk
    by_cases hlt : k < n
    · obtain ⟨⟨n5, c50, c51⟩, f5⟩ := hB
      have hbz : b < wr.heap.size := Nat.lt_of_lt_of_le hz.1 hb.size
      have hcell : wr.cell? ⟨b, off + k, none⟩ = some (.int .i64 (z k)) := (hb.cell (p := ⟨b, off + k, none⟩) hz.1).trans (hz.2 k hlt).1
      go_upto_if 31 with (fail)
      go_cut [7] (fun s7 wx => ∃ s : Int, s7 = .int .i64 s ∧ R - 2 ≤ s ∧ s ≤ R + 2 ∧ wr = wx)
      case first =>
        by_cases hkm : k < m
        · have hsa : sa = some ⟨sb, so, none⟩ := by rcases hs with h | h; omega; exact h
          have hsI : Ints .i64 w sb so m sz := by rcases hsz with h | h; omega; exact h
          have hcell2 : wr.cell? ⟨sb, so + k, none⟩ = some (.int .i64 (sz k)) := (hb.cell (p := ⟨sb, so + k, none⟩) hsI.1).trans (hsI.2 k hkm).1
          obtain ⟨t1, t2⟩ := rSum (k := k) (n := n) (hsI.2 k hkm).2
          go_wp2
          go_meet
          exact ⟨_, rfl, by omega, by omega, rfl⟩
        · go_wp2
          go_meet
          exact ⟨_, rfl, by omega, by omega, rfl⟩
      case rest =>
        obtain ⟨s, rfl, s1, s2, rfl⟩ := hcut
        go_upto_region 12 with (fail)
        go_cut [8, 9] (fun s8 s9 wx => Got w w.heap.size w1.heap.size R O (z k) s s8 s9 wx)
        case first =>
          have hA : At2 wr w1.heap.size R O := ⟨n5, c50, c51⟩
          obtain ⟨⟨a, v, c⟩, hacq⟩ : ∃ x, x = acqF R (z k) s := ⟨_, rfl⟩
          have hcase : (R = s ∧ c = 0 ∧ a = R + 1 ∧ v = z k) ∨ (¬ c = 0 ∧ a = 0 ∧ v = 0) := by
            have := acq_two R (z k) s; rw [← hacq] at this; exact this.imp (fun h => ⟨h.1.symm, h.2⟩) id
          have HC := Lib.hid hcase
          have ha := Lib.hid hacq.symm
          clear hcase hacq
          have hl : w1.heap.size < wr.heap.size := n5
          go_region_held3 (fun w' => Below wr.heap.size wr w' ∧ w'.cell? ⟨w1.heap.size, 0, none⟩ = some (.int .i64 R) ∧ w'.cell? ⟨w1.heap.size, 1, none⟩ = some (.int .i64 O) ∧ w'.cell? ⟨b, off + k, none⟩ = some (.int .i64 (z k)))
            (exact rKeep hA hbz hcell (by go_grown) ⟨Below.refl wr.heap.size wr, trivial⟩)
            (first | (go_at_call 8; refine (acqn_as R O (z k) s _ _ _ ha (by omega) _).mono ?_; rintro e w' ⟨rfl, o1, o2, rfl⟩))
          all_goals go_wp2_with fail
          all_goals go_meet
          · exact ⟨_, a, v, c, rfl, rfl, by simpa using (Bx2.new ((wr.alloc o1).alloc o2) a v 25).drew, ((((show Bx2 wr w1.heap.size R O from ⟨hA, f5⟩).alloc o1).alloc o2).alloc _).drew, by omega, (bAl (bAl (bAl hb (Nat.le_refl _) o1) (Nat.le_refl _) o2) (Nat.le_refl _) _).drew, HC.out⟩
          · exact ⟨_, a, v, c, rfl, rfl, (((Bx2.new wr a v 25).alloc o1).alloc o2).drew, ((((show Bx2 wr w1.heap.size R O from ⟨hA, f5⟩).alloc _).alloc o1).alloc o2).drew, by omega, (bAl (bAl (bAl hb (Nat.le_refl _) _) (Nat.le_refl _) o1) (Nat.le_refl _) o2).drew, HC.out⟩
        case rest =>
          obtain ⟨B8, a, v, c, rfl, rfl, h8, h5, h58, hbx, hcase⟩ := hcut
          have HB5 := Lib.hid h5
          obtain ⟨⟨m5, d50, d51⟩, g5⟩ := h5
          obtain ⟨⟨m8, d80, d81⟩, g8⟩ := h8
          rcases hcase with ⟨rfl, rfl, rfl, rfl⟩ | ⟨hc, rfl, rfl⟩
          · have q1 : chkF (R + 1) R = 25 := chk_less R
            have q2 : chkF (R + 1) (R + 1) = 0 := chk_same (R + 1) (by omega)
            have q3 : (R + 1 == 0) = false := beq_eq_false_iff_ne.2 (by omega)
            have hcell' : wc.cell? ⟨b, off + k, none⟩ = some (.int .i64 (z k)) := (hbx.cell (p := ⟨b, off + k, none⟩) hz.1).trans (hz.2 k hlt).1
            go_upto_region 14 with (fail)
            have hA : At2 wc w1.heap.size R O := ⟨m5, d50, d51⟩
            have h8' : At2 wc B8 (R + 1) (z k) := ⟨m8, d80, d81⟩
            have w1' : IntKind.i64.wrap (R + 1) = R + 1 := IntWalk.i64_in _ (by omega)
            have g1' : (R != R) = false := by simp
            have g2' : (R + 1 != R + 1) = false := by simp
            have g3' : (z k != z k) = false := by simp
            have hbz' : b < wc.heap.size := Nat.lt_of_lt_of_le hz.1 hbx.size
            go_region_held3 (fun w' => Below wc.heap.size wc w' ∧ w'.cell? ⟨w1.heap.size, 0, none⟩ = some (.int .i64 R) ∧ w'.cell? ⟨w1.heap.size, 1, none⟩ = some (.int .i64 O) ∧ w'.cell? ⟨B8, 0, none⟩ = some (.int .i64 (R + 1)) ∧ w'.cell? ⟨B8, 1, none⟩ = some (.int .i64 (z k)) ∧ w'.cell? ⟨b, off + k, none⟩ = some (.int .i64 (z k)))
              (exact rKeep2 hA h8' hbz' hcell' (by go_grown))
              (first | (go_at_call 9; refine (chk_new _ _ _ _).mono ?_; rintro e w' ⟨rfl, o1, rfl⟩))
            all_goals go_wp2
            go_roundg (gk - 1)
            case measure => have := Hk.out; omega
            case rel =>
              have := Hk.out
              refine ⟨k + 1, R + 1, z k, by omega, by go_num, ?_, by omega, by omega, ?_⟩
              · exact (((HB5.out.set _ _).alloc _).alloc _).drew
              · exact (((((hbx.setCell (p := ⟨w1.heap.size, 0, none⟩) z1 _).setCell (p := ⟨w1.heap.size, 1, none⟩) z1 _).alloc (by have := hbx.size; simp; omega) _).alloc (by have := hbx.size; simp; omega) _)).drew
          · have hc' : (c == 0) = false := beq_eq_false_iff_ne.2 hc
            clear hc
            go_wp2
            go_roundg (gk - 1)
            case measure => have := Hk.out; omega
            case rel => have := Hk.out; exact ⟨k + 1, R, O, by omega, by go_num, HB5.out, hR0, by omega, hbx⟩
    · obtain ⟨⟨n5, c50, c51⟩, f5⟩ := hB
      have hRn : R ≤ (n : Int) := by omega
      go_wp2
      go_ret
      exact ⟨rfl, hb⟩
theorem rises_none (ao : Option Addr) (cap : Nat) (sa : Option Addr) (m scap : Nat) (hm : m ≤ 9223372036854775807) (w : World) :
    Calls Try.prog 3 #[.slice ao 0 cap, .slice sa m scap] w fun e w' => e = .returned (.bool true) ∧ Below w.heap.size w w' := by
  by_cases h : m ≤ 250
  · go_enter Try.func3, Try.ntmps3
    go_wp2_with (go_at_call 7; refine (known_any _).mono ?_; rintro e' w1 ⟨rfl, hb1⟩)
    go_loopw [6] (fun i wr => i = .int .i64 0 ∧ wr = (w1.alloc (.cells #[.int .i64 0, .int .i64 0] 25))) (fun _ _ => 0)
    case atStart => exact ⟨rfl, rfl⟩
    case round =>
      obtain ⟨rfl, rfl⟩ := hrel
      go_wp2
      go_ret
      exact ⟨rfl, bAl hb1 (Nat.le_refl _) _⟩
  · go_enter Try.func3, Try.ntmps3
    go_wp2_with (go_at_call 7; refine (known_any _).mono ?_; rintro e' w1 ⟨rfl, hb1⟩)
    go_ret
    exact ⟨rfl, hb1⟩
theorem rises_long (ao : Option Addr) (n cap : Nat) (sa : Option Addr) (m scap : Nat) (hn : n ≤ 9223372036854775807) (hm : m ≤ 9223372036854775807) (h : 250 < n ∨ n ≤ 250 ∧ 250 < m) (w : World) :
    Calls Try.prog 3 #[.slice ao n cap, .slice sa m scap] w fun e w' => e = .returned (.bool true) ∧ Below w.heap.size w w' := by
  rcases h with h | ⟨h1, h⟩
  all_goals
    go_enter Try.func3, Try.ntmps3
    go_wp2_with (go_at_call 7; refine (known_any _).mono ?_; rintro e' w1 ⟨rfl, hb1⟩)
    go_ret
    exact ⟨rfl, hb1⟩
theorem rises (w : World) (a0 : Option Addr) (n cap : Nat) (z0 : List Int) (h0 : IsRow .i64 w a0 n cap z0) (a1 : Option Addr) (m scap : Nat) (z1 : List Int) (h1 : IsRow .i64 w a1 m scap z1) :
    Calls Try.prog 3 #[.slice a0 n cap, .slice a1 m scap] w fun e w' => e = .returned (.bool true) ∧ Below w.heap.size w w' := by
  obtain ⟨hn, h0⟩ := h0.flat
  obtain ⟨hm, h1⟩ := h1.flat
  rcases h0 with rfl | ⟨hp, b, off, z, rfl, hz⟩
  · exact rises_none a0 cap a1 m scap hm w
  · by_cases hl : 250 < n ∨ n ≤ 250 ∧ 250 < m
    · exact rises_long _ n cap _ m scap hn hm hl w
    · rcases h1 with rfl | ⟨hq, sb, so, sz, rfl, hsz⟩
      · exact rises_core b off n z cap a1 0 0 0 (fun _ => 0) scap w (by omega) (by omega) hz (.inl rfl) (.inl rfl)
      · exact rises_core b off n z cap _ sb so m sz scap w (by omega) (by omega) hz (.inr rfl) (.inr hsz)
end Go.Proofs.Ytfdipgnlafhlbaa
