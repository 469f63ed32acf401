/- A builder: add. -/
import Derived.Test.YtookojfigjdgcaaDoorS
import Derived.Test.YtookojfigjdgcaaDoorR
import Derived.Deep.RegionHeld3
set_option linter.unusedVariables false
set_option linter.unusedSimpArgs false
namespace Go.Proofs.YtookojfigjdgcaaDoor
open Go.RowKit
/-- a builder in block bb: of what, and what is there yet -/
def BS (W : World) (B bb : Nat) (id total sum : Int) (bs : List UInt8) : Prop := ∃ v, Blk W bb 76 #[.int .i64 id, .int .i64 0, .int .i64 total, .int .u32 sum, v] ∧ OwnY W B v bs
theorem BS.fr0 {W W2 : World} {B bb : Nat} {id total sum : Int} {bs : List UInt8} (h : BS W B bb id total sum bs) (hf : Fr (fun _ => False) W W2) : BS W2 B bb id total sum bs := by
  obtain ⟨v, h1, h2⟩ := h
  exact ⟨v, h1.fr hf (fun e => e), h2.fr hf (fun _ _ e => e)⟩
theorem RowY.mapDrop {W : World} {ao : Option Addr} {xs : List UInt8} (h : RowY W ao xs) (k : Nat) : RowY W (Option.map (fun x : Addr => x.add k) ao) (xs.drop k) := by
  rcases h with h | ⟨b, o, rfl, hb, hc⟩
  · exact .inl (by rw [h]; simp)
  · have := RowY.drop (.inr ⟨b, o, rfl, hb, hc⟩ : RowY W (some ⟨b, o, none⟩) xs) k
    rw [← off_add] at this
    exact this
theorem RowY.keep_set {W W2 : World} {ao : Option Addr} {xs : List UInt8} (h : RowY W ao xs) {bb : Nat} {i0 i1 i2 i3 : Int} {o4 : Option Addr} {n4 c4 : Nat} (hb : Blk W bb 76 #[.int .i64 i0, .int .i64 i1, .int .i64 i2, .int .u32 i3, .slice o4 n4 c4]) (hf : Fr (fun k => k = bb) W W2) : RowY W2 ao xs := by
  by_cases hx : xs = []
  · exact .inl hx
  refine h.fr hf (fun a ha e => ?_)
  obtain ⟨x, hx0⟩ : ∃ x, xs[0]? = some x := by
    cases xs with
    | nil => exact absurd rfl hx
    | cons x _ => exact ⟨x, rfl⟩
  obtain ⟨b, o, rfl, hc⟩ := h.at_ hx0
  cases ha
  have e' : b = bb := e
  subst e'
  rw [hb.cell, Nat.add_zero] at hc
  match o, hc with
  | 0, hc => simp at hc
  | 1, hc => simp at hc
  | 2, hc => simp at hc
  | 3, hc => simp at hc
  | 4, hc => simp at hc
  | k + 5, hc => simp at hc
theorem RowY_own {W : World} {B n c : Nat} {ao : Option Addr} {xs : List UInt8} (h : OwnY W B (.slice ao n c) xs) : RowY W ao xs := by
  obtain ⟨a, c2, e, _, _, hr, _⟩ := h.row
  cases e
  exact hr
/-- the number that a piece is answered with -/
def addE (id total sum : Int) (n : Nat) (pid pat ptot psum : Int) (dl : Nat) : Int :=
  if pat < 0 ∨ ptot < 0 ∨ 1048576 < ptot ∨ ptot < pat ∨ ptot - pat < dl ∨ (dl = 0 ∧ ptot ≠ 0) ∨ pid < 0 then 1
  else if pid < id then 6
  else if pid = id ∧ (ptot ≠ total ∨ psum ≠ sum) then 8
  else if (if id < pid then 0 else (n : Int)) < pat then 6 else 0
def addB (id : Int) (bs : List UInt8) (pid pat : Int) (l : List UInt8) : List UInt8 :=
  let b0 := if id < pid then [] else bs
  if (b0.length : Int) < pat + l.length then b0 ++ l.drop (b0.length - pat.toNat) else b0
def fresh (id pid a b : Int) : Int := if id < pid then a else b
set_option maxRecDepth 100000 in
set_option maxHeartbeats 8000000 in
theorem add_any (W : World) (B bb : Nat) (id total sum : Int) (bs l : List UInt8) (h : BS W B bb id total sum bs) (hB : B ≤ W.heap.size) (pid pat ptot psum : Int) (ao : Option Addr) (dl cp : Nat) (hl : RowY W ao l) (hd : l.length = dl) (hdl : dl ≤ 1000000) (hcp : dl ≤ cp) (hcm : cp ≤ 9223372036854775807) (hbs : bs.length ≤ 1048576) :
    Calls Tryd.prog 30 #[.pointer (some ⟨bb, 0, none⟩), .agg #[.int .i64 pid, .int .i64 pat, .int .i64 ptot, .int .u32 psum, .slice ao dl cp]] W fun r W' => r = .returned (.int .i64 (addE id total sum bs.length pid pat ptot psum dl)) ∧ Fr (fun k => k = bb) W W' ∧
      (addE id total sum bs.length pid pat ptot psum dl ≠ 0 → BS W' B bb id total sum bs) ∧
      (addE id total sum bs.length pid pat ptot psum dl = 0 → BS W' B bb (fresh id pid pid id) (fresh id pid ptot total) (fresh id pid psum sum) (addB id bs pid pat l)) := by
  obtain ⟨v, hb, ho⟩ := h
  obtain ⟨bo, bc, rfl, hnc, hcx, hrow, _⟩ := ho.row
  obtain ⟨n, hn⟩ : ∃ n, bs.length = n := ⟨_, rfl⟩
  rw [hn] at hb ho hnc hbs ⊢
  have hp := Blk.new W 36 #[.int .i64 pid, .int .i64 pat, .int .i64 ptot, .int .u32 psum, .slice ao dl cp]
  have hf : Fr (fun _ => False) W (W.alloc (.cells #[.int .i64 pid, .int .i64 pat, .int .i64 ptot, .int .u32 psum, .slice ao dl cp] 36)) := Fr.alloc _ _ _
  obtain ⟨w1, hw1⟩ : ∃ w, W.alloc (.cells #[.int .i64 pid, .int .i64 pat, .int .i64 ptot, .int .u32 psum, .slice ao dl cp] 36) = w := ⟨_, rfl⟩
  obtain ⟨g, hg⟩ : ∃ g, W.heap.size = g := ⟨_, rfl⟩
  rw [hw1] at hp hf
  rw [hg] at hp
  have HP := Lib.hid hp
  have HLT : Hid (bb < g) := Lib.hid (by rw [← hg]; exact hb.lt)
  have HBK := Lib.hid (hb.fr hf (fun e => e))
  have HO := Lib.hid (ho.fr hf (fun _ _ e => e))
  have HF := Lib.hid hf
  have HL := Lib.hid (hl.fr0 hf)
  have HN := Lib.hid hn
  have HD := Lib.hid hd
  have HG := Lib.hid hg
  have HC := Lib.hid (And.intro hdl (And.intro hcp (And.intro hcm (And.intro hbs hnc))))
  have HBW := Lib.hid hB
  have b0 := HBK.out.cell 0
  have b2 := HBK.out.cell 2
  have b3 := HBK.out.cell 3
  have b4 := HBK.out.cell 4
  have s0 := hp.cell 0
  have s1 := hp.cell 1
  have s2 := hp.cell 2
  have s3 := hp.cell 3
  have s4 := hp.cell 4
  simp only [List.getElem?_toArray, List.getElem?_cons_zero, List.getElem?_cons_succ] at b0 b2 b3 b4 s0 s1 s2 s3 s4
  have HKEEP : Hid (∀ w2, Fr (fun _ => False) w1 w2 → Fr (fun k => k = bb) W w2 ∧ BS w2 B bb id total sum bs) := Lib.hid (fun w2 hw => ⟨(hf.trans hw).mono fun _ e => e.elim, ⟨_, HBK.out.fr hw (fun e => e), by have := HO.out.fr hw (fun _ _ e => e); exact this⟩⟩)
  clear hb ho hnc hcx hrow hn hp hf hl hd hdl hcp hcm hbs hB
  have fc : decide (id < pid) = decide (id < pid) := rfl
  by_cases f1h : pat < 0
  · have f1 : decide (pat < 0) = true := decide_eq_true (by omega)
    by_cases hgt : id < pid
    all_goals
      first | (have fg : decide (id < pid) = true := decide_eq_true hgt) | (have fg : decide (id < pid) = false := decide_eq_false hgt)
      go_enter Tryd.func30, Tryd.ntmps30
      go_upto_region 2 with (fail)
      try rw [hw1]
      try rw [hg]
      go_quiet (fail)
      go_wp2
      go_ret
      have HADD : addE id total sum n pid pat ptot psum dl = 1 := by
        unfold addE; rw [if_pos (by omega)]
      rw [HADD]
      exact ⟨rfl, (HKEEP.out _ (by first | exact Fr.drewN _ _ _ | exact (Fr.drewN _ _ _).trans (Fr.drewN _ _ _) | exact ((Fr.drewN _ _ _).trans (Fr.drewN _ _ _)).trans (Fr.drewN _ _ _))).1, fun _ => (HKEEP.out _ (by first | exact Fr.drewN _ _ _ | exact (Fr.drewN _ _ _).trans (Fr.drewN _ _ _) | exact ((Fr.drewN _ _ _).trans (Fr.drewN _ _ _)).trans (Fr.drewN _ _ _))).2, fun h => absurd h (by decide)⟩
  have f1 : decide (pat < 0) = false := decide_eq_false (by omega)
  by_cases f2h : ptot < 0
  · have f2 : decide (ptot < 0) = true := decide_eq_true (by omega)
    by_cases hgt : id < pid
    all_goals
      first | (have fg : decide (id < pid) = true := decide_eq_true hgt) | (have fg : decide (id < pid) = false := decide_eq_false hgt)
      go_enter Tryd.func30, Tryd.ntmps30
      go_upto_region 2 with (fail)
      try rw [hw1]
      try rw [hg]
      go_quiet (fail)
      go_wp2
      go_ret
      have HADD : addE id total sum n pid pat ptot psum dl = 1 := by
        unfold addE; rw [if_pos (by omega)]
      rw [HADD]
      exact ⟨rfl, (HKEEP.out _ (by first | exact Fr.drewN _ _ _ | exact (Fr.drewN _ _ _).trans (Fr.drewN _ _ _) | exact ((Fr.drewN _ _ _).trans (Fr.drewN _ _ _)).trans (Fr.drewN _ _ _))).1, fun _ => (HKEEP.out _ (by first | exact Fr.drewN _ _ _ | exact (Fr.drewN _ _ _).trans (Fr.drewN _ _ _) | exact ((Fr.drewN _ _ _).trans (Fr.drewN _ _ _)).trans (Fr.drewN _ _ _))).2, fun h => absurd h (by decide)⟩
  have f2 : decide (ptot < 0) = false := decide_eq_false (by omega)
  by_cases f3h : 1048576 < ptot
  · have f3 : decide (1048576 < ptot) = true := decide_eq_true (by omega)
    by_cases hgt : id < pid
    all_goals
      first | (have fg : decide (id < pid) = true := decide_eq_true hgt) | (have fg : decide (id < pid) = false := decide_eq_false hgt)
      go_enter Tryd.func30, Tryd.ntmps30
      go_upto_region 2 with (fail)
      try rw [hw1]
      try rw [hg]
      go_quiet (fail)
      go_wp2
      go_ret
      have HADD : addE id total sum n pid pat ptot psum dl = 1 := by
        unfold addE; rw [if_pos (by omega)]
      rw [HADD]
      exact ⟨rfl, (HKEEP.out _ (by first | exact Fr.drewN _ _ _ | exact (Fr.drewN _ _ _).trans (Fr.drewN _ _ _) | exact ((Fr.drewN _ _ _).trans (Fr.drewN _ _ _)).trans (Fr.drewN _ _ _))).1, fun _ => (HKEEP.out _ (by first | exact Fr.drewN _ _ _ | exact (Fr.drewN _ _ _).trans (Fr.drewN _ _ _) | exact ((Fr.drewN _ _ _).trans (Fr.drewN _ _ _)).trans (Fr.drewN _ _ _))).2, fun h => absurd h (by decide)⟩
  have f3 : decide (1048576 < ptot) = false := decide_eq_false (by omega)
  by_cases f4h : ptot < pat
  · have f4 : decide (ptot < pat) = true := decide_eq_true (by omega)
    by_cases hgt : id < pid
    all_goals
      first | (have fg : decide (id < pid) = true := decide_eq_true hgt) | (have fg : decide (id < pid) = false := decide_eq_false hgt)
      go_enter Tryd.func30, Tryd.ntmps30
      go_upto_region 2 with (fail)
      try rw [hw1]
      try rw [hg]
      go_quiet (fail)
      go_wp2
      go_ret
      have HADD : addE id total sum n pid pat ptot psum dl = 1 := by
        unfold addE; rw [if_pos (by omega)]
      rw [HADD]
      exact ⟨rfl, (HKEEP.out _ (by first | exact Fr.drewN _ _ _ | exact (Fr.drewN _ _ _).trans (Fr.drewN _ _ _) | exact ((Fr.drewN _ _ _).trans (Fr.drewN _ _ _)).trans (Fr.drewN _ _ _))).1, fun _ => (HKEEP.out _ (by first | exact Fr.drewN _ _ _ | exact (Fr.drewN _ _ _).trans (Fr.drewN _ _ _) | exact ((Fr.drewN _ _ _).trans (Fr.drewN _ _ _)).trans (Fr.drewN _ _ _))).2, fun h => absurd h (by decide)⟩
  have f4 : decide (ptot < pat) = false := decide_eq_false (by omega)
  by_cases f5h : ptot - pat < (dl : Int)
  · have f5 : decide (ptot - pat < (dl : Int)) = true := decide_eq_true (by omega)
    by_cases hgt : id < pid
    all_goals
      first | (have fg : decide (id < pid) = true := decide_eq_true hgt) | (have fg : decide (id < pid) = false := decide_eq_false hgt)
      go_enter Tryd.func30, Tryd.ntmps30
      go_upto_region 2 with (fail)
      try rw [hw1]
      try rw [hg]
      go_quiet (fail)
      go_wp2
      go_ret
      have HADD : addE id total sum n pid pat ptot psum dl = 1 := by
        unfold addE; rw [if_pos (by omega)]
      rw [HADD]
      exact ⟨rfl, (HKEEP.out _ (by first | exact Fr.drewN _ _ _ | exact (Fr.drewN _ _ _).trans (Fr.drewN _ _ _) | exact ((Fr.drewN _ _ _).trans (Fr.drewN _ _ _)).trans (Fr.drewN _ _ _))).1, fun _ => (HKEEP.out _ (by first | exact Fr.drewN _ _ _ | exact (Fr.drewN _ _ _).trans (Fr.drewN _ _ _) | exact ((Fr.drewN _ _ _).trans (Fr.drewN _ _ _)).trans (Fr.drewN _ _ _))).2, fun h => absurd h (by decide)⟩
  have f5 : decide (ptot - pat < (dl : Int)) = false := decide_eq_false (by omega)
  by_cases f6h : dl = 0 ∧ ptot ≠ 0
  · obtain ⟨hd0, hp0⟩ := f6h
    subst hd0
    have g2 : (ptot == 0) = false := by simp; omega
    by_cases hgt : id < pid
    all_goals
      first | (have fg : decide (id < pid) = true := decide_eq_true hgt) | (have fg : decide (id < pid) = false := decide_eq_false hgt)
      go_enter Tryd.func30, Tryd.ntmps30
      go_upto_region 2 with (fail)
      try rw [hw1]
      try rw [hg]
      go_quiet (fail)
      go_wp2
      go_ret
      have HADD : addE id total sum n pid pat ptot psum 0 = 1 := by
        unfold addE; rw [if_pos (by omega)]
      rw [HADD]
      exact ⟨rfl, (HKEEP.out _ (by first | exact Fr.drewN _ _ _ | exact (Fr.drewN _ _ _).trans (Fr.drewN _ _ _) | exact ((Fr.drewN _ _ _).trans (Fr.drewN _ _ _)).trans (Fr.drewN _ _ _))).1, fun _ => (HKEEP.out _ (by first | exact Fr.drewN _ _ _ | exact (Fr.drewN _ _ _).trans (Fr.drewN _ _ _) | exact ((Fr.drewN _ _ _).trans (Fr.drewN _ _ _)).trans (Fr.drewN _ _ _))).2, fun h => absurd h (by decide)⟩
  by_cases hd0 : dl = 0
  · subst hd0
    have hp0 : ptot = 0 := by omega
    subst hp0
    clear f6h
    by_cases f7h : pid < 0
    · have f7 : decide (pid < 0) = true := decide_eq_true (by omega)
      by_cases hgt : id < pid
      all_goals
        first | (have fg : decide (id < pid) = true := decide_eq_true hgt) | (have fg : decide (id < pid) = false := decide_eq_false hgt)
        go_enter Tryd.func30, Tryd.ntmps30
        go_upto_region 2 with (fail)
        try rw [hw1]
        try rw [hg]
        go_quiet (fail)
        go_wp2
        go_ret
        have HADD : addE id total sum n pid pat (0 : Int) psum 0 = 1 := by
          unfold addE; rw [if_pos (by omega)]
        rw [HADD]
        exact ⟨rfl, (HKEEP.out _ (by first | exact Fr.drewN _ _ _ | exact (Fr.drewN _ _ _).trans (Fr.drewN _ _ _) | exact ((Fr.drewN _ _ _).trans (Fr.drewN _ _ _)).trans (Fr.drewN _ _ _))).1, fun _ => (HKEEP.out _ (by first | exact Fr.drewN _ _ _ | exact (Fr.drewN _ _ _).trans (Fr.drewN _ _ _) | exact ((Fr.drewN _ _ _).trans (Fr.drewN _ _ _)).trans (Fr.drewN _ _ _))).2, fun h => absurd h (by decide)⟩
    have f7 : decide (pid < 0) = false := decide_eq_false (by omega)
    by_cases flh : pid < id
    · have fl : decide (pid < id) = true := decide_eq_true (by omega)
      have fg : decide (id < pid) = false := decide_eq_false (by omega)
      go_enter Tryd.func30, Tryd.ntmps30
      go_upto_region 2 with (fail)
      try rw [hw1]
      try rw [hg]
      go_quiet (fail)
      go_upto_region 6 with (fail)
      go_quiet (fail)
      go_wp2
      go_ret
      have HADD : addE id total sum n pid pat (0 : Int) psum 0 = 6 := by
        unfold addE; rw [if_neg (by omega), if_pos (show pid < id by omega)]
      rw [HADD]
      exact ⟨rfl, (HKEEP.out _ (by first | exact Fr.drewN _ _ _ | exact (Fr.drewN _ _ _).trans (Fr.drewN _ _ _) | exact ((Fr.drewN _ _ _).trans (Fr.drewN _ _ _)).trans (Fr.drewN _ _ _))).1, fun _ => (HKEEP.out _ (by first | exact Fr.drewN _ _ _ | exact (Fr.drewN _ _ _).trans (Fr.drewN _ _ _) | exact ((Fr.drewN _ _ _).trans (Fr.drewN _ _ _)).trans (Fr.drewN _ _ _))).2, fun h => absurd h (by decide)⟩
    have fl : decide (pid < id) = false := decide_eq_false (by omega)
    by_cases feh : pid = id
    · subst feh
      have fg : decide (pid < pid) = false := decide_eq_false (by omega)
      by_cases fth : (0 : Int) = total
      rotate_left
      · have ft : ((0 : Int) == total) = false := by simp [fth]
        have ft2 : ((0 : Int) != total) = true := by simp [fth]
        have HFT := Lib.hid fth
        clear fth
        go_enter Tryd.func30, Tryd.ntmps30
        go_upto_region 2 with (fail)
        try rw [hw1]
        try rw [hg]
        go_quiet (fail)
        go_upto_region 6 with (fail)
        go_quiet (fail)
        go_upto_region 8 with (fail)
        go_quiet (fail)
        go_wp2
        go_ret
        have HADD : addE pid total sum n pid pat (0 : Int) psum 0 = 8 := by
          unfold addE; rw [if_neg (by omega), if_neg (show ¬ pid < pid by omega), if_pos ⟨rfl, .inl HFT.out⟩]
        rw [HADD]
        exact ⟨rfl, (HKEEP.out _ (by first | exact Fr.drewN _ _ _ | exact (Fr.drewN _ _ _).trans (Fr.drewN _ _ _) | exact ((Fr.drewN _ _ _).trans (Fr.drewN _ _ _)).trans (Fr.drewN _ _ _))).1, fun _ => (HKEEP.out _ (by first | exact Fr.drewN _ _ _ | exact (Fr.drewN _ _ _).trans (Fr.drewN _ _ _) | exact ((Fr.drewN _ _ _).trans (Fr.drewN _ _ _)).trans (Fr.drewN _ _ _))).2, fun h => absurd h (by decide)⟩
      subst fth
      by_cases fsh : psum = sum
      rotate_left
      · have fs : (psum == sum) = false := by simp [fsh]
        have fs2 : (psum != sum) = true := by simp [fsh]
        have HFS := Lib.hid fsh
        clear fsh
        go_enter Tryd.func30, Tryd.ntmps30
        go_upto_region 2 with (fail)
        try rw [hw1]
        try rw [hg]
        go_quiet (fail)
        go_upto_region 6 with (fail)
        go_quiet (fail)
        go_upto_region 8 with (fail)
        go_quiet (fail)
        go_wp2
        go_ret
        have HADD : addE pid (0 : Int) sum n pid pat (0 : Int) psum 0 = 8 := by
          unfold addE; rw [if_neg (by omega), if_neg (show ¬ pid < pid by omega), if_pos ⟨rfl, .inr HFS.out⟩]
        rw [HADD]
        exact ⟨rfl, (HKEEP.out _ (by first | exact Fr.drewN _ _ _ | exact (Fr.drewN _ _ _).trans (Fr.drewN _ _ _) | exact ((Fr.drewN _ _ _).trans (Fr.drewN _ _ _)).trans (Fr.drewN _ _ _))).1, fun _ => (HKEEP.out _ (by first | exact Fr.drewN _ _ _ | exact (Fr.drewN _ _ _).trans (Fr.drewN _ _ _) | exact ((Fr.drewN _ _ _).trans (Fr.drewN _ _ _)).trans (Fr.drewN _ _ _))).2, fun h => absurd h (by decide)⟩
      subst fsh
      by_cases fah : (n : Int) < pat
      · omega
      have fa : decide ((n : Int) < pat) = false := decide_eq_false (by omega)
      obtain rfl : pat = 0 := by omega
      have HADD' : Hid (addE pid 0 psum n pid 0 0 psum 0 = 0) := Lib.hid (by
        unfold addE; rw [if_neg (by omega), if_neg (show ¬ pid < pid by omega), if_neg (fun h => h.2.elim (fun h => h rfl) (fun h => h rfl)), if_neg (show ¬ pid < pid by omega), if_neg (show ¬ (n : Int) < 0 by omega)])
      have fx : decide ((n : Int) < 0) = false := decide_eq_false (by omega)
      go_enter Tryd.func30, Tryd.ntmps30
      go_upto_region 2 with (fail)
      try rw [hw1]
      try rw [hg]
      go_quiet (fail)
      go_upto_region 6 with (fail)
      go_quiet (fail)
      go_upto_region 8 with (fail)
      go_quiet (fail)
      go_upto_region 12 with (fail)
      go_quiet (fail)
      go_wp2
      go_ret
      rw [HADD'.out]
      have HAB : addB pid bs pid 0 l = bs := by
        unfold addB
        rw [if_neg (show ¬ pid < pid by omega)]
        exact if_neg (by rw [HN.out, HD.out]; omega)
      have HFR : ∀ a b, fresh pid pid a b = b := fun a b => by unfold fresh; rw [if_neg (by omega)]
      rw [HAB, HFR, HFR, HFR]
      exact ⟨rfl, (HKEEP.out _ (by first | exact Fr.drewN _ _ _ | exact (Fr.drewN _ _ _).trans (Fr.drewN _ _ _) | exact ((Fr.drewN _ _ _).trans (Fr.drewN _ _ _)).trans (Fr.drewN _ _ _))).1, fun h => absurd rfl h, fun _ => (HKEEP.out _ (by first | exact Fr.drewN _ _ _ | exact (Fr.drewN _ _ _).trans (Fr.drewN _ _ _) | exact ((Fr.drewN _ _ _).trans (Fr.drewN _ _ _)).trans (Fr.drewN _ _ _))).2⟩
    have fe : (pid == id) = false := by simp [feh]
    have HFE := Lib.hid feh
    have fg : decide (id < pid) = true := decide_eq_true (by omega)
    clear feh
    by_cases fah : 0 < pat
    · omega
    have fa : decide (0 < pat) = false := decide_eq_false (by omega)
    obtain rfl : pat = 0 := by omega
    have HADD' : Hid (addE id total sum n pid 0 0 psum 0 = 0) := Lib.hid (by
      unfold addE; rw [if_neg (by omega), if_neg (show ¬ pid < id by omega), if_neg (fun h => HFE.out h.1), if_pos (show id < pid by have := HFE.out; omega), if_neg (by omega)])
    have HIP : Hid (id < pid) := Lib.hid (by have := HFE.out; omega)
    have b1 := HBK.out.cell 1
    simp only [List.getElem?_toArray, List.getElem?_cons_zero, List.getElem?_cons_succ] at b1
    have k0 := HBK.out.frozen 0
    have k1 := HBK.out.frozen 1
    have k2 := HBK.out.frozen 2
    have k3 := HBK.out.frozen 3
    have k4 := HBK.out.frozen 4
    go_enter Tryd.func30, Tryd.ntmps30
    go_upto_region 2 with (fail)
    try rw [hw1]
    try rw [hg]
    go_quiet (fail)
    go_upto_region 6 with (fail)
    go_quiet (fail)
    go_upto_region 8 with (fail)
    go_quiet (fail)
    go_upto_region 12 with (fail)
    go_quiet (fail)
    go_upto_region 14 with (fail)
    generalize hw13 : World.drewN w1 _ = w13
    have hf12 : Fr (fun _ => False) w1 w13 := by rw [← hw13]; exact Fr.drewN _ _ _
    have hf13 : Fr (fun k => k = bb) w1 w13 := hf12.mono fun _ e => e.elim
    obtain ⟨w16, hw16⟩ : ∃ w, (((((w13.setCell ⟨bb, 0, none⟩ (.int .i64 pid)).setCell ⟨bb, 1, none⟩ (.int .i64 0)).setCell ⟨bb, 2, none⟩ (.int .i64 0)).setCell ⟨bb, 3, none⟩ (.int .u32 psum)).setCell ⟨bb, 4, none⟩ (.slice none 0 0)) = w := ⟨_, rfl⟩
    have hf16 : Fr (fun k => k = bb) w1 w16 := by rw [← hw16]; exact ((((hf13.trans (Fr.setCell _ _ _ rfl)).trans (Fr.setCell _ _ _ rfl)).trans (Fr.setCell _ _ _ rfl)).trans (Fr.setCell _ _ _ rfl)).trans (Fr.setCell _ _ _ rfl)
    have HBK16 : Hid (Blk w16 bb 76 #[.int .i64 pid, .int .i64 0, .int .i64 0, .int .u32 psum, .slice none 0 0]) := Lib.hid (by
      have h := HBK.out.fr hf12 (fun e => e)
      rw [← hw16]
      exact ((((h.set 0 (.int .i64 pid)).set 1 (.int .i64 0)).set 2 (.int .i64 0)).set 3 (.int .u32 psum)).set 4 (.slice none 0 0))
    have HP16 := Lib.hid (HP.out.fr hf16 (by have := HLT.out; omega))
    have HO16 := Lib.hid (OwnY.none w16 B)
    have HL16 := Lib.hid (HL.out.keep_set HBK.out hf16)
    have HF16 : Hid (Fr (fun k => k = bb) W w16) := Lib.hid ((HF.out.mono fun _ e => e.elim).trans hf16)
    rw [hw16]
    clear hw16 hf16 hf12 hw13 hf13 b0 b1 b2 b3 b4 s0 s1 s2 s3 s4 k0 k1 k2 k3 k4 w13
    have s1 := HP16.out.cell 1
    have s4 := HP16.out.cell 4
    simp only [List.getElem?_toArray, List.getElem?_cons_zero, List.getElem?_cons_succ] at s1 s4
    have HAB : Hid (addB id bs pid 0 l = []) := Lib.hid (by
      unfold addB
      rw [if_pos HIP.out]
      exact if_neg (by rw [HD.out]; decide))
    go_wp2
    go_ret
    rw [HADD'.out, HAB.out]
    have HFR : ∀ a b, fresh id pid a b = a := fun a b => by unfold fresh; rw [if_pos HIP.out]
    rw [HFR, HFR, HFR]
    exact ⟨rfl, HF16.out, fun h => absurd rfl h, fun _ => ⟨_, HBK16.out, OwnY.none _ _⟩⟩
  · have g1 : ((dl : Int) == 0) = false := by simp; omega
    have g1' : (dl == 0) = false := by simp [hd0]
    clear f6h
    by_cases f7h : pid < 0
    · have f7 : decide (pid < 0) = true := decide_eq_true (by omega)
      by_cases hgt : id < pid
      all_goals
        first | (have fg : decide (id < pid) = true := decide_eq_true hgt) | (have fg : decide (id < pid) = false := decide_eq_false hgt)
        go_enter Tryd.func30, Tryd.ntmps30
        go_upto_region 2 with (fail)
        try rw [hw1]
        try rw [hg]
        go_quiet (fail)
        go_wp2
        go_ret
        have HADD : addE id total sum n pid pat ptot psum dl = 1 := by
          unfold addE; rw [if_pos (by omega)]
        rw [HADD]
        exact ⟨rfl, (HKEEP.out _ (by first | exact Fr.drewN _ _ _ | exact (Fr.drewN _ _ _).trans (Fr.drewN _ _ _) | exact ((Fr.drewN _ _ _).trans (Fr.drewN _ _ _)).trans (Fr.drewN _ _ _))).1, fun _ => (HKEEP.out _ (by first | exact Fr.drewN _ _ _ | exact (Fr.drewN _ _ _).trans (Fr.drewN _ _ _) | exact ((Fr.drewN _ _ _).trans (Fr.drewN _ _ _)).trans (Fr.drewN _ _ _))).2, fun h => absurd h (by decide)⟩
    have f7 : decide (pid < 0) = false := decide_eq_false (by omega)
    by_cases flh : pid < id
    · have fl : decide (pid < id) = true := decide_eq_true (by omega)
      have fg : decide (id < pid) = false := decide_eq_false (by omega)
      go_enter Tryd.func30, Tryd.ntmps30
      go_upto_region 2 with (fail)
      try rw [hw1]
      try rw [hg]
      go_quiet (fail)
      go_upto_region 6 with (fail)
      go_quiet (fail)
      go_wp2
      go_ret
      have HADD : addE id total sum n pid pat ptot psum dl = 6 := by
        unfold addE; rw [if_neg (by omega), if_pos (show pid < id by omega)]
      rw [HADD]
      exact ⟨rfl, (HKEEP.out _ (by first | exact Fr.drewN _ _ _ | exact (Fr.drewN _ _ _).trans (Fr.drewN _ _ _) | exact ((Fr.drewN _ _ _).trans (Fr.drewN _ _ _)).trans (Fr.drewN _ _ _))).1, fun _ => (HKEEP.out _ (by first | exact Fr.drewN _ _ _ | exact (Fr.drewN _ _ _).trans (Fr.drewN _ _ _) | exact ((Fr.drewN _ _ _).trans (Fr.drewN _ _ _)).trans (Fr.drewN _ _ _))).2, fun h => absurd h (by decide)⟩
    have fl : decide (pid < id) = false := decide_eq_false (by omega)
    by_cases feh : pid = id
    · subst feh
      have fg : decide (pid < pid) = false := decide_eq_false (by omega)
      by_cases fth : ptot = total
      rotate_left
      · have ft : (ptot == total) = false := by simp [fth]
        have ft2 : (ptot != total) = true := by simp [fth]
        have HFT := Lib.hid fth
        clear fth
        go_enter Tryd.func30, Tryd.ntmps30
        go_upto_region 2 with (fail)
        try rw [hw1]
        try rw [hg]
        go_quiet (fail)
        go_upto_region 6 with (fail)
        go_quiet (fail)
        go_upto_region 8 with (fail)
        go_quiet (fail)
        go_wp2
        go_ret
        have HADD : addE pid total sum n pid pat ptot psum dl = 8 := by
          unfold addE; rw [if_neg (by omega), if_neg (show ¬ pid < pid by omega), if_pos ⟨rfl, .inl HFT.out⟩]
        rw [HADD]
        exact ⟨rfl, (HKEEP.out _ (by first | exact Fr.drewN _ _ _ | exact (Fr.drewN _ _ _).trans (Fr.drewN _ _ _) | exact ((Fr.drewN _ _ _).trans (Fr.drewN _ _ _)).trans (Fr.drewN _ _ _))).1, fun _ => (HKEEP.out _ (by first | exact Fr.drewN _ _ _ | exact (Fr.drewN _ _ _).trans (Fr.drewN _ _ _) | exact ((Fr.drewN _ _ _).trans (Fr.drewN _ _ _)).trans (Fr.drewN _ _ _))).2, fun h => absurd h (by decide)⟩
      subst fth
      by_cases fsh : psum = sum
      rotate_left
      · have fs : (psum == sum) = false := by simp [fsh]
        have fs2 : (psum != sum) = true := by simp [fsh]
        have HFS := Lib.hid fsh
        clear fsh
        go_enter Tryd.func30, Tryd.ntmps30
        go_upto_region 2 with (fail)
        try rw [hw1]
        try rw [hg]
        go_quiet (fail)
        go_upto_region 6 with (fail)
        go_quiet (fail)
        go_upto_region 8 with (fail)
        go_quiet (fail)
        go_wp2
        go_ret
        have HADD : addE pid ptot sum n pid pat ptot psum dl = 8 := by
          unfold addE; rw [if_neg (by omega), if_neg (show ¬ pid < pid by omega), if_pos ⟨rfl, .inr HFS.out⟩]
        rw [HADD]
        exact ⟨rfl, (HKEEP.out _ (by first | exact Fr.drewN _ _ _ | exact (Fr.drewN _ _ _).trans (Fr.drewN _ _ _) | exact ((Fr.drewN _ _ _).trans (Fr.drewN _ _ _)).trans (Fr.drewN _ _ _))).1, fun _ => (HKEEP.out _ (by first | exact Fr.drewN _ _ _ | exact (Fr.drewN _ _ _).trans (Fr.drewN _ _ _) | exact ((Fr.drewN _ _ _).trans (Fr.drewN _ _ _)).trans (Fr.drewN _ _ _))).2, fun h => absurd h (by decide)⟩
      subst fsh
      by_cases fah : (n : Int) < pat
      · have fa : decide ((n : Int) < pat) = true := decide_eq_true (by omega)
        go_enter Tryd.func30, Tryd.ntmps30
        go_upto_region 2 with (fail)
        try rw [hw1]
        try rw [hg]
        go_quiet (fail)
        go_upto_region 6 with (fail)
        go_quiet (fail)
        go_upto_region 8 with (fail)
        go_quiet (fail)
        go_wp2
        go_ret
        have HADD : addE pid ptot psum n pid pat ptot psum dl = 6 := by
          unfold addE; rw [if_neg (by omega), if_neg (show ¬ pid < pid by omega), if_neg (fun h => h.2.elim (fun h => h rfl) (fun h => h rfl)), if_neg (show ¬ pid < pid by omega), if_pos fah]
        rw [HADD]
        exact ⟨rfl, (HKEEP.out _ (by first | exact Fr.drewN _ _ _ | exact (Fr.drewN _ _ _).trans (Fr.drewN _ _ _) | exact ((Fr.drewN _ _ _).trans (Fr.drewN _ _ _)).trans (Fr.drewN _ _ _))).1, fun _ => (HKEEP.out _ (by first | exact Fr.drewN _ _ _ | exact (Fr.drewN _ _ _).trans (Fr.drewN _ _ _) | exact ((Fr.drewN _ _ _).trans (Fr.drewN _ _ _)).trans (Fr.drewN _ _ _))).2, fun h => absurd h (by decide)⟩
      have fa : decide ((n : Int) < pat) = false := decide_eq_false (by omega)
      obtain ⟨pn, rfl⟩ : ∃ pn : Nat, pat = (pn : Int) := ⟨pat.toNat, by omega⟩
      have hcc := HC.out
      have hpn : pn ≤ n := by omega
      have HADD : addE pid ptot psum n pid (pn : Int) ptot psum dl = 0 := by
        unfold addE; rw [if_neg (by omega), if_neg (show ¬ pid < pid by omega), if_neg (fun h => h.2.elim (fun h => h rfl) (fun h => h rfl)), if_neg (show ¬ pid < pid by omega), if_neg (show ¬ (n : Int) < pn by omega)]
      by_cases fxh : n < pn + dl
      · have fx : decide ((n : Int) < (pn : Int) + (dl : Int)) = true := decide_eq_true (by omega)
        have q2 : n ≤ dl + pn := by omega
        have q3 : ¬ cp = n - pn := by omega
        have q1 : IntKind.i64.wrap ((n : Int) - pn) = ((n - pn : Nat) : Int) := by simp [IntKind.wrap, IntKind.bits, IntKind.signed]; omega
        have HADD' := Lib.hid HADD
        clear HADD
        go_enter Tryd.func30, Tryd.ntmps30
        go_upto_region 2 with (fail)
        try rw [hw1]
        try rw [hg]
        go_quiet (fail)
        go_upto_region 6 with (fail)
        go_quiet (fail)
        go_upto_region 8 with (fail)
        go_quiet (fail)
        go_upto_region 12 with (fail)
        go_quiet (fail)
        go_upto_region 16 with (fail)
        generalize hw16 : World.drewN w1 _ = w16
        have hf16 : Fr (fun _ => False) w1 w16 := by rw [← hw16]; exact Fr.drewN _ _ _
        have HBK16 := Lib.hid (HBK.out.fr hf16 (fun e => e))
        have HP16 := Lib.hid (HP.out.fr hf16 (fun e => e))
        have HO16 := Lib.hid (HO.out.fr hf16 (fun _ _ e => e))
        have HL16 := Lib.hid (HL.out.fr0 hf16)
        have HF16 : Hid (Fr (fun k => k = bb) W w16) := Lib.hid ((HF.out.trans hf16).mono fun _ e => e.elim)
        clear hw16 hf16
        have FACT : Hid (∀ w', Fr (fun _ => False) w16 w' → w'.cell? ⟨g, 1, none⟩ = some (.int .i64 (pn : Int)) ∧ w'.cell? ⟨g, 4, none⟩ = some (.slice ao dl cp)) := Lib.hid (fun w' hf => by
          have h := HP16.out.fr hf (fun e => e)
          exact ⟨h.cell 1, h.cell 4⟩)
        refine wp_region_held_drew (S := fun (w' : World) => w'.cell? ⟨g, 1, none⟩ = some (.int .i64 (pn : Int)) ∧ w'.cell? ⟨g, 4, none⟩ = some (.slice ao dl cp)) (by kernel_rfl) (FACT.out _ (Fr.drewN _ w16 1)) (fun hHeld => ?_)
        have hfd : Fr (fun _ => False) w16 w16.drew := Fr.drewN _ w16 1
        obtain ⟨wd, hwd⟩ : ∃ w, w16.drew = w := ⟨_, rfl⟩
        rw [hwd] at hHeld hfd ⊢
        have HFD := Lib.hid hfd
        have HBD := Lib.hid (HBK16.out.fr hfd (fun e => e))
        clear hwd hfd
        refine wpAnyH_take (i := 0) (oi := _) (v := ?vea0) rfl (by kernel_rfl) (by kernel_rfl) (by kernel_rfl) (fun _ _ _ h => h) (Or.inl ⟨by rfl, ?yea0⟩) (by assumption) ?rea0
        case yea0 => intro w1 hSw; obtain ⟨s1, s2⟩ := hSw; go_simp; try with_reducible rfl
        try simp only [List.getElem_toArray, List.getElem_cons_zero, List.getElem_cons_succ, Act.put, List.setIfInBounds_toArray, List.set_cons_zero, List.set_cons_succ]
        refine wpAnyH_take (i := 1) (oi := _) (v := ?vea1) rfl (by kernel_rfl) (by kernel_rfl) (by kernel_rfl) (fun _ _ _ h => h) (Or.inl ⟨by rfl, ?yea1⟩) (by assumption) ?rea1
        case yea1 => intro w1 hSw; obtain ⟨s1, s2⟩ := hSw; go_simp; try with_reducible rfl
        try simp only [List.getElem_toArray, List.getElem_cons_zero, List.getElem_cons_succ, Act.put, List.setIfInBounds_toArray, List.set_cons_zero, List.set_cons_succ]
        refine wpAnyH_take (i := 2) (oi := _) (v := ?vea2) rfl (by kernel_rfl) (by kernel_rfl) (by kernel_rfl) (fun _ _ _ h => h) (Or.inl ⟨by rfl, ?yea2⟩) (by assumption) ?rea2
        case yea2 => intro w1 hSw; obtain ⟨s1, s2⟩ := hSw; go_simp; try with_reducible rfl
        try simp only [List.getElem_toArray, List.getElem_cons_zero, List.getElem_cons_succ, Act.put, List.setIfInBounds_toArray, List.set_cons_zero, List.set_cons_succ]
        refine wpAnyH_take (i := 3) (oi := _) (v := ?vea3) rfl (by kernel_rfl) (by kernel_rfl) (by kernel_rfl) (fun _ _ _ h => h) (Or.inl ⟨by rfl, ?yea3⟩) (by assumption) ?rea3
        case yea3 => intro w1 hSw; obtain ⟨s1, s2⟩ := hSw; go_simp; try with_reducible rfl
        try simp only [List.getElem_toArray, List.getElem_cons_zero, List.getElem_cons_succ, Act.put, List.setIfInBounds_toArray, List.set_cons_zero, List.set_cons_succ]
        refine wpAnyH_take (i := 4) (oi := _) (v := ?vea4) rfl (by kernel_rfl) (by kernel_rfl) (by kernel_rfl) (fun _ _ _ h => h) (Or.inl ⟨by rfl, ?yea4⟩) (by assumption) ?rea4
        case yea4 => intro w1 hSw; obtain ⟨s1, s2⟩ := hSw; go_simp; try with_reducible rfl
        try simp only [List.getElem_toArray, List.getElem_cons_zero, List.getElem_cons_succ, Act.put, List.setIfInBounds_toArray, List.set_cons_zero, List.set_cons_succ]
        refine wpAnyH_take (i := 6) (oi := _) (v := ?vea6) rfl (by kernel_rfl) (by kernel_rfl) (by kernel_rfl) (fun _ _ _ h => h) (Or.inl ⟨by rfl, ?yea6⟩) (by assumption) ?rea6
        case yea6 => intro w1 hSw; obtain ⟨s1, s2⟩ := hSw; go_simp; try with_reducible rfl
        try simp only [List.getElem_toArray, List.getElem_cons_zero, List.getElem_cons_succ, Act.put, List.setIfInBounds_toArray, List.set_cons_zero, List.set_cons_succ]
        refine wpAnyH_take (i := 7) (oi := _) (v := ?vea7) rfl (by kernel_rfl) (by kernel_rfl) (by kernel_rfl) (fun _ _ _ h => h) (Or.inl ⟨by rfl, ?yea7⟩) (by assumption) ?rea7
        case yea7 => intro w1 hSw; obtain ⟨s1, s2⟩ := hSw; go_simp; try with_reducible rfl
        try simp only [List.getElem_toArray, List.getElem_cons_zero, List.getElem_cons_succ, Act.put, List.setIfInBounds_toArray, List.set_cons_zero, List.set_cons_succ]
        refine wpAnyH_take (i := 8) (oi := _) (v := ?vea8) rfl (by kernel_rfl) (by kernel_rfl) (by kernel_rfl) (fun _ _ _ h => h) (Or.inl ⟨by rfl, ?yea8⟩) (by assumption) ?rea8
        case yea8 => intro w1 hSw; obtain ⟨s1, s2⟩ := hSw; go_simp; try with_reducible rfl
        try simp only [List.getElem_toArray, List.getElem_cons_zero, List.getElem_cons_succ, Act.put, List.setIfInBounds_toArray, List.set_cons_zero, List.set_cons_succ]
        refine wpAnyH_take (i := 9) (oi := _) (v := ?vea9) rfl (by kernel_rfl) (by kernel_rfl) (by kernel_rfl) (fun _ _ _ h => h) (Or.inl ⟨by rfl, ?yea9⟩) (by assumption) ?rea9
        case yea9 => intro w1 hSw; obtain ⟨s1, s2⟩ := hSw; go_simp; try with_reducible rfl
        try simp only [List.getElem_toArray, List.getElem_cons_zero, List.getElem_cons_succ, Act.put, List.setIfInBounds_toArray, List.set_cons_zero, List.set_cons_succ]
        refine wpAnyH_take (i := 10) (oi := _) (v := ?vea10) rfl (by kernel_rfl) (by kernel_rfl) (by kernel_rfl) (fun _ _ _ h => h) (Or.inl ⟨by rfl, ?yea10⟩) (by assumption) ?rea10
        case yea10 => intro w1 hSw; obtain ⟨s1, s2⟩ := hSw; go_simp; try with_reducible rfl
        try simp only [List.getElem_toArray, List.getElem_cons_zero, List.getElem_cons_succ, Act.put, List.setIfInBounds_toArray, List.set_cons_zero, List.set_cons_succ]
        refine wpAnyH_take (i := 11) (oi := _) (v := ?vea11) rfl (by kernel_rfl) (by kernel_rfl) (by kernel_rfl) (fun _ _ _ h => h) (Or.inl ⟨by rfl, ?yea11⟩) (by assumption) ?rea11
        case yea11 => intro w1 hSw; obtain ⟨s1, s2⟩ := hSw; go_simp; try with_reducible rfl
        try simp only [List.getElem_toArray, List.getElem_cons_zero, List.getElem_cons_succ, Act.put, List.setIfInBounds_toArray, List.set_cons_zero, List.set_cons_succ]
        refine wpAnyH_take (i := 12) (oi := _) (v := ?vea12) rfl (by kernel_rfl) (by kernel_rfl) (by kernel_rfl) (fun _ _ _ h => h) (Or.inl ⟨by rfl, ?yea12⟩) (by assumption) ?rea12
        case yea12 => intro w1 hSw; obtain ⟨s1, s2⟩ := hSw; go_simp; try with_reducible rfl
        try simp only [List.getElem_toArray, List.getElem_cons_zero, List.getElem_cons_succ, Act.put, List.setIfInBounds_toArray, List.set_cons_zero, List.set_cons_succ]
        refine wpAnyH_ready (rs := [5]) (by kernel_rfl) (by simp) ?_
        refine AllReadyH.cons (o := _) rfl (fun K hK => ?_) AllReadyH.nil
        rw [if_pos (by rfl)]
        try simp only [List.getElem_toArray, List.getElem_cons_zero, List.getElem_cons_succ]
        have cq := HBD.out.cell 4
        simp only [List.getElem?_toArray, List.getElem?_cons_zero, List.getElem?_cons_succ] at cq
        go_simp
        clear cq
        refine hK.out _ _ (FACT.out _ HFD.out) (fun hH5 => ?_)
        clear hK K hHeld
        try simp only [List.getElem_toArray, List.getElem_cons_zero, List.getElem_cons_succ, Act.put, List.setIfInBounds_toArray, List.set_cons_zero, List.set_cons_succ]
        refine wpAnyH_ready (rs := [13]) (by kernel_rfl) (by simp) ?_
        refine AllReadyH.cons (o := _) rfl (fun K hK => ?_) AllReadyH.nil
        rw [if_pos (by rfl)]
        try simp only [List.getElem_toArray, List.getElem_cons_zero, List.getElem_cons_succ]
        go_simp
        have HR2 := Lib.hid (RowY.mapDrop (HL16.out.fr0 HFD.out) (n - pn))
        obtain ⟨a2, ha2⟩ : ∃ a, Option.map (fun x : Addr => x.add (n - pn)) ao = a := ⟨_, rfl⟩
        rw [ha2] at HR2 ⊢
        have hbA := Blk.new wd 22 #[.slice bo n bc, .slice a2 (dl - (n - pn)) (cp - (n - pn))]
        have hfA : Fr (fun _ => False) wd (wd.alloc (.cells #[.slice bo n bc, .slice a2 (dl - (n - pn)) (cp - (n - pn))] 22)) := Fr.alloc _ _ _
        obtain ⟨g2, hg2⟩ : ∃ g, wd.heap.size = g := ⟨_, rfl⟩
        obtain ⟨wA, hwA⟩ : ∃ w, wd.alloc (.cells #[.slice bo n bc, .slice a2 (dl - (n - pn)) (cp - (n - pn))] 22) = w := ⟨_, rfl⟩
        rw [hwA] at hbA hfA ⊢
        rw [hg2] at hbA ⊢
        have HBA := Lib.hid (HBD.out.fr hfA (fun e => e))
        have HFA := Lib.hid (HFD.out.trans hfA)
        have HR1 : Hid (RowY wA bo bs) := Lib.hid ((RowY_own HO16.out).fr0 HFA.out)
        have HR3 := Lib.hid (HR2.out.fr0 hfA)
        have HHB := Lib.hid hbA
        have HBWA : Hid (B ≤ wA.heap.size) := Lib.hid (by have h1 := HBW.out; have h2 := HF16.out.size; have h3 := HFA.out.size; omega)
        clear hbA hfA hwA hg2 HFD HBD HR2
        refine hK.out _ _ (FACT.out _ HFA.out) (fun hHA => ?_)
        clear hK K
        try simp only [List.getElem_toArray, List.getElem_cons_zero, List.getElem_cons_succ, Act.put, List.setIfInBounds_toArray, List.set_cons_zero, List.set_cons_succ]
        refine wpAnyH_ready (rs := [14]) (by kernel_rfl) (by simp) ?_
        refine AllReadyH.cons (o := _) rfl (fun K hK => ?_) AllReadyH.nil
        rw [if_pos (by rfl)]
        try simp only [List.getElem_toArray, List.getElem_cons_zero, List.getElem_cons_succ]
        go_simp
        go_at_call 39
        refine (concat_any wA g2 bo a2 n (dl - (n - pn)) bc (cp - (n - pn)) bs (l.drop (n - pn)) HR1.out HR3.out HN.out (by rw [List.length_drop, HD.out]) (by have := HC.out; omega) (by have := HC.out; omega) HHB.out).mono ?_
        rintro r7 wC ⟨v7, rfl, ho7, hf7⟩
        obtain ⟨ao7, c7, rfl, hc7, hx7, _⟩ := ho7.row
        obtain ⟨m7, hm7⟩ : ∃ m, (bs ++ l.drop (n - pn)).length = m := ⟨_, rfl⟩
        rw [hm7] at ho7 ⊢
        have HO7 := Lib.hid (ho7.to HBWA.out (Fr.refl (fun _ => False) wC) (fun _ _ e => e))
        have HFC := Lib.hid (HFA.out.trans hf7)
        have HBC := Lib.hid (HBA.out.fr hf7 (fun e => e))
        clear ho7 hf7 hc7 hx7 hm7 HR1 HR3 HHB HBA HFA hHA ha2
        refine hK.out _ _ (FACT.out _ HFC.out) (fun hHC => ?_)
        clear hK K
        try simp only [List.getElem_toArray, List.getElem_cons_zero, List.getElem_cons_succ, Act.put, List.setIfInBounds_toArray, List.set_cons_zero, List.set_cons_succ]
        refine wpAnyH_take (i := 15) (oi := _) (v := ?veb15) rfl (by kernel_rfl) (by kernel_rfl) (by kernel_rfl) (fun _ _ _ h => h) (Or.inl ⟨by rfl, ?yeb15⟩) (by assumption) ?reb15
        case yeb15 => intro w1 hSw; obtain ⟨s1, s2⟩ := hSw; go_simp; try with_reducible rfl
        try simp only [List.getElem_toArray, List.getElem_cons_zero, List.getElem_cons_succ, Act.put, List.setIfInBounds_toArray, List.set_cons_zero, List.set_cons_succ]
        refine wpAnyH_take (i := 16) (oi := _) (v := ?veb16) rfl (by kernel_rfl) (by kernel_rfl) (by kernel_rfl) (fun _ _ _ h => h) (Or.inl ⟨by rfl, ?yeb16⟩) (by assumption) ?reb16
        case yeb16 => intro w1 hSw; obtain ⟨s1, s2⟩ := hSw; go_simp; try with_reducible rfl
        try simp only [List.getElem_toArray, List.getElem_cons_zero, List.getElem_cons_succ, Act.put, List.setIfInBounds_toArray, List.set_cons_zero, List.set_cons_succ]
        refine wpAnyH_take (i := 17) (oi := _) (v := ?veb17) rfl (by kernel_rfl) (by kernel_rfl) (by kernel_rfl) (fun _ _ _ h => h) (Or.inl ⟨by rfl, ?yeb17⟩) (by assumption) ?reb17
        case yeb17 => intro w1 hSw; obtain ⟨s1, s2⟩ := hSw; go_simp; try with_reducible rfl
        try simp only [List.getElem_toArray, List.getElem_cons_zero, List.getElem_cons_succ, Act.put, List.setIfInBounds_toArray, List.set_cons_zero, List.set_cons_succ]
        have cq := HBC.out.cell 4
        have fq := HBC.out.frozen 4
        simp only [List.getElem?_toArray, List.getElem?_cons_zero, List.getElem?_cons_succ] at cq
        refine wpAnyH_ready (rs := [18]) (by kernel_rfl) (by simp) ?_
        refine AllReadyH.cons (o := _) rfl (fun K hK => ?_) AllReadyH.nil
        rw [if_pos (by rfl)]
        try simp only [List.getElem_toArray, List.getElem_cons_zero, List.getElem_cons_succ]
        go_simp
        have hbD := HBC.out.set 4 (.slice ao7 m7 c7)
        simp only [List.setIfInBounds_toArray, List.set_cons_zero, List.set_cons_succ] at hbD
        have hfD : Fr (fun k => k = bb) wC (wC.setCell ⟨bb, 4, none⟩ (.slice ao7 m7 c7)) := Fr.setCell _ _ _ rfl
        obtain ⟨wD, hwD⟩ : ∃ w, wC.setCell ⟨bb, 4, none⟩ (.slice ao7 m7 c7) = w := ⟨_, rfl⟩
        rw [hwD] at hbD hfD ⊢
        have HBS : Hid (BS wD B bb pid ptot psum (bs ++ l.drop (n - pn))) := Lib.hid ⟨_, hbD, HO7.out.fr hfD (fun k hk e => HO7.out.notBlk HBC.out (by decide) (e ▸ hk))⟩
        have hfE : Fr (fun k => k = bb) w16 wD := (HFC.out.mono fun _ e => e.elim).trans hfD
        have HFE : Hid (Fr (fun k => k = bb) W wD) := Lib.hid (HF16.out.trans hfE)
        have hsD : wD.cell? ⟨g, 1, none⟩ = some (.int .i64 (pn : Int)) ∧ wD.cell? ⟨g, 4, none⟩ = some (.slice ao dl cp) := by
          have h := HP16.out.fr hfE (by have := HLT.out; omega)
          exact ⟨h.cell 1, h.cell 4⟩
        clear cq fq hbD hfD hfE hwD
        refine hK.out _ _ hsD (fun hHE => ?_)
        clear hK K hHE hsD
        try simp only [List.getElem_toArray, List.getElem_cons_zero, List.getElem_cons_succ, Act.put, List.setIfInBounds_toArray, List.set_cons_zero, List.set_cons_succ]
        refine wpAnyH_done (by kernel_rfl) ?_ _
        clear FACT
        go_wp2
        go_ret
        rw [HADD'.out]
        have HAB : addB pid bs pid (pn : Int) l = bs ++ l.drop (n - pn) := by
          unfold addB
          rw [if_neg (show ¬ pid < pid by omega)]
          dsimp only
          rw [if_pos (by rw [HN.out, HD.out]; omega), HN.out]
          rfl
        have HFR : ∀ a b, fresh pid pid a b = b := fun a b => by unfold fresh; rw [if_neg (by omega)]
        rw [HAB, HFR, HFR, HFR]
        exact ⟨rfl, HFE.out, fun h => absurd rfl h, fun _ => HBS.out⟩
      · have fx : decide ((n : Int) < (pn : Int) + (dl : Int)) = false := decide_eq_false (by omega)
        have HADD' := Lib.hid HADD
        clear HADD
        go_enter Tryd.func30, Tryd.ntmps30
        go_upto_region 2 with (fail)
        try rw [hw1]
        try rw [hg]
        go_quiet (fail)
        go_upto_region 6 with (fail)
        go_quiet (fail)
        go_upto_region 8 with (fail)
        go_quiet (fail)
        go_upto_region 12 with (fail)
        go_quiet (fail)
        go_wp2
        go_ret
        rw [HADD'.out]
        have HAB : addB pid bs pid (pn : Int) l = bs := by
          unfold addB
          rw [if_neg (show ¬ pid < pid by omega)]
          exact if_neg (by rw [HN.out, HD.out]; omega)
        have HFR : ∀ a b, fresh pid pid a b = b := fun a b => by unfold fresh; rw [if_neg (by omega)]
        rw [HAB, HFR, HFR, HFR]
        exact ⟨rfl, (HKEEP.out _ (by first | exact Fr.drewN _ _ _ | exact (Fr.drewN _ _ _).trans (Fr.drewN _ _ _) | exact ((Fr.drewN _ _ _).trans (Fr.drewN _ _ _)).trans (Fr.drewN _ _ _))).1, fun h => absurd rfl h, fun _ => (HKEEP.out _ (by first | exact Fr.drewN _ _ _ | exact (Fr.drewN _ _ _).trans (Fr.drewN _ _ _) | exact ((Fr.drewN _ _ _).trans (Fr.drewN _ _ _)).trans (Fr.drewN _ _ _))).2⟩
    have fe : (pid == id) = false := by simp [feh]
    have HFE := Lib.hid feh
    have fg : decide (id < pid) = true := decide_eq_true (by omega)
    clear feh
    by_cases fah : 0 < pat
    · have fa : decide (0 < pat) = true := decide_eq_true (by omega)
      go_enter Tryd.func30, Tryd.ntmps30
      go_upto_region 2 with (fail)
      try rw [hw1]
      try rw [hg]
      go_quiet (fail)
      go_upto_region 6 with (fail)
      go_quiet (fail)
      go_upto_region 8 with (fail)
      go_quiet (fail)
      go_wp2
      go_ret
      have HADD : addE id total sum n pid pat ptot psum dl = 6 := by
        unfold addE; rw [if_neg (by omega), if_neg (show ¬ pid < id by omega), if_neg (fun h => HFE.out h.1), if_pos (show id < pid by have := HFE.out; omega), if_pos fah]
      rw [HADD]
      exact ⟨rfl, (HKEEP.out _ (by first | exact Fr.drewN _ _ _ | exact (Fr.drewN _ _ _).trans (Fr.drewN _ _ _) | exact ((Fr.drewN _ _ _).trans (Fr.drewN _ _ _)).trans (Fr.drewN _ _ _))).1, fun _ => (HKEEP.out _ (by first | exact Fr.drewN _ _ _ | exact (Fr.drewN _ _ _).trans (Fr.drewN _ _ _) | exact ((Fr.drewN _ _ _).trans (Fr.drewN _ _ _)).trans (Fr.drewN _ _ _))).2, fun h => absurd h (by decide)⟩
    have fa : decide (0 < pat) = false := decide_eq_false (by omega)
    obtain rfl : pat = 0 := by omega
    have HADD' : Hid (addE id total sum n pid 0 ptot psum dl = 0) := Lib.hid (by
      unfold addE; rw [if_neg (by omega), if_neg (show ¬ pid < id by omega), if_neg (fun h => HFE.out h.1), if_pos (show id < pid by have := HFE.out; omega), if_neg (by omega)])
    have HIP : Hid (id < pid) := Lib.hid (by have := HFE.out; omega)
    have b1 := HBK.out.cell 1
    simp only [List.getElem?_toArray, List.getElem?_cons_zero, List.getElem?_cons_succ] at b1
    have k0 := HBK.out.frozen 0
    have k1 := HBK.out.frozen 1
    have k2 := HBK.out.frozen 2
    have k3 := HBK.out.frozen 3
    have k4 := HBK.out.frozen 4
    have hcc := HC.out
    have fx : decide ((0 : Int) < (dl : Int)) = true := decide_eq_true (by omega)
    have fx2 : decide (0 < dl) = true := decide_eq_true (by omega)
    have q2 : 0 < dl := by omega
    have wz : IntKind.i64.wrap 0 = 0 := by decide
    have f5b : decide (ptot < (dl : Int)) = false := decide_eq_false (by omega)
    have q3 : ¬ cp = 0 := by omega
    go_enter Tryd.func30, Tryd.ntmps30
    go_upto_region 2 with (fail)
    try rw [hw1]
    try rw [hg]
    go_quiet (fail)
    go_upto_region 6 with (fail)
    go_quiet (fail)
    go_upto_region 8 with (fail)
    go_quiet (fail)
    go_upto_region 12 with (fail)
    go_quiet (fail)
    go_upto_region 14 with (fail)
    generalize hw13 : World.drewN w1 _ = w13
    have hf12 : Fr (fun _ => False) w1 w13 := by rw [← hw13]; exact Fr.drewN _ _ _
    have hf13 : Fr (fun k => k = bb) w1 w13 := hf12.mono fun _ e => e.elim
    obtain ⟨w16, hw16⟩ : ∃ w, (((((w13.setCell ⟨bb, 0, none⟩ (.int .i64 pid)).setCell ⟨bb, 1, none⟩ (.int .i64 0)).setCell ⟨bb, 2, none⟩ (.int .i64 ptot)).setCell ⟨bb, 3, none⟩ (.int .u32 psum)).setCell ⟨bb, 4, none⟩ (.slice none 0 0)) = w := ⟨_, rfl⟩
    have hf16 : Fr (fun k => k = bb) w1 w16 := by rw [← hw16]; exact ((((hf13.trans (Fr.setCell _ _ _ rfl)).trans (Fr.setCell _ _ _ rfl)).trans (Fr.setCell _ _ _ rfl)).trans (Fr.setCell _ _ _ rfl)).trans (Fr.setCell _ _ _ rfl)
    have HBK16 : Hid (Blk w16 bb 76 #[.int .i64 pid, .int .i64 0, .int .i64 ptot, .int .u32 psum, .slice none 0 0]) := Lib.hid (by
      have h := HBK.out.fr hf12 (fun e => e)
      rw [← hw16]
      exact ((((h.set 0 (.int .i64 pid)).set 1 (.int .i64 0)).set 2 (.int .i64 ptot)).set 3 (.int .u32 psum)).set 4 (.slice none 0 0))
    have HP16 := Lib.hid (HP.out.fr hf16 (by have := HLT.out; omega))
    have HO16 := Lib.hid (OwnY.none w16 B)
    have HL16 := Lib.hid (HL.out.keep_set HBK.out hf16)
    have HF16 : Hid (Fr (fun k => k = bb) W w16) := Lib.hid ((HF.out.mono fun _ e => e.elim).trans hf16)
    rw [hw16]
    clear hw16 hf16 hf12 hw13 hf13 b0 b1 b2 b3 b4 s0 s1 s2 s3 s4 k0 k1 k2 k3 k4 w13
    have s1 := HP16.out.cell 1
    have s4 := HP16.out.cell 4
    simp only [List.getElem?_toArray, List.getElem?_cons_zero, List.getElem?_cons_succ] at s1 s4
    go_upto_region 16 with (fail)
    have FACT : Hid (∀ w', Fr (fun _ => False) w16 w' → w'.cell? ⟨g, 1, none⟩ = some (.int .i64 (0 : Int)) ∧ w'.cell? ⟨g, 4, none⟩ = some (.slice ao dl cp)) := Lib.hid (fun w' hf => by
      have h := HP16.out.fr hf (fun e => e)
      exact ⟨h.cell 1, h.cell 4⟩)
    refine wp_region_held_drew (S := fun (w' : World) => w'.cell? ⟨g, 1, none⟩ = some (.int .i64 (0 : Int)) ∧ w'.cell? ⟨g, 4, none⟩ = some (.slice ao dl cp)) (by kernel_rfl) (FACT.out _ (Fr.drewN _ w16 1)) (fun hHeld => ?_)
    have hfd : Fr (fun _ => False) w16 w16.drew := Fr.drewN _ w16 1
    obtain ⟨wd, hwd⟩ : ∃ w, w16.drew = w := ⟨_, rfl⟩
    rw [hwd] at hHeld hfd ⊢
    have HFD := Lib.hid hfd
    have HBD := Lib.hid (HBK16.out.fr hfd (fun e => e))
    clear hwd hfd
    refine wpAnyH_take (i := 0) (oi := _) (v := ?vga0) rfl (by kernel_rfl) (by kernel_rfl) (by kernel_rfl) (fun _ _ _ h => h) (Or.inl ⟨by rfl, ?yga0⟩) (by assumption) ?rga0
    case yga0 => intro w1 hSw; obtain ⟨s1, s2⟩ := hSw; go_simp; try with_reducible rfl
    try simp only [List.getElem_toArray, List.getElem_cons_zero, List.getElem_cons_succ, Act.put, List.setIfInBounds_toArray, List.set_cons_zero, List.set_cons_succ]
    refine wpAnyH_take (i := 1) (oi := _) (v := ?vga1) rfl (by kernel_rfl) (by kernel_rfl) (by kernel_rfl) (fun _ _ _ h => h) (Or.inl ⟨by rfl, ?yga1⟩) (by assumption) ?rga1
    case yga1 => intro w1 hSw; obtain ⟨s1, s2⟩ := hSw; go_simp; try with_reducible rfl
    try simp only [List.getElem_toArray, List.getElem_cons_zero, List.getElem_cons_succ, Act.put, List.setIfInBounds_toArray, List.set_cons_zero, List.set_cons_succ]
    refine wpAnyH_take (i := 2) (oi := _) (v := ?vga2) rfl (by kernel_rfl) (by kernel_rfl) (by kernel_rfl) (fun _ _ _ h => h) (Or.inl ⟨by rfl, ?yga2⟩) (by assumption) ?rga2
    case yga2 => intro w1 hSw; obtain ⟨s1, s2⟩ := hSw; go_simp; try with_reducible rfl
    try simp only [List.getElem_toArray, List.getElem_cons_zero, List.getElem_cons_succ, Act.put, List.setIfInBounds_toArray, List.set_cons_zero, List.set_cons_succ]
    refine wpAnyH_take (i := 3) (oi := _) (v := ?vga3) rfl (by kernel_rfl) (by kernel_rfl) (by kernel_rfl) (fun _ _ _ h => h) (Or.inl ⟨by rfl, ?yga3⟩) (by assumption) ?rga3
    case yga3 => intro w1 hSw; obtain ⟨s1, s2⟩ := hSw; go_simp; try with_reducible rfl
    try simp only [List.getElem_toArray, List.getElem_cons_zero, List.getElem_cons_succ, Act.put, List.setIfInBounds_toArray, List.set_cons_zero, List.set_cons_succ]
    refine wpAnyH_take (i := 4) (oi := _) (v := ?vga4) rfl (by kernel_rfl) (by kernel_rfl) (by kernel_rfl) (fun _ _ _ h => h) (Or.inl ⟨by rfl, ?yga4⟩) (by assumption) ?rga4
    case yga4 => intro w1 hSw; obtain ⟨s1, s2⟩ := hSw; go_simp; try with_reducible rfl
    try simp only [List.getElem_toArray, List.getElem_cons_zero, List.getElem_cons_succ, Act.put, List.setIfInBounds_toArray, List.set_cons_zero, List.set_cons_succ]
    refine wpAnyH_take (i := 6) (oi := _) (v := ?vga6) rfl (by kernel_rfl) (by kernel_rfl) (by kernel_rfl) (fun _ _ _ h => h) (Or.inl ⟨by rfl, ?yga6⟩) (by assumption) ?rga6
    case yga6 => intro w1 hSw; obtain ⟨s1, s2⟩ := hSw; go_simp; try with_reducible rfl
    try simp only [List.getElem_toArray, List.getElem_cons_zero, List.getElem_cons_succ, Act.put, List.setIfInBounds_toArray, List.set_cons_zero, List.set_cons_succ]
    refine wpAnyH_take (i := 7) (oi := _) (v := ?vga7) rfl (by kernel_rfl) (by kernel_rfl) (by kernel_rfl) (fun _ _ _ h => h) (Or.inl ⟨by rfl, ?yga7⟩) (by assumption) ?rga7
    case yga7 => intro w1 hSw; obtain ⟨s1, s2⟩ := hSw; go_simp; try with_reducible rfl
    try simp only [List.getElem_toArray, List.getElem_cons_zero, List.getElem_cons_succ, Act.put, List.setIfInBounds_toArray, List.set_cons_zero, List.set_cons_succ]
    refine wpAnyH_take (i := 8) (oi := _) (v := ?vga8) rfl (by kernel_rfl) (by kernel_rfl) (by kernel_rfl) (fun _ _ _ h => h) (Or.inl ⟨by rfl, ?yga8⟩) (by assumption) ?rga8
    case yga8 => intro w1 hSw; obtain ⟨s1, s2⟩ := hSw; go_simp; try with_reducible rfl
    try simp only [List.getElem_toArray, List.getElem_cons_zero, List.getElem_cons_succ, Act.put, List.setIfInBounds_toArray, List.set_cons_zero, List.set_cons_succ]
    refine wpAnyH_take (i := 9) (oi := _) (v := ?vga9) rfl (by kernel_rfl) (by kernel_rfl) (by kernel_rfl) (fun _ _ _ h => h) (Or.inl ⟨by rfl, ?yga9⟩) (by assumption) ?rga9
    case yga9 => intro w1 hSw; obtain ⟨s1, s2⟩ := hSw; go_simp; try with_reducible rfl
    try simp only [List.getElem_toArray, List.getElem_cons_zero, List.getElem_cons_succ, Act.put, List.setIfInBounds_toArray, List.set_cons_zero, List.set_cons_succ]
    refine wpAnyH_take (i := 10) (oi := _) (v := ?vga10) rfl (by kernel_rfl) (by kernel_rfl) (by kernel_rfl) (fun _ _ _ h => h) (Or.inl ⟨by rfl, ?yga10⟩) (by assumption) ?rga10
    case yga10 => intro w1 hSw; obtain ⟨s1, s2⟩ := hSw; go_simp; try with_reducible rfl
    try simp only [List.getElem_toArray, List.getElem_cons_zero, List.getElem_cons_succ, Act.put, List.setIfInBounds_toArray, List.set_cons_zero, List.set_cons_succ]
    refine wpAnyH_take (i := 11) (oi := _) (v := ?vga11) rfl (by kernel_rfl) (by kernel_rfl) (by kernel_rfl) (fun _ _ _ h => h) (Or.inl ⟨by rfl, ?yga11⟩) (by assumption) ?rga11
    case yga11 => intro w1 hSw; obtain ⟨s1, s2⟩ := hSw; go_simp; try with_reducible rfl
    try simp only [List.getElem_toArray, List.getElem_cons_zero, List.getElem_cons_succ, Act.put, List.setIfInBounds_toArray, List.set_cons_zero, List.set_cons_succ]
    refine wpAnyH_take (i := 12) (oi := _) (v := ?vga12) rfl (by kernel_rfl) (by kernel_rfl) (by kernel_rfl) (fun _ _ _ h => h) (Or.inl ⟨by rfl, ?yga12⟩) (by assumption) ?rga12
    case yga12 => intro w1 hSw; obtain ⟨s1, s2⟩ := hSw; go_simp; try with_reducible rfl
    try simp only [List.getElem_toArray, List.getElem_cons_zero, List.getElem_cons_succ, Act.put, List.setIfInBounds_toArray, List.set_cons_zero, List.set_cons_succ]
    refine wpAnyH_ready (rs := [5]) (by kernel_rfl) (by simp) ?_
    refine AllReadyH.cons (o := _) rfl (fun K hK => ?_) AllReadyH.nil
    rw [if_pos (by rfl)]
    try simp only [List.getElem_toArray, List.getElem_cons_zero, List.getElem_cons_succ]
    have cq := HBD.out.cell 4
    simp only [List.getElem?_toArray, List.getElem?_cons_zero, List.getElem?_cons_succ] at cq
    go_simp
    clear cq
    refine hK.out _ _ (FACT.out _ HFD.out) (fun hH5 => ?_)
    clear hK K hHeld
    try simp only [List.getElem_toArray, List.getElem_cons_zero, List.getElem_cons_succ, Act.put, List.setIfInBounds_toArray, List.set_cons_zero, List.set_cons_succ]
    refine wpAnyH_ready (rs := [13]) (by kernel_rfl) (by simp) ?_
    refine AllReadyH.cons (o := _) rfl (fun K hK => ?_) AllReadyH.nil
    rw [if_pos (by rfl)]
    try simp only [List.getElem_toArray, List.getElem_cons_zero, List.getElem_cons_succ]
    go_simp
    have HR2 := Lib.hid (HL16.out.fr0 HFD.out)
    have ha2 := True.intro
    have hbA := Blk.new wd 22 #[.slice none 0 0, .slice ao dl cp]
    have hfA : Fr (fun _ => False) wd (wd.alloc (.cells #[.slice none 0 0, .slice ao dl cp] 22)) := Fr.alloc _ _ _
    obtain ⟨g2, hg2⟩ : ∃ g, wd.heap.size = g := ⟨_, rfl⟩
    obtain ⟨wA, hwA⟩ : ∃ w, wd.alloc (.cells #[.slice none 0 0, .slice ao dl cp] 22) = w := ⟨_, rfl⟩
    rw [hwA] at hbA hfA ⊢
    rw [hg2] at hbA ⊢
    have HBA := Lib.hid (HBD.out.fr hfA (fun e => e))
    have HFA := Lib.hid (HFD.out.trans hfA)
    have HR1 : Hid (RowY wA none ([] : List UInt8)) := Lib.hid (.inl rfl)
    have HR3 := Lib.hid (HR2.out.fr0 hfA)
    have HHB := Lib.hid hbA
    have HBWA : Hid (B ≤ wA.heap.size) := Lib.hid (by have h1 := HBW.out; have h2 := HF16.out.size; have h3 := HFA.out.size; omega)
    clear hbA hfA hwA hg2 HFD HBD HR2
    refine hK.out _ _ (FACT.out _ HFA.out) (fun hHA => ?_)
    clear hK K
    try simp only [List.getElem_toArray, List.getElem_cons_zero, List.getElem_cons_succ, Act.put, List.setIfInBounds_toArray, List.set_cons_zero, List.set_cons_succ]
    refine wpAnyH_ready (rs := [14]) (by kernel_rfl) (by simp) ?_
    refine AllReadyH.cons (o := _) rfl (fun K hK => ?_) AllReadyH.nil
    rw [if_pos (by rfl)]
    try simp only [List.getElem_toArray, List.getElem_cons_zero, List.getElem_cons_succ]
    go_simp
    go_at_call 39
    refine (concat_any wA g2 none ao 0 dl 0 cp ([] : List UInt8) (l) HR1.out HR3.out rfl HD.out (by have := HC.out; omega) (by have := HC.out; omega) HHB.out).mono ?_
    rintro r7 wC ⟨v7, rfl, ho7, hf7⟩
    obtain ⟨ao7, c7, rfl, hc7, hx7, _⟩ := ho7.row
    obtain ⟨m7, hm7⟩ : ∃ m, (([] : List UInt8) ++ l).length = m := ⟨_, rfl⟩
    rw [hm7] at ho7 ⊢
    have HO7 := Lib.hid (ho7.to HBWA.out (Fr.refl (fun _ => False) wC) (fun _ _ e => e))
    have HFC := Lib.hid (HFA.out.trans hf7)
    have HBC := Lib.hid (HBA.out.fr hf7 (fun e => e))
    clear ho7 hf7 hc7 hx7 hm7 HR1 HR3 HHB HBA HFA hHA ha2
    refine hK.out _ _ (FACT.out _ HFC.out) (fun hHC => ?_)
    clear hK K
    try simp only [List.getElem_toArray, List.getElem_cons_zero, List.getElem_cons_succ, Act.put, List.setIfInBounds_toArray, List.set_cons_zero, List.set_cons_succ]
    refine wpAnyH_take (i := 15) (oi := _) (v := ?vgb15) rfl (by kernel_rfl) (by kernel_rfl) (by kernel_rfl) (fun _ _ _ h => h) (Or.inl ⟨by rfl, ?ygb15⟩) (by assumption) ?rgb15
    case ygb15 => intro w1 hSw; obtain ⟨s1, s2⟩ := hSw; go_simp; try with_reducible rfl
    try simp only [List.getElem_toArray, List.getElem_cons_zero, List.getElem_cons_succ, Act.put, List.setIfInBounds_toArray, List.set_cons_zero, List.set_cons_succ]
    refine wpAnyH_take (i := 16) (oi := _) (v := ?vgb16) rfl (by kernel_rfl) (by kernel_rfl) (by kernel_rfl) (fun _ _ _ h => h) (Or.inl ⟨by rfl, ?ygb16⟩) (by assumption) ?rgb16
    case ygb16 => intro w1 hSw; obtain ⟨s1, s2⟩ := hSw; go_simp; try with_reducible rfl
    try simp only [List.getElem_toArray, List.getElem_cons_zero, List.getElem_cons_succ, Act.put, List.setIfInBounds_toArray, List.set_cons_zero, List.set_cons_succ]
    refine wpAnyH_take (i := 17) (oi := _) (v := ?vgb17) rfl (by kernel_rfl) (by kernel_rfl) (by kernel_rfl) (fun _ _ _ h => h) (Or.inl ⟨by rfl, ?ygb17⟩) (by assumption) ?rgb17
    case ygb17 => intro w1 hSw; obtain ⟨s1, s2⟩ := hSw; go_simp; try with_reducible rfl
    try simp only [List.getElem_toArray, List.getElem_cons_zero, List.getElem_cons_succ, Act.put, List.setIfInBounds_toArray, List.set_cons_zero, List.set_cons_succ]
    have cq := HBC.out.cell 4
    have fq := HBC.out.frozen 4
    simp only [List.getElem?_toArray, List.getElem?_cons_zero, List.getElem?_cons_succ] at cq
    refine wpAnyH_ready (rs := [18]) (by kernel_rfl) (by simp) ?_
    refine AllReadyH.cons (o := _) rfl (fun K hK => ?_) AllReadyH.nil
    rw [if_pos (by rfl)]
    try simp only [List.getElem_toArray, List.getElem_cons_zero, List.getElem_cons_succ]
    go_simp
    have hbD := HBC.out.set 4 (.slice ao7 m7 c7)
    simp only [List.setIfInBounds_toArray, List.set_cons_zero, List.set_cons_succ] at hbD
    have hfD : Fr (fun k => k = bb) wC (wC.setCell ⟨bb, 4, none⟩ (.slice ao7 m7 c7)) := Fr.setCell _ _ _ rfl
    obtain ⟨wD, hwD⟩ : ∃ w, wC.setCell ⟨bb, 4, none⟩ (.slice ao7 m7 c7) = w := ⟨_, rfl⟩
    rw [hwD] at hbD hfD ⊢
    have HBS : Hid (BS wD B bb pid ptot psum (([] : List UInt8) ++ l)) := Lib.hid ⟨_, hbD, HO7.out.fr hfD (fun k hk e => HO7.out.notBlk HBC.out (by decide) (e ▸ hk))⟩
    have hfE : Fr (fun k => k = bb) w16 wD := (HFC.out.mono fun _ e => e.elim).trans hfD
    have HFE : Hid (Fr (fun k => k = bb) W wD) := Lib.hid (HF16.out.trans hfE)
    have hsD : wD.cell? ⟨g, 1, none⟩ = some (.int .i64 (0 : Int)) ∧ wD.cell? ⟨g, 4, none⟩ = some (.slice ao dl cp) := by
      have h := HP16.out.fr hfE (by have := HLT.out; omega)
      exact ⟨h.cell 1, h.cell 4⟩
    clear cq fq hbD hfD hfE hwD
    refine hK.out _ _ hsD (fun hHE => ?_)
    clear hK K hHE hsD
    try simp only [List.getElem_toArray, List.getElem_cons_zero, List.getElem_cons_succ, Act.put, List.setIfInBounds_toArray, List.set_cons_zero, List.set_cons_succ]
    refine wpAnyH_done (by kernel_rfl) ?_ _
    clear FACT
    go_wp2
    go_ret
    have HFR : ∀ a b, fresh id pid a b = a := fun a b => by unfold fresh; rw [if_pos HIP.out]
    have HAB : addB id bs pid 0 l = [] ++ l := by
      unfold addB
      rw [if_pos HIP.out]
      dsimp only
      rw [if_pos (by rw [HD.out]; simp; omega)]
      rfl
    rw [HADD'.out, HAB, HFR, HFR, HFR]
    exact ⟨rfl, HFE.out, fun h => absurd rfl h, fun _ => HBS.out⟩
end Go.Proofs.YtookojfigjdgcaaDoor
