/- The reference's builder: Add. -/
import Derived.Test.YtookojfigjdgcaaDoorU
import Derived.Test.YtookojfigjdgcaaDoorRZ
set_option linter.unusedVariables false
set_option linter.unusedSimpArgs false
namespace Go.Proofs.YtookojfigjdgcaaDoor
open Go.RowKit
/-- the reference's builder in block bb -/
def RS (W : World) (B bb : Nat) (id total sum : Int) (bs : List UInt8) : Prop := ∃ v, Blk W bb 51 #[.int .i64 id, .int .i64 total, .int .u32 sum, v] ∧ OwnY W B v bs
theorem RS.fr0 {W W2 : World} {B bb : Nat} {id total sum : Int} {bs : List UInt8} (h : RS W B bb id total sum bs) (hf : Fr (fun _ => False) W W2) : RS W2 B bb id total sum bs := by
  obtain ⟨v, h1, h2⟩ := h
  exact ⟨v, h1.fr hf (fun e => e), h2.fr hf (fun _ _ e => e)⟩
theorem RowY.keep_set51 {W W2 : World} {ao : Option Addr} {xs : List UInt8} (h : RowY W ao xs) {bb : Nat} {i0 i1 i2 : Int} {o4 : Option Addr} {n4 c4 : Nat} (hb : Blk W bb 51 #[.int .i64 i0, .int .i64 i1, .int .u32 i2, .slice o4 n4 c4]) (hf : Fr (fun k => k = bb) W W2) : RowY W2 ao xs := by
  by_cases hx : xs = []
  · exact .inl hx
  refine h.fr hf (fun a ha e => ?_)
  obtain ⟨x, hx0⟩ : ∃ x, xs[0]? = some x := by
    cases xs with
    | nil => exact absurd rfl hx
    | cons x _ => exact ⟨x, rfl⟩
  obtain ⟨b, o, rfl, hc⟩ := h.at_ hx0
  cases ha
  have e' : b = bb := e
  subst e'
  rw [hb.cell, Nat.add_zero] at hc
  match o, hc with
  | 0, hc => simp at hc
  | 1, hc => simp at hc
  | 2, hc => simp at hc
  | 3, hc => simp at hc
  | k + 4, hc => simp at hc
/-- append(append([]byte{}, bs...), ys...) -/
theorem copy_y (W : World) (bo ao : Option Addr) (bc n m cp : Nat) (bs ys : List UInt8) (hb : RowY W bo bs) (hn : bs.length = n) (ha : RowY W ao ys) (hm : ys.length = m) (hs : n + m ≤ 10000000) :
    ∃ v1 w1 v2 w2, (Builtin.append_ #[22, 22] 22 #[.slice (some ⟨W.heap.size, 0, none⟩) 0 0, .slice bo n bc]).run Tryd.prog (W.alloc (.cells #[] 5)) = .ok v1 w1 ∧ (Builtin.append_ #[22, 22] 22 #[v1, .slice ao m cp]).run Tryd.prog w1 = .ok v2 w2 ∧
      Fr (fun _ => False) W w1 ∧ Fr (fun _ => False) W w2 ∧ OwnY w2 W.heap.size v2 (bs ++ ys) := by
  have ho := OwnY.empty W W.heap.size (Nat.le_refl _)
  have hf : Fr (fun _ => False) W (W.alloc (.cells #[] 5)) := Fr.alloc _ _ _
  obtain ⟨v1, w1, hrun, hown, hfr, _⟩ := app_y (W.alloc (.cells #[] 5)) W.heap.size _ [] bs 22 hf.size ho bo bc n (hb.fr0 hf) hn (by simp; omega)
  rw [List.nil_append] at hown
  have h1 : Fr (fun _ => False) W w1 := Fr.above' hf hfr (fun k e => (ho.ob e).1)
  obtain ⟨v2, w2, hrun2, hown2, hfr2, _⟩ := app_y w1 W.heap.size v1 bs ys 22 h1.size hown ao cp m (ha.fr0 h1) hm (by omega)
  exact ⟨v1, w1, v2, w2, hrun, hrun2, h1, Fr.above' h1 hfr2 (fun k e => (hown.ob e).1), hown2⟩
set_option maxRecDepth 100000 in
set_option maxHeartbeats 8000000 in
theorem radd_any (W : World) (B bb : Nat) (id total sum : Int) (bs l : List UInt8) (h : RS W B bb id total sum bs) (hB : B ≤ W.heap.size) (pid pat ptot psum : Int) (ao : Option Addr) (dl cp : Nat) (hl : RowY W ao l) (hd : l.length = dl) (hdl : dl ≤ 1000000) (hcp : dl ≤ cp) (hcm : cp ≤ 9223372036854775807) (hbs : bs.length ≤ 1048576) :
    Calls Tryd.prog 18 #[.pointer (some ⟨bb, 0, none⟩), .agg #[.int .i64 pid, .int .i64 pat, .int .i64 ptot, .int .u32 psum, .slice ao dl cp]] W fun r W' => Fr (fun k => k = bb) W W' ∧
      (addE id total sum bs.length pid pat ptot psum dl ≠ 0 → RS W' B bb id total sum bs ∧ r = .returned (.tuple #[.bool false, .int .i64 (addE id total sum bs.length pid pat ptot psum dl)])) ∧
      (addE id total sum bs.length pid pat ptot psum dl = 0 → RS W' B bb (fresh id pid pid id) (fresh id pid ptot total) (fresh id pid psum sum) (addB id bs pid pat l) ∧ r = .returned (.tuple #[.bool ((((addB id bs pid pat l).length : Int)) == fresh id pid ptot total), .int .i64 0])) := by
  obtain ⟨v, hb, ho⟩ := h
  obtain ⟨bo, bc, rfl, hnc, hcx, hrow, _⟩ := ho.row
  obtain ⟨n, hn⟩ : ∃ n, bs.length = n := ⟨_, rfl⟩
  rw [hn] at hb ho hnc hbs ⊢
  have hp := Blk.new W 37 #[.int .i64 pid, .int .i64 pat, .int .i64 ptot, .int .u32 psum, .slice ao dl cp]
  have hf : Fr (fun _ => False) W (W.alloc (.cells #[.int .i64 pid, .int .i64 pat, .int .i64 ptot, .int .u32 psum, .slice ao dl cp] 37)) := Fr.alloc _ _ _
  obtain ⟨w1, hw1⟩ : ∃ w, W.alloc (.cells #[.int .i64 pid, .int .i64 pat, .int .i64 ptot, .int .u32 psum, .slice ao dl cp] 37) = w := ⟨_, rfl⟩
  obtain ⟨g, hg⟩ : ∃ g, W.heap.size = g := ⟨_, rfl⟩
  rw [hw1] at hp hf
  rw [hg] at hp
  have HP := Lib.hid hp
  have HLT : Hid (bb < g) := Lib.hid (by rw [← hg]; exact hb.lt)
  have HBK := Lib.hid (hb.fr hf (fun e => e))
  have HO := Lib.hid (ho.fr hf (fun _ _ e => e))
  have HF := Lib.hid hf
  have HL := Lib.hid (hl.fr0 hf)
  have HN := Lib.hid hn
  have HD := Lib.hid hd
  have HG := Lib.hid hg
  have HC := Lib.hid (And.intro hdl (And.intro hcp (And.intro hcm (And.intro hbs hnc))))
  have HBW := Lib.hid hB
  have b0 := HBK.out.cell 0
  have b1 := HBK.out.cell 1
  have b2 := HBK.out.cell 2
  have b3 := HBK.out.cell 3
  have s0 := hp.cell 0
  have s1 := hp.cell 1
  have s2 := hp.cell 2
  have s3 := hp.cell 3
  have s4 := hp.cell 4
  simp only [List.getElem?_toArray, List.getElem?_cons_zero, List.getElem?_cons_succ] at b0 b1 b2 b3 s0 s1 s2 s3 s4
  have HKEEP : Hid (∀ w2, Fr (fun _ => False) w1 w2 → Fr (fun k => k = bb) W w2 ∧ RS w2 B bb id total sum bs) := Lib.hid (fun w2 hw => ⟨(hf.trans hw).mono fun _ e => e.elim, ⟨_, HBK.out.fr hw (fun e => e), by have := HO.out.fr hw (fun _ _ e => e); exact this⟩⟩)
  clear hb ho hnc hcx hrow hn hp hf hl hd hdl hcp hcm hbs hB
  by_cases f1h : pat < 0
  · have f1 : decide (pat < 0) = true := decide_eq_true (by omega)
    go_enter Tryd.func18, Tryd.ntmps18
    go_upto_region 1 with (fail)
    try rw [hw1]
    try rw [hg]
    go_wp2
    go_ret2
    have HADD : addE id total sum n pid pat ptot psum dl = 1 := by
      unfold addE; rw [if_pos (by omega)]
    rw [HADD]
    exact ⟨(HKEEP.out _ (by first | exact Fr.refl _ _ | exact Fr.drewN _ _ _ | exact (Fr.drewN _ _ _).trans (Fr.drewN _ _ _) | exact ((Fr.drewN _ _ _).trans (Fr.drewN _ _ _)).trans (Fr.drewN _ _ _))).1, fun _ => ⟨(HKEEP.out _ (by first | exact Fr.refl _ _ | exact Fr.drewN _ _ _ | exact (Fr.drewN _ _ _).trans (Fr.drewN _ _ _) | exact ((Fr.drewN _ _ _).trans (Fr.drewN _ _ _)).trans (Fr.drewN _ _ _))).2, rfl⟩, fun h => absurd h (by decide)⟩
  have f1 : decide (pat < 0) = false := decide_eq_false (by omega)
  by_cases f2h : ptot < 0
  · have f2 : decide (ptot < 0) = true := decide_eq_true (by omega)
    go_enter Tryd.func18, Tryd.ntmps18
    go_upto_region 1 with (fail)
    try rw [hw1]
    try rw [hg]
    go_wp2
    go_ret2
    have HADD : addE id total sum n pid pat ptot psum dl = 1 := by
      unfold addE; rw [if_pos (by omega)]
    rw [HADD]
    exact ⟨(HKEEP.out _ (by first | exact Fr.refl _ _ | exact Fr.drewN _ _ _ | exact (Fr.drewN _ _ _).trans (Fr.drewN _ _ _) | exact ((Fr.drewN _ _ _).trans (Fr.drewN _ _ _)).trans (Fr.drewN _ _ _))).1, fun _ => ⟨(HKEEP.out _ (by first | exact Fr.refl _ _ | exact Fr.drewN _ _ _ | exact (Fr.drewN _ _ _).trans (Fr.drewN _ _ _) | exact ((Fr.drewN _ _ _).trans (Fr.drewN _ _ _)).trans (Fr.drewN _ _ _))).2, rfl⟩, fun h => absurd h (by decide)⟩
  have f2 : decide (ptot < 0) = false := decide_eq_false (by omega)
  by_cases f3h : 1048576 < ptot
  · have f3 : decide (1048576 < ptot) = true := decide_eq_true (by omega)
    go_enter Tryd.func18, Tryd.ntmps18
    go_upto_region 1 with (fail)
    try rw [hw1]
    try rw [hg]
    go_wp2
    go_ret2
    have HADD : addE id total sum n pid pat ptot psum dl = 1 := by
      unfold addE; rw [if_pos (by omega)]
    rw [HADD]
    exact ⟨(HKEEP.out _ (by first | exact Fr.refl _ _ | exact Fr.drewN _ _ _ | exact (Fr.drewN _ _ _).trans (Fr.drewN _ _ _) | exact ((Fr.drewN _ _ _).trans (Fr.drewN _ _ _)).trans (Fr.drewN _ _ _))).1, fun _ => ⟨(HKEEP.out _ (by first | exact Fr.refl _ _ | exact Fr.drewN _ _ _ | exact (Fr.drewN _ _ _).trans (Fr.drewN _ _ _) | exact ((Fr.drewN _ _ _).trans (Fr.drewN _ _ _)).trans (Fr.drewN _ _ _))).2, rfl⟩, fun h => absurd h (by decide)⟩
  have f3 : decide (1048576 < ptot) = false := decide_eq_false (by omega)
  by_cases f4h : ptot < pat
  · have f4 : decide (ptot < pat) = true := decide_eq_true (by omega)
    go_enter Tryd.func18, Tryd.ntmps18
    go_upto_region 1 with (fail)
    try rw [hw1]
    try rw [hg]
    go_wp2
    go_ret2
    have HADD : addE id total sum n pid pat ptot psum dl = 1 := by
      unfold addE; rw [if_pos (by omega)]
    rw [HADD]
    exact ⟨(HKEEP.out _ (by first | exact Fr.refl _ _ | exact Fr.drewN _ _ _ | exact (Fr.drewN _ _ _).trans (Fr.drewN _ _ _) | exact ((Fr.drewN _ _ _).trans (Fr.drewN _ _ _)).trans (Fr.drewN _ _ _))).1, fun _ => ⟨(HKEEP.out _ (by first | exact Fr.refl _ _ | exact Fr.drewN _ _ _ | exact (Fr.drewN _ _ _).trans (Fr.drewN _ _ _) | exact ((Fr.drewN _ _ _).trans (Fr.drewN _ _ _)).trans (Fr.drewN _ _ _))).2, rfl⟩, fun h => absurd h (by decide)⟩
  have f4 : decide (ptot < pat) = false := decide_eq_false (by omega)
  by_cases f5h : ptot - pat < (dl : Int)
  · have f5 : decide (ptot - pat < (dl : Int)) = true := decide_eq_true (by omega)
    go_enter Tryd.func18, Tryd.ntmps18
    go_upto_region 1 with (fail)
    try rw [hw1]
    try rw [hg]
    go_wp2
    go_ret2
    have HADD : addE id total sum n pid pat ptot psum dl = 1 := by
      unfold addE; rw [if_pos (by omega)]
    rw [HADD]
    exact ⟨(HKEEP.out _ (by first | exact Fr.refl _ _ | exact Fr.drewN _ _ _ | exact (Fr.drewN _ _ _).trans (Fr.drewN _ _ _) | exact ((Fr.drewN _ _ _).trans (Fr.drewN _ _ _)).trans (Fr.drewN _ _ _))).1, fun _ => ⟨(HKEEP.out _ (by first | exact Fr.refl _ _ | exact Fr.drewN _ _ _ | exact (Fr.drewN _ _ _).trans (Fr.drewN _ _ _) | exact ((Fr.drewN _ _ _).trans (Fr.drewN _ _ _)).trans (Fr.drewN _ _ _))).2, rfl⟩, fun h => absurd h (by decide)⟩
  have f5 : decide (ptot - pat < (dl : Int)) = false := decide_eq_false (by omega)
  by_cases f6h : dl = 0 ∧ ptot ≠ 0
  · obtain ⟨hd0, hp0⟩ := f6h
    subst hd0
    have g2 : (ptot == 0) = false := by simp; omega
    have g3 : (ptot != 0) = true := by simp; omega
    go_enter Tryd.func18, Tryd.ntmps18
    go_upto_region 1 with (fail)
    try rw [hw1]
    try rw [hg]
    go_wp2
    go_ret2
    have HADD : addE id total sum n pid pat ptot psum 0 = 1 := by
      unfold addE; rw [if_pos (by omega)]
    rw [HADD]
    exact ⟨(HKEEP.out _ (by first | exact Fr.refl _ _ | exact Fr.drewN _ _ _ | exact (Fr.drewN _ _ _).trans (Fr.drewN _ _ _) | exact ((Fr.drewN _ _ _).trans (Fr.drewN _ _ _)).trans (Fr.drewN _ _ _))).1, fun _ => ⟨(HKEEP.out _ (by first | exact Fr.refl _ _ | exact Fr.drewN _ _ _ | exact (Fr.drewN _ _ _).trans (Fr.drewN _ _ _) | exact ((Fr.drewN _ _ _).trans (Fr.drewN _ _ _)).trans (Fr.drewN _ _ _))).2, rfl⟩, fun h => absurd h (by decide)⟩
  by_cases hd0 : dl = 0
  · subst hd0
    have hp0 : ptot = 0 := by omega
    subst hp0
    clear f6h
    by_cases f7h : pid < 0
    · have f7 : decide (pid < 0) = true := decide_eq_true (by omega)
      go_enter Tryd.func18, Tryd.ntmps18
      go_upto_region 1 with (fail)
      try rw [hw1]
      try rw [hg]
      go_wp2
      go_ret2
      have HADD : addE id total sum n pid pat (0 : Int) psum 0 = 1 := by
        unfold addE; rw [if_pos (by omega)]
      rw [HADD]
      exact ⟨(HKEEP.out _ (by first | exact Fr.refl _ _ | exact Fr.drewN _ _ _ | exact (Fr.drewN _ _ _).trans (Fr.drewN _ _ _) | exact ((Fr.drewN _ _ _).trans (Fr.drewN _ _ _)).trans (Fr.drewN _ _ _))).1, fun _ => ⟨(HKEEP.out _ (by first | exact Fr.refl _ _ | exact Fr.drewN _ _ _ | exact (Fr.drewN _ _ _).trans (Fr.drewN _ _ _) | exact ((Fr.drewN _ _ _).trans (Fr.drewN _ _ _)).trans (Fr.drewN _ _ _))).2, rfl⟩, fun h => absurd h (by decide)⟩
    have f7 : decide (pid < 0) = false := decide_eq_false (by omega)
    by_cases flh : pid < id
    · have fl : decide (pid < id) = true := decide_eq_true (by omega)
      go_enter Tryd.func18, Tryd.ntmps18
      go_upto_region 1 with (fail)
      try rw [hw1]
      try rw [hg]
      go_upto_region 3 with (fail)
      go_quiet (fail)
      go_wp2
      go_ret2
      have HADD : addE id total sum n pid pat (0 : Int) psum 0 = 6 := by
        unfold addE; rw [if_neg (by omega), if_pos (show pid < id by omega)]
      rw [HADD]
      exact ⟨(HKEEP.out _ (by first | exact Fr.refl _ _ | exact Fr.drewN _ _ _ | exact (Fr.drewN _ _ _).trans (Fr.drewN _ _ _) | exact ((Fr.drewN _ _ _).trans (Fr.drewN _ _ _)).trans (Fr.drewN _ _ _))).1, fun _ => ⟨(HKEEP.out _ (by first | exact Fr.refl _ _ | exact Fr.drewN _ _ _ | exact (Fr.drewN _ _ _).trans (Fr.drewN _ _ _) | exact ((Fr.drewN _ _ _).trans (Fr.drewN _ _ _)).trans (Fr.drewN _ _ _))).2, rfl⟩, fun h => absurd h (by decide)⟩
    have fl : decide (pid < id) = false := decide_eq_false (by omega)
    by_cases feh : pid = id
    · subst feh
      have fg : decide (pid < pid) = false := decide_eq_false (by omega)
      by_cases fth : (0 : Int) = total
      rotate_left
      · have ft : (total == (0 : Int)) = false := by simp [Ne.symm fth]
        have ft2 : (total != (0 : Int)) = true := by simp [Ne.symm fth]
        have HFT := Lib.hid fth
        clear fth
        go_enter Tryd.func18, Tryd.ntmps18
        go_upto_region 1 with (fail)
        try rw [hw1]
        try rw [hg]
        go_upto_region 3 with (fail)
        go_quiet (fail)
        go_upto_region 5 with (fail)
        go_quiet (fail)
        go_wp2
        go_ret2
        have HADD : addE pid total sum n pid pat (0 : Int) psum 0 = 8 := by
          unfold addE; rw [if_neg (by omega), if_neg (show ¬ pid < pid by omega), if_pos ⟨rfl, .inl HFT.out⟩]
        rw [HADD]
        exact ⟨(HKEEP.out _ (by first | exact Fr.refl _ _ | exact Fr.drewN _ _ _ | exact (Fr.drewN _ _ _).trans (Fr.drewN _ _ _) | exact ((Fr.drewN _ _ _).trans (Fr.drewN _ _ _)).trans (Fr.drewN _ _ _))).1, fun _ => ⟨(HKEEP.out _ (by first | exact Fr.refl _ _ | exact Fr.drewN _ _ _ | exact (Fr.drewN _ _ _).trans (Fr.drewN _ _ _) | exact ((Fr.drewN _ _ _).trans (Fr.drewN _ _ _)).trans (Fr.drewN _ _ _))).2, rfl⟩, fun h => absurd h (by decide)⟩
      subst fth
      by_cases fsh : psum = sum
      rotate_left
      · have fs : (sum == psum) = false := by simp [Ne.symm fsh]
        have fs2 : (sum != psum) = true := by simp [Ne.symm fsh]
        have HFS := Lib.hid fsh
        clear fsh
        go_enter Tryd.func18, Tryd.ntmps18
        go_upto_region 1 with (fail)
        try rw [hw1]
        try rw [hg]
        go_upto_region 3 with (fail)
        go_quiet (fail)
        go_upto_region 5 with (fail)
        go_quiet (fail)
        go_wp2
        go_ret2
        have HADD : addE pid (0 : Int) sum n pid pat (0 : Int) psum 0 = 8 := by
          unfold addE; rw [if_neg (by omega), if_neg (show ¬ pid < pid by omega), if_pos ⟨rfl, .inr HFS.out⟩]
        rw [HADD]
        exact ⟨(HKEEP.out _ (by first | exact Fr.refl _ _ | exact Fr.drewN _ _ _ | exact (Fr.drewN _ _ _).trans (Fr.drewN _ _ _) | exact ((Fr.drewN _ _ _).trans (Fr.drewN _ _ _)).trans (Fr.drewN _ _ _))).1, fun _ => ⟨(HKEEP.out _ (by first | exact Fr.refl _ _ | exact Fr.drewN _ _ _ | exact (Fr.drewN _ _ _).trans (Fr.drewN _ _ _) | exact ((Fr.drewN _ _ _).trans (Fr.drewN _ _ _)).trans (Fr.drewN _ _ _))).2, rfl⟩, fun h => absurd h (by decide)⟩
      subst fsh
      by_cases fah : (n : Int) < pat
      · omega
      have fa : decide ((n : Int) < pat) = false := decide_eq_false (by omega)
      obtain rfl : pat = 0 := by omega
      have HADD' : Hid (addE pid 0 psum n pid 0 0 psum 0 = 0) := Lib.hid (by
        unfold addE; rw [if_neg (by omega), if_neg (show ¬ pid < pid by omega), if_neg (fun h => h.2.elim (fun h => h rfl) (fun h => h rfl)), if_neg (show ¬ pid < pid by omega), if_neg (show ¬ (n : Int) < 0 by omega)])
      have fx : decide ((n : Int) < 0) = false := decide_eq_false (by omega)
      go_enter Tryd.func18, Tryd.ntmps18
      go_upto_region 1 with (fail)
      try rw [hw1]
      try rw [hg]
      go_upto_region 3 with (fail)
      go_quiet (fail)
      go_upto_region 5 with (fail)
      go_quiet (fail)
      go_upto_region 8 with (fail)
      go_quiet (fail)
      go_upto_region 12 with (fail)
      go_quiet (fail)
      go_upto_region 14 with (fail)
      go_quiet (fail)
      go_upto_region 16 with (fail)
      go_quiet (fail)
      go_wp2
      go_ret2
      rw [HADD'.out]
      have HAB : addB pid bs pid 0 l = bs := by
        unfold addB
        rw [if_neg (show ¬ pid < pid by omega)]
        exact if_neg (by rw [HN.out, HD.out]; omega)
      have HFR : ∀ a b, fresh pid pid a b = b := fun a b => by unfold fresh; rw [if_neg (by omega)]
      rw [HAB, HFR, HFR, HFR, HN.out]
      exact ⟨(HKEEP.out _ (by first | exact Fr.refl _ _ | exact Fr.drewN _ _ _ | exact (Fr.drewN _ _ _).trans (Fr.drewN _ _ _))).1, fun h => absurd rfl h, fun _ => ⟨(HKEEP.out _ (by first | exact Fr.refl _ _ | exact Fr.drewN _ _ _ | exact (Fr.drewN _ _ _).trans (Fr.drewN _ _ _))).2, by first | rfl | (simp only [HN.out, HM7.out, HD.out]; first | rfl | simp)⟩⟩
    have fe : (id == pid) = false := by simp [Ne.symm feh]
    have HFE := Lib.hid feh
    have fg : decide (id < pid) = true := decide_eq_true (by omega)
    clear feh
    by_cases fah : 0 < pat
    · omega
    have fa : decide (0 < pat) = false := decide_eq_false (by omega)
    obtain rfl : pat = 0 := by omega
    have HADD' : Hid (addE id total sum n pid 0 0 psum 0 = 0) := Lib.hid (by
      unfold addE; rw [if_neg (by omega), if_neg (show ¬ pid < id by omega), if_neg (fun h => HFE.out h.1), if_pos (show id < pid by have := HFE.out; omega), if_neg (by omega)])
    have HIP : Hid (id < pid) := Lib.hid (by have := HFE.out; omega)
    have k0 := HBK.out.frozen 0
    have k1 := HBK.out.frozen 1
    have k2 := HBK.out.frozen 2
    have k3 := HBK.out.frozen 3
    go_enter Tryd.func18, Tryd.ntmps18
    go_upto_region 1 with (fail)
    try rw [hw1]
    try rw [hg]
    go_upto_region 3 with (fail)
    go_quiet (fail)
    go_upto_region 5 with (fail)
    go_quiet (fail)
    go_upto_region 8 with (fail)
    go_quiet (fail)
    go_upto_region 12 with (fail)
    go_quiet (fail)
    go_upto_region 14 with (fail)
    generalize hw13 : World.drewN _ _ = w13
    have hf12 : Fr (fun _ => False) w1 w13 := by rw [← hw13]; first | exact Fr.drewN _ _ _ | exact (Fr.drewN _ _ _).trans (Fr.drewN _ _ _) | exact ((Fr.drewN _ _ _).trans (Fr.drewN _ _ _)).trans (Fr.drewN _ _ _) | exact (((Fr.drewN _ _ _).trans (Fr.drewN _ _ _)).trans (Fr.drewN _ _ _)).trans (Fr.drewN _ _ _)
    have hf13 : Fr (fun k => k = bb) w1 w13 := hf12.mono fun _ e => e.elim
    obtain ⟨w16, hw16⟩ : ∃ w, ((((w13.setCell ⟨bb, 0, none⟩ (.int .i64 pid)).setCell ⟨bb, 1, none⟩ (.int .i64 0)).setCell ⟨bb, 2, none⟩ (.int .u32 psum)).setCell ⟨bb, 3, none⟩ (.slice none 0 0)) = w := ⟨_, rfl⟩
    have hf16 : Fr (fun k => k = bb) w1 w16 := by rw [← hw16]; exact (((hf13.trans (Fr.setCell _ _ _ rfl)).trans (Fr.setCell _ _ _ rfl)).trans (Fr.setCell _ _ _ rfl)).trans (Fr.setCell _ _ _ rfl)
    have HBK16 : Hid (Blk w16 bb 51 #[.int .i64 pid, .int .i64 0, .int .u32 psum, .slice none 0 0]) := Lib.hid (by
      have h := HBK.out.fr hf12 (fun e => e)
      rw [← hw16]
      exact (((h.set 0 (.int .i64 pid)).set 1 (.int .i64 0)).set 2 (.int .u32 psum)).set 3 (.slice none 0 0))
    have HP16 := Lib.hid (HP.out.fr hf16 (by have := HLT.out; omega))
    have HO16 := Lib.hid (OwnY.none w16 B)
    have HL16 := Lib.hid (HL.out.keep_set51 HBK.out hf16)
    have HF16 : Hid (Fr (fun k => k = bb) W w16) := Lib.hid ((HF.out.mono fun _ e => e.elim).trans hf16)
    rw [hw16]
    clear hw16 hf16 hf12 hw13 hf13 b0 b1 b2 b3 s0 s1 s2 s3 s4 k0 k1 k2 k3 w13
    have s1 := HP16.out.cell 1
    have s4 := HP16.out.cell 4
    have b1 := HBK16.out.cell 1
    have b3 := HBK16.out.cell 3
    simp only [List.getElem?_toArray, List.getElem?_cons_zero, List.getElem?_cons_succ] at s1 s4 b1 b3
    go_quiet (fail)
    have HAB : Hid (addB id bs pid 0 l = []) := Lib.hid (by
      unfold addB
      rw [if_pos HIP.out]
      exact if_neg (by rw [HD.out]; decide))
    go_upto_region 16 with (fail)
    go_quiet (fail)
    go_wp2
    go_ret2
    rw [HADD'.out, HAB.out]
    have HFR : ∀ a b, fresh id pid a b = a := fun a b => by unfold fresh; rw [if_pos HIP.out]
    rw [HFR, HFR, HFR]
    have hrs : RS w16 B bb pid 0 psum [] := ⟨_, HBK16.out, OwnY.none _ _⟩
    generalize hw17 : World.drewN _ _ = w17
    have hf16d : Fr (fun _ => False) w16 w17 := by rw [← hw17]; first | exact Fr.drewN _ _ _ | exact (Fr.drewN _ _ _).trans (Fr.drewN _ _ _) | exact ((Fr.drewN _ _ _).trans (Fr.drewN _ _ _)).trans (Fr.drewN _ _ _) | exact (((Fr.drewN _ _ _).trans (Fr.drewN _ _ _)).trans (Fr.drewN _ _ _)).trans (Fr.drewN _ _ _)
    exact ⟨HF16.out.trans (hf16d.mono fun _ e => e.elim), fun h => absurd rfl h, fun _ => ⟨hrs.fr0 hf16d, rfl⟩⟩
  · have g1 : ((dl : Int) == 0) = false := by simp; omega
    have g1' : (dl == 0) = false := by simp [hd0]
    clear f6h
    by_cases f7h : pid < 0
    · have f7 : decide (pid < 0) = true := decide_eq_true (by omega)
      go_enter Tryd.func18, Tryd.ntmps18
      go_upto_region 1 with (fail)
      try rw [hw1]
      try rw [hg]
      go_wp2
      go_ret2
      have HADD : addE id total sum n pid pat ptot psum dl = 1 := by
        unfold addE; rw [if_pos (by omega)]
      rw [HADD]
      exact ⟨(HKEEP.out _ (by first | exact Fr.refl _ _ | exact Fr.drewN _ _ _ | exact (Fr.drewN _ _ _).trans (Fr.drewN _ _ _) | exact ((Fr.drewN _ _ _).trans (Fr.drewN _ _ _)).trans (Fr.drewN _ _ _))).1, fun _ => ⟨(HKEEP.out _ (by first | exact Fr.refl _ _ | exact Fr.drewN _ _ _ | exact (Fr.drewN _ _ _).trans (Fr.drewN _ _ _) | exact ((Fr.drewN _ _ _).trans (Fr.drewN _ _ _)).trans (Fr.drewN _ _ _))).2, rfl⟩, fun h => absurd h (by decide)⟩
    have f7 : decide (pid < 0) = false := decide_eq_false (by omega)
    by_cases flh : pid < id
    · have fl : decide (pid < id) = true := decide_eq_true (by omega)
      go_enter Tryd.func18, Tryd.ntmps18
      go_upto_region 1 with (fail)
      try rw [hw1]
      try rw [hg]
      go_upto_region 3 with (fail)
      go_quiet (fail)
      go_wp2
      go_ret2
      have HADD : addE id total sum n pid pat ptot psum dl = 6 := by
        unfold addE; rw [if_neg (by omega), if_pos (show pid < id by omega)]
      rw [HADD]
      exact ⟨(HKEEP.out _ (by first | exact Fr.refl _ _ | exact Fr.drewN _ _ _ | exact (Fr.drewN _ _ _).trans (Fr.drewN _ _ _) | exact ((Fr.drewN _ _ _).trans (Fr.drewN _ _ _)).trans (Fr.drewN _ _ _))).1, fun _ => ⟨(HKEEP.out _ (by first | exact Fr.refl _ _ | exact Fr.drewN _ _ _ | exact (Fr.drewN _ _ _).trans (Fr.drewN _ _ _) | exact ((Fr.drewN _ _ _).trans (Fr.drewN _ _ _)).trans (Fr.drewN _ _ _))).2, rfl⟩, fun h => absurd h (by decide)⟩
    have fl : decide (pid < id) = false := decide_eq_false (by omega)
    by_cases feh : pid = id
    · subst feh
      have fg : decide (pid < pid) = false := decide_eq_false (by omega)
      by_cases fth : ptot = total
      rotate_left
      · have ft : (total == ptot) = false := by simp [Ne.symm fth]
        have ft2 : (total != ptot) = true := by simp [Ne.symm fth]
        have HFT := Lib.hid fth
        clear fth
        go_enter Tryd.func18, Tryd.ntmps18
        go_upto_region 1 with (fail)
        try rw [hw1]
        try rw [hg]
        go_upto_region 3 with (fail)
        go_quiet (fail)
        go_upto_region 5 with (fail)
        go_quiet (fail)
        go_wp2
        go_ret2
        have HADD : addE pid total sum n pid pat ptot psum dl = 8 := by
          unfold addE; rw [if_neg (by omega), if_neg (show ¬ pid < pid by omega), if_pos ⟨rfl, .inl HFT.out⟩]
        rw [HADD]
        exact ⟨(HKEEP.out _ (by first | exact Fr.refl _ _ | exact Fr.drewN _ _ _ | exact (Fr.drewN _ _ _).trans (Fr.drewN _ _ _) | exact ((Fr.drewN _ _ _).trans (Fr.drewN _ _ _)).trans (Fr.drewN _ _ _))).1, fun _ => ⟨(HKEEP.out _ (by first | exact Fr.refl _ _ | exact Fr.drewN _ _ _ | exact (Fr.drewN _ _ _).trans (Fr.drewN _ _ _) | exact ((Fr.drewN _ _ _).trans (Fr.drewN _ _ _)).trans (Fr.drewN _ _ _))).2, rfl⟩, fun h => absurd h (by decide)⟩
      subst fth
      by_cases fsh : psum = sum
      rotate_left
      · have fs : (sum == psum) = false := by simp [Ne.symm fsh]
        have fs2 : (sum != psum) = true := by simp [Ne.symm fsh]
        have HFS := Lib.hid fsh
        clear fsh
        go_enter Tryd.func18, Tryd.ntmps18
        go_upto_region 1 with (fail)
        try rw [hw1]
        try rw [hg]
        go_upto_region 3 with (fail)
        go_quiet (fail)
        go_upto_region 5 with (fail)
        go_quiet (fail)
        go_wp2
        go_ret2
        have HADD : addE pid ptot sum n pid pat ptot psum dl = 8 := by
          unfold addE; rw [if_neg (by omega), if_neg (show ¬ pid < pid by omega), if_pos ⟨rfl, .inr HFS.out⟩]
        rw [HADD]
        exact ⟨(HKEEP.out _ (by first | exact Fr.refl _ _ | exact Fr.drewN _ _ _ | exact (Fr.drewN _ _ _).trans (Fr.drewN _ _ _) | exact ((Fr.drewN _ _ _).trans (Fr.drewN _ _ _)).trans (Fr.drewN _ _ _))).1, fun _ => ⟨(HKEEP.out _ (by first | exact Fr.refl _ _ | exact Fr.drewN _ _ _ | exact (Fr.drewN _ _ _).trans (Fr.drewN _ _ _) | exact ((Fr.drewN _ _ _).trans (Fr.drewN _ _ _)).trans (Fr.drewN _ _ _))).2, rfl⟩, fun h => absurd h (by decide)⟩
      subst fsh
      by_cases fah : (n : Int) < pat
      · have fa : decide ((n : Int) < pat) = true := decide_eq_true (by omega)
        go_enter Tryd.func18, Tryd.ntmps18
        go_upto_region 1 with (fail)
        try rw [hw1]
        try rw [hg]
        go_upto_region 3 with (fail)
        go_quiet (fail)
        go_upto_region 5 with (fail)
        go_quiet (fail)
        go_upto_region 8 with (fail)
        go_quiet (fail)
        go_wp2
        go_ret2
        have HADD : addE pid ptot psum n pid pat ptot psum dl = 6 := by
          unfold addE; rw [if_neg (by omega), if_neg (show ¬ pid < pid by omega), if_neg (fun h => h.2.elim (fun h => h rfl) (fun h => h rfl)), if_neg (show ¬ pid < pid by omega), if_pos fah]
        rw [HADD]
        exact ⟨(HKEEP.out _ (by first | exact Fr.refl _ _ | exact Fr.drewN _ _ _ | exact (Fr.drewN _ _ _).trans (Fr.drewN _ _ _) | exact ((Fr.drewN _ _ _).trans (Fr.drewN _ _ _)).trans (Fr.drewN _ _ _))).1, fun _ => ⟨(HKEEP.out _ (by first | exact Fr.refl _ _ | exact Fr.drewN _ _ _ | exact (Fr.drewN _ _ _).trans (Fr.drewN _ _ _) | exact ((Fr.drewN _ _ _).trans (Fr.drewN _ _ _)).trans (Fr.drewN _ _ _))).2, rfl⟩, fun h => absurd h (by decide)⟩
      have fa : decide ((n : Int) < pat) = false := decide_eq_false (by omega)
      obtain ⟨pn, rfl⟩ : ∃ pn : Nat, pat = (pn : Int) := ⟨pat.toNat, by omega⟩
      have hcc := HC.out
      have hpn : pn ≤ n := by omega
      have HADD : addE pid ptot psum n pid (pn : Int) ptot psum dl = 0 := by
        unfold addE; rw [if_neg (by omega), if_neg (show ¬ pid < pid by omega), if_neg (fun h => h.2.elim (fun h => h rfl) (fun h => h rfl)), if_neg (show ¬ pid < pid by omega), if_neg (show ¬ (n : Int) < pn by omega)]
      by_cases fxh : n < pn + dl
      · have fx : decide ((n : Int) < (pn : Int) + (dl : Int)) = true := decide_eq_true (by omega)
        have q2 : n ≤ dl + pn := by omega
        have q3 : ¬ cp = n - pn := by omega
        have q1 : IntKind.i64.wrap ((n : Int) - pn) = ((n - pn : Nat) : Int) := by simp [IntKind.wrap, IntKind.bits, IntKind.signed]; omega
        have HADD' := Lib.hid HADD
        clear HADD
        go_enter Tryd.func18, Tryd.ntmps18
        go_upto_region 1 with (fail)
        try rw [hw1]
        try rw [hg]
        go_upto_region 3 with (fail)
        go_quiet (fail)
        go_upto_region 5 with (fail)
        go_quiet (fail)
        go_upto_region 8 with (fail)
        go_quiet (fail)
        go_upto_region 12 with (fail)
        go_quiet (fail)
        go_upto_region 14 with (fail)
        go_quiet (fail)
        go_upto_region 15 with (fail)
        generalize hw16 : World.drewN _ _ = w16
        have hf16 : Fr (fun _ => False) w1 w16 := by rw [← hw16]; first | exact Fr.drewN _ _ _ | exact (Fr.drewN _ _ _).trans (Fr.drewN _ _ _) | exact ((Fr.drewN _ _ _).trans (Fr.drewN _ _ _)).trans (Fr.drewN _ _ _) | exact (((Fr.drewN _ _ _).trans (Fr.drewN _ _ _)).trans (Fr.drewN _ _ _)).trans (Fr.drewN _ _ _)
        have HBK16 := Lib.hid (HBK.out.fr hf16 (fun e => e))
        have HP16 := Lib.hid (HP.out.fr hf16 (fun e => e))
        have HO16 := Lib.hid (HO.out.fr hf16 (fun _ _ e => e))
        have HL16 := Lib.hid (HL.out.fr0 hf16)
        have HF16 : Hid (Fr (fun k => k = bb) W w16) := Lib.hid ((HF.out.trans hf16).mono fun _ e => e.elim)
        clear hw16 hf16 b0 b1 b2 b3 s0 s1 s2 s3 s4
        have s0 := True.intro
        have s1 := True.intro
        have s2 := True.intro
        have s3 := True.intro
        have s4 := True.intro
        have FACT : Hid (∀ w', Fr (fun _ => False) w16 w' → w'.cell? ⟨bb, 3, none⟩ = some (.slice bo n bc) ∧ w'.cell? ⟨g, 1, none⟩ = some (.int .i64 (pn : Int)) ∧ w'.cell? ⟨g, 4, none⟩ = some (.slice ao dl cp)) := Lib.hid (fun w' hf => by
          have h := HP16.out.fr hf (fun e => e)
          have h2 := HBK16.out.fr hf (fun e => e)
          exact ⟨h2.cell 3, h.cell 1, h.cell 4⟩)
        refine region_Z (fun w' => w'.cell? ⟨bb, 3, none⟩ = some (.slice bo n bc) ∧ w'.cell? ⟨g, 1, none⟩ = some (.int .i64 (pn : Int)) ∧ w'.cell? ⟨g, 4, none⟩ = some (.slice ao dl cp)) 21 (by kernel_rfl) (FACT.out _ (Fr.drewN _ w16 1)) (fun hT => ?_)
        have hfd : Fr (fun _ => False) w16 w16.drew := Fr.drewN _ w16 1
        obtain ⟨wd, hwd⟩ : ∃ w, w16.drew = w := ⟨_, rfl⟩
        rw [hwd] at hT hfd ⊢
        have HFD := Lib.hid hfd
        have HBD := Lib.hid (HBK16.out.fr hfd (fun e => e))
        clear hwd hfd
        have HR2 := Lib.hid (RowY.mapDrop (HL16.out.fr0 HFD.out) (n - pn))
        obtain ⟨a2, ha2⟩ : ∃ a, Option.map (fun x : Addr => x.add (n - pn)) ao = a := ⟨_, rfl⟩
        rw [ha2] at HR2
        obtain ⟨v1, wA, v2, wB, hrun1, hrun2, hfA, hfB, ho2⟩ := copy_y wd bo a2 bc n (dl - (n - pn)) (cp - (n - pn)) bs (l.drop (n - pn)) ((RowY_own HO16.out).fr0 HFD.out) HN.out HR2.out (by rw [List.length_drop, HD.out]) (by have := HC.out; omega)
        obtain ⟨ao7, c7, rfl, hc7, hx7, _⟩ := ho2.row
        obtain ⟨m7, hm7⟩ : ∃ m, (bs ++ l.drop (n - pn)).length = m := ⟨_, rfl⟩
        rw [hm7] at ho2 hrun2
        have HM7 := Lib.hid hm7
        have HO2 := Lib.hid (ho2.to (B2 := B) (by have h1 := HBW.out; have h2 := HF16.out.size; have h3 := HFD.out.size; omega) (Fr.refl (fun _ => False) wB) (fun _ _ e => e))
        have HFA := Lib.hid (HFD.out.trans hfA)
        have HFB := Lib.hid (HFD.out.trans hfB)
        have HBA := Lib.hid (HBD.out.fr hfA (fun e => e))
        have HBB2 := Lib.hid (HBD.out.fr hfB (fun e => e))
        clear ho2 hfA hfB hc7 hx7 hm7 HR2
        refine anyZ_take (i := 0) (oi := _) (v := ?vea0) rfl (by kernel_rfl) (by kernel_rfl) (by kernel_rfl) (by kernel_rfl) (fun _ _ _ h => h) (Or.inl ⟨by rfl, ?yea0⟩) (by assumption) ?rea0
        case yea0 => intro w1 hSw; obtain ⟨s1, s2, s3⟩ := hSw; go_simp; try with_reducible rfl
        try simp only [List.getElem_toArray, List.getElem_cons_zero, List.getElem_cons_succ, Act.put, List.setIfInBounds_toArray, List.set_cons_zero, List.set_cons_succ]
        refine anyZ_take (i := 2) (oi := _) (v := ?vea2) rfl (by kernel_rfl) (by kernel_rfl) (by kernel_rfl) (by kernel_rfl) (fun _ _ _ h => h) (Or.inl ⟨by rfl, ?yea2⟩) (by assumption) ?rea2
        case yea2 => intro w1 hSw; obtain ⟨s1, s2, s3⟩ := hSw; go_simp; try with_reducible rfl
        try simp only [List.getElem_toArray, List.getElem_cons_zero, List.getElem_cons_succ, Act.put, List.setIfInBounds_toArray, List.set_cons_zero, List.set_cons_succ]
        refine anyZ_take (i := 3) (oi := _) (v := ?vea3) rfl (by kernel_rfl) (by kernel_rfl) (by kernel_rfl) (by kernel_rfl) (fun _ _ _ h => h) (Or.inl ⟨by rfl, ?yea3⟩) (by assumption) ?rea3
        case yea3 => intro w1 hSw; obtain ⟨s1, s2, s3⟩ := hSw; go_simp; try with_reducible rfl
        try simp only [List.getElem_toArray, List.getElem_cons_zero, List.getElem_cons_succ, Act.put, List.setIfInBounds_toArray, List.set_cons_zero, List.set_cons_succ]
        refine anyZ_take (i := 4) (oi := _) (v := ?vea4) rfl (by kernel_rfl) (by kernel_rfl) (by kernel_rfl) (by kernel_rfl) (fun _ _ _ h => h) (Or.inl ⟨by rfl, ?yea4⟩) (by assumption) ?rea4
        case yea4 => intro w1 hSw; obtain ⟨s1, s2, s3⟩ := hSw; go_simp; try with_reducible rfl
        try simp only [List.getElem_toArray, List.getElem_cons_zero, List.getElem_cons_succ, Act.put, List.setIfInBounds_toArray, List.set_cons_zero, List.set_cons_succ]
        refine anyZ_take (i := 5) (oi := _) (v := ?vea5) rfl (by kernel_rfl) (by kernel_rfl) (by kernel_rfl) (by kernel_rfl) (fun _ _ _ h => h) (Or.inl ⟨by rfl, ?yea5⟩) (by assumption) ?rea5
        case yea5 => intro w1 hSw; obtain ⟨s1, s2, s3⟩ := hSw; go_simp; try with_reducible rfl
        try simp only [List.getElem_toArray, List.getElem_cons_zero, List.getElem_cons_succ, Act.put, List.setIfInBounds_toArray, List.set_cons_zero, List.set_cons_succ]
        refine anyZ_take (i := 7) (oi := _) (v := ?vea7) rfl (by kernel_rfl) (by kernel_rfl) (by kernel_rfl) (by kernel_rfl) (fun _ _ _ h => h) (Or.inl ⟨by rfl, ?yea7⟩) (by assumption) ?rea7
        case yea7 => intro w1 hSw; obtain ⟨s1, s2, s3⟩ := hSw; go_simp; try with_reducible rfl
        try simp only [List.getElem_toArray, List.getElem_cons_zero, List.getElem_cons_succ, Act.put, List.setIfInBounds_toArray, List.set_cons_zero, List.set_cons_succ]
        refine anyZ_take (i := 8) (oi := _) (v := ?vea8) rfl (by kernel_rfl) (by kernel_rfl) (by kernel_rfl) (by kernel_rfl) (fun _ _ _ h => h) (Or.inl ⟨by rfl, ?yea8⟩) (by assumption) ?rea8
        case yea8 => intro w1 hSw; obtain ⟨s1, s2, s3⟩ := hSw; go_simp; try with_reducible rfl
        try simp only [List.getElem_toArray, List.getElem_cons_zero, List.getElem_cons_succ, Act.put, List.setIfInBounds_toArray, List.set_cons_zero, List.set_cons_succ]
        refine anyZ_take (i := 9) (oi := _) (v := ?vea9) rfl (by kernel_rfl) (by kernel_rfl) (by kernel_rfl) (by kernel_rfl) (fun _ _ _ h => h) (Or.inl ⟨by rfl, ?yea9⟩) (by assumption) ?rea9
        case yea9 => intro w1 hSw; obtain ⟨s1, s2, s3⟩ := hSw; go_simp; try with_reducible rfl
        try simp only [List.getElem_toArray, List.getElem_cons_zero, List.getElem_cons_succ, Act.put, List.setIfInBounds_toArray, List.set_cons_zero, List.set_cons_succ]
        refine anyZ_take (i := 10) (oi := _) (v := ?vea10) rfl (by kernel_rfl) (by kernel_rfl) (by kernel_rfl) (by kernel_rfl) (fun _ _ _ h => h) (Or.inl ⟨by rfl, ?yea10⟩) (by assumption) ?rea10
        case yea10 => intro w1 hSw; obtain ⟨s1, s2, s3⟩ := hSw; go_simp; try with_reducible rfl
        try simp only [List.getElem_toArray, List.getElem_cons_zero, List.getElem_cons_succ, Act.put, List.setIfInBounds_toArray, List.set_cons_zero, List.set_cons_succ]
        refine anyZ_take (i := 11) (oi := _) (v := ?vea11) rfl (by kernel_rfl) (by kernel_rfl) (by kernel_rfl) (by kernel_rfl) (fun _ _ _ h => h) (Or.inl ⟨by rfl, ?yea11⟩) (by assumption) ?rea11
        case yea11 => intro w1 hSw; obtain ⟨s1, s2, s3⟩ := hSw; go_simp; try with_reducible rfl
        try simp only [List.getElem_toArray, List.getElem_cons_zero, List.getElem_cons_succ, Act.put, List.setIfInBounds_toArray, List.set_cons_zero, List.set_cons_succ]
        refine anyZ_take (i := 12) (oi := _) (v := ?vea12) rfl (by kernel_rfl) (by kernel_rfl) (by kernel_rfl) (by kernel_rfl) (fun _ _ _ h => h) (Or.inl ⟨by rfl, ?yea12⟩) (by assumption) ?rea12
        case yea12 => intro w1 hSw; obtain ⟨s1, s2, s3⟩ := hSw; go_simp; try with_reducible rfl
        try simp only [List.getElem_toArray, List.getElem_cons_zero, List.getElem_cons_succ, Act.put, List.setIfInBounds_toArray, List.set_cons_zero, List.set_cons_succ]
        refine anyZ_take (i := 13) (oi := _) (v := ?vea13) rfl (by kernel_rfl) (by kernel_rfl) (by kernel_rfl) (by kernel_rfl) (fun _ _ _ h => h) (Or.inl ⟨by rfl, ?yea13⟩) (by assumption) ?rea13
        case yea13 => intro w1 hSw; obtain ⟨s1, s2, s3⟩ := hSw; go_simp; try with_reducible rfl
        try simp only [List.getElem_toArray, List.getElem_cons_zero, List.getElem_cons_succ, Act.put, List.setIfInBounds_toArray, List.set_cons_zero, List.set_cons_succ]
        refine anyZ_take (i := 14) (oi := _) (v := ?vea14) rfl (by kernel_rfl) (by kernel_rfl) (by kernel_rfl) (by kernel_rfl) (fun _ _ _ h => h) (Or.inl ⟨by rfl, ?yea14⟩) (by assumption) ?rea14
        case yea14 => intro w1 hSw; obtain ⟨s1, s2, s3⟩ := hSw; go_simp; try with_reducible rfl
        try simp only [List.getElem_toArray, List.getElem_cons_zero, List.getElem_cons_succ, Act.put, List.setIfInBounds_toArray, List.set_cons_zero, List.set_cons_succ]
        refine anyZ_take (i := 15) (oi := _) (v := ?vea15) rfl (by kernel_rfl) (by kernel_rfl) (by kernel_rfl) (by kernel_rfl) (fun _ _ _ h => h) (Or.inl ⟨by rfl, ?yea15⟩) (by assumption) ?rea15
        case yea15 => intro w1 hSw; obtain ⟨s1, s2, s3⟩ := hSw; go_simp; try with_reducible rfl
        try simp only [List.getElem_toArray, List.getElem_cons_zero, List.getElem_cons_succ, Act.put, List.setIfInBounds_toArray, List.set_cons_zero, List.set_cons_succ]
        refine anyZ_take (i := 16) (oi := _) (v := ?vea16) rfl (by kernel_rfl) (by kernel_rfl) (by kernel_rfl) (by kernel_rfl) (fun _ _ _ h => h) (Or.inl ⟨by rfl, ?yea16⟩) (by assumption) ?rea16
        case yea16 => intro w1 hSw; obtain ⟨s1, s2, s3⟩ := hSw; go_simp; try with_reducible rfl
        try simp only [List.getElem_toArray, List.getElem_cons_zero, List.getElem_cons_succ, Act.put, List.setIfInBounds_toArray, List.set_cons_zero, List.set_cons_succ]
        refine anyZ_take (i := 17) (oi := _) (v := ?vea17) rfl (by kernel_rfl) (by kernel_rfl) (by kernel_rfl) (by kernel_rfl) (fun _ _ _ h => h) (Or.inl ⟨by rfl, ?yea17⟩) (by assumption) ?rea17
        case yea17 => intro w1 hSw; obtain ⟨s1, s2, s3⟩ := hSw; go_simp; (try rw [ha2]); try with_reducible rfl
        try simp only [List.getElem_toArray, List.getElem_cons_zero, List.getElem_cons_succ, Act.put, List.setIfInBounds_toArray, List.set_cons_zero, List.set_cons_succ]
        refine anyZ_one (i := 1) (by kernel_rfl) (o := _) rfl (fun K hK => ?_)
        rw [if_pos (by rfl)]
        try simp only [List.getElem_toArray, List.getElem_cons_zero, List.getElem_cons_succ]
        go_simp
        have hfA0 : Fr (fun _ => False) w16 (wd.alloc (.cells #[] 5)) := HFD.out.trans (Fr.alloc _ _ _)
        refine hK.out _ _ (fun _ => FACT.out _ hfA0) (fun hT2 => ?_)
        have hT2 := hT2 (by decide)
        clear hK K hT hfA0
        try simp only [List.getElem_toArray, List.getElem_cons_zero, List.getElem_cons_succ, Act.put, List.setIfInBounds_toArray, List.set_cons_zero, List.set_cons_succ]
        refine anyZ_one (i := 6) (by kernel_rfl) (o := _) rfl (fun K hK => ?_)
        rw [if_pos (by rfl)]
        try simp only [List.getElem_toArray, List.getElem_cons_zero, List.getElem_cons_succ]
        refine wp_append_runY _ _ 22 rfl _ _ _ rfl rfl hrun1 ?_
        refine hK.out _ _ (fun _ => FACT.out _ HFA.out) (fun hT3 => ?_)
        have hT3 := hT3 (by decide)
        clear hK K hT2 hrun1
        try simp only [List.getElem_toArray, List.getElem_cons_zero, List.getElem_cons_succ, Act.put, List.setIfInBounds_toArray, List.set_cons_zero, List.set_cons_succ]
        refine anyZ_one (i := 18) (by kernel_rfl) (o := _) rfl (fun K hK => ?_)
        rw [if_pos (by rfl)]
        try simp only [List.getElem_toArray, List.getElem_cons_zero, List.getElem_cons_succ]
        refine wp_append_runY _ _ 22 rfl _ _ _ rfl rfl hrun2 ?_
        refine hK.out _ _ (fun _ => FACT.out _ HFB.out) (fun hT4 => ?_)
        have hT4 := hT4 (by decide)
        clear hK K hT3 hrun2
        try simp only [List.getElem_toArray, List.getElem_cons_zero, List.getElem_cons_succ, Act.put, List.setIfInBounds_toArray, List.set_cons_zero, List.set_cons_succ]
        refine anyZ_one (i := 19) (by kernel_rfl) (o := _) rfl (fun K hK => ?_)
        rw [if_pos (by rfl)]
        try simp only [List.getElem_toArray, List.getElem_cons_zero, List.getElem_cons_succ]
        go_simp
        refine hK.out _ _ (fun _ => hT4) (fun hT5 => ?_)
        clear hK K hT5
        try simp only [List.getElem_toArray, List.getElem_cons_zero, List.getElem_cons_succ, Act.put, List.setIfInBounds_toArray, List.set_cons_zero, List.set_cons_succ]
        refine anyZ_one (i := 20) (by kernel_rfl) (o := _) rfl (fun K hK => ?_)
        rw [if_pos (by rfl)]
        try simp only [List.getElem_toArray, List.getElem_cons_zero, List.getElem_cons_succ]
        go_simp
        refine hK.out _ _ (fun _ => hT4) (fun hT5 => ?_)
        clear hK K hT5
        try simp only [List.getElem_toArray, List.getElem_cons_zero, List.getElem_cons_succ, Act.put, List.setIfInBounds_toArray, List.set_cons_zero, List.set_cons_succ]
        have cq := HBB2.out.cell 3
        have fq := HBB2.out.frozen 3
        simp only [List.getElem?_toArray, List.getElem?_cons_zero, List.getElem?_cons_succ] at cq
        refine anyZ_one (i := 21) (by kernel_rfl) (o := _) rfl (fun K hK => ?_)
        rw [if_pos (by rfl)]
        try simp only [List.getElem_toArray, List.getElem_cons_zero, List.getElem_cons_succ]
        go_simp
        have hbD := HBB2.out.set 3 (.slice ao7 m7 c7)
        simp only [List.setIfInBounds_toArray, List.set_cons_zero, List.set_cons_succ] at hbD
        have hfD : Fr (fun k => k = bb) wB (wB.setCell ⟨bb, 3, none⟩ (.slice ao7 m7 c7)) := Fr.setCell _ _ _ rfl
        obtain ⟨wD, hwD⟩ : ∃ w, wB.setCell ⟨bb, 3, none⟩ (.slice ao7 m7 c7) = w := ⟨_, rfl⟩
        rw [hwD] at hbD hfD ⊢
        have HBS : Hid (RS wD B bb pid ptot psum (bs ++ l.drop (n - pn))) := Lib.hid ⟨_, hbD, HO2.out.fr hfD (fun k hk e => HO2.out.notBlk HBB2.out (by decide) (e ▸ hk))⟩
        have HFE : Hid (Fr (fun k => k = bb) W wD) := Lib.hid (HF16.out.trans ((HFB.out.mono fun _ e => e.elim).trans hfD))
        have HBLD := Lib.hid hbD
        clear cq fq hbD hfD hwD hT4
        refine hK.out _ _ (fun h => absurd rfl h) (fun _ => ?_)
        clear hK K
        try simp only [List.getElem_toArray, List.getElem_cons_zero, List.getElem_cons_succ, Act.put, List.setIfInBounds_toArray, List.set_cons_zero, List.set_cons_succ]
        refine anyZ_done (by kernel_rfl) ?_ _
        clear FACT s0 s1 s2 s3 s4
        have b1 := HBLD.out.cell 1
        have b3 := HBLD.out.cell 3
        simp only [List.getElem?_toArray, List.getElem?_cons_zero, List.getElem?_cons_succ] at b1 b3
        go_upto_region 16 with (fail)
        go_quiet (fail)
        go_wp2
        go_ret2
        rw [HADD'.out]
        have HAB : addB pid bs pid (pn : Int) l = bs ++ l.drop (n - pn) := by
          unfold addB
          rw [if_neg (show ¬ pid < pid by omega)]
          dsimp only
          rw [if_pos (by rw [HN.out, HD.out]; omega), HN.out]
          rfl
        have HFR : ∀ a b, fresh pid pid a b = b := fun a b => by unfold fresh; rw [if_neg (by omega)]
        rw [HAB, HFR, HFR, HFR, HM7.out]
        exact ⟨HFE.out.trans (Fr.drewN _ _ _), fun h => absurd rfl h, fun _ => ⟨HBS.out.fr0 (Fr.drewN _ _ _), by first | rfl | (simp only [HN.out, HM7.out, HD.out]; first | rfl | simp)⟩⟩
      · have fx : decide ((n : Int) < (pn : Int) + (dl : Int)) = false := decide_eq_false (by omega)
        have HADD' := Lib.hid HADD
        clear HADD
        go_enter Tryd.func18, Tryd.ntmps18
        go_upto_region 1 with (fail)
        try rw [hw1]
        try rw [hg]
        go_upto_region 3 with (fail)
        go_quiet (fail)
        go_upto_region 5 with (fail)
        go_quiet (fail)
        go_upto_region 8 with (fail)
        go_quiet (fail)
        go_upto_region 12 with (fail)
        go_quiet (fail)
        go_upto_region 14 with (fail)
        go_quiet (fail)
        go_upto_region 16 with (fail)
        go_quiet (fail)
        go_wp2
        go_ret2
        rw [HADD'.out]
        have HAB : addB pid bs pid (pn : Int) l = bs := by
          unfold addB
          rw [if_neg (show ¬ pid < pid by omega)]
          exact if_neg (by rw [HN.out, HD.out]; omega)
        have HFR : ∀ a b, fresh pid pid a b = b := fun a b => by unfold fresh; rw [if_neg (by omega)]
        rw [HAB, HFR, HFR, HFR, HN.out]
        exact ⟨(HKEEP.out _ (by first | exact Fr.refl _ _ | exact Fr.drewN _ _ _ | exact (Fr.drewN _ _ _).trans (Fr.drewN _ _ _))).1, fun h => absurd rfl h, fun _ => ⟨(HKEEP.out _ (by first | exact Fr.refl _ _ | exact Fr.drewN _ _ _ | exact (Fr.drewN _ _ _).trans (Fr.drewN _ _ _))).2, by first | rfl | (simp only [HN.out, HM7.out, HD.out]; first | rfl | simp)⟩⟩
    have fe : (id == pid) = false := by simp [Ne.symm feh]
    have HFE := Lib.hid feh
    have fg : decide (id < pid) = true := decide_eq_true (by omega)
    clear feh
    by_cases fah : 0 < pat
    · have fa : decide (0 < pat) = true := decide_eq_true (by omega)
      go_enter Tryd.func18, Tryd.ntmps18
      go_upto_region 1 with (fail)
      try rw [hw1]
      try rw [hg]
      go_upto_region 3 with (fail)
      go_quiet (fail)
      go_upto_region 5 with (fail)
      go_quiet (fail)
      go_upto_region 8 with (fail)
      go_quiet (fail)
      go_wp2
      go_ret2
      have HADD : addE id total sum n pid pat ptot psum dl = 6 := by
        unfold addE; rw [if_neg (by omega), if_neg (show ¬ pid < id by omega), if_neg (fun h => HFE.out h.1), if_pos (show id < pid by have := HFE.out; omega), if_pos fah]
      rw [HADD]
      exact ⟨(HKEEP.out _ (by first | exact Fr.refl _ _ | exact Fr.drewN _ _ _ | exact (Fr.drewN _ _ _).trans (Fr.drewN _ _ _) | exact ((Fr.drewN _ _ _).trans (Fr.drewN _ _ _)).trans (Fr.drewN _ _ _))).1, fun _ => ⟨(HKEEP.out _ (by first | exact Fr.refl _ _ | exact Fr.drewN _ _ _ | exact (Fr.drewN _ _ _).trans (Fr.drewN _ _ _) | exact ((Fr.drewN _ _ _).trans (Fr.drewN _ _ _)).trans (Fr.drewN _ _ _))).2, rfl⟩, fun h => absurd h (by decide)⟩
    have fa : decide (0 < pat) = false := decide_eq_false (by omega)
    obtain rfl : pat = 0 := by omega
    have HADD' : Hid (addE id total sum n pid 0 ptot psum dl = 0) := Lib.hid (by
      unfold addE; rw [if_neg (by omega), if_neg (show ¬ pid < id by omega), if_neg (fun h => HFE.out h.1), if_pos (show id < pid by have := HFE.out; omega), if_neg (by omega)])
    have HIP : Hid (id < pid) := Lib.hid (by have := HFE.out; omega)
    have k0 := HBK.out.frozen 0
    have k1 := HBK.out.frozen 1
    have k2 := HBK.out.frozen 2
    have k3 := HBK.out.frozen 3
    have hcc := HC.out
    have fx : decide ((0 : Int) < (dl : Int)) = true := decide_eq_true (by omega)
    have fx2 : decide (0 < dl) = true := decide_eq_true (by omega)
    have q2 : 0 < dl := by omega
    have wz : IntKind.i64.wrap 0 = 0 := by decide
    have f5b : decide (ptot < (dl : Int)) = false := decide_eq_false (by omega)
    have q3 : ¬ cp = 0 := by omega
    go_enter Tryd.func18, Tryd.ntmps18
    go_upto_region 1 with (fail)
    try rw [hw1]
    try rw [hg]
    go_upto_region 3 with (fail)
    go_quiet (fail)
    go_upto_region 5 with (fail)
    go_quiet (fail)
    go_upto_region 8 with (fail)
    go_quiet (fail)
    go_upto_region 12 with (fail)
    go_quiet (fail)
    go_upto_region 14 with (fail)
    generalize hw13 : World.drewN _ _ = w13
    have hf12 : Fr (fun _ => False) w1 w13 := by rw [← hw13]; first | exact Fr.drewN _ _ _ | exact (Fr.drewN _ _ _).trans (Fr.drewN _ _ _) | exact ((Fr.drewN _ _ _).trans (Fr.drewN _ _ _)).trans (Fr.drewN _ _ _) | exact (((Fr.drewN _ _ _).trans (Fr.drewN _ _ _)).trans (Fr.drewN _ _ _)).trans (Fr.drewN _ _ _)
    have hf13 : Fr (fun k => k = bb) w1 w13 := hf12.mono fun _ e => e.elim
    obtain ⟨w16, hw16⟩ : ∃ w, ((((w13.setCell ⟨bb, 0, none⟩ (.int .i64 pid)).setCell ⟨bb, 1, none⟩ (.int .i64 ptot)).setCell ⟨bb, 2, none⟩ (.int .u32 psum)).setCell ⟨bb, 3, none⟩ (.slice none 0 0)) = w := ⟨_, rfl⟩
    have hf16 : Fr (fun k => k = bb) w1 w16 := by rw [← hw16]; exact (((hf13.trans (Fr.setCell _ _ _ rfl)).trans (Fr.setCell _ _ _ rfl)).trans (Fr.setCell _ _ _ rfl)).trans (Fr.setCell _ _ _ rfl)
    have HBK16 : Hid (Blk w16 bb 51 #[.int .i64 pid, .int .i64 ptot, .int .u32 psum, .slice none 0 0]) := Lib.hid (by
      have h := HBK.out.fr hf12 (fun e => e)
      rw [← hw16]
      exact (((h.set 0 (.int .i64 pid)).set 1 (.int .i64 ptot)).set 2 (.int .u32 psum)).set 3 (.slice none 0 0))
    have HP16 := Lib.hid (HP.out.fr hf16 (by have := HLT.out; omega))
    have HO16 := Lib.hid (OwnY.none w16 B)
    have HL16 := Lib.hid (HL.out.keep_set51 HBK.out hf16)
    have HF16 : Hid (Fr (fun k => k = bb) W w16) := Lib.hid ((HF.out.mono fun _ e => e.elim).trans hf16)
    rw [hw16]
    clear hw16 hf16 hf12 hw13 hf13 b0 b1 b2 b3 s0 s1 s2 s3 s4 k0 k1 k2 k3 w13
    have s1 := HP16.out.cell 1
    have s4 := HP16.out.cell 4
    have b1 := HBK16.out.cell 1
    have b3 := HBK16.out.cell 3
    simp only [List.getElem?_toArray, List.getElem?_cons_zero, List.getElem?_cons_succ] at s1 s4 b1 b3
    go_quiet (fail)
    go_upto_region 15 with (fail)
    generalize hw17 : World.drewN _ _ = w17
    have hf16d : Fr (fun _ => False) w16 w17 := by rw [← hw17]; first | exact Fr.drewN _ _ _ | exact (Fr.drewN _ _ _).trans (Fr.drewN _ _ _) | exact ((Fr.drewN _ _ _).trans (Fr.drewN _ _ _)).trans (Fr.drewN _ _ _) | exact (((Fr.drewN _ _ _).trans (Fr.drewN _ _ _)).trans (Fr.drewN _ _ _)).trans (Fr.drewN _ _ _)
    have HBK16 := Lib.hid (HBK16.out.fr hf16d (fun e => e))
    have HP16 := Lib.hid (HP16.out.fr hf16d (fun e => e))
    have HL16 := Lib.hid (HL16.out.fr0 hf16d)
    have HF16 := Lib.hid (HF16.out.trans (hf16d.mono (S' := fun k => k = bb) fun _ e => e.elim))
    clear hw17 hf16d
    obtain ⟨w16, rfl⟩ : ∃ w, w = w17 := ⟨_, rfl⟩
    clear s1 s4 b1 b3
    have s0 := True.intro
    have s1 := True.intro
    have s2 := True.intro
    have s3 := True.intro
    have s4 := True.intro
    have FACT : Hid (∀ w', Fr (fun _ => False) w16 w' → w'.cell? ⟨bb, 3, none⟩ = some (.slice none 0 0) ∧ w'.cell? ⟨g, 1, none⟩ = some (.int .i64 (0 : Int)) ∧ w'.cell? ⟨g, 4, none⟩ = some (.slice ao dl cp)) := Lib.hid (fun w' hf => by
      have h := HP16.out.fr hf (fun e => e)
      have h2 := HBK16.out.fr hf (fun e => e)
      exact ⟨h2.cell 3, h.cell 1, h.cell 4⟩)
    refine region_Z (fun w' => w'.cell? ⟨bb, 3, none⟩ = some (.slice none 0 0) ∧ w'.cell? ⟨g, 1, none⟩ = some (.int .i64 (0 : Int)) ∧ w'.cell? ⟨g, 4, none⟩ = some (.slice ao dl cp)) 21 (by kernel_rfl) (FACT.out _ (Fr.drewN _ w16 1)) (fun hT => ?_)
    have hfd : Fr (fun _ => False) w16 w16.drew := Fr.drewN _ w16 1
    obtain ⟨wd, hwd⟩ : ∃ w, w16.drew = w := ⟨_, rfl⟩
    rw [hwd] at hT hfd ⊢
    have HFD := Lib.hid hfd
    have HBD := Lib.hid (HBK16.out.fr hfd (fun e => e))
    clear hwd hfd
    have HR2 := Lib.hid (HL16.out.fr0 HFD.out)
    obtain ⟨v1, wA, v2, wB, hrun1, hrun2, hfA, hfB, ho2⟩ := copy_y wd none ao 0 0 dl cp ([] : List UInt8) (l) (.inl rfl) rfl HR2.out HD.out (by have := HC.out; omega)
    obtain ⟨ao7, c7, rfl, hc7, hx7, _⟩ := ho2.row
    obtain ⟨m7, hm7⟩ : ∃ m, (([] : List UInt8) ++ l).length = m := ⟨_, rfl⟩
    rw [hm7] at ho2 hrun2
    have HM7 := Lib.hid hm7
    have HO2 := Lib.hid (ho2.to (B2 := B) (by have h1 := HBW.out; have h2 := HF16.out.size; have h3 := HFD.out.size; omega) (Fr.refl (fun _ => False) wB) (fun _ _ e => e))
    have HFA := Lib.hid (HFD.out.trans hfA)
    have HFB := Lib.hid (HFD.out.trans hfB)
    have HBA := Lib.hid (HBD.out.fr hfA (fun e => e))
    have HBB2 := Lib.hid (HBD.out.fr hfB (fun e => e))
    clear ho2 hfA hfB hc7 hx7 hm7 HR2
    refine anyZ_take (i := 0) (oi := _) (v := ?vga0) rfl (by kernel_rfl) (by kernel_rfl) (by kernel_rfl) (by kernel_rfl) (fun _ _ _ h => h) (Or.inl ⟨by rfl, ?yga0⟩) (by assumption) ?rga0
    case yga0 => intro w1 hSw; obtain ⟨s1, s2, s3⟩ := hSw; go_simp; try with_reducible rfl
    try simp only [List.getElem_toArray, List.getElem_cons_zero, List.getElem_cons_succ, Act.put, List.setIfInBounds_toArray, List.set_cons_zero, List.set_cons_succ]
    refine anyZ_take (i := 2) (oi := _) (v := ?vga2) rfl (by kernel_rfl) (by kernel_rfl) (by kernel_rfl) (by kernel_rfl) (fun _ _ _ h => h) (Or.inl ⟨by rfl, ?yga2⟩) (by assumption) ?rga2
    case yga2 => intro w1 hSw; obtain ⟨s1, s2, s3⟩ := hSw; go_simp; try with_reducible rfl
    try simp only [List.getElem_toArray, List.getElem_cons_zero, List.getElem_cons_succ, Act.put, List.setIfInBounds_toArray, List.set_cons_zero, List.set_cons_succ]
    refine anyZ_take (i := 3) (oi := _) (v := ?vga3) rfl (by kernel_rfl) (by kernel_rfl) (by kernel_rfl) (by kernel_rfl) (fun _ _ _ h => h) (Or.inl ⟨by rfl, ?yga3⟩) (by assumption) ?rga3
    case yga3 => intro w1 hSw; obtain ⟨s1, s2, s3⟩ := hSw; go_simp; try with_reducible rfl
    try simp only [List.getElem_toArray, List.getElem_cons_zero, List.getElem_cons_succ, Act.put, List.setIfInBounds_toArray, List.set_cons_zero, List.set_cons_succ]
    refine anyZ_take (i := 4) (oi := _) (v := ?vga4) rfl (by kernel_rfl) (by kernel_rfl) (by kernel_rfl) (by kernel_rfl) (fun _ _ _ h => h) (Or.inl ⟨by rfl, ?yga4⟩) (by assumption) ?rga4
    case yga4 => intro w1 hSw; obtain ⟨s1, s2, s3⟩ := hSw; go_simp; try with_reducible rfl
    try simp only [List.getElem_toArray, List.getElem_cons_zero, List.getElem_cons_succ, Act.put, List.setIfInBounds_toArray, List.set_cons_zero, List.set_cons_succ]
    refine anyZ_take (i := 5) (oi := _) (v := ?vga5) rfl (by kernel_rfl) (by kernel_rfl) (by kernel_rfl) (by kernel_rfl) (fun _ _ _ h => h) (Or.inl ⟨by rfl, ?yga5⟩) (by assumption) ?rga5
    case yga5 => intro w1 hSw; obtain ⟨s1, s2, s3⟩ := hSw; go_simp; try with_reducible rfl
    try simp only [List.getElem_toArray, List.getElem_cons_zero, List.getElem_cons_succ, Act.put, List.setIfInBounds_toArray, List.set_cons_zero, List.set_cons_succ]
    refine anyZ_take (i := 7) (oi := _) (v := ?vga7) rfl (by kernel_rfl) (by kernel_rfl) (by kernel_rfl) (by kernel_rfl) (fun _ _ _ h => h) (Or.inl ⟨by rfl, ?yga7⟩) (by assumption) ?rga7
    case yga7 => intro w1 hSw; obtain ⟨s1, s2, s3⟩ := hSw; go_simp; try with_reducible rfl
    try simp only [List.getElem_toArray, List.getElem_cons_zero, List.getElem_cons_succ, Act.put, List.setIfInBounds_toArray, List.set_cons_zero, List.set_cons_succ]
    refine anyZ_take (i := 8) (oi := _) (v := ?vga8) rfl (by kernel_rfl) (by kernel_rfl) (by kernel_rfl) (by kernel_rfl) (fun _ _ _ h => h) (Or.inl ⟨by rfl, ?yga8⟩) (by assumption) ?rga8
    case yga8 => intro w1 hSw; obtain ⟨s1, s2, s3⟩ := hSw; go_simp; try with_reducible rfl
    try simp only [List.getElem_toArray, List.getElem_cons_zero, List.getElem_cons_succ, Act.put, List.setIfInBounds_toArray, List.set_cons_zero, List.set_cons_succ]
    refine anyZ_take (i := 9) (oi := _) (v := ?vga9) rfl (by kernel_rfl) (by kernel_rfl) (by kernel_rfl) (by kernel_rfl) (fun _ _ _ h => h) (Or.inl ⟨by rfl, ?yga9⟩) (by assumption) ?rga9
    case yga9 => intro w1 hSw; obtain ⟨s1, s2, s3⟩ := hSw; go_simp; try with_reducible rfl
    try simp only [List.getElem_toArray, List.getElem_cons_zero, List.getElem_cons_succ, Act.put, List.setIfInBounds_toArray, List.set_cons_zero, List.set_cons_succ]
    refine anyZ_take (i := 10) (oi := _) (v := ?vga10) rfl (by kernel_rfl) (by kernel_rfl) (by kernel_rfl) (by kernel_rfl) (fun _ _ _ h => h) (Or.inl ⟨by rfl, ?yga10⟩) (by assumption) ?rga10
    case yga10 => intro w1 hSw; obtain ⟨s1, s2, s3⟩ := hSw; go_simp; try with_reducible rfl
    try simp only [List.getElem_toArray, List.getElem_cons_zero, List.getElem_cons_succ, Act.put, List.setIfInBounds_toArray, List.set_cons_zero, List.set_cons_succ]
    refine anyZ_take (i := 11) (oi := _) (v := ?vga11) rfl (by kernel_rfl) (by kernel_rfl) (by kernel_rfl) (by kernel_rfl) (fun _ _ _ h => h) (Or.inl ⟨by rfl, ?yga11⟩) (by assumption) ?rga11
    case yga11 => intro w1 hSw; obtain ⟨s1, s2, s3⟩ := hSw; go_simp; try with_reducible rfl
    try simp only [List.getElem_toArray, List.getElem_cons_zero, List.getElem_cons_succ, Act.put, List.setIfInBounds_toArray, List.set_cons_zero, List.set_cons_succ]
    refine anyZ_take (i := 12) (oi := _) (v := ?vga12) rfl (by kernel_rfl) (by kernel_rfl) (by kernel_rfl) (by kernel_rfl) (fun _ _ _ h => h) (Or.inl ⟨by rfl, ?yga12⟩) (by assumption) ?rga12
    case yga12 => intro w1 hSw; obtain ⟨s1, s2, s3⟩ := hSw; go_simp; try with_reducible rfl
    try simp only [List.getElem_toArray, List.getElem_cons_zero, List.getElem_cons_succ, Act.put, List.setIfInBounds_toArray, List.set_cons_zero, List.set_cons_succ]
    refine anyZ_take (i := 13) (oi := _) (v := ?vga13) rfl (by kernel_rfl) (by kernel_rfl) (by kernel_rfl) (by kernel_rfl) (fun _ _ _ h => h) (Or.inl ⟨by rfl, ?yga13⟩) (by assumption) ?rga13
    case yga13 => intro w1 hSw; obtain ⟨s1, s2, s3⟩ := hSw; go_simp; try with_reducible rfl
    try simp only [List.getElem_toArray, List.getElem_cons_zero, List.getElem_cons_succ, Act.put, List.setIfInBounds_toArray, List.set_cons_zero, List.set_cons_succ]
    refine anyZ_take (i := 14) (oi := _) (v := ?vga14) rfl (by kernel_rfl) (by kernel_rfl) (by kernel_rfl) (by kernel_rfl) (fun _ _ _ h => h) (Or.inl ⟨by rfl, ?yga14⟩) (by assumption) ?rga14
    case yga14 => intro w1 hSw; obtain ⟨s1, s2, s3⟩ := hSw; go_simp; try with_reducible rfl
    try simp only [List.getElem_toArray, List.getElem_cons_zero, List.getElem_cons_succ, Act.put, List.setIfInBounds_toArray, List.set_cons_zero, List.set_cons_succ]
    refine anyZ_take (i := 15) (oi := _) (v := ?vga15) rfl (by kernel_rfl) (by kernel_rfl) (by kernel_rfl) (by kernel_rfl) (fun _ _ _ h => h) (Or.inl ⟨by rfl, ?yga15⟩) (by assumption) ?rga15
    case yga15 => intro w1 hSw; obtain ⟨s1, s2, s3⟩ := hSw; go_simp; try with_reducible rfl
    try simp only [List.getElem_toArray, List.getElem_cons_zero, List.getElem_cons_succ, Act.put, List.setIfInBounds_toArray, List.set_cons_zero, List.set_cons_succ]
    refine anyZ_take (i := 16) (oi := _) (v := ?vga16) rfl (by kernel_rfl) (by kernel_rfl) (by kernel_rfl) (by kernel_rfl) (fun _ _ _ h => h) (Or.inl ⟨by rfl, ?yga16⟩) (by assumption) ?rga16
    case yga16 => intro w1 hSw; obtain ⟨s1, s2, s3⟩ := hSw; go_simp; try with_reducible rfl
    try simp only [List.getElem_toArray, List.getElem_cons_zero, List.getElem_cons_succ, Act.put, List.setIfInBounds_toArray, List.set_cons_zero, List.set_cons_succ]
    refine anyZ_take (i := 17) (oi := _) (v := ?vga17) rfl (by kernel_rfl) (by kernel_rfl) (by kernel_rfl) (by kernel_rfl) (fun _ _ _ h => h) (Or.inl ⟨by rfl, ?yga17⟩) (by assumption) ?rga17
    case yga17 => intro w1 hSw; obtain ⟨s1, s2, s3⟩ := hSw; go_simp; (try rw [ha2]); try with_reducible rfl
    try simp only [List.getElem_toArray, List.getElem_cons_zero, List.getElem_cons_succ, Act.put, List.setIfInBounds_toArray, List.set_cons_zero, List.set_cons_succ]
    refine anyZ_one (i := 1) (by kernel_rfl) (o := _) rfl (fun K hK => ?_)
    rw [if_pos (by rfl)]
    try simp only [List.getElem_toArray, List.getElem_cons_zero, List.getElem_cons_succ]
    go_simp
    have hfA0 : Fr (fun _ => False) w16 (wd.alloc (.cells #[] 5)) := HFD.out.trans (Fr.alloc _ _ _)
    refine hK.out _ _ (fun _ => FACT.out _ hfA0) (fun hT2 => ?_)
    have hT2 := hT2 (by decide)
    clear hK K hT hfA0
    try simp only [List.getElem_toArray, List.getElem_cons_zero, List.getElem_cons_succ, Act.put, List.setIfInBounds_toArray, List.set_cons_zero, List.set_cons_succ]
    refine anyZ_one (i := 6) (by kernel_rfl) (o := _) rfl (fun K hK => ?_)
    rw [if_pos (by rfl)]
    try simp only [List.getElem_toArray, List.getElem_cons_zero, List.getElem_cons_succ]
    refine wp_append_runY _ _ 22 rfl _ _ _ rfl rfl hrun1 ?_
    refine hK.out _ _ (fun _ => FACT.out _ HFA.out) (fun hT3 => ?_)
    have hT3 := hT3 (by decide)
    clear hK K hT2 hrun1
    try simp only [List.getElem_toArray, List.getElem_cons_zero, List.getElem_cons_succ, Act.put, List.setIfInBounds_toArray, List.set_cons_zero, List.set_cons_succ]
    refine anyZ_one (i := 18) (by kernel_rfl) (o := _) rfl (fun K hK => ?_)
    rw [if_pos (by rfl)]
    try simp only [List.getElem_toArray, List.getElem_cons_zero, List.getElem_cons_succ]
    refine wp_append_runY _ _ 22 rfl _ _ _ rfl rfl hrun2 ?_
    refine hK.out _ _ (fun _ => FACT.out _ HFB.out) (fun hT4 => ?_)
    have hT4 := hT4 (by decide)
    clear hK K hT3 hrun2
    try simp only [List.getElem_toArray, List.getElem_cons_zero, List.getElem_cons_succ, Act.put, List.setIfInBounds_toArray, List.set_cons_zero, List.set_cons_succ]
    refine anyZ_one (i := 19) (by kernel_rfl) (o := _) rfl (fun K hK => ?_)
    rw [if_pos (by rfl)]
    try simp only [List.getElem_toArray, List.getElem_cons_zero, List.getElem_cons_succ]
    go_simp
    refine hK.out _ _ (fun _ => hT4) (fun hT5 => ?_)
    clear hK K hT5
    try simp only [List.getElem_toArray, List.getElem_cons_zero, List.getElem_cons_succ, Act.put, List.setIfInBounds_toArray, List.set_cons_zero, List.set_cons_succ]
    refine anyZ_one (i := 20) (by kernel_rfl) (o := _) rfl (fun K hK => ?_)
    rw [if_pos (by rfl)]
    try simp only [List.getElem_toArray, List.getElem_cons_zero, List.getElem_cons_succ]
    go_simp
    refine hK.out _ _ (fun _ => hT4) (fun hT5 => ?_)
    clear hK K hT5
    try simp only [List.getElem_toArray, List.getElem_cons_zero, List.getElem_cons_succ, Act.put, List.setIfInBounds_toArray, List.set_cons_zero, List.set_cons_succ]
    have cq := HBB2.out.cell 3
    have fq := HBB2.out.frozen 3
    simp only [List.getElem?_toArray, List.getElem?_cons_zero, List.getElem?_cons_succ] at cq
    refine anyZ_one (i := 21) (by kernel_rfl) (o := _) rfl (fun K hK => ?_)
    rw [if_pos (by rfl)]
    try simp only [List.getElem_toArray, List.getElem_cons_zero, List.getElem_cons_succ]
    go_simp
    have hbD := HBB2.out.set 3 (.slice ao7 m7 c7)
    simp only [List.setIfInBounds_toArray, List.set_cons_zero, List.set_cons_succ] at hbD
    have hfD : Fr (fun k => k = bb) wB (wB.setCell ⟨bb, 3, none⟩ (.slice ao7 m7 c7)) := Fr.setCell _ _ _ rfl
    obtain ⟨wD, hwD⟩ : ∃ w, wB.setCell ⟨bb, 3, none⟩ (.slice ao7 m7 c7) = w := ⟨_, rfl⟩
    rw [hwD] at hbD hfD ⊢
    have HBS : Hid (RS wD B bb pid ptot psum (([] : List UInt8) ++ l)) := Lib.hid ⟨_, hbD, HO2.out.fr hfD (fun k hk e => HO2.out.notBlk HBB2.out (by decide) (e ▸ hk))⟩
    have HFX : Hid (Fr (fun k => k = bb) W wD) := Lib.hid (HF16.out.trans ((HFB.out.mono fun _ e => e.elim).trans hfD))
    have HBLD := Lib.hid hbD
    clear cq fq hbD hfD hwD hT4
    refine hK.out _ _ (fun h => absurd rfl h) (fun _ => ?_)
    clear hK K
    try simp only [List.getElem_toArray, List.getElem_cons_zero, List.getElem_cons_succ, Act.put, List.setIfInBounds_toArray, List.set_cons_zero, List.set_cons_succ]
    refine anyZ_done (by kernel_rfl) ?_ _
    clear FACT s0 s1 s2 s3 s4
    have b1 := HBLD.out.cell 1
    have b3 := HBLD.out.cell 3
    simp only [List.getElem?_toArray, List.getElem?_cons_zero, List.getElem?_cons_succ] at b1 b3
    go_upto_region 16 with (fail)
    go_quiet (fail)
    go_wp2
    go_ret2
    have HFR : ∀ a b, fresh id pid a b = a := fun a b => by unfold fresh; rw [if_pos HIP.out]
    have HAB : addB id bs pid 0 l = [] ++ l := by
      unfold addB
      rw [if_pos HIP.out]
      dsimp only
      rw [if_pos (by rw [HD.out]; simp; omega)]
      rfl
    rw [HADD'.out, HAB, HFR, HFR, HFR, HM7.out]
    exact ⟨HFX.out.trans (Fr.drewN _ _ _), fun h => absurd rfl h, fun _ => ⟨HBS.out.fr0 (Fr.drewN _ _ _), by first | rfl | (simp only [HN.out, HM7.out, HD.out]; first | rfl | simp)⟩⟩
end Go.Proofs.YtookojfigjdgcaaDoor
