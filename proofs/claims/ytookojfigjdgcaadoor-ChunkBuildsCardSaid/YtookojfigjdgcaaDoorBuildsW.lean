/- The law ChunkBuilds. -/
import Derived.Test.YtookojfigjdgcaaDoorRD
import Derived.Test.YtookojfigjdgcaaDoorRF
import Derived.Test.YtookojfigjdgcaaDoorZ
set_option linter.unusedVariables false
set_option linter.unusedSimpArgs false
namespace Go.Proofs.YtookojfigjdgcaaDoor
open Go.RowKit
theorem arr_beq2 (a : Array UInt8) : (decide (a = a)) = true := decide_eq_true rfl
theorem addE_cases (id total sum : Int) (n : Nat) (pid pat ptot psum : Int) (dl : Nat) : addE id total sum n pid pat ptot psum dl = 1 ∨ addE id total sum n pid pat ptot psum dl = 6 ∨ addE id total sum n pid pat ptot psum dl = 8 ∨
    (addE id total sum n pid pat ptot psum dl = 0 ∧ 0 ≤ pat ∧ ptot ≤ 1048576 ∧ (dl : Int) ≤ ptot - pat ∧ pat ≤ (if id < pid then 0 else (n : Int))) := by
  unfold addE
  by_cases h1 : pat < 0 ∨ ptot < 0 ∨ 1048576 < ptot ∨ ptot < pat ∨ ptot - pat < dl ∨ (dl = 0 ∧ ptot ≠ 0) ∨ pid < 0
  · left; rw [if_pos h1]
  by_cases h2 : pid < id
  · right; left; rw [if_neg h1, if_pos h2]
  by_cases h3 : pid = id ∧ (ptot ≠ total ∨ psum ≠ sum)
  · right; right; left; rw [if_neg h1, if_neg h2, if_pos h3]
  by_cases h4 : (if id < pid then 0 else (n : Int)) < pat
  · right; left; rw [if_neg h1, if_neg h2, if_neg h3, if_pos h4]
  exact .inr (.inr (.inr ⟨by rw [if_neg h1, if_neg h2, if_neg h3, if_neg h4], by omega, by omega, by omega, by omega⟩))
theorem addE_num (id total sum : Int) (n : Nat) (pid pat ptot psum : Int) (dl : Nat) (h : addE id total sum n pid pat ptot psum dl ≠ 0) : Num (addE id total sum n pid pat ptot psum dl) := by
  rcases addE_cases id total sum n pid pat ptot psum dl with h1 | h1 | h1 | h1
  · rw [h1]; exact .inl rfl
  · rw [h1]; exact .inr (.inl rfl)
  · rw [h1]; exact .inr (.inr (.inl rfl))
  · exact absurd h1.1 h
theorem addB_len (id total sum : Int) (bs l : List UInt8) (pid pat ptot psum : Int) (dl : Nat) (hd : l.length = dl) (h : addE id total sum bs.length pid pat ptot psum dl = 0) (hb : bs.length ≤ 1048576) : (addB id bs pid pat l).length ≤ 1048576 := by
  rcases addE_cases id total sum bs.length pid pat ptot psum dl with h1 | h1 | h1 | ⟨_, h1, h2, h3, h4⟩
  · rw [h1] at h; cases h
  · rw [h1] at h; cases h
  · rw [h1] at h; cases h
  unfold addB
  by_cases hi : id < pid
  · rw [if_pos hi] at h4 ⊢
    dsimp only
    split
    · rw [List.length_append, List.length_drop]; simp only [List.length_nil]; omega
    · simp
  · rw [if_neg hi] at h4 ⊢
    dsimp only
    split
    · rw [List.length_append, List.length_drop]; omega
    · omega
theorem RS.frb {W W2 : World} {B bb rb : Nat} {id total sum : Int} {bs : List UInt8} (h : RS W B rb id total sum bs) {t : TypeId} {cs : Array Value} (hb : Blk W bb t cs) (ht : t ≠ 5) (ht2 : t ≠ 51) (hf : Fr (fun k => k = bb) W W2) : RS W2 B rb id total sum bs := by
  obtain ⟨v, h1, h2⟩ := h
  refine ⟨v, h1.fr hf (fun e => ?_), h2.fr hf (fun k hk e => h2.notBlk hb ht (e ▸ hk))⟩
  subst e
  have h3 : (some (Obj.cells cs t (0, 0))) = some (Obj.cells _ 51 (0, 0)) := hb.symm.trans h1
  cases h3
  exact ht2 rfl
theorem BS.frb {W W2 : World} {B bb rb : Nat} {id total sum : Int} {bs : List UInt8} (h : BS W B bb id total sum bs) {t : TypeId} {cs : Array Value} (hb : Blk W rb t cs) (ht : t ≠ 5) (ht2 : t ≠ 76) (hf : Fr (fun k => k = rb) W W2) : BS W2 B bb id total sum bs := by
  obtain ⟨v, h1, h2⟩ := h
  refine ⟨v, h1.fr hf (fun e => ?_), h2.fr hf (fun k hk e => h2.notBlk hb ht (e ▸ hk))⟩
  subst e
  have h3 : (some (Obj.cells cs t (0, 0))) = some (Obj.cells _ 76 (0, 0)) := hb.symm.trans h1
  cases h3
  exact ht2 rfl
theorem BS.rs {W W2 : World} {B bb rb : Nat} {id total sum : Int} {bs : List UInt8} {id' total' sum' : Int} {bs' : List UInt8} (h : BS W B bb id total sum bs) (hr : RS W B rb id' total' sum' bs') (hf : Fr (fun k => k = bb) W W2) : RS W2 B rb id' total' sum' bs' := by
  obtain ⟨v, h1, _⟩ := h
  exact hr.frb h1 (by decide) (by decide) hf
theorem RS.bs {W W2 : World} {B bb rb : Nat} {id total sum : Int} {bs : List UInt8} {id' total' sum' : Int} {bs' : List UInt8} (h : BS W B bb id total sum bs) (hr : RS W B rb id' total' sum' bs') (hf : Fr (fun k => k = rb) W W2) : BS W2 B bb id total sum bs := by
  obtain ⟨v, h1, _⟩ := hr
  exact h.frb h1 (by decide) (by decide) hf
theorem BS.lt {W : World} {B bb : Nat} {id total sum : Int} {bs : List UInt8} (h : BS W B bb id total sum bs) : bb < W.heap.size := by obtain ⟨v, h1, _⟩ := h; exact h1.lt
theorem RS.lt {W : World} {B bb : Nat} {id total sum : Int} {bs : List UInt8} (h : RS W B bb id total sum bs) : bb < W.heap.size := by obtain ⟨v, h1, _⟩ := h; exact h1.lt
set_option maxRecDepth 100000 in
set_option maxHeartbeats 16000000 in
theorem builds_any (W : World) (hL : Laid W) (ao : Option Addr) (len cap : Nat) (L : List Ac) (hA : ActsW W ao len L) (hl : len ≤ 9223372036854775807) :
    Calls Tryd.prog 5 #[.slice ao len cap] W fun e W' => e = .returned (.bool true) ∧ Fr (fun _ => False) W W' := by
  have HK := Lib.hid (known_any W hL)
  have HLD := Lib.hid hL
  have HA := Lib.hid hA
  have HL := Lib.hid hl
  clear hL hA hl
  go_enter Tryd.func5, Tryd.ntmps5
  go_upto_region 3 with (first | (go_at_call 7; refine HK.out.mono ?_; rintro r1 w1 ⟨rfl, hf1⟩) | go_in)
  have HF1 := Lib.hid hf1
  clear HK
  have HFEW := Lib.hid (few_any w1 ao len cap L (HA.out.fr hf1) HL.out)
  clear hf1
  by_cases hfew : len ≤ 150 ∧ totD L ≤ 8192
  rotate_left
  · have hd := decide_eq_false hfew
    rw [hd] at HFEW
    clear hfew hd
    go_wp2_with (first | (go_at_call 15; refine HFEW.out.mono ?_; rintro r2 w2 ⟨rfl, rfl⟩) | go_in)
    go_ret
    exact ⟨rfl, HF1.out⟩
  have hd := decide_eq_true hfew
  rw [hd] at HFEW
  have HLEN := Lib.hid hfew.1
  have HDL : Hid (∀ a ∈ L, a.p.dl ≤ 8192) := Lib.hid (fun a ha => Nat.le_trans (totD_mem ha) hfew.2)
  clear hfew hd
  go_upto_region 5 with (first | (go_at_call 15; refine HFEW.out.mono ?_; rintro r2 w2 ⟨rfl, rfl⟩) | go_in)
  clear HFEW
  go_upto_region 6 with (first | (go_at_call 12; refine (newb_any w1).mono ?_; rintro r4 w4 ⟨rfl, hbs4, hf4⟩) | go_in)
  obtain ⟨bb, hbb⟩ : ∃ b, w1.heap.size = b := ⟨_, rfl⟩
  rw [hbb] at hbs4 ⊢
  have HBW : Hid (W.heap.size ≤ bb) := Lib.hid (by have := HF1.out.size; omega)
  have hbs5 := hbs4 bb
  have hf4' := HF1.out.trans hf4
  have HRW : Hid (W.heap.size ≤ w4.heap.size) := Lib.hid hf4'.size
  have hb5 := Blk.new w4 51 #[.int .i64 (-1), .int .i64 0, .int .u32 0, .slice none 0 0]
  have hf5 : Fr (fun _ => False) w4 (w4.alloc (.cells #[.int .i64 (-1), .int .i64 0, .int .u32 0, .slice none 0 0] 51)) := Fr.alloc _ _ _
  have HB5 := Lib.hid (hbs5.fr0 hf5)
  have HF5 := Lib.hid (hf4'.trans hf5)
  have HR5 : Hid (RS (w4.alloc (.cells #[.int .i64 (-1), .int .i64 0, .int .u32 0, .slice none 0 0] 51)) bb w4.heap.size (-1) 0 0 []) := Lib.hid ⟨_, hb5, OwnY.none _ _⟩
  obtain ⟨rb, hrb⟩ : ∃ r, w4.heap.size = r := ⟨_, rfl⟩
  obtain ⟨w5, hw5⟩ : ∃ w, w4.alloc (.cells #[.int .i64 (-1), .int .i64 0, .int .u32 0, .slice none 0 0] 51) = w := ⟨_, rfl⟩
  rw [hw5] at HB5 HF5 HR5
  rw [hrb] at HR5 HRW
  clear hb5 hf5 hbs4 hbs5 hf4 hf4'
  go_upto_region 9 with (fail)
  (try rw [hw5]); (try rw [hrb])
  clear hw5 hrb hbb
  go_wp2_with fail
  go_loopw [4, 5] (fun rv iv wr => ∃ (k rb : Nat) (id total sum : Int) (bs : List UInt8), k ≤ len ∧ iv = .int .i64 (k : Int) ∧ rv = .pointer (some ⟨rb, 0, none⟩) ∧ W.heap.size ≤ rb ∧ BS wr bb bb id total sum bs ∧ RS wr bb rb id total sum bs ∧ bs.length ≤ 1048576 ∧ In64 id ∧ Fr (fun _ => False) W wr) (fun _ iv _ => len - (intOf iv).toNat)
  case atStart => exact ⟨0, rb, -1, 0, 0, [], Nat.zero_le _, rfl, rfl, HRW.out, HB5.out, HR5.out, by decide, by unfold In64; omega, HF5.out⟩
  case round =>
    clear HRW HB5 HR5 HF5
    obtain ⟨k, rb, id, total, sum, bs, hk, rfl, rfl, hrw, hbs, hrs, hln, hid, hf⟩ := hrel
    have HRW := Lib.hid hrw
    have HBS := Lib.hid hbs
    have HRS := Lib.hid hrs
    have HLN := Lib.hid hln
    have HID := Lib.hid hid
    have HFR := Lib.hid hf
    clear hrw hbs hrs hln hid hf
    by_cases hlt : k < len
    rotate_left
    · have hkl : k = len := by omega
      subst hkl
      have p0 : decide ((k : Int) < (k : Int)) = false := by simp
      have p0' : decide (k < k) = false := by simp
      go_wp2_with fail
      go_ret
      exact ⟨rfl, HFR.out⟩
    have p0 : decide ((k : Int) < (len : Int)) = true := decide_eq_true (by omega)
    have p0' : decide (k < len) = true := decide_eq_true hlt
    have HW3 : Hid (wrap64 ((k : Int) + 1) = ((k + 1 : Nat) : Int)) := Lib.hid (by have := HLEN.out; rw [wrap64]; omega)
    have HLT := Lib.hid hlt
    obtain ⟨a, ha⟩ : ∃ a, L[k]? = some a := ⟨_, List.getElem?_eq_getElem (by have := HA.out.len; omega)⟩
    clear hlt
    obtain ⟨b, o, hao, _, _⟩ := HA.out.c k a ha
    subst hao
    have hdl8 := HDL.out a (List.mem_of_getElem? ha)
    obtain ⟨r1, r2, r3, r4, r5, r6, r7⟩ := HA.out.r k a ha
    obtain ⟨op, ⟨pid, pat, ptot, psum, pao, dl, cp⟩, l⟩ := a
    dsimp only at r1 r2 r3 r4 r5 r6 r7 hdl8
    have HCELL : Hid (∀ w', Fr (fun _ => False) W w' → w'.cell? ⟨b, o + k * 6, none⟩ = some (.int .i64 op) ∧ w'.cell? ⟨b, o + k * 6 + 1, none⟩ = some (.int .i64 pid) ∧ w'.cell? ⟨b, o + k * 6 + 2, none⟩ = some (.int .i64 pat) ∧ w'.cell? ⟨b, o + k * 6 + 3, none⟩ = some (.int .i64 ptot) ∧ w'.cell? ⟨b, o + k * 6 + 4, none⟩ = some (.int .u32 psum) ∧ w'.cell? ⟨b, o + k * 6 + 5, none⟩ = some (.slice pao dl cp)) := Lib.hid (fun w' hf => by
      obtain ⟨b2, o2, e, _, hc⟩ := (HA.out.fr hf).c k _ ha
      cases e
      exact ⟨hc 0 _ rfl, hc 1 _ rfl, hc 2 _ rfl, hc 3 _ rfl, hc 4 _ rfl, hc 5 _ rfl⟩)
    have HROW := Lib.hid (And.intro r1 (And.intro r2 (And.intro r3 (And.intro (show cp ≤ 9223372036854775807 by unfold maxLen at r4; omega) (And.intro (show dl ≤ 1000000 by omega) r7)))))
    clear r1 r2 r3 r4 r5 r6 r7 hdl8 ha
    obtain ⟨c0, _⟩ := HCELL.out wr HFR.out
    by_cases h2 : op = 2
    · have q2 : (op == 2) = true := by simp [h2]
      have HDN := Lib.hid (Done_any wr bb bb id total sum bs HBS.out (by have := HBS.out.lt; omega) HLN.out)
      have HRDN := Lib.hid (fun (w : World) (h : RS w bb rb id total sum bs) => rdone_any w bb rb id total sum bs h HLN.out)
      by_cases hc : id < 0 ∨ (bs.length : Int) < total
      · have HC := Lib.hid hc
        clear hc
        go_upto_region 19 with (first | (go_at_call 14; refine HDN.out.mono ?_; rintro r4 w4 ⟨hf4, hg4, _⟩; obtain ⟨hbs4, pb, hpb, hblk4, rfl⟩ := hg4 HC.out) | go_in)
        have HF4 := Lib.hid (Fr.above' HFR.out hf4 (fun k e => by have := HBW.out; omega))
        have HR4 := Lib.hid (HBS.out.rs HRS.out hf4)
        have HB4 := Lib.hid hbs4
        have HPB : Hid (rb < pb) := Lib.hid (by have := HRS.out.lt; omega)
        have HBL4 := Lib.hid hblk4
        clear hf4 hbs4 hblk4 hpb hg4 HDN HBS HRS HFR c0
        go_upto_region 20 with (first | (go_at_call 16; refine (HRDN.out w4 HR4.out).mono ?_; rintro r5 w5 ⟨hf5, hg5, _⟩; obtain ⟨hrs5, rfl⟩ := hg5 HC.out) | go_in)
        have HF5 := Lib.hid (Fr.above' HF4.out hf5 (fun k e => by have := HRW.out; omega))
        have HB5 := Lib.hid (HR4.out.bs HB4.out hf5)
        have HR5 := Lib.hid hrs5
        have HBR := Lib.hid (broken_any w5 (HLD.out.fr0 HF5.out) pb id 6 HID.out (by unfold Num; omega) (HBL4.out.fr hf5 (by have := HPB.out; omega)))
        have k7 := str_of w5 none 0 0 [] (.inl rfl) rfl (Nat.le_refl _) (fun _ => rfl)
        have e1 := arr_beq2 ([] : List UInt8).toArray
        clear hf5 hrs5 hg5 HRDN HR4 HB4 HF4 HBL4 HPB
        go_upto_region 25 with (first | (go_at_call 10; refine HBR.out.mono ?_; rintro r6 w6 ⟨rfl, hf6⟩) | go_in)
        have HFW := Lib.hid (HF5.out.trans hf6)
        have HST : Hid (∃ id2 tot2 sum2 bs2, BS w6 bb bb id2 tot2 sum2 bs2 ∧ RS w6 bb rb id2 tot2 sum2 bs2 ∧ bs2.length ≤ 1048576 ∧ In64 id2) := Lib.hid ⟨id, total, sum, bs, HB5.out.fr0 hf6, HR5.out.fr0 hf6, HLN.out, HID.out⟩
        clear hf6 HBR k7 e1 HF5 HB5 HR5 HC
        obtain ⟨id2, tot2, sum2, bs2, hb2, hr2, hl2, hi2⟩ := HST.out
        have HB2 := Lib.hid hb2
        have HR2 := Lib.hid hr2
        have HI2 := Lib.hid (And.intro hl2 hi2)
        obtain ⟨m, hm⟩ : ∃ m, bs2.length = m := ⟨_, rfl⟩
        have HM := Lib.hid hm
        clear hb2 hr2 hl2 hi2 hm HST
        go_upto_region 26 with (first | (go_at_call 20; refine (next_any w6 bb bb id2 tot2 sum2 bs2 HB2.out).mono ?_; rintro r7 w7 ⟨rfl, hf7⟩) | go_in)
        have HF7 := Lib.hid (HFW.out.trans hf7)
        have HB7 := Lib.hid (HB2.out.fr0 hf7)
        have HR7 := Lib.hid (HR2.out.fr0 hf7)
        clear hf7 HFW HB2 HR2
        obtain ⟨vr, hbr, hor⟩ := HR7.out
        obtain ⟨ro, rc, rfl, _⟩ := hor.row
        rw [HM.out] at hbr ⊢
        have x0 := hbr.cell 0
        have x3 := hbr.cell 3
        simp only [List.getElem?_toArray, List.getElem?_cons_zero, List.getElem?_cons_succ] at x0 x3
        clear hbr hor
        go_wp2_with fail
        go_roundw
        case rel => exact ⟨k + 1, rb, id2, tot2, sum2, bs2, HLT.out, by first | rw [HW3.out] | simp, rfl, HRW.out, HB7.out, HR7.out, HI2.out.1, HI2.out.2, HF7.out⟩
        case measure => have h2 := HLT.out; (try rw [HW3.out]); clear HW3; simp [intOf]; omega
      by_cases hs : ((crc bs).toNat : Int) = sum
      rotate_left
      · have HC := Lib.hid hc
        have HS := Lib.hid hs
        clear hc hs
        go_upto_region 19 with (first | (go_at_call 14; refine HDN.out.mono ?_; rintro r4 w4 ⟨hf4, _, hg4⟩; obtain ⟨hbs4, hb4, _⟩ := hg4 HC.out; obtain ⟨pb, hpb, hblk4, rfl⟩ := hb4 HS.out) | go_in)
        have HF4 := Lib.hid (Fr.above' HFR.out hf4 (fun k e => by have := HBW.out; omega))
        have HR4 := Lib.hid (HBS.out.rs HRS.out hf4)
        have HB4 := Lib.hid hbs4
        have HPB : Hid (rb < pb) := Lib.hid (by have := HRS.out.lt; omega)
        have HBL4 := Lib.hid hblk4
        clear hf4 hbs4 hblk4 hpb hg4 hb4 HDN HBS HRS HFR c0
        go_upto_region 20 with (first | (go_at_call 16; refine (HRDN.out w4 HR4.out).mono ?_; rintro r5 w5 ⟨hf5, _, hg5⟩; obtain ⟨hrs5, hb5, _⟩ := hg5 HC.out; obtain rfl := hb5 HS.out) | go_in)
        have HF5 := Lib.hid (Fr.above' HF4.out hf5 (fun k e => by have := HRW.out; omega))
        have HB5 := Lib.hid (HR4.out.bs HB4.out hf5)
        have HR5 := Lib.hid hrs5
        have HBR := Lib.hid (broken_any w5 (HLD.out.fr0 HF5.out) pb id 9 HID.out (by unfold Num; omega) (HBL4.out.fr hf5 (by have := HPB.out; omega)))
        have k7 := str_of w5 none 0 0 [] (.inl rfl) rfl (Nat.le_refl _) (fun _ => rfl)
        have e1 := arr_beq2 ([] : List UInt8).toArray
        clear hf5 hrs5 hg5 hb5 HRDN HR4 HB4 HF4 HBL4 HPB
        go_upto_region 25 with (first | (go_at_call 10; refine HBR.out.mono ?_; rintro r6 w6 ⟨rfl, hf6⟩) | go_in)
        have HFW := Lib.hid (HF5.out.trans hf6)
        have HST : Hid (∃ id2 tot2 sum2 bs2, BS w6 bb bb id2 tot2 sum2 bs2 ∧ RS w6 bb rb id2 tot2 sum2 bs2 ∧ bs2.length ≤ 1048576 ∧ In64 id2) := Lib.hid ⟨-1, 0, 0, [], HB5.out.fr0 hf6, HR5.out.fr0 hf6, by decide, by unfold In64; omega⟩
        clear hf6 HBR k7 e1 HF5 HB5 HR5 HC HS
        obtain ⟨id2, tot2, sum2, bs2, hb2, hr2, hl2, hi2⟩ := HST.out
        have HB2 := Lib.hid hb2
        have HR2 := Lib.hid hr2
        have HI2 := Lib.hid (And.intro hl2 hi2)
        obtain ⟨m, hm⟩ : ∃ m, bs2.length = m := ⟨_, rfl⟩
        have HM := Lib.hid hm
        clear hb2 hr2 hl2 hi2 hm HST
        go_upto_region 26 with (first | (go_at_call 20; refine (next_any w6 bb bb id2 tot2 sum2 bs2 HB2.out).mono ?_; rintro r7 w7 ⟨rfl, hf7⟩) | go_in)
        have HF7 := Lib.hid (HFW.out.trans hf7)
        have HB7 := Lib.hid (HB2.out.fr0 hf7)
        have HR7 := Lib.hid (HR2.out.fr0 hf7)
        clear hf7 HFW HB2 HR2
        obtain ⟨vr, hbr, hor⟩ := HR7.out
        obtain ⟨ro, rc, rfl, _⟩ := hor.row
        rw [HM.out] at hbr ⊢
        have x0 := hbr.cell 0
        have x3 := hbr.cell 3
        simp only [List.getElem?_toArray, List.getElem?_cons_zero, List.getElem?_cons_succ] at x0 x3
        clear hbr hor
        go_wp2_with fail
        go_roundw
        case rel => exact ⟨k + 1, rb, id2, tot2, sum2, bs2, HLT.out, by first | rw [HW3.out] | simp, rfl, HRW.out, HB7.out, HR7.out, HI2.out.1, HI2.out.2, HF7.out⟩
        case measure => have h2 := HLT.out; (try rw [HW3.out]); clear HW3; simp [intOf]; omega
      · have HC := Lib.hid hc
        have HS := Lib.hid hs
        clear hc hs
        go_upto_region 19 with (first | (go_at_call 14; refine HDN.out.mono ?_; rintro r4 w4 ⟨hf4, _, hg4⟩; obtain ⟨hbs4, _, hb4⟩ := hg4 HC.out; obtain ⟨v4, rfl, ho4⟩ := hb4 HS.out) | go_in)
        have HF4 := Lib.hid (Fr.above' HFR.out hf4 (fun k e => by have := HBW.out; omega))
        have HR4 := Lib.hid (HBS.out.rs HRS.out hf4)
        have HB4 := Lib.hid hbs4
        have HO4 := Lib.hid ho4
        clear hf4 hbs4 hg4 hb4 ho4 HDN HBS HRS HFR c0
        go_upto_region 20 with (first | (go_at_call 16; refine (HRDN.out w4 HR4.out).mono ?_; rintro r5 w5 ⟨hf5, _, hg5⟩; obtain ⟨hrs5, _, hb5⟩ := hg5 HC.out; obtain ⟨v5, rfl, ho5⟩ := hb5 HS.out) | go_in)
        have HF5 := Lib.hid (Fr.above' HF4.out hf5 (fun k e => by have := HRW.out; omega))
        have HB5 := Lib.hid (HR4.out.bs HB4.out hf5)
        have HR5 := Lib.hid hrs5
        have ho4 : OwnY w5 bb v4 bs := HO4.out.fr hf5 (fun k hk e => by
          obtain ⟨_, h1, _⟩ := HR4.out
          exact HO4.out.notBlk h1 (by decide) (e ▸ hk))
        obtain ⟨m0, hm0⟩ : ∃ m, bs.length = m := ⟨_, rfl⟩
        obtain ⟨ao4, cp4, rfl, hc4, _, hr4, _⟩ := ho4.row
        obtain ⟨ao5, cp5, rfl, hc5, _, hr5, _⟩ := ho5.row
        rw [hm0] at hc4 hc5 ho4 ho5 ⊢
        have k7 := str_of w5 ao4 m0 cp4 bs hr4 hm0 hc4 (fun e => by
          subst e
          rcases ho4.form with ⟨e1, _⟩ | ⟨g', c', e1, _⟩
          · injection e1
          · cases e1)
        have k8 := str_of w5 ao5 m0 cp5 bs hr5 hm0 hc5 (fun e => by
          subst e
          rcases ho5.form with ⟨e1, _⟩ | ⟨g', c', e1, _⟩
          · injection e1
          · cases e1)
        have e1 := arr_beq2 bs.toArray
        clear hf5 hrs5 hg5 hb5 ho4 ho5 hc4 hc5 hr4 hr5 hm0 HRDN HR4 HB4 HF4 HO4
        go_upto_region 25 with (first | (go_at_call 10; refine (broken_nil w5 id).mono ?_; rintro r6 w6 ⟨rfl, rfl⟩) | go_in)
        have HFW := HF5
        have HST : Hid (∃ id2 tot2 sum2 bs2, BS w5 bb bb id2 tot2 sum2 bs2 ∧ RS w5 bb rb id2 tot2 sum2 bs2 ∧ bs2.length ≤ 1048576 ∧ In64 id2) := Lib.hid ⟨-1, 0, 0, [], HB5.out, HR5.out, by decide, by unfold In64; omega⟩
        clear k7 k8 e1 HF5 HB5 HR5 HC HS
        obtain ⟨id2, tot2, sum2, bs2, hb2, hr2, hl2, hi2⟩ := HST.out
        have HB2 := Lib.hid hb2
        have HR2 := Lib.hid hr2
        have HI2 := Lib.hid (And.intro hl2 hi2)
        obtain ⟨m, hm⟩ : ∃ m, bs2.length = m := ⟨_, rfl⟩
        have HM := Lib.hid hm
        clear hb2 hr2 hl2 hi2 hm HST
        go_upto_region 26 with (first | (go_at_call 20; refine (next_any w5 bb bb id2 tot2 sum2 bs2 HB2.out).mono ?_; rintro r7 w7 ⟨rfl, hf7⟩) | go_in)
        have HF7 := Lib.hid (HFW.out.trans hf7)
        have HB7 := Lib.hid (HB2.out.fr0 hf7)
        have HR7 := Lib.hid (HR2.out.fr0 hf7)
        clear hf7 HFW HB2 HR2
        obtain ⟨vr, hbr, hor⟩ := HR7.out
        obtain ⟨ro, rc, rfl, _⟩ := hor.row
        rw [HM.out] at hbr ⊢
        have x0 := hbr.cell 0
        have x3 := hbr.cell 3
        simp only [List.getElem?_toArray, List.getElem?_cons_zero, List.getElem?_cons_succ] at x0 x3
        clear hbr hor
        go_wp2_with fail
        go_roundw
        case rel => exact ⟨k + 1, rb, id2, tot2, sum2, bs2, HLT.out, by first | rw [HW3.out] | simp, rfl, HRW.out, HB7.out, HR7.out, HI2.out.1, HI2.out.2, HF7.out⟩
        case measure => have h2 := HLT.out; (try rw [HW3.out]); clear HW3; simp [intOf]; omega
    by_cases h3 : op = 3
    · have q2 : (op == 2) = false := by simp [h2]
      have q3 : (op == 3) = true := by simp [h3]
      go_upto_region 24 with (first | (go_at_call 17; refine (drop_any wr bb bb id total sum bs HBS.out).mono ?_; rintro r4 w4 ⟨⟨v3, rfl⟩, hbs4, hf4⟩) | go_in)
      have hfa := Fr.above' HFR.out hf4 (fun k e => by have := HBW.out; omega)
      have hb5 := Blk.new w4 51 #[.int .i64 (-1), .int .i64 0, .int .u32 0, .slice none 0 0]
      have hf5 : Fr (fun _ => False) w4 (w4.alloc (.cells #[.int .i64 (-1), .int .i64 0, .int .u32 0, .slice none 0 0] 51)) := Fr.alloc _ _ _
      have HFW := Lib.hid (hfa.trans hf5)
      have hrr : RS (w4.alloc (.cells #[.int .i64 (-1), .int .i64 0, .int .u32 0, .slice none 0 0] 51)) bb w4.heap.size (-1) 0 0 [] := ⟨_, hb5, OwnY.none _ _⟩
      have hbb := hbs4.fr0 hf5
      have HRW2 : Hid (W.heap.size ≤ w4.heap.size) := Lib.hid hfa.size
      go_upto_region 25 with (fail)
      obtain ⟨rb2, hrb⟩ : ∃ r, w4.heap.size = r := ⟨_, rfl⟩
      obtain ⟨w6, hw6⟩ : ∃ w, w4.alloc (.cells #[.int .i64 (-1), .int .i64 0, .int .u32 0, .slice none 0 0] 51) = w := ⟨_, rfl⟩
      rw [hw6] at HFW hrr hbb
      rw [hrb] at hrr HRW2
      rw [hw6, hrb]
      have HST : Hid (∃ id2 tot2 sum2 bs2, BS w6 bb bb id2 tot2 sum2 bs2 ∧ RS w6 bb rb2 id2 tot2 sum2 bs2 ∧ bs2.length ≤ 1048576 ∧ In64 id2) := Lib.hid ⟨-1, 0, 0, [], hbb, hrr, by decide, by unfold In64; omega⟩
      clear hw6 hrb hrr hbb hf5 hb5 hfa hf4 hbs4 HBS HRS HFR c0 HRW
      have HRW := HRW2
      obtain ⟨id2, tot2, sum2, bs2, hb2, hr2, hl2, hi2⟩ := HST.out
      have HB2 := Lib.hid hb2
      have HR2 := Lib.hid hr2
      have HI2 := Lib.hid (And.intro hl2 hi2)
      obtain ⟨m, hm⟩ : ∃ m, bs2.length = m := ⟨_, rfl⟩
      have HM := Lib.hid hm
      clear hb2 hr2 hl2 hi2 hm HST
      go_upto_region 26 with (first | (go_at_call 20; refine (next_any w6 bb bb id2 tot2 sum2 bs2 HB2.out).mono ?_; rintro r7 w7 ⟨rfl, hf7⟩) | go_in)
      have HF7 := Lib.hid (HFW.out.trans hf7)
      have HB7 := Lib.hid (HB2.out.fr0 hf7)
      have HR7 := Lib.hid (HR2.out.fr0 hf7)
      clear hf7 HFW HB2 HR2
      obtain ⟨vr, hbr, hor⟩ := HR7.out
      obtain ⟨ro, rc, rfl, _⟩ := hor.row
      rw [HM.out] at hbr ⊢
      have x0 := hbr.cell 0
      have x3 := hbr.cell 3
      simp only [List.getElem?_toArray, List.getElem?_cons_zero, List.getElem?_cons_succ] at x0 x3
      clear hbr hor
      go_wp2_with fail
      go_roundw
      case rel => exact ⟨k + 1, rb2, id2, tot2, sum2, bs2, HLT.out, by first | rw [HW3.out] | simp, rfl, HRW.out, HB7.out, HR7.out, HI2.out.1, HI2.out.2, HF7.out⟩
      case measure => have h2 := HLT.out; (try rw [HW3.out]); clear HW3; simp [intOf]; omega
    have q2 : (op == 2) = false := by simp [h2]
    have q3 : (op == 3) = false := by simp [h3]
    clear h2 h3
    by_cases he : addE id total sum bs.length pid pat ptot psum dl = 0
    · have HE := Lib.hid he
      clear he
      obtain ⟨bv, hbv⟩ : ∃ bv, (((addB id bs pid pat l).length : Int) == fresh id pid ptot total) = bv := ⟨_, rfl⟩
      have hadd := Add_any wr bb bb id total sum bs l HBS.out (by have := HBS.out.lt; omega) pid pat ptot psum pao dl cp (HROW.out.1.fr0 HFR.out) HROW.out.2.1 HROW.out.2.2.2.2.1 HROW.out.2.2.1 HROW.out.2.2.2.1 HLN.out 0 HE.out
      rw [hbv] at hadd
      have HADD := Lib.hid hadd
      have HRADD : Hid (∀ w, Fr (fun _ => False) W w → RS w bb rb id total sum bs → bb ≤ w.heap.size → Calls Tryd.prog 18 #[.pointer (some ⟨rb, 0, none⟩), .agg #[.int .i64 pid, .int .i64 pat, .int .i64 ptot, .int .u32 psum, .slice pao dl cp]] w fun r W' => Fr (fun k => k = rb) w W' ∧ RS W' bb rb (fresh id pid pid id) (fresh id pid ptot total) (fresh id pid psum sum) (addB id bs pid pat l) ∧ r = .returned (.tuple #[.bool bv, .int .i64 0])) := Lib.hid (fun w hw h hB => (radd_any w bb rb id total sum bs l h hB pid pat ptot psum pao dl cp (HROW.out.1.fr0 hw) HROW.out.2.1 HROW.out.2.2.2.2.1 HROW.out.2.2.1 HROW.out.2.2.2.1 HLN.out).mono (fun r W' hh => by
        obtain ⟨h1, _, h3⟩ := hh
        obtain ⟨h4, h5⟩ := h3 HE.out
        rw [hbv] at h5
        exact ⟨h1, h4, h5⟩))
      clear hadd hbv
      obtain ⟨_, c1, c2, c3, c4, c5⟩ := HCELL.out wr HFR.out
      have c2' : wr.cell? ⟨b, o + k * 6 + 1 + 1, none⟩ = some (.int .i64 pat) := c2
      have c3' : wr.cell? ⟨b, o + k * 6 + 1 + 2, none⟩ = some (.int .i64 ptot) := c3
      have c4' : wr.cell? ⟨b, o + k * 6 + 1 + 3, none⟩ = some (.int .u32 psum) := c4
      have c5' : wr.cell? ⟨b, o + k * 6 + 1 + 4, none⟩ = some (.slice pao dl cp) := c5
      go_upto_region 14 with (first | (go_at_call 13; refine HADD.out.mono ?_; rintro r4 w4 ⟨hf4, _, hg4⟩; obtain ⟨hbs4, rfl⟩ := hg4 rfl) | go_in)
      clear c1 c2 c3 c4 c5 c2' c3' c4' c5'
      have HF4 := Lib.hid (Fr.above' HFR.out hf4 (fun k e => by have := HBW.out; omega))
      have HR4 := Lib.hid (HBS.out.rs HRS.out hf4)
      have HB4 := Lib.hid hbs4
      clear hf4 hbs4 hg4 HADD HBS HRS HFR c0
      obtain ⟨_, c1, c2, c3, c4, c5⟩ := HCELL.out w4 HF4.out
      have c2' : w4.cell? ⟨b, o + k * 6 + 1 + 1, none⟩ = some (.int .i64 pat) := c2
      have c3' : w4.cell? ⟨b, o + k * 6 + 1 + 2, none⟩ = some (.int .i64 ptot) := c3
      have c4' : w4.cell? ⟨b, o + k * 6 + 1 + 3, none⟩ = some (.int .u32 psum) := c4
      have c5' : w4.cell? ⟨b, o + k * 6 + 1 + 4, none⟩ = some (.slice pao dl cp) := c5
      go_upto_region 15 with (first | (go_at_call 19; refine (of_any w4 pid pat ptot psum pao dl cp).mono ?_; rintro r5 w5 ⟨rfl, hf5⟩) | (go_at_call 18; refine (HRADD.out w5 (HF4.out.trans hf5) (HR4.out.fr0 hf5) (by have := HB4.out.lt; have := hf5.size; omega)).mono ?_; rintro r7 w7 ⟨hf7, hrs7, rfl⟩) | go_in)
      clear c1 c2 c3 c4 c5 c2' c3' c4' c5'
      have HF7 := Lib.hid (Fr.above' (HF4.out.trans hf5) hf7 (fun k e => by have := HRW.out; omega))
      have HB7 := Lib.hid ((HR4.out.fr0 hf5).bs (HB4.out.fr0 hf5) hf7)
      have HR7 := Lib.hid hrs7
      clear hf5 hf7 hrs7 HRADD HR4 HB4 HF4
      obtain ⟨_, c1, c2, c3, c4, c5⟩ := HCELL.out w7 HF7.out
      have c2' : w7.cell? ⟨b, o + k * 6 + 1 + 1, none⟩ = some (.int .i64 pat) := c2
      have c3' : w7.cell? ⟨b, o + k * 6 + 1 + 2, none⟩ = some (.int .i64 ptot) := c3
      have c4' : w7.cell? ⟨b, o + k * 6 + 1 + 3, none⟩ = some (.int .u32 psum) := c4
      have c5' : w7.cell? ⟨b, o + k * 6 + 1 + 4, none⟩ = some (.slice pao dl cp) := c5
      have b1 : (bv == bv) = true := by simp
      have b2 : (bv != bv) = false := by simp
      go_upto_region 25 with (first | (go_at_call 10; refine (broken_nil w7 pid).mono ?_; rintro r8 w8 ⟨rfl, rfl⟩) | go_in)
      clear c1 c2 c3 c4 c5 c2' c3' c4' c5'
      have HFW := HF7
      have HST : Hid (∃ id2 tot2 sum2 bs2, BS w7 bb bb id2 tot2 sum2 bs2 ∧ RS w7 bb rb id2 tot2 sum2 bs2 ∧ bs2.length ≤ 1048576 ∧ In64 id2) := Lib.hid ⟨_, _, _, _, HB7.out, HR7.out, addB_len id total sum bs l pid pat ptot psum dl HROW.out.2.1 HE.out HLN.out, by
        unfold fresh
        split
        · exact HROW.out.2.2.2.2.2
        · exact HID.out⟩
      clear b1 b2 HF7 HB7 HR7 HE
      obtain ⟨id2, tot2, sum2, bs2, hb2, hr2, hl2, hi2⟩ := HST.out
      have HB2 := Lib.hid hb2
      have HR2 := Lib.hid hr2
      have HI2 := Lib.hid (And.intro hl2 hi2)
      obtain ⟨m, hm⟩ : ∃ m, bs2.length = m := ⟨_, rfl⟩
      have HM := Lib.hid hm
      clear hb2 hr2 hl2 hi2 hm HST
      go_upto_region 26 with (first | (go_at_call 20; refine (next_any w7 bb bb id2 tot2 sum2 bs2 HB2.out).mono ?_; rintro r7 w7 ⟨rfl, hf7⟩) | go_in)
      have HF7 := Lib.hid (HFW.out.trans hf7)
      have HB7 := Lib.hid (HB2.out.fr0 hf7)
      have HR7 := Lib.hid (HR2.out.fr0 hf7)
      clear hf7 HFW HB2 HR2
      obtain ⟨vr, hbr, hor⟩ := HR7.out
      obtain ⟨ro, rc, rfl, _⟩ := hor.row
      rw [HM.out] at hbr ⊢
      have x0 := hbr.cell 0
      have x3 := hbr.cell 3
      simp only [List.getElem?_toArray, List.getElem?_cons_zero, List.getElem?_cons_succ] at x0 x3
      clear hbr hor
      go_wp2_with fail
      go_roundw
      case rel => exact ⟨k + 1, rb, id2, tot2, sum2, bs2, HLT.out, by first | rw [HW3.out] | simp, rfl, HRW.out, HB7.out, HR7.out, HI2.out.1, HI2.out.2, HF7.out⟩
      case measure => have h2 := HLT.out; (try rw [HW3.out]); clear HW3; simp [intOf]; omega
    · have HE := Lib.hid he
      obtain ⟨ee, hee⟩ : ∃ x, addE id total sum bs.length pid pat ptot psum dl = x := ⟨_, rfl⟩
      have HNM : Hid (Num ee) := Lib.hid (by have := addE_num id total sum bs.length pid pat ptot psum dl he; rwa [hee] at this)
      have HEE : Hid (ee ≠ 0) := Lib.hid (by rw [← hee]; exact he)
      clear he
      have hadd := Add_any wr bb bb id total sum bs l HBS.out (by have := HBS.out.lt; omega) pid pat ptot psum pao dl cp (HROW.out.1.fr0 HFR.out) HROW.out.2.1 HROW.out.2.2.2.2.1 HROW.out.2.2.1 HROW.out.2.2.2.1 HLN.out ee hee
      have HADD := Lib.hid hadd
      have HRADD : Hid (∀ w, Fr (fun _ => False) W w → RS w bb rb id total sum bs → bb ≤ w.heap.size → Calls Tryd.prog 18 #[.pointer (some ⟨rb, 0, none⟩), .agg #[.int .i64 pid, .int .i64 pat, .int .i64 ptot, .int .u32 psum, .slice pao dl cp]] w fun r W' => Fr (fun k => k = rb) w W' ∧ RS W' bb rb id total sum bs ∧ r = .returned (.tuple #[.bool false, .int .i64 ee])) := Lib.hid (fun w hw h hB => (radd_any w bb rb id total sum bs l h hB pid pat ptot psum pao dl cp (HROW.out.1.fr0 hw) HROW.out.2.1 HROW.out.2.2.2.2.1 HROW.out.2.2.1 HROW.out.2.2.2.1 HLN.out).mono (fun r W' hh => by
        obtain ⟨h1, h3, _⟩ := hh
        obtain ⟨h4, h5⟩ := h3 HE.out
        rw [hee] at h5
        exact ⟨h1, h4, h5⟩))
      clear hadd hee
      obtain ⟨_, c1, c2, c3, c4, c5⟩ := HCELL.out wr HFR.out
      have c2' : wr.cell? ⟨b, o + k * 6 + 1 + 1, none⟩ = some (.int .i64 pat) := c2
      have c3' : wr.cell? ⟨b, o + k * 6 + 1 + 2, none⟩ = some (.int .i64 ptot) := c3
      have c4' : wr.cell? ⟨b, o + k * 6 + 1 + 3, none⟩ = some (.int .u32 psum) := c4
      have c5' : wr.cell? ⟨b, o + k * 6 + 1 + 4, none⟩ = some (.slice pao dl cp) := c5
      go_upto_region 14 with (first | (go_at_call 13; refine HADD.out.mono ?_; rintro r4 w4 ⟨hf4, hg4, _⟩; obtain ⟨hbs4, pb, hpb, hblk4, rfl⟩ := hg4 HEE.out) | go_in)
      clear c1 c2 c3 c4 c5 c2' c3' c4' c5'
      have HF4 := Lib.hid (Fr.above' HFR.out hf4 (fun k e => by have := HBW.out; omega))
      have HR4 := Lib.hid (HBS.out.rs HRS.out hf4)
      have HB4 := Lib.hid hbs4
      have HPB : Hid (rb < pb) := Lib.hid (by have := HRS.out.lt; omega)
      have HBL4 := Lib.hid hblk4
      clear hpb hblk4
      clear hf4 hbs4 hg4 HADD HBS HRS HFR c0
      obtain ⟨_, c1, c2, c3, c4, c5⟩ := HCELL.out w4 HF4.out
      have c2' : w4.cell? ⟨b, o + k * 6 + 1 + 1, none⟩ = some (.int .i64 pat) := c2
      have c3' : w4.cell? ⟨b, o + k * 6 + 1 + 2, none⟩ = some (.int .i64 ptot) := c3
      have c4' : w4.cell? ⟨b, o + k * 6 + 1 + 3, none⟩ = some (.int .u32 psum) := c4
      have c5' : w4.cell? ⟨b, o + k * 6 + 1 + 4, none⟩ = some (.slice pao dl cp) := c5
      go_upto_region 15 with (first | (go_at_call 19; refine (of_any w4 pid pat ptot psum pao dl cp).mono ?_; rintro r5 w5 ⟨rfl, hf5⟩) | (go_at_call 18; refine (HRADD.out w5 (HF4.out.trans hf5) (HR4.out.fr0 hf5) (by have := HB4.out.lt; have := hf5.size; omega)).mono ?_; rintro r7 w7 ⟨hf7, hrs7, rfl⟩) | go_in)
      clear c1 c2 c3 c4 c5 c2' c3' c4' c5'
      have HF7 := Lib.hid (Fr.above' (HF4.out.trans hf5) hf7 (fun k e => by have := HRW.out; omega))
      have HB7 := Lib.hid ((HR4.out.fr0 hf5).bs (HB4.out.fr0 hf5) hf7)
      have HR7 := Lib.hid hrs7
      have HBR := Lib.hid (broken_any w7 (HLD.out.fr0 HF7.out) pb pid ee HROW.out.2.2.2.2.2 HNM.out ((HBL4.out.fr hf5 (fun e => e)).fr hf7 (by have := HPB.out; omega)))
      clear hf5 hf7 hrs7 HRADD HR4 HB4 HF4 HBL4 HPB
      obtain ⟨_, c1, c2, c3, c4, c5⟩ := HCELL.out w7 HF7.out
      have c2' : w7.cell? ⟨b, o + k * 6 + 1 + 1, none⟩ = some (.int .i64 pat) := c2
      have c3' : w7.cell? ⟨b, o + k * 6 + 1 + 2, none⟩ = some (.int .i64 ptot) := c3
      have c4' : w7.cell? ⟨b, o + k * 6 + 1 + 3, none⟩ = some (.int .u32 psum) := c4
      have c5' : w7.cell? ⟨b, o + k * 6 + 1 + 4, none⟩ = some (.slice pao dl cp) := c5
      go_upto_region 25 with (first | (go_at_call 10; refine HBR.out.mono ?_; rintro r8 w8 ⟨rfl, hf8⟩) | go_in)
      clear c1 c2 c3 c4 c5 c2' c3' c4' c5'
      have HFW := Lib.hid (HF7.out.trans hf8)
      have HST : Hid (∃ id2 tot2 sum2 bs2, BS w8 bb bb id2 tot2 sum2 bs2 ∧ RS w8 bb rb id2 tot2 sum2 bs2 ∧ bs2.length ≤ 1048576 ∧ In64 id2) := Lib.hid ⟨id, total, sum, bs, HB7.out.fr0 hf8, HR7.out.fr0 hf8, HLN.out, HID.out⟩
      clear hf8 HBR HF7 HB7 HR7 HE HNM HEE
      obtain ⟨id2, tot2, sum2, bs2, hb2, hr2, hl2, hi2⟩ := HST.out
      have HB2 := Lib.hid hb2
      have HR2 := Lib.hid hr2
      have HI2 := Lib.hid (And.intro hl2 hi2)
      obtain ⟨m, hm⟩ : ∃ m, bs2.length = m := ⟨_, rfl⟩
      have HM := Lib.hid hm
      clear hb2 hr2 hl2 hi2 hm HST
      go_upto_region 26 with (first | (go_at_call 20; refine (next_any w8 bb bb id2 tot2 sum2 bs2 HB2.out).mono ?_; rintro r7 w7 ⟨rfl, hf7⟩) | go_in)
      have HF7 := Lib.hid (HFW.out.trans hf7)
      have HB7 := Lib.hid (HB2.out.fr0 hf7)
      have HR7 := Lib.hid (HR2.out.fr0 hf7)
      clear hf7 HFW HB2 HR2
      obtain ⟨vr, hbr, hor⟩ := HR7.out
      obtain ⟨ro, rc, rfl, _⟩ := hor.row
      rw [HM.out] at hbr ⊢
      have x0 := hbr.cell 0
      have x3 := hbr.cell 3
      simp only [List.getElem?_toArray, List.getElem?_cons_zero, List.getElem?_cons_succ] at x0 x3
      clear hbr hor
      go_wp2_with fail
      go_roundw
      case rel => exact ⟨k + 1, rb, id2, tot2, sum2, bs2, HLT.out, by first | rw [HW3.out] | simp, rfl, HRW.out, HB7.out, HR7.out, HI2.out.1, HI2.out.2, HF7.out⟩
      case measure => have h2 := HLT.out; (try rw [HW3.out]); clear HW3; simp [intOf]; omega
end Go.Proofs.YtookojfigjdgcaaDoor
