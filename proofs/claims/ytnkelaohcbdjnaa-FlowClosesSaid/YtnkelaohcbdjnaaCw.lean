/- The law of FlowCloses: its walk. -/
import Derived.Test.YtnkelaohcbdjnaaOl
import Derived.Deep.QuietTactic
import Derived.BigQuiet
set_option linter.unusedVariables false
set_option linter.unusedSimpArgs false
namespace Go.Proofs.Ytnkelaohcbdjnaa
open Go.RowKit Go.Maps
/-- behind a step: new blocks alone were named -/
theorem jout_up {B : Nat} {S : Nat → Prop} {W W' : World} {fb rb : Nat} {s : FSt} (hS : ∀ k, S k → B ≤ k) (hB : B ≤ W.heap.size) (hjo : JOut S W fb rb s W') : Fr (fun k => B ≤ k) W W' ∧ ∃ (S' R' : Nat → Prop) (mb' : Nat), JS S' R' W' fb mb' rb s ∧ ∀ k, S' k → B ≤ k := by
  obtain ⟨S', R', mb', h1, h2, h3⟩ := hjo
  exact ⟨h3.mono hS, S', R', mb', h1, fun k e => by
    rcases Nat.lt_or_ge k W.heap.size with hlt | hge
    · exact hS k ((h2 k hlt).1 e)
    · omega⟩
theorem closed_tries {s : FSt} (hs : statusK s.l ≠ 1) {n : Nat} {now : Int} {c : FSt × List Ov × Int} : (rtryC s n now c).1 = s := by
  unfold rtryC readyE
  by_cases h1 : rightB s.l n now = true
  · rw [if_pos h1, if_neg hs, if_neg (by decide)]
  · rw [if_neg h1, if_neg (by decide)]
/-- a closed run stays as it is -/
theorem closed_step {s : FSt} (hs : statusK s.l ≠ 1) (a : ActV) (now : Int) : (stepC s a now).1 = s := by
  unfold stepC
  repeat' split
  all_goals first
    | exact closed_tries hs
    | rfl
/-- a run that ends: c is what Terminate makes of it -/
theorem term_open {s : FSt} {ds : List Value} {dl : Nat} {now : Int} (hdl : dl ≤ 4096) (hr : rightP s.l 0 now) (ho : statusK s.l = 1) : rtryC s dl now (terminateC s ds now) = (shut s 23 now ds, [⟨7, 0, 0, 0, 0, 0, 5, ds⟩], 0) := by
  unfold rtryC readyE
  rw [if_pos (rightB_true ⟨hdl, hr.2⟩), if_pos ho, if_pos rfl]
  rfl
set_option maxRecDepth 100000 in
theorem wants_closed (S : Nat → Prop) (W : World) (fb mb : Nat) (s : FSt) (h : PF S W fb mb s) (hi : FInv s) (hs : statusK s.l ≠ 1) (ref turn : Int) (wref : wfI ref) :
    Calls Try.prog 29 #[.pointer (some ⟨fb, 0, none⟩), .int .i64 ref, .int .i64 turn] W fun e W' => e = .returned (.bool false) ∧ Fr (fun _ => False) W W' := by
  have hc := hi.cl hs
  by_cases ht : turn = -1
  · subst ht
    exact (wants_no S W fb mb s h hi.openOk ref wref (fun i hm => by rw [hc.1] at hm; cases hm)).mono fun e W' hh => ⟨hh.1, hh.2⟩
  obtain ⟨ao, cp, hb⟩ := h.blk
  have x5 := hb.cell 5
  simp only [fcells, lA, lB, lC] at x5
  rw [hc.2] at x5
  have p1 : (turn == -1) = false := by simp [ht]
  clear h hi hs hc ht hb wref
  go_enter Try.func29, Try.ntmps29
  go_wp2
  go_ret
  exact ⟨rfl, Fr.refl _ _⟩
set_option maxRecDepth 100000 in
set_option maxHeartbeats 16000000 in
theorem closes_walk (W : World) (a : Option Addr) (len cap : Nat) (L : List ActV) (hlen : L.length = len) (hcap : len ≤ cap) (hmax : cap ≤ maxLen) (hrow : RowAc (fun k => W.heap.size ≤ k) W a L) (da : Option Addr) (dlen dcap : Nat) (bs : List UInt8) (hdat : RowB (fun k => W.heap.size ≤ k) W (.slice da dlen dcap) (bs.map fun b => .int .u8 (b.toNat : Int)))
    (a2 : Option Addr) (len2 cap2 : Nat) (L2 : List ActV) (hlen2 : L2.length = len2) (hcap2 : len2 ≤ cap2) (hmax2 : cap2 ≤ maxLen) (hrow2 : RowAc (fun k => W.heap.size ≤ k) W a2 L2) :
    Calls Try.prog 6 #[.slice a len cap, .slice da dlen dcap, .slice a2 len2 cap2] W fun e W' => e = .returned (.bool true) ∧ Fr (fun _ => False) W W' := by
  obtain ⟨B, hB⟩ : ∃ B, W.heap.size = B := ⟨_, rfl⟩
  rw [hB] at hrow hrow2 hdat
  have HB := Lib.hid hB
  have HW := Lib.hid (known_any W)
  have HROW0 := Lib.hid hrow
  have HLEN := Lib.hid (And.intro hlen (And.intro hcap hmax))
  have HROW2 := Lib.hid hrow2
  have HLEN2 := Lib.hid (And.intro hlen2 (And.intro hcap2 hmax2))
  have HDAT0 := Lib.hid hdat
  have HDAT := Lib.hid (hdat.to (S' := fun _ => False) (fun _ _ e => e.elim))
  obtain ⟨ds, hds⟩ : ∃ ds, bs.map (fun b => Value.int .u8 (b.toNat : Int)) = ds := ⟨_, rfl⟩
  have HDS := Lib.hid hds
  have HDL := Lib.hid hdat.len
  clear hlen hcap hmax hrow hB hlen2 hcap2 hmax2 hrow2 hdat hds
  go_enter Try.func6, Try.ntmps6
  go_upto_region 3 with (first | (go_at_call 8; refine HW.out.mono ?_; rintro e w1 ⟨rfl, hf1⟩; have HF1 := Lib.hid hf1; clear hf1) | go_in)
  have HFEW := Lib.hid (few_any _ w1 a len cap L HLEN.out.1 HLEN.out.2.1 HLEN.out.2.2 (HROW0.out.fr (HF1.out.mono fun _ e => e.elim) (fun k e => e)))
  go_wp2_with fail
  refine HFEW.out.mono ?_
  rintro e w1b ⟨bf, rfl, hbf, hf2⟩
  have HF1b := Lib.hid (HF1.out.trans hf2)
  have HBF := Lib.hid hbf
  clear hf2 hbf HFEW
  cases bf with
  | false =>
    go_wp2
    go_ret
    exact ⟨rfl, HF1b.out⟩
  | true =>
    have H120 : Hid (len ≤ 120) := Lib.hid (HBF.out rfl)
    clear HBF
    have HFEW := Lib.hid (few_any _ w1b a2 len2 cap2 L2 HLEN2.out.1 HLEN2.out.2.1 HLEN2.out.2.2 (HROW2.out.fr (HF1b.out.mono fun _ e => e.elim) (fun k e => e)))
    go_wp2_with fail
    refine HFEW.out.mono ?_
    rintro e w2 ⟨bf, rfl, hbf, hf2⟩
    have HF2 := Lib.hid (HF1b.out.trans hf2)
    have HBF := Lib.hid hbf
    clear hf2 hbf HFEW
    cases bf with
    | false =>
      go_wp2
      go_ret
      exact ⟨rfl, HF2.out⟩
    | true =>
      have H1202 : Hid (len2 ≤ 120) := Lib.hid (HBF.out rfl)
      clear HBF
      by_cases hd4 : 4096 < dlen
      · have p0 : decide ((dlen : Int) > 4096) = true := decide_eq_true (by omega)
        have p0' : decide (4096 < (dlen : Int)) = true := decide_eq_true (by omega)
        have p0'' : decide (4096 < dlen) = true := decide_eq_true hd4
        clear hd4
        go_wp2
        go_ret
        exact ⟨rfl, HF2.out⟩
      have p0 : decide ((dlen : Int) > 4096) = false := decide_eq_false (by omega)
      have p0' : decide (4096 < (dlen : Int)) = false := decide_eq_false (by omega)
      have p0'' : decide (4096 < dlen) = false := decide_eq_false hd4
      have HD4 : Hid (dlen ≤ 4096) := Lib.hid (by omega)
      clear hd4
      have HN1 : Hid (Calls Try.prog 11 #[.int .i64 3, .int .i64 1, .int .i64 0, .int .i64 7, .slice none 0 0, .int .i64 0] w2 fun e W' => ∃ (v : Value) (fb mb : Nat), e = .returned (.tuple #[.pointer (some ⟨fb, 0, none⟩), v, .int .i64 0]) ∧ w2.heap.size ≤ fb ∧ w2.heap.size ≤ mb ∧ PF (fun k => k = fb ∨ k = mb) W' fb mb (begun1 3 1 0 7 0 []) ∧ Outs w2.heap.size W' v [⟨1, 0, 2, 0, 0, 0, 0, []⟩] ∧ Fr (fun _ => False) w2 W') := Lib.hid (new_any w2 3 1 0 7 0 (by omega) (by omega) (by omega) (by omega) (by omega) none 0 0 [] (RowB.nil _ _) (by omega) (by simp))
      go_upto_region 9 with (first | (go_at_call 11; refine HN1.out.mono ?_; rintro e w3 ⟨v3, fb, mb, rfl, hfb, hmb, hpf, _, hf3⟩; have HPF := Lib.hid hpf; have HFB := Lib.hid (And.intro hfb hmb); have HF3 := Lib.hid (HF2.out.trans hf3); have HN2 := Lib.hid (rnew_any (fun k => k = fb ∨ k = mb) w3 hpf.lt); clear hpf hfb hmb hf3 HN1) | (go_at_call 18; refine HN2.out.mono ?_; rintro e w4 ⟨v4, rb, S0, R0, rfl, _, hs4, hrf, hf4⟩; have HR0 : Hid (Run B S0 R0 w4 fb mb rb (begun1 3 1 0 7 0 []) 0) := Lib.hid (Run.start HB.out HPF.out (by have := HFB.out; have := HF2.out.size; have := HB.out; omega) (by have := HFB.out; have := HF2.out.size; have := HB.out; omega) HF3.out.size hs4 hrf hf4); have HF4 := Lib.hid (HF3.out.trans hf4); clear hs4 hrf hf4 HN2) | go_in)
      clear HPF HFB HF3 p0 p0' p0''
      go_upto_region 10 with (fail)
      go_wp2_with fail
      go_loopw [13] (fun iv wz => ∃ (q : Nat) (sq : FSt) (S R : Nat → Prop) (mq : Nat), iv = .int .i64 q ∧ q ≤ len ∧ Run B S R wz fb mq rb sq q ∧ Fr (fun _ => False) W wz) (fun iv _ => len - (intOf iv).toNat)
      case atStart => exact ⟨0, _, S0, R0, mb, rfl, Nat.zero_le _, HR0.out, HF4.out⟩
      case round =>
        obtain ⟨q, sq, S, R, mq, rfl, hq, hrun, hfz⟩ := hrel
        have HRUN := Lib.hid hrun
        have HFZ := Lib.hid hfz
        have HQ : Hid (q ≤ 120) := Lib.hid (by have := H120.out; omega)
        clear hrun hfz
        by_cases hlt : q < len
        rotate_left
        · have p1 : decide ((q : Int) < (len : Int)) = false := decide_eq_false (by omega)
          have p1' : decide (q < len) = false := decide_eq_false (by omega)
          obtain rfl : q = len := by omega
          clear hlt hq
          go_upto_region 15 with (fail)
          have HST : Hid (∀ z, statusK sq.l = z → Calls Try.prog 16 #[.pointer (some ⟨fb, 0, none⟩)] wr fun e W' => e = .returned (.int .i64 z) ∧ wr = W') := Lib.hid (fun z hz => by
            have := status_any S wr fb mq sq HRUN.out.j.p.fl
            rwa [hz] at this)
          obtain ⟨z, hz⟩ : ∃ z, statusK sq.l = z := ⟨_, rfl⟩
          have HSTZ := Lib.hid (HST.out z hz)
          have HZ := Lib.hid hz
          clear HST
          by_cases hz1 : z = 1
          rotate_left
          · have p2 : (z == 1) = false := by simp [hz1]
            have HCL : Hid (statusK sq.l ≠ 1) := Lib.hid (by rw [hz]; exact hz1)
            have HWZ := HFZ
            have HJZ : Hid (JS S R wr fb mq rb sq) := Lib.hid HRUN.out.j
            have HIZ : Hid (FInv sq ∧ rightP sq.l 0 (q : Int) ∧ sq.l.length ≤ 4000 ∧ (0 ≤ sq.at_ ∧ sq.at_ ≤ sq.l.length) ∧ ∀ k, S k → B ≤ k) := Lib.hid ⟨HRUN.out.i, HRUN.out.at_, by have := HRUN.out.len HQ.out; omega, HRUN.out.wf, HRUN.out.S⟩
            clear hz hz1
            go_upto_region 20 with (first | (go_at_call 16; refine HSTZ.out.mono ?_; rintro e w8 ⟨rfl, rfl⟩) | go_in)
            obtain ⟨ln, hln⟩ : ∃ m, sq.l.length = m := ⟨_, rfl⟩
            obtain ⟨zz, hzz⟩ : ∃ m, statusK sq.l = m := ⟨_, rfl⟩
            have HLL : Hid (∀ (S' : Nat → Prop) w' m', PF S' w' fb m' sq → Calls Try.prog 21 #[.pointer (some ⟨fb, 0, none⟩)] w' fun e W' => e = .returned (.int .i64 (ln : Int)) ∧ w' = W') := Lib.hid (fun S' w' m' h => by
              have := len_any S' w' fb m' sq h.fl
              rwa [hln] at this)
            have HSS : Hid (∀ (S' : Nat → Prop) w' m', PF S' w' fb m' sq → Calls Try.prog 16 #[.pointer (some ⟨fb, 0, none⟩)] w' fun e W' => e = .returned (.int .i64 zz) ∧ w' = W') := Lib.hid (fun S' w' m' h => by
              have := status_any S' w' fb m' sq h.fl
              rwa [hzz] at this)
            have e1 : ((ln : Int) != (ln : Int)) = false := by simp
            have e2 : (zz != zz) = false := by simp
            clear hln hzz
            go_upto_region 22 with (first | (go_at_call 21; refine (HLL.out _ wr _ HJZ.out.p).mono ?_; rintro e w10 ⟨rfl, rfl⟩) | (go_at_call 16; refine (HSS.out _ wr _ HJZ.out.p).mono ?_; rintro e w10 ⟨rfl, rfl⟩) | go_in)
            go_upto_region 23 with (fail)
            go_wp2_with fail
            go_loopw [19] (fun iv wz => ∃ (q2 : Nat) (S : Nat → Prop) (R : Nat → Prop) (mq : Nat), iv = .int .i64 q2 ∧ q2 ≤ len2 ∧ JS S R wz fb mq rb sq ∧ (∀ k, S k → B ≤ k) ∧ Fr (fun _ => False) W wz) (fun iv _ => len2 - (intOf iv).toNat)
            case atStart => exact ⟨0, S, R, mq, rfl, Nat.zero_le _, HJZ.out, HIZ.out.2.2.2.2, HWZ.out⟩
            case round =>
              obtain ⟨q2, S', R', m', rfl, hq2, hj, hS', hfz2⟩ := hrel
              have HJ := Lib.hid hj
              have HSB := Lib.hid hS'
              have HFY := Lib.hid hfz2
              have HQ2 : Hid (q2 ≤ 120) := Lib.hid (by have := H1202.out; omega)
              clear hj hS' hfz2
              by_cases hlt2 : q2 < len2
              rotate_left
              · have p1 : decide ((q2 : Int) < (len2 : Int)) = false := decide_eq_false (by omega)
                have p1' : decide (q2 < len2) = false := decide_eq_false (by omega)
                clear hlt2 hq2
                have HSG := Lib.hid (p_signal S' wr fb m' sq HJ.out.p HIZ.out.1 HIZ.out.2.2.1 (q : Int) none 0 0 [] (RowB.nil _ _) (by simp))
                have hrc : rtryC sq 0 (q : Int) (signalC sq [] (q : Int)) = (sq, [], 20) := by
                  unfold rtryC readyE
                  rw [if_pos (rightB_true HIZ.out.2.1), if_neg HCL.out, if_neg (by decide)]
                rw [hrc] at HSG
                clear hrc
                go_wp2_with (first | (go_at_call 13; refine HSG.out.mono ?_; rintro e w11 ⟨v11, S11, m11, rfl, _, _, hf11, _⟩; have HF11 := Lib.hid hf11; clear hf11) | go_in)
                go_ret
                exact ⟨rfl, Fr.step HFY.out HF11.out (fun k hk e => by have := HSB.out fb HJ.out.p.f; have := HB.out; omega)⟩
              obtain ⟨x, hx⟩ : ∃ x, L2[q2]? = some x := ⟨_, List.getElem?_eq_getElem (by rw [HLEN2.out.1]; exact hlt2)⟩
              obtain ⟨b, o, ad, dl, cp, al, dn, cp2, hao, hok, hcell⟩ := (HROW2.out.fr (HFY.out.mono fun _ e => e.elim) (fun k e => e)).at_ hx
              have HOK := Lib.hid hok
              subst hao
              have y0 : wr.cell? ⟨b, o + q2 * 10, none⟩ = some (.int .i64 x.op) := hcell 0 _ rfl
              have y1 : wr.cell? ⟨b, o + q2 * 10 + 1, none⟩ = some (.bool x.own) := hcell 1 _ rfl
              have y2 : wr.cell? ⟨b, o + q2 * 10 + 2, none⟩ = some (.int .i64 x.ref) := hcell 2 _ rfl
              have y3 : wr.cell? ⟨b, o + q2 * 10 + 3, none⟩ = some (.int .i64 x.turn) := hcell 3 _ rfl
              have y4 : wr.cell? ⟨b, o + q2 * 10 + 4, none⟩ = some (.slice ad dl cp) := hcell 4 _ rfl
              have y5 : wr.cell? ⟨b, o + q2 * 10 + 5, none⟩ = some (.slice al dn cp2) := hcell 5 _ rfl
              have y6 : wr.cell? ⟨b, o + q2 * 10 + 6, none⟩ = some (.bool x.good) := hcell 6 _ rfl
              have y7 : wr.cell? ⟨b, o + q2 * 10 + 7, none⟩ = some (.int .i64 x.kind) := hcell 7 _ rfl
              have y8 : wr.cell? ⟨b, o + q2 * 10 + 8, none⟩ = some (.int .i64 x.id) := hcell 8 _ rfl
              have y9 : wr.cell? ⟨b, o + q2 * 10 + 9, none⟩ = some (.int .i64 x.wait) := hcell 9 _ rfl
              have p1 : decide ((q2 : Int) < (len2 : Int)) = true := decide_eq_true (by omega)
              have p1' : decide (q2 < len2) = true := decide_eq_true (by omega)
              have hq0 : (0 : Int) ≤ (q2 : Int) ∧ (q2 : Int) < (len2 : Int) := by omega
              have HLT2 := Lib.hid hlt2
              have HWQ2 : Hid (wrap64 ((q2 : Int) + 1) = ((q2 + 1 : Nat) : Int)) := Lib.hid (by have := HQ2.out; rw [wrap64]; omega)
              have HOWN : Hid (Calls Try.prog 19 #[.pointer (some ⟨rb, 0, none⟩), .agg #[.int .i64 x.op, .bool x.own, .int .i64 x.ref, .int .i64 x.turn, .slice ad dl cp, .slice al dn cp2, .bool x.good, .int .i64 x.kind, .int .i64 x.id, .int .i64 x.wait]] wr fun e W' => ∃ ref' turn', wfI ref' ∧ e = .returned (.agg #[.int .i64 x.op, .bool x.own, .int .i64 ref', .int .i64 turn', .slice ad dl cp, .slice al dn cp2, .bool x.good, .int .i64 x.kind, .int .i64 x.id, .int .i64 x.wait]) ∧ Fr (fun _ => False) wr W') := Lib.hid (own_any S' R' wr rb sq HJ.out.r (by have := HIZ.out.2.2.1; omega) x.op x.own x.ref x.turn ad dl cp al dn cp2 x.good x.kind x.id x.wait HOK.out.2.2.2.2.2.2 (wfI.of (by have := HIZ.out.2.2.2.1; have := HIZ.out.2.2.1; omega)))
              clear hx hok hcell hlt2 hq2
              go_upto_region 26 with (first | (go_at_call 19; refine HOWN.out.mono ?_; rintro e w5 ⟨ref', turn', hwf, rfl, hf5⟩; have HWF := Lib.hid hwf; have HF5 := Lib.hid hf5; clear hwf hf5 y0 y1 y2 y3 y4 y5 y6 y7 y8 y9) | go_in)
              have hXB := Blk.new w5 49 #[.int .i64 x.op, .bool x.own, .int .i64 ref', .int .i64 turn', .slice ad dl cp, .slice al dn cp2, .bool x.good, .int .i64 x.kind, .int .i64 x.id, .int .i64 x.wait]
              have hf6 : Fr (fun _ => False) w5 (w5.alloc (.cells #[.int .i64 x.op, .bool x.own, .int .i64 ref', .int .i64 turn', .slice ad dl cp, .slice al dn cp2, .bool x.good, .int .i64 x.kind, .int .i64 x.id, .int .i64 x.wait] 49)) := Fr.alloc _ _ _
              obtain ⟨w6, hw6⟩ : ∃ w, w5.alloc (.cells #[.int .i64 x.op, .bool x.own, .int .i64 ref', .int .i64 turn', .slice ad dl cp, .slice al dn cp2, .bool x.good, .int .i64 x.kind, .int .i64 x.id, .int .i64 x.wait] 49) = w := ⟨_, rfl⟩
              rw [hw6] at hXB hf6 ⊢
              obtain ⟨xb, hxb⟩ : ∃ b, w5.heap.size = b := ⟨_, rfl⟩
              rw [hxb] at hXB ⊢
              have HF6 : Hid (Fr (fun _ => False) wr w6) := Lib.hid (HF5.out.trans hf6)
              have HXB := Lib.hid hXB
              have NXB : Hid (¬ S' xb ∧ B ≤ w6.heap.size) := Lib.hid ⟨fun e => by have := HJ.out.p.lt _ e; have := HF5.out.size; omega, by have := HFY.out.size; have := HF6.out.size; have := HB.out; omega⟩
              obtain ⟨A, hA⟩ : ∃ A : ActV, A = ⟨x.op, x.own, ref', turn', x.d, x.l, x.good, x.kind, x.id, x.wait⟩ := ⟨_, rfl⟩
              have HAOK : Hid (ActOk S' w6 A ad dl cp al dn cp2) := Lib.hid (by
                have h1 := (HOK.out.fr (HF6.out.mono fun _ e => e.elim) (fun k e => e)).to (S' := S') (fun k hk e => HSB.out k e)
                obtain ⟨a1, a2, a3, a4, a5, a6, a7⟩ := h1
                rw [hA]
                exact ⟨a1, a2, a3, a4, a5, a6, HWF.out⟩)
              have HSTEP : Hid (Calls Try.prog 20 #[.pointer (some ⟨fb, 0, none⟩), .pointer (some ⟨rb, 0, none⟩), .agg #[.int .i64 x.op, .bool x.own, .int .i64 ref', .int .i64 turn', .slice ad dl cp, .slice al dn cp2, .bool x.good, .int .i64 x.kind, .int .i64 x.id, .int .i64 x.wait], .int .i64 (q : Int)] w6 fun e W' => e = .returned (.bool true) ∧ JOut S' w6 fb rb sq W') := Lib.hid (by
                have := HAOK.out
                rw [hA] at this
                have h2 := step_any S' R' w6 fb m' rb sq (HJ.out.fr0 HF6.out) HIZ.out.1 HIZ.out.2.2.1 x.op x.own ref' turn' x.d x.l x.good x.kind x.id x.wait ad dl cp al dn cp2 this (q : Int)
                rwa [closed_step HCL.out] at h2)
              have z0 := hXB.cell 0
              have z1 := hXB.cell 1
              have z2 := hXB.cell 2
              have z3 := hXB.cell 3
              have z4 := hXB.cell 4
              have z5 := hXB.cell 5
              have z6 := hXB.cell 6
              have z7 := hXB.cell 7
              have z8 := hXB.cell 8
              have z9 := hXB.cell 9
              simp only [lA, lB, lC] at z0 z1 z2 z3 z4 z5 z6 z7 z8 z9
              clear hw6 hxb hXB hf6 hA
              go_wp2_with (first
                | (go_at_call 20; refine HSTEP.out.mono ?_; rintro e w7 ⟨rfl, hjo⟩
                   obtain ⟨hf7, S7, R7, m7, hj7, hS7⟩ := jout_up HSB.out NXB.out.2 hjo
                   have HJ7 := Lib.hid hj7
                   have HS7 := Lib.hid hS7
                   have HF7 : Hid (Fr (fun _ => False) W w7) := Lib.hid (fr_above (HFY.out.trans HF6.out) HB.out hf7)
                   have HXB7 : Blk w7 xb 49 #[.int .i64 x.op, .bool x.own, .int .i64 ref', .int .i64 turn', .slice ad dl cp, .slice al dn cp2, .bool x.good, .int .i64 x.kind, .int .i64 x.id, .int .i64 x.wait] := by
                     obtain ⟨_, _, _, _, _, hfj⟩ := hjo
                     exact HXB.out.fr hfj NXB.out.1
                   have v2 := HXB7.cell 2
                   have v3 := HXB7.cell 3
                   simp only [lA, lB, lC] at v2 v3
                   clear hjo hf7 hj7 hS7 HXB7 z0 z1 z2 z3 z4 z5 z6 z7 z8 z9)
                | (go_at_call 21; refine (HLL.out S7 w7 m7 HJ7.out.p).mono ?_; rintro e w10 ⟨rfl, rfl⟩)
                | (go_at_call 16; refine (HSS.out S7 w7 m7 HJ7.out.p).mono ?_; rintro e w10 ⟨rfl, rfl⟩)
                | (go_at_call 29; refine (wants_closed S7 w7 fb m7 sq HJ7.out.p HIZ.out.1 HCL.out ref' turn' HWF.out).mono ?_; rintro e w10 ⟨rfl, hf10⟩; have HF10 := Lib.hid hf10; clear hf10)
                | go_in)
              go_roundw
              case rel => exact ⟨q2 + 1, S7, R7, m7, congrArg (Value.int .i64) HWQ2.out, HLT2.out, HJ7.out.fr0 HF10.out, HS7.out, HF7.out.trans HF10.out⟩
              case measure => rw [HWQ2.out]; simp only [intOf]; have := HLT2.out; omega
          subst hz1
          have HRDD : Hid (RowB S wr (.slice da dlen dcap) ds) := Lib.hid (by rw [← HDS.out]; exact (HDAT0.out.fr (HFZ.out.mono fun _ e => e.elim)).to (fun k hk e => HRUN.out.S k e))
          have HLQ : Hid (sq.l.length ≤ 4000) := Lib.hid (by have := HRUN.out.len HQ.out; omega)
          have HTO := Lib.hid (term_open (s := sq) (ds := ds) HD4.out HRUN.out.at_ hz)
          have HONE : ∀ u ∈ ds, u.oneCell' = true := by rw [← HDS.out]; exact Byt.one ⟨bs, rfl⟩
          have HTM := Lib.hid (p_terminate S wr fb mq sq HRUN.out.j.p HRUN.out.i HLQ.out (q : Int) da dlen dcap ds HRDD.out HONE)
          rw [HTO.out] at HTM
          have HRT : Hid (∀ (S1 R1 : Nat → Prop) (w1 : World), RF S1 R1 w1 rb sq → (∀ k, k < wr.heap.size → (S1 k ↔ S k)) → Fr (fun k => k = fb) wr w1 → Calls Try.prog 28 #[.pointer (some ⟨rb, 0, none⟩), .slice da dlen dcap, .int .i64 (q : Int)] w1 fun e W' => RActX S1 R1 w1 rb (shut sq 23 (q : Int) ds, [⟨7, 0, 0, 0, 0, 0, 5, ds⟩], 0) e W') := Lib.hid (fun S1 R1 w1 hr hs1 hf1 => by
            have hS1 : ∀ k, k = fb → S1 k := fun k e => (hs1 k (by rw [e]; exact HRUN.out.j.p.lt fb HRUN.out.j.p.f)).2 (e ▸ HRUN.out.j.p.f)
            have := rterminate_any S1 R1 w1 rb sq hr HLQ.out (q : Int) da dlen dcap ds ((HRDD.out.to (S' := S1) (fun k hk e => (hs1 k hk).1 e)).fr (hf1.mono hS1)) HONE
            rwa [HTO.out] at this)
          have HSHI := Lib.hid (shut_inv HRUN.out.i hz ds (by have h1 := HRUN.out.at_; have h2 := HDL.out; have h3 := HD4.out; rw [← HDS.out]; exact ⟨by omega, h1.2⟩) (k := 23) (by omega))
          clear hz HONE
          go_upto_region 17 with (first | (go_at_call 16; refine HSTZ.out.mono ?_; rintro e w8 ⟨rfl, rfl⟩) | (go_at_call 26; refine HTM.out.mono ?_; intro e w7 hA; obtain ⟨v, S1, R1, xm, rfl, ho, hp, hr, hR, hn, hf1, hs1⟩ := HRUN.out.j.mid hA; have HO1 := Lib.hid ho; have HP1 := Lib.hid hp; have HR1 := Lib.hid hr; have HM1 := Lib.hid (And.intro hR (And.intro hn (And.intro hf1 hs1))); clear hA ho hp hr hR hn hf1 hs1) | go_in)
          obtain ⟨ogv, ocp, rfl, hocp, hlook⟩ := HO1.out.look
          obtain ⟨og, u, rfl, hru, hcell⟩ := hlook 0 _ rfl
          have hru' := hru
          rw [← HDS.out] at hru'
          obtain ⟨uo, ucp, rfl, _⟩ := id hru'
          have HU := Lib.hid hru'
          obtain ⟨dl2, hdl2⟩ : ∃ m, (bs.map fun b => Value.int .u8 (b.toNat : Int)).length = m := ⟨_, rfl⟩
          rw [hdl2] at HU hcell
          have HG : Hid (∀ w', Fr (fun _ => False) w7 w' → w'.cell? ⟨og, 0, none⟩ = some (.int .i64 7) ∧ w'.cell? ⟨og, 6, none⟩ = some (.int .i64 5) ∧ w'.cell? ⟨og, 7, none⟩ = some (.slice uo dl2 ucp)) := Lib.hid (fun w' hf => by
            have h0 := hcell w' hf 0 _ rfl
            have h6 := hcell w' hf 6 _ rfl
            have h7 := hcell w' hf 7 _ rfl
            simp only [Nat.zero_mul, Nat.zero_add] at h0 h6 h7
            exact ⟨h0, h6, h7⟩)
          have hoc1 : (1 : Nat) ≤ ocp := hocp
          have HFW7 : Hid (Fr (fun _ => False) W w7) := Lib.hid (Fr.step HFZ.out HM1.out.2.2.1 (fun k hk e => by have := HRUN.out.S fb HRUN.out.j.p.f; have := HB.out; omega))
          have HF7 := HFW7
          have HLAST : Hid ((shut sq 23 (q : Int) ds).l.getLast? = some ⟨23, (q : Int), 0, 0, 0, 0, ds⟩) := Lib.hid (List.getLast?_concat)
          have HRES := Lib.hid (fun w' (hf : Fr (fun _ => False) w7 w') => result_any S1 w' fb xm _ (HP1.out.fr0 hf).fl _ HLAST.out (by rw [HSHI.out.2]; decide))
          clear hlook hcell hru hru' hdl2 hocp
          refine region_Z (fun w' => Fr (fun _ => False) w7 w') 99 (Fr.drewN _ w7 1) (fun hH => ?_)
          refine takes (b := ?_) [0, 1, 2, 3, 4, 5, 6, 7, 8, 9, 10, 11, 12, 13, 14, 15, 16, 17, 18, 19, 20, 21, 22, 23, 24, 25, 27, 26, 28, 29, 30, 31, 32, 35, 36] hH ?_ ?_
          rotate_left
          iterate 35 ((refine Sq.yes (v := ?_) rfl (by rfl) ?_ ?_; rotate_left; · (intro w' hw'; obtain ⟨g0, g6, g7⟩ := HG.out w' hw'; have s1 := str_of bs (HU.out.fr hw'); have s2 := str_of bs (HDAT.out.fr (HF7.out.trans hw')); go_simp; try with_reducible rfl)); try simp only [lD, lE, lF, Act.put, lG, lH, lI])
          exact Sq.nil
          refine any_op 33 rfl (fun K hK => ?_)
          go_simp
          refine (HRES.out _ (Fr.drewN _ w7 1)).mono ?_
          rintro e w8 ⟨v8, rfl, hr8, hf8⟩
          have HF8 : Hid (Fr (fun _ => False) w7 w8) := Lib.hid ((Fr.drewN _ w7 1).trans hf8)
          rw [← HDS.out] at hr8
          have HR8 := Lib.hid hr8
          refine hK.out _ _ (HF8.out) (fun hH2 => ?_)
          clear hK K hr8 hf8
          try simp only [lD, lE, lF, Act.put, lG, lH, lI]
          refine any_op 34 rfl (fun K hK => ?_)
          have s3 := str_of bs HR8.out
          go_simp
          refine hK.out _ _ (HF8.out) (fun hH3 => ?_)
          clear hK K 
          try simp only [lD, lE, lF, Act.put, lG, lH, lI]
          refine takes (b := ?_) [37, 38] hH3 ?_ ?_
          rotate_left
          iterate 2 ((refine Sq.yes (v := ?_) rfl (by rfl) ?_ ?_; rotate_left; · (intro w' hw'; go_simp; try with_reducible rfl)); try simp only [lD, lE, lF, Act.put, lG, lH, lI])
          exact Sq.nil
          refine any_done ?_
          clear hH hH2 hH3
          go_upto_region 20 with (first | (go_at_call 28; refine (HRT.out S1 R1 w8 (HR1.out.fr0 HF8.out) HM1.out.2.2.2 (HM1.out.2.2.1.trans (HF8.out.mono fun _ e => e.elim))).mono ?_; intro e w9 hA; obtain ⟨v9, rfl, _, _, hjo⟩ := HRUN.out.j.fin (HO1.out.fr HF8.out (fun _ e => e.elim)) (HP1.out.fr0 HF8.out) (HR1.out.fr0 HF8.out) HM1.out.1 HM1.out.2.1 (HM1.out.2.2.1.trans (HF8.out.mono fun _ e => e.elim)) HM1.out.2.2.2 hA; have HJO := Lib.hid hjo; clear hA hjo) | go_in)
          obtain ⟨hf9, S9, R9, mb9, hj9, hS9⟩ := jout_up HRUN.out.S (by have := HFZ.out.size; have := HB.out; omega) HJO.out
          obtain ⟨s9, hs9⟩ : ∃ s9, shut sq 23 (q : Int) ds = s9 := ⟨_, rfl⟩
          have HCL : Hid (statusK s9.l ≠ 1) := Lib.hid (by rw [← hs9, HSHI.out.2]; decide)
          have HIZ : Hid (FInv s9 ∧ rightP s9.l 0 (q : Int) ∧ s9.l.length ≤ 4000 ∧ (0 ≤ s9.at_ ∧ s9.at_ ≤ s9.l.length) ∧ ∀ k, S9 k → B ≤ k) := Lib.hid (by
            have hl9 : s9.l.length = sq.l.length + 1 := by rw [← hs9]; simp [shut]
            have ha9 : s9.at_ = sq.at_ := by rw [← hs9]; rfl
            refine ⟨by rw [← hs9]; exact HSHI.out.1, by rw [← hs9]; exact right_snoc HRUN.out.at_ rfl, by have := HRUN.out.len HQ.out; omega, ?_, hS9⟩
            rw [ha9, hl9]
            have := HRUN.out.wf
            omega)
          have HJZ : Hid (JS S9 R9 w9 fb mb9 rb s9) := Lib.hid (hs9 ▸ hj9)
          have HWZ : Hid (Fr (fun _ => False) W w9) := Lib.hid (fr_above HFZ.out HB.out hf9)
          clear hf9 hj9 hS9 hs9 HJO HRT HO1 HP1 HR1 HM1 HG HU HRES HLAST
          obtain ⟨ln, hln⟩ : ∃ m, s9.l.length = m := ⟨_, rfl⟩
          obtain ⟨zz, hzz⟩ : ∃ m, statusK s9.l = m := ⟨_, rfl⟩
          have HLL : Hid (∀ (S' : Nat → Prop) w' m', PF S' w' fb m' s9 → Calls Try.prog 21 #[.pointer (some ⟨fb, 0, none⟩)] w' fun e W' => e = .returned (.int .i64 (ln : Int)) ∧ w' = W') := Lib.hid (fun S' w' m' h => by
            have := len_any S' w' fb m' s9 h.fl
            rwa [hln] at this)
          have HSS : Hid (∀ (S' : Nat → Prop) w' m', PF S' w' fb m' s9 → Calls Try.prog 16 #[.pointer (some ⟨fb, 0, none⟩)] w' fun e W' => e = .returned (.int .i64 zz) ∧ w' = W') := Lib.hid (fun S' w' m' h => by
            have := status_any S' w' fb m' s9 h.fl
            rwa [hzz] at this)
          have e1 : ((ln : Int) != (ln : Int)) = false := by simp
          have e2 : (zz != zz) = false := by simp
          clear hln hzz
          go_upto_region 22 with (first | (go_at_call 21; refine (HLL.out _ w9 _ HJZ.out.p).mono ?_; rintro e w10 ⟨rfl, rfl⟩) | (go_at_call 16; refine (HSS.out _ w9 _ HJZ.out.p).mono ?_; rintro e w10 ⟨rfl, rfl⟩) | go_in)
          go_upto_region 23 with (fail)
          go_wp2_with fail
          go_loopw [19] (fun iv wz => ∃ (q2 : Nat) (S : Nat → Prop) (R : Nat → Prop) (mq : Nat), iv = .int .i64 q2 ∧ q2 ≤ len2 ∧ JS S R wz fb mq rb s9 ∧ (∀ k, S k → B ≤ k) ∧ Fr (fun _ => False) W wz) (fun iv _ => len2 - (intOf iv).toNat)
          case atStart => exact ⟨0, S9, R9, mb9, rfl, Nat.zero_le _, HJZ.out, HIZ.out.2.2.2.2, HWZ.out⟩
          case round =>
            obtain ⟨q2, S', R', m', rfl, hq2, hj, hS', hfz2⟩ := hrel
            have HJ := Lib.hid hj
            have HSB := Lib.hid hS'
            have HFY := Lib.hid hfz2
            have HQ2 : Hid (q2 ≤ 120) := Lib.hid (by have := H1202.out; omega)
            clear hj hS' hfz2
            by_cases hlt2 : q2 < len2
            rotate_left
            · have p1 : decide ((q2 : Int) < (len2 : Int)) = false := decide_eq_false (by omega)
              have p1' : decide (q2 < len2) = false := decide_eq_false (by omega)
              clear hlt2 hq2
              have HSG := Lib.hid (p_signal S' wr fb m' s9 HJ.out.p HIZ.out.1 HIZ.out.2.2.1 (q : Int) none 0 0 [] (RowB.nil _ _) (by simp))
              have hrc : rtryC s9 0 (q : Int) (signalC s9 [] (q : Int)) = (s9, [], 20) := by
                unfold rtryC readyE
                rw [if_pos (rightB_true HIZ.out.2.1), if_neg HCL.out, if_neg (by decide)]
              rw [hrc] at HSG
              clear hrc
              go_wp2_with (first | (go_at_call 13; refine HSG.out.mono ?_; rintro e w11 ⟨v11, S11, m11, rfl, _, _, hf11, _⟩; have HF11 := Lib.hid hf11; clear hf11) | go_in)
              go_ret
              exact ⟨rfl, Fr.step HFY.out HF11.out (fun k hk e => by have := HSB.out fb HJ.out.p.f; have := HB.out; omega)⟩
            obtain ⟨x, hx⟩ : ∃ x, L2[q2]? = some x := ⟨_, List.getElem?_eq_getElem (by rw [HLEN2.out.1]; exact hlt2)⟩
            obtain ⟨b, o, ad, dl, cp, al, dn, cp2, hao, hok, hcell⟩ := (HROW2.out.fr (HFY.out.mono fun _ e => e.elim) (fun k e => e)).at_ hx
            have HOK := Lib.hid hok
            subst hao
            have y0 : wr.cell? ⟨b, o + q2 * 10, none⟩ = some (.int .i64 x.op) := hcell 0 _ rfl
            have y1 : wr.cell? ⟨b, o + q2 * 10 + 1, none⟩ = some (.bool x.own) := hcell 1 _ rfl
            have y2 : wr.cell? ⟨b, o + q2 * 10 + 2, none⟩ = some (.int .i64 x.ref) := hcell 2 _ rfl
            have y3 : wr.cell? ⟨b, o + q2 * 10 + 3, none⟩ = some (.int .i64 x.turn) := hcell 3 _ rfl
            have y4 : wr.cell? ⟨b, o + q2 * 10 + 4, none⟩ = some (.slice ad dl cp) := hcell 4 _ rfl
            have y5 : wr.cell? ⟨b, o + q2 * 10 + 5, none⟩ = some (.slice al dn cp2) := hcell 5 _ rfl
            have y6 : wr.cell? ⟨b, o + q2 * 10 + 6, none⟩ = some (.bool x.good) := hcell 6 _ rfl
            have y7 : wr.cell? ⟨b, o + q2 * 10 + 7, none⟩ = some (.int .i64 x.kind) := hcell 7 _ rfl
            have y8 : wr.cell? ⟨b, o + q2 * 10 + 8, none⟩ = some (.int .i64 x.id) := hcell 8 _ rfl
            have y9 : wr.cell? ⟨b, o + q2 * 10 + 9, none⟩ = some (.int .i64 x.wait) := hcell 9 _ rfl
            have p1 : decide ((q2 : Int) < (len2 : Int)) = true := decide_eq_true (by omega)
            have p1' : decide (q2 < len2) = true := decide_eq_true (by omega)
            have hq0 : (0 : Int) ≤ (q2 : Int) ∧ (q2 : Int) < (len2 : Int) := by omega
            have HLT2 := Lib.hid hlt2
            have HWQ2 : Hid (wrap64 ((q2 : Int) + 1) = ((q2 + 1 : Nat) : Int)) := Lib.hid (by have := HQ2.out; rw [wrap64]; omega)
            have HOWN : Hid (Calls Try.prog 19 #[.pointer (some ⟨rb, 0, none⟩), .agg #[.int .i64 x.op, .bool x.own, .int .i64 x.ref, .int .i64 x.turn, .slice ad dl cp, .slice al dn cp2, .bool x.good, .int .i64 x.kind, .int .i64 x.id, .int .i64 x.wait]] wr fun e W' => ∃ ref' turn', wfI ref' ∧ e = .returned (.agg #[.int .i64 x.op, .bool x.own, .int .i64 ref', .int .i64 turn', .slice ad dl cp, .slice al dn cp2, .bool x.good, .int .i64 x.kind, .int .i64 x.id, .int .i64 x.wait]) ∧ Fr (fun _ => False) wr W') := Lib.hid (own_any S' R' wr rb s9 HJ.out.r (by have := HIZ.out.2.2.1; omega) x.op x.own x.ref x.turn ad dl cp al dn cp2 x.good x.kind x.id x.wait HOK.out.2.2.2.2.2.2 (wfI.of (by have := HIZ.out.2.2.2.1; have := HIZ.out.2.2.1; omega)))
            clear hx hok hcell hlt2 hq2
            go_upto_region 26 with (first | (go_at_call 19; refine HOWN.out.mono ?_; rintro e w5 ⟨ref', turn', hwf, rfl, hf5⟩; have HWF := Lib.hid hwf; have HF5 := Lib.hid hf5; clear hwf hf5 y0 y1 y2 y3 y4 y5 y6 y7 y8 y9) | go_in)
            have hXB := Blk.new w5 49 #[.int .i64 x.op, .bool x.own, .int .i64 ref', .int .i64 turn', .slice ad dl cp, .slice al dn cp2, .bool x.good, .int .i64 x.kind, .int .i64 x.id, .int .i64 x.wait]
            have hf6 : Fr (fun _ => False) w5 (w5.alloc (.cells #[.int .i64 x.op, .bool x.own, .int .i64 ref', .int .i64 turn', .slice ad dl cp, .slice al dn cp2, .bool x.good, .int .i64 x.kind, .int .i64 x.id, .int .i64 x.wait] 49)) := Fr.alloc _ _ _
            obtain ⟨w6, hw6⟩ : ∃ w, w5.alloc (.cells #[.int .i64 x.op, .bool x.own, .int .i64 ref', .int .i64 turn', .slice ad dl cp, .slice al dn cp2, .bool x.good, .int .i64 x.kind, .int .i64 x.id, .int .i64 x.wait] 49) = w := ⟨_, rfl⟩
            rw [hw6] at hXB hf6 ⊢
            obtain ⟨xb, hxb⟩ : ∃ b, w5.heap.size = b := ⟨_, rfl⟩
            rw [hxb] at hXB ⊢
            have HF6 : Hid (Fr (fun _ => False) wr w6) := Lib.hid (HF5.out.trans hf6)
            have HXB := Lib.hid hXB
            have NXB : Hid (¬ S' xb ∧ B ≤ w6.heap.size) := Lib.hid ⟨fun e => by have := HJ.out.p.lt _ e; have := HF5.out.size; omega, by have := HFY.out.size; have := HF6.out.size; have := HB.out; omega⟩
            obtain ⟨A, hA⟩ : ∃ A : ActV, A = ⟨x.op, x.own, ref', turn', x.d, x.l, x.good, x.kind, x.id, x.wait⟩ := ⟨_, rfl⟩
            have HAOK : Hid (ActOk S' w6 A ad dl cp al dn cp2) := Lib.hid (by
              have h1 := (HOK.out.fr (HF6.out.mono fun _ e => e.elim) (fun k e => e)).to (S' := S') (fun k hk e => HSB.out k e)
              obtain ⟨a1, a2, a3, a4, a5, a6, a7⟩ := h1
              rw [hA]
              exact ⟨a1, a2, a3, a4, a5, a6, HWF.out⟩)
            have HSTEP : Hid (Calls Try.prog 20 #[.pointer (some ⟨fb, 0, none⟩), .pointer (some ⟨rb, 0, none⟩), .agg #[.int .i64 x.op, .bool x.own, .int .i64 ref', .int .i64 turn', .slice ad dl cp, .slice al dn cp2, .bool x.good, .int .i64 x.kind, .int .i64 x.id, .int .i64 x.wait], .int .i64 (q : Int)] w6 fun e W' => e = .returned (.bool true) ∧ JOut S' w6 fb rb s9 W') := Lib.hid (by
              have := HAOK.out
              rw [hA] at this
              have h2 := step_any S' R' w6 fb m' rb s9 (HJ.out.fr0 HF6.out) HIZ.out.1 HIZ.out.2.2.1 x.op x.own ref' turn' x.d x.l x.good x.kind x.id x.wait ad dl cp al dn cp2 this (q : Int)
              rwa [closed_step HCL.out] at h2)
            have z0 := hXB.cell 0
            have z1 := hXB.cell 1
            have z2 := hXB.cell 2
            have z3 := hXB.cell 3
            have z4 := hXB.cell 4
            have z5 := hXB.cell 5
            have z6 := hXB.cell 6
            have z7 := hXB.cell 7
            have z8 := hXB.cell 8
            have z9 := hXB.cell 9
            simp only [lA, lB, lC] at z0 z1 z2 z3 z4 z5 z6 z7 z8 z9
            clear hw6 hxb hXB hf6 hA
            go_wp2_with (first
              | (go_at_call 20; refine HSTEP.out.mono ?_; rintro e w7 ⟨rfl, hjo⟩
                 obtain ⟨hf7, S7, R7, m7, hj7, hS7⟩ := jout_up HSB.out NXB.out.2 hjo
                 have HJ7 := Lib.hid hj7
                 have HS7 := Lib.hid hS7
                 have HF7 : Hid (Fr (fun _ => False) W w7) := Lib.hid (fr_above (HFY.out.trans HF6.out) HB.out hf7)
                 have HXB7 : Blk w7 xb 49 #[.int .i64 x.op, .bool x.own, .int .i64 ref', .int .i64 turn', .slice ad dl cp, .slice al dn cp2, .bool x.good, .int .i64 x.kind, .int .i64 x.id, .int .i64 x.wait] := by
                   obtain ⟨_, _, _, _, _, hfj⟩ := hjo
                   exact HXB.out.fr hfj NXB.out.1
                 have v2 := HXB7.cell 2
                 have v3 := HXB7.cell 3
                 simp only [lA, lB, lC] at v2 v3
                 clear hjo hf7 hj7 hS7 HXB7 z0 z1 z2 z3 z4 z5 z6 z7 z8 z9)
              | (go_at_call 21; refine (HLL.out S7 w7 m7 HJ7.out.p).mono ?_; rintro e w10 ⟨rfl, rfl⟩)
              | (go_at_call 16; refine (HSS.out S7 w7 m7 HJ7.out.p).mono ?_; rintro e w10 ⟨rfl, rfl⟩)
              | (go_at_call 29; refine (wants_closed S7 w7 fb m7 s9 HJ7.out.p HIZ.out.1 HCL.out ref' turn' HWF.out).mono ?_; rintro e w10 ⟨rfl, hf10⟩; have HF10 := Lib.hid hf10; clear hf10)
              | go_in)
            go_roundw
            case rel => exact ⟨q2 + 1, S7, R7, m7, congrArg (Value.int .i64) HWQ2.out, HLT2.out, HJ7.out.fr0 HF10.out, HS7.out, HF7.out.trans HF10.out⟩
            case measure => rw [HWQ2.out]; simp only [intOf]; have := HLT2.out; omega
        obtain ⟨x, hx⟩ : ∃ x, L[q]? = some x := ⟨_, List.getElem?_eq_getElem (by rw [HLEN.out.1]; exact hlt)⟩
        obtain ⟨b, o, ad, dl, cp, al, dn, cp2, hao, hok, hcell⟩ := (HROW0.out.fr (HFZ.out.mono fun _ e => e.elim) (fun k e => e)).at_ hx
        have HOK := Lib.hid hok
        subst hao
        have y0 : wr.cell? ⟨b, o + q * 10, none⟩ = some (.int .i64 x.op) := hcell 0 _ rfl
        have y1 : wr.cell? ⟨b, o + q * 10 + 1, none⟩ = some (.bool x.own) := hcell 1 _ rfl
        have y2 : wr.cell? ⟨b, o + q * 10 + 2, none⟩ = some (.int .i64 x.ref) := hcell 2 _ rfl
        have y3 : wr.cell? ⟨b, o + q * 10 + 3, none⟩ = some (.int .i64 x.turn) := hcell 3 _ rfl
        have y4 : wr.cell? ⟨b, o + q * 10 + 4, none⟩ = some (.slice ad dl cp) := hcell 4 _ rfl
        have y5 : wr.cell? ⟨b, o + q * 10 + 5, none⟩ = some (.slice al dn cp2) := hcell 5 _ rfl
        have y6 : wr.cell? ⟨b, o + q * 10 + 6, none⟩ = some (.bool x.good) := hcell 6 _ rfl
        have y7 : wr.cell? ⟨b, o + q * 10 + 7, none⟩ = some (.int .i64 x.kind) := hcell 7 _ rfl
        have y8 : wr.cell? ⟨b, o + q * 10 + 8, none⟩ = some (.int .i64 x.id) := hcell 8 _ rfl
        have y9 : wr.cell? ⟨b, o + q * 10 + 9, none⟩ = some (.int .i64 x.wait) := hcell 9 _ rfl
        have p1 : decide ((q : Int) < (len : Int)) = true := decide_eq_true (by omega)
        have p1' : decide (q < len) = true := decide_eq_true (by omega)
        have hq0 : (0 : Int) ≤ (q : Int) ∧ (q : Int) < (len : Int) := by omega
        have HLT := Lib.hid hlt
        have HWQ : Hid (wrap64 ((q : Int) + 1) = ((q + 1 : Nat) : Int)) := Lib.hid (by have := HQ.out; rw [wrap64]; omega)
        have HOWN : Hid (Calls Try.prog 19 #[.pointer (some ⟨rb, 0, none⟩), .agg #[.int .i64 x.op, .bool x.own, .int .i64 x.ref, .int .i64 x.turn, .slice ad dl cp, .slice al dn cp2, .bool x.good, .int .i64 x.kind, .int .i64 x.id, .int .i64 x.wait]] wr fun e W' => ∃ ref' turn', wfI ref' ∧ e = .returned (.agg #[.int .i64 x.op, .bool x.own, .int .i64 ref', .int .i64 turn', .slice ad dl cp, .slice al dn cp2, .bool x.good, .int .i64 x.kind, .int .i64 x.id, .int .i64 x.wait]) ∧ Fr (fun _ => False) wr W') := Lib.hid (own_any S R wr rb sq HRUN.out.j.r (by have := HRUN.out.len HQ.out; omega) x.op x.own x.ref x.turn ad dl cp al dn cp2 x.good x.kind x.id x.wait HOK.out.2.2.2.2.2.2 (wfI.of (by have := HRUN.out.wf; have := HRUN.out.len HQ.out; omega)))
        clear hx hok hcell hlt hq
        go_wp2_with (first
          | (go_at_call 19; refine HOWN.out.mono ?_; rintro e w5 ⟨ref', turn', hwf, rfl, hf5⟩
             have HF5 := Lib.hid hf5
             have HRUN6 := Lib.hid (HRUN.out.fr0 hf5)
             have haok : ActOk S w5 ⟨x.op, x.own, ref', turn', x.d, x.l, x.good, x.kind, x.id, x.wait⟩ ad dl cp al dn cp2 := by
               obtain ⟨a1, a2, a3, a4, a5, a6, a7⟩ := (HOK.out.fr (HF5.out.mono fun _ e => e.elim) (fun k e => e)).to (S' := S) (fun k hk e => HRUN.out.S k e)
               exact ⟨a1, a2, a3, a4, a5, a6, hwf⟩
             have HSTEP := Lib.hid (step_any S R w5 fb mq rb sq HRUN6.out.j HRUN6.out.i (by have := HRUN.out.len HQ.out; omega) x.op x.own ref' turn' x.d x.l x.good x.kind x.id x.wait ad dl cp al dn cp2 haok (q : Int))
             clear hwf hf5 haok y0 y1 y2 y3 y4 y5 y6 y7 y8 y9)
          | (go_at_call 20; refine HSTEP.out.mono ?_; rintro e w7 ⟨rfl, hjo⟩; have HJO := Lib.hid hjo; clear hjo)
          | go_in)
        go_roundw
        case rel =>
          obtain ⟨hf7, S7, R7, mb7, hr7⟩ := HRUN6.out.step HQ.out (by have := HFZ.out.size; have := HF5.out.size; have := HB.out; omega) _ HJO.out
          exact ⟨q + 1, _, S7, R7, mb7, congrArg (Value.int .i64) HWQ.out, HLT.out, hr7, fr_above (HFZ.out.trans HF5.out) HB.out hf7⟩
        case measure => rw [HWQ.out]; simp only [intOf]; have := HLT.out; omega
theorem closes_law2 (W : World) (a : Option Addr) (len cap : Nat) (h : ∃ L : List ActV, L.length = len ∧ len ≤ cap ∧ cap ≤ maxLen ∧ RowAc (fun k => W.heap.size ≤ k) W a L)
    (da : Option Addr) (dlen dcap : Nat) (hd : ∃ q : List UInt8, RowB (fun k => W.heap.size ≤ k) W (.slice da dlen dcap) (q.map fun b => .int .u8 (b.toNat : Int)))
    (a2 : Option Addr) (len2 cap2 : Nat) (h2 : ∃ L : List ActV, L.length = len2 ∧ len2 ≤ cap2 ∧ cap2 ≤ maxLen ∧ RowAc (fun k => W.heap.size ≤ k) W a2 L) :
    Calls Try.prog 6 #[.slice a len cap, .slice da dlen dcap, .slice a2 len2 cap2] W fun e W' => e = .returned (.bool true) ∧ Below W.heap.size W W' := by
  obtain ⟨L, h1, h3, h4, h5⟩ := h
  obtain ⟨q, hq⟩ := hd
  obtain ⟨L2, g1, g3, g4, g5⟩ := h2
  exact (closes_walk W a len cap L h1 h3 h4 h5 da dlen dcap q hq a2 len2 cap2 L2 g1 g3 g4 g5).mono fun e W' hh => ⟨hh.1, hh.2.below (Nat.le_refl _) (fun _ e => e.elim)⟩
end Go.Proofs.Ytnkelaohcbdjnaa
