/- The law of FlowOnce: its walk. -/
import Derived.Test.YtnkelaohcbdjnaaKp
import Derived.Deep.QuietTactic
import Derived.BigQuiet
set_option linter.unusedVariables false
set_option linter.unusedSimpArgs false
namespace Go.Proofs.Ytnkelaohcbdjnaa
open Go.RowKit Go.Maps
/-- what stands between acts of a law -/
structure Run (B : Nat) (S R : Nat → Prop) (W : World) (fb mb rb : Nat) (s : FSt) (q : Nat) : Prop where
  j : JS S R W fb mb rb s
  i : FInv s
  at_ : rightP s.l 0 (q : Int)
  pot : potN s ≤ 2 + 18 * q
  wf : 0 ≤ s.at_ ∧ s.at_ ≤ s.l.length
  S : ∀ k, S k → B ≤ k
theorem Run.fr0 {B : Nat} {S R : Nat → Prop} {W W' : World} {fb mb rb : Nat} {s : FSt} {q : Nat} (h : Run B S R W fb mb rb s q) (hf : Fr (fun _ => False) W W') : Run B S R W' fb mb rb s q := ⟨h.j.fr0 hf, h.i, h.at_, h.pot, h.wf, h.S⟩
theorem Run.len {B : Nat} {S R : Nat → Prop} {W : World} {fb mb rb : Nat} {s : FSt} {q : Nat} (h : Run B S R W fb mb rb s q) (hq : q ≤ 120) : s.l.length ≤ 2162 := by
  have h1 := len_pot s
  have h2 := h.pot
  omega
theorem Run.up {B : Nat} {S R : Nat → Prop} {W : World} {fb mb rb : Nat} {s : FSt} {q : Nat} (h : Run B S R W fb mb rb s q) (hq : q ≤ 120) : Run B S R W fb mb rb s (q + 1) := ⟨h.j, h.i, right_up h.at_ (by omega), by have := h.pot; omega, h.wf, h.S⟩
/-- behind a step at its own time -/
theorem Run.step {B : Nat} {S R : Nat → Prop} {W W' : World} {fb mb rb : Nat} {s : FSt} {q : Nat} (h : Run B S R W fb mb rb s q) (hq : q ≤ 120) (hB : B ≤ W.heap.size) (a : ActV) (hjo : JOut S W fb rb (stepC s a (q : Int)).1 W') : Fr (fun k => B ≤ k) W W' ∧ ∃ S' R' mb', Run B S' R' W' fb mb' rb (stepC s a (q : Int)).1 (q + 1) := by
  obtain ⟨S', R', mb', h1, h2, h3⟩ := hjo
  have hl := h.len hq
  have hk := step_kept h.i h.at_ (by omega) a
  have hs := step_small h.i (q : Int) (by omega) a
  exact ⟨h3.mono h.S, S', R', mb', h1, hk.inv, right_up hk.at_ (by omega), by have := h.pot; have := hs.pot; omega, hs.at_ h.wf, fun k e => by
    rcases Nat.lt_or_ge k W.heap.size with hlt | hge
    · exact h.S k ((h2 k hlt).1 e)
    · omega⟩
theorem fr_above {B : Nat} {W W1 W2 : World} (h1 : Fr (fun _ => False) W W1) (hB : W.heap.size = B) (h2 : Fr (fun k => B ≤ k) W1 W2) : Fr (fun _ => False) W W2 := Fr.step h1 h2 (fun k hk e => by omega)
/-- the two new runs -/
theorem Run.start {W w3 w4 : World} {fb mb rb B : Nat} {S' R' : Nat → Prop} (hB : W.heap.size = B) (hp : PF (fun k => k = fb ∨ k = mb) w3 fb mb (begun1 3 1 0 7 0 [])) (hfb : B ≤ fb) (hmb : B ≤ mb) (hW : W.heap.size ≤ w3.heap.size) (hs : ∀ k, k < w3.heap.size → (S' k ↔ (k = fb ∨ k = mb)) ∧ ¬ R' k) (hr : RF S' R' w4 rb (begun1 3 1 0 7 0 [])) (hf : Fr (fun _ => False) w3 w4) : Run B S' R' w4 fb mb rb (begun1 3 1 0 7 0 []) 0 := by
  have hi := begun1_inv (id := 3) (run := 1) (list := 0) (n := 7) (now := 0) (ds := []) (by omega) (by omega) (by omega) ⟨by simp, by omega, by omega, fun e he => (by cases he)⟩
  refine ⟨⟨⟨(hp.fl.to (fun k hk e => (hs k hk).1.1 e)).fr0 hf, (hs fb (hp.lt fb (.inl rfl))).1.2 (.inl rfl), (hs mb (hp.lt mb (.inr rfl))).1.2 (.inr rfl), hr.lt⟩, hr⟩, hi.1, ⟨by omega, by omega, by omega, fun e he => ?_⟩, ?_, ?_, fun k e => ?_⟩
  · simp [begun1, sched, Ytnkelaohcbdjnaa.start] at he
    rw [← he]
    exact Int.le_refl 0
  · unfold potN
    rw [if_neg (by show ¬ (1 : Int) = 2; decide)]
    simp [begun1, sched, Ytnkelaohcbdjnaa.start]
  · simp [begun1, sched, Ytnkelaohcbdjnaa.start]
  · rcases Nat.lt_or_ge k w3.heap.size with hlt | hge
    · rcases (hs k hlt).1.1 e with e | e <;> omega
    · omega
set_option maxRecDepth 100000 in
set_option maxHeartbeats 16000000 in
theorem once_walk (W : World) (a : Option Addr) (len cap : Nat) (L : List ActV) (hlen : L.length = len) (hcap : len ≤ cap) (hmax : cap ≤ maxLen) (hrow : RowAc (fun k => W.heap.size ≤ k) W a L) (n : Int) :
    Calls Try.prog 5 #[.slice a len cap, .int .i64 n] W fun e W' => e = .returned (.bool true) ∧ Fr (fun _ => False) W W' := by
  obtain ⟨B, hB⟩ : ∃ B, W.heap.size = B := ⟨_, rfl⟩
  rw [hB] at hrow
  have HB := Lib.hid hB
  have HW := Lib.hid (known_any W)
  have HROW0 := Lib.hid hrow
  have HLEN := Lib.hid (And.intro hlen (And.intro hcap hmax))
  clear hlen hcap hmax hrow hB
  go_enter Try.func5, Try.ntmps5
  go_upto_region 3 with (first | (go_at_call 8; refine HW.out.mono ?_; rintro e w1 ⟨rfl, hf1⟩; have HF1 := Lib.hid hf1; clear hf1) | go_in)
  have HFEW := Lib.hid (few_any _ w1 a len cap L HLEN.out.1 HLEN.out.2.1 HLEN.out.2.2 (HROW0.out.fr (HF1.out.mono fun _ e => e.elim) (fun k e => e)))
  go_wp2_with fail
  refine HFEW.out.mono ?_
  rintro e w2 ⟨bf, rfl, hbf, hf2⟩
  have HF2 := Lib.hid (HF1.out.trans hf2)
  have HBF := Lib.hid hbf
  clear hf2 hbf HFEW
  cases bf with
  | false =>
    go_wp2
    go_ret
    exact ⟨rfl, HF2.out⟩
  | true =>
    have H120 : Hid (len ≤ 120) := Lib.hid (HBF.out rfl)
    clear HBF
    have HN1 : Hid (Calls Try.prog 11 #[.int .i64 3, .int .i64 1, .int .i64 0, .int .i64 7, .slice none 0 0, .int .i64 0] w2 fun e W' => ∃ (v : Value) (fb mb : Nat), e = .returned (.tuple #[.pointer (some ⟨fb, 0, none⟩), v, .int .i64 0]) ∧ w2.heap.size ≤ fb ∧ w2.heap.size ≤ mb ∧ PF (fun k => k = fb ∨ k = mb) W' fb mb (begun1 3 1 0 7 0 []) ∧ Outs w2.heap.size W' v [⟨1, 0, 2, 0, 0, 0, 0, []⟩] ∧ Fr (fun _ => False) w2 W') := Lib.hid (new_any w2 3 1 0 7 0 (by omega) (by omega) (by omega) (by omega) (by omega) none 0 0 [] (RowB.nil _ _) (by omega) (by simp))
    go_upto_region 9 with (first | (go_at_call 11; refine HN1.out.mono ?_; rintro e w3 ⟨v3, fb, mb, rfl, hfb, hmb, hpf, _, hf3⟩; have HPF := Lib.hid hpf; have HFB := Lib.hid (And.intro hfb hmb); have HF3 := Lib.hid (HF2.out.trans hf3); have HN2 := Lib.hid (rnew_any (fun k => k = fb ∨ k = mb) w3 hpf.lt); clear hpf hfb hmb hf3 HN1) | (go_at_call 18; refine HN2.out.mono ?_; rintro e w4 ⟨v4, rb, S0, R0, rfl, _, hs4, hrf, hf4⟩; have HR0 : Hid (Run B S0 R0 w4 fb mb rb (begun1 3 1 0 7 0 []) 0) := Lib.hid (Run.start HB.out HPF.out (by have := HFB.out; have := HF2.out.size; have := HB.out; omega) (by have := HFB.out; have := HF2.out.size; have := HB.out; omega) HF3.out.size hs4 hrf hf4); have HF4 := Lib.hid (HF3.out.trans hf4); clear hs4 hrf hf4 HN2) | go_in)
    clear HPF HFB HF3
    go_upto_region 10 with (fail)
    go_wp2_with fail
    go_loopw [11] (fun iv wz => ∃ (q : Nat) (sq : FSt) (S R : Nat → Prop) (mq : Nat), iv = .int .i64 q ∧ q ≤ len ∧ Run B S R wz fb mq rb sq q ∧ Fr (fun _ => False) W wz) (fun iv _ => len - (intOf iv).toNat)
    case atStart => exact ⟨0, _, S0, R0, mb, rfl, Nat.zero_le _, HR0.out, HF4.out⟩
    case round =>
      obtain ⟨q, sq, S, R, mq, rfl, hq, hrun, hfz⟩ := hrel
      have HRUN := Lib.hid hrun
      have HFZ := Lib.hid hfz
      have HQ : Hid (q ≤ 120) := Lib.hid (by have := H120.out; omega)
      clear hrun hfz
      by_cases hlt : q < len
      rotate_left
      · have p1 : decide ((q : Int) < (len : Int)) = false := decide_eq_false (by omega)
        have p1' : decide (q < len) = false := decide_eq_false (by omega)
        clear hlt hq
        go_wp2
        go_ret
        exact ⟨rfl, HFZ.out⟩
      obtain ⟨x, hx⟩ : ∃ x, L[q]? = some x := ⟨_, List.getElem?_eq_getElem (by rw [HLEN.out.1]; exact hlt)⟩
      obtain ⟨b, o, ad, dl, cp, al, dn, cp2, hao, hok, hcell⟩ := (HROW0.out.fr (HFZ.out.mono fun _ e => e.elim) (fun k e => e)).at_ hx
      have HOK := Lib.hid hok
      subst hao
      have y0 : wr.cell? ⟨b, o + q * 10, none⟩ = some (.int .i64 x.op) := hcell 0 _ rfl
      have y1 : wr.cell? ⟨b, o + q * 10 + 1, none⟩ = some (.bool x.own) := hcell 1 _ rfl
      have y2 : wr.cell? ⟨b, o + q * 10 + 2, none⟩ = some (.int .i64 x.ref) := hcell 2 _ rfl
      have y3 : wr.cell? ⟨b, o + q * 10 + 3, none⟩ = some (.int .i64 x.turn) := hcell 3 _ rfl
      have y4 : wr.cell? ⟨b, o + q * 10 + 4, none⟩ = some (.slice ad dl cp) := hcell 4 _ rfl
      have y5 : wr.cell? ⟨b, o + q * 10 + 5, none⟩ = some (.slice al dn cp2) := hcell 5 _ rfl
      have y6 : wr.cell? ⟨b, o + q * 10 + 6, none⟩ = some (.bool x.good) := hcell 6 _ rfl
      have y7 : wr.cell? ⟨b, o + q * 10 + 7, none⟩ = some (.int .i64 x.kind) := hcell 7 _ rfl
      have y8 : wr.cell? ⟨b, o + q * 10 + 8, none⟩ = some (.int .i64 x.id) := hcell 8 _ rfl
      have y9 : wr.cell? ⟨b, o + q * 10 + 9, none⟩ = some (.int .i64 x.wait) := hcell 9 _ rfl
      have p1 : decide ((q : Int) < (len : Int)) = true := decide_eq_true (by omega)
      have p1' : decide (q < len) = true := decide_eq_true (by omega)
      have hq0 : (0 : Int) ≤ (q : Int) ∧ (q : Int) < (len : Int) := by omega
      have HLT := Lib.hid hlt
      have HWQ : Hid (wrap64 ((q : Int) + 1) = ((q + 1 : Nat) : Int)) := Lib.hid (by have := HQ.out; rw [wrap64]; omega)
      have HOWN : Hid (Calls Try.prog 19 #[.pointer (some ⟨rb, 0, none⟩), .agg #[.int .i64 x.op, .bool x.own, .int .i64 x.ref, .int .i64 x.turn, .slice ad dl cp, .slice al dn cp2, .bool x.good, .int .i64 x.kind, .int .i64 x.id, .int .i64 x.wait]] wr fun e W' => ∃ ref' turn', wfI ref' ∧ e = .returned (.agg #[.int .i64 x.op, .bool x.own, .int .i64 ref', .int .i64 turn', .slice ad dl cp, .slice al dn cp2, .bool x.good, .int .i64 x.kind, .int .i64 x.id, .int .i64 x.wait]) ∧ Fr (fun _ => False) wr W') := Lib.hid (own_any S R wr rb sq HRUN.out.j.r (by have := HRUN.out.len HQ.out; omega) x.op x.own x.ref x.turn ad dl cp al dn cp2 x.good x.kind x.id x.wait HOK.out.2.2.2.2.2.2 (wfI.of (by have := HRUN.out.wf; have := HRUN.out.len HQ.out; omega)))
      clear hx hok hcell hlt hq
      go_upto_region 13 with (first | (go_at_call 19; refine HOWN.out.mono ?_; rintro e w5 ⟨ref', turn', hwf, rfl, hf5⟩; have HWF := Lib.hid hwf; have HF5 := Lib.hid hf5; clear hwf hf5 y0 y1 y2 y3 y4 y5 y6 y7 y8 y9) | go_in)
      have hXB := Blk.new w5 49 #[.int .i64 x.op, .bool x.own, .int .i64 ref', .int .i64 turn', .slice ad dl cp, .slice al dn cp2, .bool x.good, .int .i64 x.kind, .int .i64 x.id, .int .i64 x.wait]
      have hf6 : Fr (fun _ => False) w5 (w5.alloc (.cells #[.int .i64 x.op, .bool x.own, .int .i64 ref', .int .i64 turn', .slice ad dl cp, .slice al dn cp2, .bool x.good, .int .i64 x.kind, .int .i64 x.id, .int .i64 x.wait] 49)) := Fr.alloc _ _ _
      obtain ⟨w6, hw6⟩ : ∃ w, w5.alloc (.cells #[.int .i64 x.op, .bool x.own, .int .i64 ref', .int .i64 turn', .slice ad dl cp, .slice al dn cp2, .bool x.good, .int .i64 x.kind, .int .i64 x.id, .int .i64 x.wait] 49) = w := ⟨_, rfl⟩
      rw [hw6] at hXB hf6 ⊢
      obtain ⟨xb, hxb⟩ : ∃ b, w5.heap.size = b := ⟨_, rfl⟩
      rw [hxb] at hXB ⊢
      have HF6 : Hid (Fr (fun _ => False) wr w6) := Lib.hid (HF5.out.trans hf6)
      have HXB := Lib.hid hXB
      have NXB : Hid (¬ S xb ∧ B ≤ w6.heap.size) := Lib.hid ⟨fun e => by have := HRUN.out.j.p.lt _ e; have := HF5.out.size; omega, by have := HFZ.out.size; have := HF6.out.size; have := HB.out; omega⟩
      have HRUN6 := Lib.hid (HRUN.out.fr0 HF6.out)
      obtain ⟨A, hA⟩ : ∃ A : ActV, A = ⟨x.op, x.own, ref', turn', x.d, x.l, x.good, x.kind, x.id, x.wait⟩ := ⟨_, rfl⟩
      have HAOK : Hid (ActOk S w6 A ad dl cp al dn cp2) := Lib.hid (by
        have h1 := (HOK.out.fr (HF6.out.mono fun _ e => e.elim) (fun k e => e)).to (S' := S) (fun k hk e => HRUN.out.S k e)
        obtain ⟨a1, a2, a3, a4, a5, a6, a7⟩ := h1
        rw [hA]
        exact ⟨a1, a2, a3, a4, a5, a6, HWF.out⟩)
      have HSTEP : Hid (Calls Try.prog 20 #[.pointer (some ⟨fb, 0, none⟩), .pointer (some ⟨rb, 0, none⟩), .agg #[.int .i64 x.op, .bool x.own, .int .i64 ref', .int .i64 turn', .slice ad dl cp, .slice al dn cp2, .bool x.good, .int .i64 x.kind, .int .i64 x.id, .int .i64 x.wait], .int .i64 (q : Int)] w6 fun e W' => e = .returned (.bool true) ∧ JOut S w6 fb rb (stepC sq A (q : Int)).1 W') := Lib.hid (by
        have := HAOK.out
        rw [hA] at this ⊢
        exact step_any S R w6 fb mq rb sq HRUN6.out.j HRUN6.out.i (by have := HRUN.out.len HQ.out; omega) x.op x.own ref' turn' x.d x.l x.good x.kind x.id x.wait ad dl cp al dn cp2 this (q : Int))
      have HAE : Hid (A.op = x.op ∧ A.ref = ref' ∧ A.turn = turn' ∧ A.d = x.d ∧ A.good = x.good ∧ A.kind = x.kind) := Lib.hid (by rw [hA]; exact ⟨rfl, rfl, rfl, rfl, rfl, rfl⟩)
      have z0 := hXB.cell 0
      have z1 := HXB.out.cell 1
      have z2 := HXB.out.cell 2
      have z3 := HXB.out.cell 3
      have z4 := HXB.out.cell 4
      have z5 := HXB.out.cell 5
      have z6 := HXB.out.cell 6
      have z7 := HXB.out.cell 7
      have z8 := HXB.out.cell 8
      have z9 := HXB.out.cell 9
      simp only [lA, lB, lC] at z0 z1 z2 z3 z4 z5 z6 z7 z8 z9
      clear hw6 hxb hXB hf6 hA
      go_upto_region 15 with (first | (go_at_call 20; refine HSTEP.out.mono ?_; rintro e w7 ⟨rfl, hjo⟩; have HJO := Lib.hid hjo; clear hjo z0 z1 z2 z3 z4 z5 z6 z7 z8 z9) | go_in)
      have HUP := Lib.hid (HRUN6.out.step HQ.out NXB.out.2 A HJO.out)
      obtain ⟨hf7, S7, R7, mb7, hr7⟩ := HUP.out
      have HF67 : Hid (Fr (fun k => B ≤ k) wr w7) := Lib.hid ((HF6.out.mono fun _ e => e.elim).trans hf7)
      have HF7 : Hid (Fr (fun _ => False) W w7) := Lib.hid (fr_above (HFZ.out.trans HF6.out) HB.out hf7)
      have HR7 := Lib.hid hr7
      have HXB7 : Hid (Blk w7 xb 49 #[.int .i64 x.op, .bool x.own, .int .i64 ref', .int .i64 turn', .slice ad dl cp, .slice al dn cp2, .bool x.good, .int .i64 x.kind, .int .i64 x.id, .int .i64 x.wait]) := Lib.hid (by
        obtain ⟨_, _, _, _, _, hfj⟩ := HJO.out
        exact HXB.out.fr hfj NXB.out.1)
      obtain ⟨s7, hs7⟩ : ∃ s7, (stepC sq A (q : Int)).1 = s7 := ⟨_, rfl⟩
      rw [hs7] at HR7
      have HS7 := Lib.hid hs7
      clear hf7 hr7 hs7 HUP HJO HSTEP
      by_cases hqn : (q : Int) = n
      rotate_left
      · have p2 : ((q : Int) != n) = true := by simp [hqn]
        clear hqn
        go_wp2_with fail
        go_roundw
        case rel => exact ⟨q + 1, s7, S7, R7, mb7, congrArg (Value.int .i64) HWQ.out, HLT.out, HR7.out, HF7.out⟩
        case measure => rw [HWQ.out]; simp only [intOf]; have := HLT.out; omega
      have p2 : ((q : Int) != n) = false := by simp [hqn]
      clear hqn
      obtain ⟨z, hz⟩ : ∃ z, statusK s7.l = z := ⟨_, rfl⟩
      have HST : Hid (Calls Try.prog 16 #[.pointer (some ⟨fb, 0, none⟩)] w7 fun e W' => e = .returned (.int .i64 z) ∧ w7 = W') := Lib.hid (by
        have := status_any S7 w7 fb mb7 s7 HR7.out.j.p.fl
        rwa [hz] at this)
      by_cases hz1 : z = 1
      rotate_left
      · have p3 : (z != 1) = true := by simp [hz1]
        clear hz hz1
        go_wp2_with (first | (go_at_call 16; refine HST.out.mono ?_; rintro e w8 ⟨rfl, rfl⟩) | go_in)
        go_roundw
        case rel => exact ⟨q + 1, s7, S7, R7, mb7, congrArg (Value.int .i64) HWQ.out, HLT.out, HR7.out, HF7.out⟩
        case measure => rw [HWQ.out]; simp only [intOf]; have := HLT.out; omega
      subst hz1
      obtain ⟨ln, hln⟩ : ∃ m, s7.l.length = m := ⟨_, rfl⟩
      have HLN : Hid (Calls Try.prog 21 #[.pointer (some ⟨fb, 0, none⟩)] w7 fun e W' => e = .returned (.int .i64 (ln : Int)) ∧ w7 = W') := Lib.hid (by
        have := len_any S7 w7 fb mb7 s7 HR7.out.j.p.fl
        rwa [hln] at this)
      have HOPEN := Lib.hid hz
      have HLNE := Lib.hid hln
      have HTW := Lib.hid (twin_pf S7 w7 fb mb7 s7 HR7.out.j.p)
      have HERR : Hid ((A.op = 4 ∨ A.op = 6 ∨ A.op = 7 ∨ A.op = 8) → Err s7 (stepC s7 A (q : Int))) := Lib.hid (fun hop => by
        have := once_law HRUN.out.i HRUN.out.at_ (by have := HRUN.out.len HQ.out; omega) A hop (by rw [HS7.out]; exact HOPEN.out)
        rwa [HS7.out] at this)
      have HL7 : Hid (s7.l.length ≤ 4000) := Lib.hid (by have h1 := HR7.out.pot; have h2 := len_pot s7; have := HQ.out; omega)
      clear hz hln
      have w0 := HXB7.out.cell 0
      simp only [lA, lB] at w0
      by_cases h4 : x.op = 4
      · have q4 : (x.op == 4) = true := by simp [h4]
        have HOPA : Hid (A.op = 4) := Lib.hid (HAE.out.1.trans h4)
        have HER := Lib.hid (HERR.out (by have := HOPA.out; omega))
        clear  h4
        go_upto_region 24 with (first | (go_at_call 16; refine HST.out.mono ?_; rintro e w8 ⟨rfl, rfl⟩) | (go_at_call 21; refine HLN.out.mono ?_; rintro e w8 ⟨rfl, rfl⟩) | (go_at_call 22; refine HTW.out.mono ?_; rintro e w8 ⟨xb2, xm2, rfl, hx2, hx2b, hpf2, hf8⟩; have HPF2 := Lib.hid hpf2; have HF8 := Lib.hid hf8; have HX2 := Lib.hid (And.intro hx2 hx2b); clear hpf2 hf8 hx2 hx2b w0) | go_in)
        have u0 := (HXB7.out.fr HF8.out id).cell 0
        have u2 := (HXB7.out.fr HF8.out id).cell 2
        have u3 := (HXB7.out.fr HF8.out id).cell 3
        simp only [lA, lB, lC] at u0 u2 u3
        obtain ⟨c, hc⟩ : ∃ c, stepC s7 A (q : Int) = c := ⟨_, rfl⟩
        have HEC : Hid (c.2.2 ≠ 0 ∧ c.1 = s7) := Lib.hid (by rw [← hc]; exact HER.out)
        have HP := Lib.hid (p_decides (fun k => S7 k ∨ k = xb2 ∨ k = xm2) w8 xb2 xm2 s7 HPF2.out HR7.out.i HL7.out (q : Int) ref' turn')
        have hst : stepC s7 A (q : Int) = rtryC s7 0 (q : Int) (rdecidesC s7 ref' turn' (q : Int)) := by
          unfold stepC
          rw [if_neg (by rw [HOPA.out]; show ¬ (4 : Int) = 1; decide), if_neg (by rw [HOPA.out]; show ¬ (4 : Int) = 2; decide), if_neg (by rw [HOPA.out]; show ¬ (4 : Int) = 3; decide), if_pos HOPA.out]
          try simp only [HAE.out.2.1, HAE.out.2.2.1, HAE.out.2.2.2.1, HAE.out.2.2.2.2.1, HAE.out.2.2.2.2.2]
        rw [hc] at hst
        rw [← hst] at HP
        obtain ⟨s9, os9, er⟩ := c
        have p4 : (er == 0) = false := by simp; exact HEC.out.1
        have hse : s7 = s9 := HEC.out.2.symm
        have p5 : ((ln : Int) != (ln : Int)) = false := by simp
        subst hse
        clear hc hst
        go_wp2_with (first | (go_at_call 12; refine HP.out.mono ?_; rintro e w9 ⟨v9, S9, xm9, rfl, _, hpf9, hf9, _⟩; have HF9 : Hid (Fr (fun _ => False) w7 w9) := Lib.hid (Fr.step HF8.out hf9 (fun k hk e => by have := HX2.out; omega)); have hl9 := len_any S9 w9 xb2 xm9 _ hpf9.fl; rw [HLNE.out] at hl9; have HL9 := Lib.hid hl9; clear hpf9 hf9 hl9) | (go_at_call 21; refine HL9.out.mono ?_; rintro e w10 ⟨rfl, rfl⟩) | go_in)
        go_roundw
        case rel => exact ⟨q + 1, s7, S7, R7, mb7, congrArg (Value.int .i64) HWQ.out, HLT.out, HR7.out.fr0 HF9.out, HF7.out.trans HF9.out⟩
        case measure => rw [HWQ.out]; simp only [intOf]; have := HLT.out; omega
      have q4 : (x.op == 4) = false := by simp [h4]
      by_cases h6 : x.op = 6
      · have q6 : (x.op == 6) = true := by simp [h6]
        have HOPA : Hid (A.op = 6) := Lib.hid (HAE.out.1.trans h6)
        have HER := Lib.hid (HERR.out (by have := HOPA.out; omega))
        clear h4 h6
        go_upto_region 24 with (first | (go_at_call 16; refine HST.out.mono ?_; rintro e w8 ⟨rfl, rfl⟩) | (go_at_call 21; refine HLN.out.mono ?_; rintro e w8 ⟨rfl, rfl⟩) | (go_at_call 22; refine HTW.out.mono ?_; rintro e w8 ⟨xb2, xm2, rfl, hx2, hx2b, hpf2, hf8⟩; have HPF2 := Lib.hid hpf2; have HF8 := Lib.hid hf8; have HX2 := Lib.hid (And.intro hx2 hx2b); clear hpf2 hf8 hx2 hx2b w0) | go_in)
        have u0 := (HXB7.out.fr HF8.out id).cell 0
        have u2 := (HXB7.out.fr HF8.out id).cell 2
        simp only [lA, lB, lC] at u0 u2
        obtain ⟨c, hc⟩ : ∃ c, stepC s7 A (q : Int) = c := ⟨_, rfl⟩
        have HEC : Hid (c.2.2 ≠ 0 ∧ c.1 = s7) := Lib.hid (by rw [← hc]; exact HER.out)
        have HP := Lib.hid (p_works (fun k => S7 k ∨ k = xb2 ∨ k = xm2) w8 xb2 xm2 s7 HPF2.out HR7.out.i HL7.out (q : Int) ref' HWF.out)
        have hst : stepC s7 A (q : Int) = rtryC s7 0 (q : Int) (worksC s7 ref' (q : Int)) := by
          unfold stepC
          rw [if_neg (by rw [HOPA.out]; show ¬ (6 : Int) = 1; decide), if_neg (by rw [HOPA.out]; show ¬ (6 : Int) = 2; decide), if_neg (by rw [HOPA.out]; show ¬ (6 : Int) = 3; decide), if_neg (by rw [HOPA.out]; show ¬ (6 : Int) = 4; decide), if_neg (by rw [HOPA.out]; show ¬ (6 : Int) = 5; decide), if_pos HOPA.out]
          try simp only [HAE.out.2.1, HAE.out.2.2.1, HAE.out.2.2.2.1, HAE.out.2.2.2.2.1, HAE.out.2.2.2.2.2]
        rw [hc] at hst
        rw [← hst] at HP
        obtain ⟨s9, os9, er⟩ := c
        have p4 : (er == 0) = false := by simp; exact HEC.out.1
        have hse : s7 = s9 := HEC.out.2.symm
        have p5 : ((ln : Int) != (ln : Int)) = false := by simp
        subst hse
        clear hc hst
        go_wp2_with (first | (go_at_call 23; refine HP.out.mono ?_; rintro e w9 ⟨v9, S9, xm9, rfl, _, hpf9, hf9, _⟩; have HF9 : Hid (Fr (fun _ => False) w7 w9) := Lib.hid (Fr.step HF8.out hf9 (fun k hk e => by have := HX2.out; omega)); have hl9 := len_any S9 w9 xb2 xm9 _ hpf9.fl; rw [HLNE.out] at hl9; have HL9 := Lib.hid hl9; clear hpf9 hf9 hl9) | (go_at_call 21; refine HL9.out.mono ?_; rintro e w10 ⟨rfl, rfl⟩) | go_in)
        go_roundw
        case rel => exact ⟨q + 1, s7, S7, R7, mb7, congrArg (Value.int .i64) HWQ.out, HLT.out, HR7.out.fr0 HF9.out, HF7.out.trans HF9.out⟩
        case measure => rw [HWQ.out]; simp only [intOf]; have := HLT.out; omega
      have q6 : (x.op == 6) = false := by simp [h6]
      by_cases h8 : x.op = 8
      · have q8 : (x.op == 8) = true := by simp [h8]
        have HOPA : Hid (A.op = 8) := Lib.hid (HAE.out.1.trans h8)
        have HER := Lib.hid (HERR.out (by have := HOPA.out; omega))
        clear h4 h6 h8
        go_upto_region 24 with (first | (go_at_call 16; refine HST.out.mono ?_; rintro e w8 ⟨rfl, rfl⟩) | (go_at_call 21; refine HLN.out.mono ?_; rintro e w8 ⟨rfl, rfl⟩) | (go_at_call 22; refine HTW.out.mono ?_; rintro e w8 ⟨xb2, xm2, rfl, hx2, hx2b, hpf2, hf8⟩; have HPF2 := Lib.hid hpf2; have HF8 := Lib.hid hf8; have HX2 := Lib.hid (And.intro hx2 hx2b); clear hpf2 hf8 hx2 hx2b w0) | go_in)
        have u0 := (HXB7.out.fr HF8.out id).cell 0
        have u7 := (HXB7.out.fr HF8.out id).cell 7
        have u2 := (HXB7.out.fr HF8.out id).cell 2
        have u3 := (HXB7.out.fr HF8.out id).cell 3
        simp only [lA, lB, lC] at u0 u7 u2 u3
        obtain ⟨c, hc⟩ : ∃ c, stepC s7 A (q : Int) = c := ⟨_, rfl⟩
        have HEC : Hid (c.2.2 ≠ 0 ∧ c.1 = s7) := Lib.hid (by rw [← hc]; exact HER.out)
        have HP := Lib.hid (p_fire (fun k => S7 k ∨ k = xb2 ∨ k = xm2) w8 xb2 xm2 s7 HPF2.out HR7.out.i HL7.out (q : Int) x.kind ref' turn' HWF.out)
        have hst : stepC s7 A (q : Int) = (if x.kind = 3 ∨ x.kind = 4 ∨ x.kind = 5 then rtryC s7 0 (q : Int) (fireC s7 x.kind ref' turn' (q : Int)) else (s7, [], 1)) := by
          unfold stepC
          rw [if_neg (by rw [HOPA.out]; show ¬ (8 : Int) = 1; decide), if_neg (by rw [HOPA.out]; show ¬ (8 : Int) = 2; decide), if_neg (by rw [HOPA.out]; show ¬ (8 : Int) = 3; decide), if_neg (by rw [HOPA.out]; show ¬ (8 : Int) = 4; decide), if_neg (by rw [HOPA.out]; show ¬ (8 : Int) = 5; decide), if_neg (by rw [HOPA.out]; show ¬ (8 : Int) = 6; decide), if_neg (by rw [HOPA.out]; show ¬ (8 : Int) = 7; decide), if_pos HOPA.out]
          try simp only [HAE.out.2.1, HAE.out.2.2.1, HAE.out.2.2.2.1, HAE.out.2.2.2.2.1, HAE.out.2.2.2.2.2]
        rw [hc] at hst
        rw [← hst] at HP
        obtain ⟨s9, os9, er⟩ := c
        have p4 : (er == 0) = false := by simp; exact HEC.out.1
        have hse : s7 = s9 := HEC.out.2.symm
        have p5 : ((ln : Int) != (ln : Int)) = false := by simp
        subst hse
        clear hc hst
        go_wp2_with (first | (go_at_call 24; refine HP.out.mono ?_; rintro e w9 ⟨v9, S9, xm9, rfl, _, hpf9, hf9, _⟩; have HF9 : Hid (Fr (fun _ => False) w7 w9) := Lib.hid (Fr.step HF8.out hf9 (fun k hk e => by have := HX2.out; omega)); have hl9 := len_any S9 w9 xb2 xm9 _ hpf9.fl; rw [HLNE.out] at hl9; have HL9 := Lib.hid hl9; clear hpf9 hf9 hl9) | (go_at_call 21; refine HL9.out.mono ?_; rintro e w10 ⟨rfl, rfl⟩) | go_in)
        go_roundw
        case rel => exact ⟨q + 1, s7, S7, R7, mb7, congrArg (Value.int .i64) HWQ.out, HLT.out, HR7.out.fr0 HF9.out, HF7.out.trans HF9.out⟩
        case measure => rw [HWQ.out]; simp only [intOf]; have := HLT.out; omega
      have q8 : (x.op == 8) = false := by simp [h8]
      by_cases h7 : x.op = 7
      · have q7 : (x.op == 7) = true := by simp [h7]
        have HOPA : Hid (A.op = 7) := Lib.hid (HAE.out.1.trans h7)
        have HER := Lib.hid (HERR.out (by have := HOPA.out; omega))
        clear h4 h6 h8 h7
        go_upto_region 38 with (first | (go_at_call 16; refine HST.out.mono ?_; rintro e w8 ⟨rfl, rfl⟩) | (go_at_call 21; refine HLN.out.mono ?_; rintro e w8 ⟨rfl, rfl⟩) | (go_at_call 22; refine HTW.out.mono ?_; rintro e w8 ⟨xb2, xm2, rfl, hx2, hx2b, hpf2, hf8⟩; have HPF2 := Lib.hid hpf2; have HF8 := Lib.hid hf8; have HX2 := Lib.hid (And.intro hx2 hx2b); clear hpf2 hf8 hx2 hx2b w0) | go_in)
        have u0 := (HXB7.out.fr HF8.out id).cell 0
        have u2 := (HXB7.out.fr HF8.out id).cell 2
        have u4 := (HXB7.out.fr HF8.out id).cell 4
        have u6 := (HXB7.out.fr HF8.out id).cell 6
        simp only [lA, lB, lC] at u0 u2 u4 u6
        obtain ⟨c, hc⟩ : ∃ c, stepC s7 A (q : Int) = c := ⟨_, rfl⟩
        have HEC : Hid (c.2.2 ≠ 0 ∧ c.1 = s7) := Lib.hid (by rw [← hc]; exact HER.out)
        have HDAT : RowB (fun k => S7 k ∨ k = xb2 ∨ k = xm2) w8 (.slice ad dl cp) x.d := (((HOK.out.fr HF67.out (fun k e => e)).to (S' := fun k => S7 k ∨ k = xb2 ∨ k = xm2) (fun k hk e => by rcases e with e | e | e; exact HR7.out.S k e; exact absurd hk (by have := HX2.out; omega); exact absurd hk (by have := HX2.out; omega))).1).fr (HF8.out.mono fun _ e => e.elim)
        have HDLN : x.d.length = dl := HOK.out.1.len
        have HP := Lib.hid (p_worked (fun k => S7 k ∨ k = xb2 ∨ k = xm2) w8 xb2 xm2 s7 HPF2.out HR7.out.i HL7.out (q : Int) ref' x.good HWF.out ad dl cp x.d HDAT HOK.out.2.1.one)
        have hst : stepC s7 A (q : Int) = rtryC s7 dl (q : Int) (endsC s7 (if x.good = true then 9 else 10) ref' x.d (q : Int)) := by
          unfold stepC
          rw [if_neg (by rw [HOPA.out]; show ¬ (7 : Int) = 1; decide), if_neg (by rw [HOPA.out]; show ¬ (7 : Int) = 2; decide), if_neg (by rw [HOPA.out]; show ¬ (7 : Int) = 3; decide), if_neg (by rw [HOPA.out]; show ¬ (7 : Int) = 4; decide), if_neg (by rw [HOPA.out]; show ¬ (7 : Int) = 5; decide), if_neg (by rw [HOPA.out]; show ¬ (7 : Int) = 6; decide), if_pos HOPA.out]
          try simp only [HAE.out.2.1, HAE.out.2.2.1, HAE.out.2.2.2.1, HAE.out.2.2.2.2.1, HAE.out.2.2.2.2.2]
          rw [HDLN]
        rw [hc] at hst
        rw [← hst] at HP
        obtain ⟨s9, os9, er⟩ := c
        have p4 : (er == 0) = false := by simp; exact HEC.out.1
        have hse : s7 = s9 := HEC.out.2.symm
        have p5 : ((ln : Int) != (ln : Int)) = false := by simp
        subst hse
        clear hc hst
        go_wp2_with (first | (go_at_call 25; refine HP.out.mono ?_; rintro e w9 ⟨v9, S9, xm9, rfl, _, hpf9, hf9, _⟩; have HF9 : Hid (Fr (fun _ => False) w7 w9) := Lib.hid (Fr.step HF8.out hf9 (fun k hk e => by have := HX2.out; omega)); have hl9 := len_any S9 w9 xb2 xm9 _ hpf9.fl; rw [HLNE.out] at hl9; have HL9 := Lib.hid hl9; clear hpf9 hf9 hl9) | (go_at_call 21; refine HL9.out.mono ?_; rintro e w10 ⟨rfl, rfl⟩) | go_in)
        go_roundw
        case rel => exact ⟨q + 1, s7, S7, R7, mb7, congrArg (Value.int .i64) HWQ.out, HLT.out, HR7.out.fr0 HF9.out, HF7.out.trans HF9.out⟩
        case measure => rw [HWQ.out]; simp only [intOf]; have := HLT.out; omega
      have q7 : (x.op == 7) = false := by simp [h7]
      clear h4 h6 h8 h7
      go_wp2_with (first | (go_at_call 16; refine HST.out.mono ?_; rintro e w8 ⟨rfl, rfl⟩) | (go_at_call 21; refine HLN.out.mono ?_; rintro e w8 ⟨rfl, rfl⟩) | go_in)
      go_roundw
      case rel => exact ⟨q + 1, s7, S7, R7, mb7, congrArg (Value.int .i64) HWQ.out, HLT.out, HR7.out, HF7.out⟩
      case measure => rw [HWQ.out]; simp only [intOf]; have := HLT.out; omega
/-- THE LAW -/
theorem once_law2 (W : World) (a : Option Addr) (len cap : Nat) (h : ∃ L : List ActV, L.length = len ∧ len ≤ cap ∧ cap ≤ maxLen ∧ RowAc (fun k => W.heap.size ≤ k) W a L) (n : Int) (wn : (Lit.int .i64 n).wf = true) :
    Calls Try.prog 5 #[.slice a len cap, .int .i64 n] W fun e W' => e = .returned (.bool true) ∧ Below W.heap.size W W' := by
  obtain ⟨L, h1, h2, h3, h4⟩ := h
  exact (once_walk W a len cap L h1 h2 h3 h4 n).mono fun e W' hh => ⟨hh.1, hh.2.below (Nat.le_refl _) (fun _ e => e.elim)⟩
end Go.Proofs.Ytnkelaohcbdjnaa
