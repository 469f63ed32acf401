/- FlowTurns: the law. -/
import Derived.Test.YtnkelaohcbdjnaaTl
import Derived.Test.YtnkelaohcbdjnaaBo
import Derived.Test.YtnkelaohcbdjnaaKx
import Derived.Test.YtnkelaohcbdjnaaMx
set_option linter.unusedVariables false
set_option linter.unusedSimpArgs false
namespace Go.Proofs.Ytnkelaohcbdjnaa
open Go.RowKit Go.Maps Go.Lib
/-- Check, of the events told -/
theorem turnsCheck (f : Nat → Bool) (t : Nat) (ht : t ≤ 1000) (W : World) (B : Nat) (v : Value) (L : List Ev.Ev) (h : OwnV W B v L) (hL : L.length = (sttEnd f t).l.length) (hs : Shows W v (sttEnd f t).l L) :
    Calls Try.prog 30 #[v] W fun e W' => e = .returned .nilIface ∧ Fr (fun _ => False) W W' := by
  rcases h.form with ⟨_, h1⟩ | ⟨g, cp, rfl, h1, h2, h3, h4, h5, h6⟩
  · rw [h1, sttEnd_len] at hL; simp only [List.length_nil] at hL; omega
  have hg : Ev.Good L L.length := good_shows hs hL (by rw [sttEnd_l]; exact histEnd_good f t ht)
  refine (Ev.check_any W (some ⟨g, 0, none⟩) cp L (.inr ⟨g, 0, rfl, h2, fun i e he j u hj => by rw [Nat.zero_add]; exact h6 i e he j u hj⟩) (by rw [hL, sttEnd_len]; omega)).mono ?_
  rintro r w1 ⟨hf, ⟨rfl, _⟩ | ⟨i, e, b, h7, h8, h9, _⟩⟩
  · exact ⟨rfl, hf⟩
  · exact absurd (hg i e (List.getElem?_eq_some_iff.1 h7).1 h7) h9
set_option maxRecDepth 100000 in
set_option maxHeartbeats 8000000 in
theorem turns_law (W : World) (nn : Int) (wn : (Lit.int .i64 nn).wf = true) (a : Option Addr) (len cap : Nat) (fn : Nat → Bool) (hlc : len ≤ cap) (hcap : cap ≤ 9223372036854775807) (hrow : BoolRow W a cap fn) :
    Calls Try.prog 7 #[.int .i64 nn, .slice a len cap] W fun e W' => e = .returned (.bool true) ∧ Below W.heap.size W W' := by
  have HROW := Lib.hid hrow
  clear hrow wn
  go_enter Try.func7, Try.ntmps7
  go_upto_region 3 with (first | (go_at_call 8; refine (known_any _).mono ?_; rintro e w2 ⟨rfl, hf2⟩) | go_in)
  have HF := Lib.hid hf2
  clear hf2
  by_cases h1 : nn < 1
  · have p1 : decide (nn < 1) = true := decide_eq_true h1
    go_wp2
    go_ret
    exact ⟨rfl, HF.out.below (Nat.le_refl _) (fun k e => e.elim)⟩
  have p1 : decide (nn < 1) = false := decide_eq_false h1
  by_cases h2 : 40 < nn
  · have p2 : decide (nn > 40) = true := decide_eq_true h2
    have p3 : decide (40 < nn) = true := decide_eq_true h2
    go_wp2
    go_ret
    exact ⟨rfl, HF.out.below (Nat.le_refl _) (fun k e => e.elim)⟩
  have p2 : decide (nn > 40) = false := decide_eq_false h2
  have p3 : decide (40 < nn) = false := decide_eq_false h2
  by_cases h3 : 100 < len
  · have p4 : decide ((len : Int) > 100) = true := decide_eq_true (by omega)
    have p5 : decide (100 < (len : Int)) = true := decide_eq_true (by omega)
    have p6 : decide (100 < len) = true := decide_eq_true (by omega)
    go_wp2
    go_ret
    exact ⟨rfl, HF.out.below (Nat.le_refl _) (fun k e => e.elim)⟩
  have p4 : decide ((len : Int) > 100) = false := decide_eq_false (by omega)
  have p5 : decide (100 < (len : Int)) = false := decide_eq_false (by omega)
  have p6 : decide (100 < len) = false := decide_eq_false (by omega)
  obtain ⟨n, rfl⟩ : ∃ n : Nat, nn = n := ⟨nn.toNat, by omega⟩
  have hn40 : n ≤ 40 := by omega
  have HN := Lib.hid hn40
  have HL := Lib.hid (And.intro hlc (Nat.le_of_not_lt h3))
  clear h1 h2 h3 hn40 hlc hcap
  go_upto_region 5 with (fail)
  clear p1 p2 p3 p4 p5 p6
  obtain ⟨f, hfd⟩ : ∃ f : Nat → Bool, f = fun i => decide (i < len) && fn i := ⟨_, rfl⟩
  have HFD := Lib.hid hfd
  clear hfd
  have HNEW := Lib.hid (new_any w2 3 1 0 7 0 (by omega) (by omega) (by omega) (by omega) (by omega) none 0 0 [] (RowB.nil _ _) (by omega) rfl (by simp))
  rw [stt_0 f] at HNEW
  go_upto_region 6 with (first | (go_at_call 11; refine HNEW.out.mono ?_; rintro e w3 ⟨fb, mb, ob, rfl, hfb, hmb, hne, hfl, hob, hbo, hf3⟩) | go_in)
  have HFL : Hid (FL2 w3 fb mb (stt f 0)) := Lib.hid hfl
  have HF3 : Hid (Fr (fun _ => False) W w3) := Lib.hid (HF.out.trans hf3)
  have HB3 : Hid (W.heap.size ≤ fb) := Lib.hid (Nat.le_trans HF.out.size hfb)
  have o2 := hbo.cell 2
  simp only [List.getElem?_toArray, List.getElem?_cons_zero, List.getElem?_cons_succ] at o2
  clear HNEW hfl hf3 hbo hob hne hmb hfb HF
  go_upto_region 9 with (fail)
  clear o2
  go_wp2_with fail
  go_loopw [8, 9] (fun av iv wr => ∃ (t xm : Nat), t ≤ n ∧ av = .int .i64 ((2 + 3 * t : Nat) : Int) ∧ iv = .int .i64 t ∧ FL2 wr fb xm (stt f t) ∧ Fr (fun k => k = fb) W wr) (fun _ iv _ => n - (intOf iv).toNat)
  case atStart => exact ⟨0, mb, by omega, rfl, rfl, HFL.out, HF3.out.mono fun _ e => e.elim⟩
  case round =>
    obtain ⟨t, xm, ht, rfl, rfl, hfl, hf⟩ := hrel
    have HFL4 := Lib.hid hfl
    have HF4 := Lib.hid hf
    clear hfl hf HFL HF3
    have HT : Hid (t ≤ 40) := Lib.hid (Nat.le_trans ht HN.out)
    have HDEC := Lib.hid (decides_any wr fb xm (stt f t) HFL4.out (by have := HT.out; simp [stt, hist_len]; omega) t ((2 + 3 * t : Nat) : Int) t (stt_right f t (by have := HT.out; omega) t (by have := HT.out; omega)) (stt_open f t) (by omega) ⟨rfl, rfl, rfl⟩)
    by_cases hlt : t < n
    rotate_left
    · have htn : t = n := by omega
      subst htn
      have p0 : decide ((t : Int) < t) = false := by simp
      go_upto_region 30 with (fail)
      go_upto_region 31 with (first | (go_at_call 12; refine HDEC.out.mono ?_; rintro e w4 ⟨ob4, xm4, q4, rfl, hob4, hxm4, hbo4, hfl4, hf4, _⟩) | go_in)
      have HFL5 : Hid (FL2 w4 fb xm4 (began (stt f t) (t : Int) ((2 + 3 * t : Nat) : Int))) := Lib.hid hfl4
      have HF5 : Hid (Fr (fun k => k = fb) W w4) := Lib.hid (HF4.out.trans hf4)
      clear HDEC HFL4 HF4 hob4 hxm4 hbo4 hfl4 hf4 p0
      have HDE := Lib.hid (fun w' (hf' : Fr (fun _ => False) w4 w') (lb : Nat) (hlb : Blk w' lb 24 #[.int .i64 5, .int .i64 0, .int .i64 0, .int .i64 0, .slice none 0 0]) (hne : lb ≠ fb ∧ lb ≠ xm4) => decide_5 w' fb xm4 _ (HFL5.out.fr0 hf') (by have := HT.out; simp [began, stt, hist_len]; omega) t ((2 + 3 * t : Nat) : Int) t (began_right f t (by have := HT.out; omega) _) (began_open f t _) ⟨rfl, rfl, rfl⟩ rfl lb none 0 0 [] hlb hne (RowB.nil _ _) (by omega) rfl (by simp) rfl rfl)
      go_upto_region 32 with (first | (go_at_call 15; refine (HDE.out _ (Fr.alloc _ _ _) w4.heap.size (Blk.new _ _ _) (by have := HFL5.out.lt; omega)).mono ?_; rintro e w6 ⟨g6, cp6, xm6, rfl, hob6, hcp6, hcm6, hxm6, hc6, hfl6, hf6⟩) | go_in)
      have HFL6 : Hid (FL2 w6 fb xm6 (sttEnd f t)) := Lib.hid hfl6
      have HF6 : Hid (Fr (fun k => k = fb) W w6) := Lib.hid (HF5.out.trans (((Fr.alloc (fun _ => False) w4 _).mono fun _ e => e.elim).trans hf6))
      clear HDE HFL5 HF5 hob6 hcp6 hcm6 hxm6 hc6 hfl6 hf6
      have HS := status_any _ w6 fb xm6 _ HFL6.out
      rw [sttEnd_status] at HS
      have HLE := len_any _ w6 fb xm6 _ HFL6.out
      rw [sttEnd_len] at HLE
      have HSS := Lib.hid HS
      have HLL := Lib.hid HLE
      clear HS HLE
      have HEV := Lib.hid (events_any _ w6 fb xm6 _ HFL6.out (by rw [sttEnd_len]; omega) (by rw [sttEnd_len]; have := HT.out; omega))
      have p8 : wrap64 (wrap64 (2 + wrap64 (3 * (t : Int))) + 3) = ((5 + 3 * t : Nat) : Int) := by have := HT.out; unfold wrap64; omega
      have HT2 : Hid (t ≤ 40) := HT
      go_wp2_with (first | (go_at_call 16; refine HSS.out.mono ?_; rintro e w7 ⟨rfl, rfl⟩) | (go_at_call 21; refine HLL.out.mono ?_; rintro e w7 ⟨rfl, rfl⟩) | (go_at_call 31; refine HEV.out.mono ?_; rintro e w7 ⟨v7, L, rfl, hown, hL, hsh, hf7⟩; have HOWN := Lib.hid hown; have HLN := Lib.hid hL; have HSH := Lib.hid hsh; have HF7 := Lib.hid hf7; clear hown hL hsh hf7) | (go_at_call 30; refine (turnsCheck f t (by have := HT2.out; omega) _ _ _ _ HOWN.out HLN.out HSH.out).mono ?_; rintro e w8 ⟨rfl, hf8⟩) | go_in)
      go_ret
      refine ⟨?_, ((HF6.out.trans (HF7.out.mono fun _ e => e.elim)).trans (hf8.mono fun _ e => e.elim)).below (Nat.le_refl _) (fun k e => by have := HB3.out; omega)⟩
      rfl
    have p0 : decide ((t : Int) < n) = true := decide_eq_true (by omega)
    go_upto_region 13 with (first | (go_at_call 12; refine HDEC.out.mono ?_; rintro e w4 ⟨ob4, xm4, q4, rfl, hob4, hxm4, hbo4, hfl4, hf4, _⟩) | go_in)
    have HFL5 : Hid (FL2 w4 fb xm4 (began (stt f t) (t : Int) ((2 + 3 * t : Nat) : Int))) := Lib.hid hfl4
    have HF5 : Hid (Fr (fun k => k = fb) W w4) := Lib.hid (HF4.out.trans hf4)
    clear HDEC HFL4 HF4 hob4 hxm4 hbo4 hfl4 hf4 p0
    go_upto_region 17 with (fail)
    by_cases hl : t < len
    · have p1 : decide ((t : Int) < (len : Int)) = true := decide_eq_true (by omega)
      have p1' : decide (t < len) = true := decide_eq_true hl
      obtain ⟨b, off, rfl, hbl, hcell⟩ : ∃ b off, a = some ⟨b, off, none⟩ ∧ b < W.heap.size ∧ ∀ j, j < cap → W.cell? ⟨b, off + j, none⟩ = some (.bool (fn j)) := by
        rcases HROW.out with h | h
        · have := HL.out; omega
        · exact h
      have y0 : w4.cell? ⟨b, off + t, none⟩ = some (.bool (fn t)) := (World.cell?_of_block (HF5.out.block b hbl (by have := HB3.out; omega))).trans (hcell t (by have := HL.out; omega))
      clear hcell hbl
      cases hfn : fn t with
      | true =>
        rw [hfn] at y0
        have hft : f t = true := by rw [HFD.out]; simp [hl, hfn]
        clear hfn
        have HFT := Lib.hid hft
        clear hft
        go_upto_region 18 with (fail)
        have HDE := Lib.hid (fun w' (hf' : Fr (fun _ => False) w4 w') (lb : Nat) (hlb : Blk w' lb 24 #[.int .i64 99, .int .i64 0, .int .i64 0, .int .i64 0, .slice none 0 0]) => faulty_99 w' fb xm4 _ (HFL5.out.fr0 hf') (by have := HT.out; simp [began, stt, hist_len]; omega) t ((2 + 3 * t : Nat) : Int) t (began_right f t (by have := HT.out; omega) _) (began_open f t _) ⟨rfl, rfl, rfl⟩ rfl rfl lb hlb)
        go_upto_region 19 with (first | (go_at_call 15; refine (HDE.out _ (Fr.alloc _ _ _) w4.heap.size (Blk.new _ _ _)).mono ?_; rintro e w6 ⟨ob6, xm6, rfl, hob6, hxm6, hbo6, hfl6, hf6⟩) | go_in)
        have hf6' := (HF5.out.trans (((Fr.alloc (fun _ => False) w4 _).mono fun _ e => e.elim).trans hf6))
        rw [stt_faulted f t (by have := HT.out; omega) HFT.out] at hfl6
        have HFL6 : Hid (FL2 w6 fb xm6 (stt f (t + 1))) := Lib.hid hfl6
        have HF6 : Hid (Fr (fun k => k = fb) W w6) := Lib.hid hf6'
        have HBO6 : Hid (Blk w6 ob6 40 #[.int .i64 1, .int .i64 0, .int .i64 ((2 + 3 * (t + 1) : Nat) : Int), .int .i64 (wrap64 ((t : Int) + 1)), .int .i64 0, .int .i64 0, .int .i64 0, .slice none 0 0]) := Lib.hid (by
          have e1 : (((began (stt f t) (t : Int) ((2 + 3 * t : Nat) : Int)).l.length : Nat) : Int) + 2 = ((2 + 3 * (t + 1) : Nat) : Int) := by simp [began, stt, hist_len]; omega
          rw [e1] at hbo6
          exact hbo6)
        have HNE6 : Hid (ob6 ≠ fb) := Lib.hid (by have := HFL5.out.lt; (try simp at hob6); omega)
        clear HDE hob6 hxm6 hbo6 hfl6 hf6 hf6' HFL5 HF5 HFT
        clear y0 p1 p1'
        go_upto_region 24 with (fail)
        have HW := Lib.hid (wrap_t t (by have := HT.out; omega))
        have p7 : ((t : Int) + 1 != wrap64 ((t : Int) + 1)) = false := by rw [HW.out]; simp
        have hb7 := HBO6.out
        rw [HW.out] at hb7
        have o0 := hb7.cell 0
        have o3 := hb7.cell 3
        simp only [List.getElem?_toArray, List.getElem?_cons_zero, List.getElem?_cons_succ] at o0 o3
        clear hb7
        have HST := Lib.hid (decides_stale w6 fb xm6 (stt f (t + 1)) HFL6.out (by have := HT.out; simp [stt, hist_len]; omega) t ((2 + 3 * t : Nat) : Int) t (stt_right f (t + 1) (by have := HT.out; omega) t (by have := HT.out; simp; omega)) (stt_open f (t + 1)) (fun h => by have := h.2.2.1; simp [stt] at this; omega))
        go_upto_region 26 with (fail)
        go_upto_region 27 with (first | (go_at_call 12; refine HST.out.mono ?_; rintro e w7 ⟨rfl, hf7⟩) | go_in)
        have HFL7 : Hid (FL2 w7 fb xm6 (stt f (t + 1))) := Lib.hid (HFL6.out.fr0 hf7)
        have HF7 : Hid (Fr (fun k => k = fb) W w7) := Lib.hid (HF6.out.trans (hf7.mono fun _ e => e.elim))
        have o2 := (HBO6.out.fr hf7 (fun e => e)).cell 2
        simp only [List.getElem?_toArray, List.getElem?_cons_zero, List.getElem?_cons_succ] at o2
        clear hf7 o0 o3 p7 HFL6 HF6 HBO6 HNE6 HST
        go_wp2_with fail
        refine ⟨⟨t + 1, xm6, by omega, ?_, by rw [HW.out], HFL7.out, HF7.out⟩, ?_⟩
        · rw [show (2 + 3 * ((t : Int) + 1)) = ((2 + 3 * (t + 1) : Nat) : Int) by omega]
        · rw [HW.out]; clear HW; simp [intOf]; omega
      | false =>
        rw [hfn] at y0
        have hft : f t = false := by rw [HFD.out]; simp [hl, hfn]
        clear hfn
        have HFT := Lib.hid hft
        clear hft
        go_upto_region 21 with (fail)
        have HDE := Lib.hid (fire3 w4 fb ((2 + 3 * t : Nat) : Int) t t (MissedOut w4 fb (began (stt f t) (t : Int) ((2 + 3 * t : Nat) : Int)) t) ((missed_ok w4 fb xm4 _ HFL5.out (by have := HT.out; simp [began, stt, hist_len]; omega) t ((2 + 3 * t : Nat) : Int) t (began_right f t (by have := HT.out; omega) _) (began_open f t _) ⟨rfl, rfl, rfl⟩).mono (fun e w' h => by
          refine ⟨?_, h⟩
          obtain ⟨ob, xm, rfl, _⟩ := h
          exact ⟨_, _, rfl⟩)))
        go_upto_region 22 with (first | (go_at_call 24; refine HDE.out.mono ?_; rintro e w6 ⟨ob6, xm6, rfl, hob6, hxm6, hbo6, hfl6, hf6⟩) | go_in)
        have hf6' := HF5.out.trans hf6
        rw [stt_missed f t (by have := HT.out; omega) HFT.out] at hfl6
        have HFL6 : Hid (FL2 w6 fb xm6 (stt f (t + 1))) := Lib.hid hfl6
        have HF6 : Hid (Fr (fun k => k = fb) W w6) := Lib.hid hf6'
        have HBO6 : Hid (Blk w6 ob6 40 #[.int .i64 1, .int .i64 0, .int .i64 ((2 + 3 * (t + 1) : Nat) : Int), .int .i64 (wrap64 ((t : Int) + 1)), .int .i64 0, .int .i64 0, .int .i64 0, .slice none 0 0]) := Lib.hid (by
          have e1 : (((began (stt f t) (t : Int) ((2 + 3 * t : Nat) : Int)).l.length : Nat) : Int) + 2 = ((2 + 3 * (t + 1) : Nat) : Int) := by simp [began, stt, hist_len]; omega
          rw [e1] at hbo6
          exact hbo6)
        have HNE6 : Hid (ob6 ≠ fb) := Lib.hid (by have := HFL5.out.lt; (try simp at hob6); omega)
        clear HDE hob6 hxm6 hbo6 hfl6 hf6 hf6' HFL5 HF5 HFT
        clear y0 p1 p1'
        go_upto_region 24 with (fail)
        have HW := Lib.hid (wrap_t t (by have := HT.out; omega))
        have p7 : ((t : Int) + 1 != wrap64 ((t : Int) + 1)) = false := by rw [HW.out]; simp
        have hb7 := HBO6.out
        rw [HW.out] at hb7
        have o0 := hb7.cell 0
        have o3 := hb7.cell 3
        simp only [List.getElem?_toArray, List.getElem?_cons_zero, List.getElem?_cons_succ] at o0 o3
        clear hb7
        have HST := Lib.hid (decides_stale w6 fb xm6 (stt f (t + 1)) HFL6.out (by have := HT.out; simp [stt, hist_len]; omega) t ((2 + 3 * t : Nat) : Int) t (stt_right f (t + 1) (by have := HT.out; omega) t (by have := HT.out; simp; omega)) (stt_open f (t + 1)) (fun h => by have := h.2.2.1; simp [stt] at this; omega))
        go_upto_region 26 with (fail)
        go_upto_region 27 with (first | (go_at_call 12; refine HST.out.mono ?_; rintro e w7 ⟨rfl, hf7⟩) | go_in)
        have HFL7 : Hid (FL2 w7 fb xm6 (stt f (t + 1))) := Lib.hid (HFL6.out.fr0 hf7)
        have HF7 : Hid (Fr (fun k => k = fb) W w7) := Lib.hid (HF6.out.trans (hf7.mono fun _ e => e.elim))
        have o2 := (HBO6.out.fr hf7 (fun e => e)).cell 2
        simp only [List.getElem?_toArray, List.getElem?_cons_zero, List.getElem?_cons_succ] at o2
        clear hf7 o0 o3 p7 HFL6 HF6 HBO6 HNE6 HST
        go_wp2_with fail
        refine ⟨⟨t + 1, xm6, by omega, ?_, by rw [HW.out], HFL7.out, HF7.out⟩, ?_⟩
        · rw [show (2 + 3 * ((t : Int) + 1)) = ((2 + 3 * (t + 1) : Nat) : Int) by omega]
        · rw [HW.out]; clear HW; simp [intOf]; omega
    · have p1 : decide ((t : Int) < (len : Int)) = false := decide_eq_false (by omega)
      have p1' : decide (t < len) = false := decide_eq_false hl
      have hft : f t = false := by rw [HFD.out]; simp [hl]
      have HFT := Lib.hid hft
      clear hft
      go_upto_region 21 with (fail)
      have HDE := Lib.hid (fire3 w4 fb ((2 + 3 * t : Nat) : Int) t t (MissedOut w4 fb (began (stt f t) (t : Int) ((2 + 3 * t : Nat) : Int)) t) ((missed_ok w4 fb xm4 _ HFL5.out (by have := HT.out; simp [began, stt, hist_len]; omega) t ((2 + 3 * t : Nat) : Int) t (began_right f t (by have := HT.out; omega) _) (began_open f t _) ⟨rfl, rfl, rfl⟩).mono (fun e w' h => by
        refine ⟨?_, h⟩
        obtain ⟨ob, xm, rfl, _⟩ := h
        exact ⟨_, _, rfl⟩)))
      go_upto_region 22 with (first | (go_at_call 24; refine HDE.out.mono ?_; rintro e w6 ⟨ob6, xm6, rfl, hob6, hxm6, hbo6, hfl6, hf6⟩) | go_in)
      have hf6' := HF5.out.trans hf6
      rw [stt_missed f t (by have := HT.out; omega) HFT.out] at hfl6
      have HFL6 : Hid (FL2 w6 fb xm6 (stt f (t + 1))) := Lib.hid hfl6
      have HF6 : Hid (Fr (fun k => k = fb) W w6) := Lib.hid hf6'
      have HBO6 : Hid (Blk w6 ob6 40 #[.int .i64 1, .int .i64 0, .int .i64 ((2 + 3 * (t + 1) : Nat) : Int), .int .i64 (wrap64 ((t : Int) + 1)), .int .i64 0, .int .i64 0, .int .i64 0, .slice none 0 0]) := Lib.hid (by
        have e1 : (((began (stt f t) (t : Int) ((2 + 3 * t : Nat) : Int)).l.length : Nat) : Int) + 2 = ((2 + 3 * (t + 1) : Nat) : Int) := by simp [began, stt, hist_len]; omega
        rw [e1] at hbo6
        exact hbo6)
      have HNE6 : Hid (ob6 ≠ fb) := Lib.hid (by have := HFL5.out.lt; (try simp at hob6); omega)
      clear HDE hob6 hxm6 hbo6 hfl6 hf6 hf6' HFL5 HF5 HFT
      clear p1 p1'
      go_upto_region 24 with (fail)
      have HW := Lib.hid (wrap_t t (by have := HT.out; omega))
      have p7 : ((t : Int) + 1 != wrap64 ((t : Int) + 1)) = false := by rw [HW.out]; simp
      have hb7 := HBO6.out
      rw [HW.out] at hb7
      have o0 := hb7.cell 0
      have o3 := hb7.cell 3
      simp only [List.getElem?_toArray, List.getElem?_cons_zero, List.getElem?_cons_succ] at o0 o3
      clear hb7
      have HST := Lib.hid (decides_stale w6 fb xm6 (stt f (t + 1)) HFL6.out (by have := HT.out; simp [stt, hist_len]; omega) t ((2 + 3 * t : Nat) : Int) t (stt_right f (t + 1) (by have := HT.out; omega) t (by have := HT.out; simp; omega)) (stt_open f (t + 1)) (fun h => by have := h.2.2.1; simp [stt] at this; omega))
      go_upto_region 26 with (fail)
      go_upto_region 27 with (first | (go_at_call 12; refine HST.out.mono ?_; rintro e w7 ⟨rfl, hf7⟩) | go_in)
      have HFL7 : Hid (FL2 w7 fb xm6 (stt f (t + 1))) := Lib.hid (HFL6.out.fr0 hf7)
      have HF7 : Hid (Fr (fun k => k = fb) W w7) := Lib.hid (HF6.out.trans (hf7.mono fun _ e => e.elim))
      have o2 := (HBO6.out.fr hf7 (fun e => e)).cell 2
      simp only [List.getElem?_toArray, List.getElem?_cons_zero, List.getElem?_cons_succ] at o2
      clear hf7 o0 o3 p7 HFL6 HF6 HBO6 HNE6 HST
      go_wp2_with fail
      refine ⟨⟨t + 1, xm6, by omega, ?_, by rw [HW.out], HFL7.out, HF7.out⟩, ?_⟩
      · rw [show (2 + 3 * ((t : Int) + 1)) = ((2 + 3 * (t + 1) : Nat) : Int) by omega]
      · rw [HW.out]; clear HW; simp [intOf]; omega
end Go.Proofs.Ytnkelaohcbdjnaa
