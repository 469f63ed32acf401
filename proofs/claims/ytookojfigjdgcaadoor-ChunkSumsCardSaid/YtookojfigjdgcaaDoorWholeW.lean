/- The law ChunkWhole (in work). -/
import Derived.Test.YtookojfigjdgcaaDoorCutsW
import Derived.Test.YtookojfigjdgcaaDoorC3
import Derived.Test.YtookojfigjdgcaaDoorC6
set_option linter.unusedVariables false
set_option linter.unusedSimpArgs false
namespace Go.Proofs.YtookojfigjdgcaaDoor
open Go.RowKit
theorem head_some {W : World} {bb : Nat} {l' l : List UInt8} {sm sm' : Int} {s k : Nat} (h : Head W bb l' 4 sm s k) (hn : l'.length ≤ 2048) : Some9 W bb l 9 sm' := by
  rcases h with ⟨_, id0, t0, s0, bs0, h1, h2, h3⟩ | ⟨_, h⟩
  · exact .inl ⟨id0, t0, s0, bs0, by omega, h2, h3⟩
  · exact .inl ⟨4, _, _, _, by decide, by rw [List.length_take]; omega, h⟩
theorem grown_all {W : World} {bb : Nat} {l : List UInt8} {id sm : Int} {s k : Nat} (h : Grown W bb l id sm s k) (hk : 1 ≤ k) (hn : l.length ≤ k * s) : BS W bb bb id l.length sm l := by
  rcases h with ⟨h, _⟩ | ⟨_, m, h1, h2, h3⟩
  · omega
  · have e : m = l.length := by omega
    rw [e, List.take_of_length_le (Nat.le_refl _)] at h3
    exact h3
theorem tmod_lt (z : Int) (N : Nat) (hN : 1 ≤ N) : -(N : Int) < z.tmod N ∧ z.tmod N < N := by
  refine ⟨?_, Int.tmod_lt_of_pos z (by omega)⟩
  rcases Int.lt_or_le z 0 with h0 | h0
  · have e : z.tmod N = -((-z).tmod N) := by rw [Int.neg_tmod]; omega
    have := Int.tmod_lt_of_pos (-z) (show (0 : Int) < N by omega)
    omega
  · have := Int.tmod_nonneg (N : Int) h0; omega
theorem arr_beq (a : Array UInt8) : (decide (a = a)) = true := decide_eq_true rfl
set_option maxRecDepth 100000 in
set_option maxHeartbeats 8000000 in
theorem whole_any (W : World) (hL : Laid W) (ao : Option Addr) (n cp : Nat) (l : List UInt8) (hl : RowY W ao l) (hn : l.length = n) (hcp : n ≤ cp) (hcm : cp ≤ maxLen) (h0 : ao = none → n = 0 ∧ cp = 0) (sz : Int)
    (bo : Option Addr) (n' cp' : Nat) (l' : List UInt8) (hl' : RowY W bo l') (hn' : l'.length = n') (hcp' : n' ≤ cp') (hcm' : cp' ≤ maxLen) (h0' : bo = none → n' = 0 ∧ cp' = 0) (many : Int)
    (ko : Option Addr) (kn kc : Nat) (ks : List Int) (hk : ks.length = kn) (hrow : ∀ i z, ks[i]? = some z → ∃ b o, ko = some ⟨b, o, none⟩ ∧ W.cell? ⟨b, o + i, none⟩ = some (.int .i64 z)) (hwf : ∀ z ∈ ks, In64 z) :
    Calls Tryd.prog 4 #[.slice ao n cp, .int .i64 sz, .slice bo n' cp', .int .i64 many, .slice ko kn kc] W fun e W' => e = .returned (.bool true) ∧ Fr (fun _ => False) W W' := by
  have HK := Lib.hid (known_any W hL)
  have HR := Lib.hid (And.intro hl (And.intro hn (And.intro hcp (And.intro hcm h0))))
  have HR' := Lib.hid (And.intro hl' (And.intro hn' (And.intro hcp' (And.intro hcm' h0'))))
  have HT := Lib.hid (And.intro hk (And.intro hrow hwf))
  clear hL hl hn hcp hcm h0 hl' hn' hcp' hcm' h0' hk hrow hwf
  by_cases g0 : 2048 < n
  · have e0 : decide (2048 < (n : Int)) = true := decide_eq_true (by omega)
    have f0 : decide (2048 < n) = true := decide_eq_true (by omega)
    go_enter Tryd.func4, Tryd.ntmps4
    go_wp2_with (first | (go_at_call 7; refine HK.out.mono ?_; rintro r1 w1 ⟨rfl, hf1⟩) | go_in)
    go_ret
    exact ⟨rfl, hf1⟩
  have e0 : decide (2048 < (n : Int)) = false := decide_eq_false (by omega)
  have f0 : decide (2048 < n) = false := decide_eq_false (by omega)
  by_cases g1 : 2048 < n'
  · have e1 : decide (2048 < (n' : Int)) = true := decide_eq_true (by omega)
    have f1 : decide (2048 < n') = true := decide_eq_true (by omega)
    go_enter Tryd.func4, Tryd.ntmps4
    go_wp2_with (first | (go_at_call 7; refine HK.out.mono ?_; rintro r1 w1 ⟨rfl, hf1⟩) | go_in)
    go_ret
    exact ⟨rfl, hf1⟩
  have e1 : decide (2048 < (n' : Int)) = false := decide_eq_false (by omega)
  have f1 : decide (2048 < n') = false := decide_eq_false (by omega)
  by_cases g2 : sz < 1
  · have e2 : decide (sz < 1) = true := decide_eq_true (by omega)
    go_enter Tryd.func4, Tryd.ntmps4
    go_wp2_with (first | (go_at_call 7; refine HK.out.mono ?_; rintro r1 w1 ⟨rfl, hf1⟩) | go_in)
    go_ret
    exact ⟨rfl, hf1⟩
  have e2 : decide (sz < 1) = false := decide_eq_false (by omega)
  by_cases g3 : 4096 < sz
  · have e3 : decide (4096 < sz) = true := decide_eq_true (by omega)
    go_enter Tryd.func4, Tryd.ntmps4
    go_wp2_with (first | (go_at_call 7; refine HK.out.mono ?_; rintro r1 w1 ⟨rfl, hf1⟩) | go_in)
    go_ret
    exact ⟨rfl, hf1⟩
  have e3 : decide (4096 < sz) = false := decide_eq_false (by omega)
  by_cases g4 : 200 < kn
  · have e4 : decide (200 < (kn : Int)) = true := decide_eq_true (by omega)
    have f4 : decide (200 < kn) = true := decide_eq_true (by omega)
    go_enter Tryd.func4, Tryd.ntmps4
    go_wp2_with (first | (go_at_call 7; refine HK.out.mono ?_; rintro r1 w1 ⟨rfl, hf1⟩) | go_in)
    go_ret
    exact ⟨rfl, hf1⟩
  have e4 : decide (200 < (kn : Int)) = false := decide_eq_false (by omega)
  have f4 : decide (200 < kn) = false := decide_eq_false (by omega)
  obtain ⟨s, rfl⟩ : ∃ s : Nat, sz = (s : Int) := ⟨sz.toNat, by omega⟩
  have HNB : Hid (n ≤ 2048 ∧ n' ≤ 2048 ∧ 1 ≤ s ∧ s ≤ 4096 ∧ kn ≤ 200) := Lib.hid (by omega)
  have e2' : decide (s < 1) = false := decide_eq_false (by omega)
  have e3' : decide (4096 < s) = false := decide_eq_false (by omega)
  go_enter Tryd.func4, Tryd.ntmps4
  go_upto_region 5 with (first | (go_at_call 7; refine HK.out.mono ?_; rintro r1 w1 ⟨rfl, hf1⟩) | go_in)
  have hc1 : cp ≤ 9223372036854775807 := by have := HR.out.2.2.2.1; unfold maxLen at this; omega
  have hc1' : cp' ≤ 9223372036854775807 := by have := HR'.out.2.2.2.1; unfold maxLen at this; omega
  have HCUT := Lib.hid (cut_good w1 9 ao cp n l (HR.out.1.fr0 hf1) HR.out.2.1 (by have := HNB.out; omega) HR.out.2.2.1 hc1 HR.out.2.2.2.2 s (by decide) HNB.out.2.2.1 (by have := HNB.out; omega))
  have HF1 := Lib.hid hf1
  clear hf1 HK
  go_upto_region 6 with (first | (go_at_call 8; refine HCUT.out.mono ?_; rintro r2 w2 ⟨v, ps, rfl, hc, h1, h2, h3, hf2⟩) | go_in)
  have HF2 := Lib.hid (HF1.out.trans hf2)
  have HCU2 := Lib.hid (cut_good w2 4 bo cp' n' l' (HR'.out.1.fr0 HF2.out) HR'.out.2.1 (by have := HNB.out; omega) HR'.out.2.2.1 hc1' HR'.out.2.2.2.2 s (by decide) HNB.out.2.2.1 (by have := HNB.out; omega))
  clear HCUT hc1 hc1'
  go_upto_region 7 with (first | (go_at_call 8; refine HCU2.out.mono ?_; rintro r3 w3 ⟨v', qs, rfl, hd, k1, k2, k3, hf3⟩) | go_in)
  have hc := hc.keep hf3 (fun _ _ e => e)
  obtain ⟨gp, cap, rfl, _, _, m1, m2, _⟩ := hc.row h1
  obtain ⟨gq, cap', rfl, _, _, m3, m4, _⟩ := hd.row k1
  obtain ⟨N, hN⟩ : ∃ N, ps.length = N := ⟨_, rfl⟩
  obtain ⟨M, hM⟩ : ∃ M, qs.length = M := ⟨_, rfl⟩
  rw [hN] at hc h1 h2 h3 m1 ⊢
  rw [hM] at hd k1 k2 k3 m3 ⊢
  have HC := Lib.hid hc
  have HD := Lib.hid hd
  have HF3 := Lib.hid (HF2.out.trans hf3)
  have HP := Lib.hid (And.intro hN (And.intro h1 (And.intro h2 (And.intro h3 m1))))
  have HQ := Lib.hid (And.intro hM (And.intro k1 (And.intro k2 (And.intro k3 m3))))
  clear hc hd hN hM h1 h2 h3 k1 k2 k3 m1 m2 m3 m4 HCU2 hf2 hf3 HF1 HF2
  go_upto_region 8 with (first | (go_at_call 12; refine (newb_any w3).mono ?_; rintro r4 w4 ⟨rfl, hbs4, hf4⟩) | go_in)
  obtain ⟨bb, hbb⟩ : ∃ b, w3.heap.size = b := ⟨_, rfl⟩
  rw [hbb] at hbs4 ⊢
  have HB4 := Lib.hid (hbs4 bb)
  have HBB := Lib.hid hbb
  have HF4 : Hid (Fr (fun k => k = bb) w3 w4) := Lib.hid (hf4.mono fun _ e => e.elim)
  clear hbs4 hf4 hbb
  go_upto_region 10 with (fail)
  have HH4 : Hid (Head w4 bb l' 4 ((crc l').toNat : Int) s 0) := Lib.hid (.inl ⟨rfl, -1, 0, 0, [], by decide, by decide, HB4.out⟩)
  go_wp2_with fail
  go_loopw [16, 17, 18] (fun iv bv ev wr => ∃ k : Nat, k ≤ M ∧ iv = .int .i64 (k : Int) ∧ Head wr bb l' 4 ((crc l').toNat : Int) s k ∧ Fr (fun k => k = bb) w3 wr) (fun iv _ _ _ => M - (intOf iv).toNat)
  case atStart => exact ⟨0, Nat.zero_le _, rfl, HH4.out, HF4.out⟩
  case round =>
    obtain ⟨k, hk, rfl, hh, hf⟩ := hrel
    have HFR := Lib.hid hf
    have HHD := Lib.hid hh
    clear hf hh
    by_cases hlt : k < M ∧ (k : Int) < many
    · obtain ⟨hl1, hl2⟩ := hlt
      have p0 : decide ((k : Int) < (M : Int)) = true := decide_eq_true (by omega)
      have p0' : decide (k < M) = true := decide_eq_true hl1
      have p1 : decide ((k : Int) < many) = true := decide_eq_true hl2
      have hcap := HQ.out.2.2.2.2
      obtain ⟨p, hp⟩ : ∃ p, qs[k]? = some p := ⟨_, List.getElem?_eq_getElem (by have := HQ.out.1; omega)⟩
      have hcr := HD.out.keep HFR.out (fun j hj e => by have := HBB.out; omega)
      have HADD := Lib.hid (add_head wr bb w2.heap.size _ l' 4 s qs hcr (by have := HFR.out.size; have := HBB.out; omega) (by decide) HNB.out.2.2.1 (by have := HR'.out.2.1; have := HNB.out; omega) k p hp (by
        rcases Nat.eq_zero_or_pos k with h | h
        · exact .inl h
        · right; rw [HR'.out.2.1]; exact HQ.out.2.2.2.1 k h hl1) HHD.out)
      obtain ⟨i1, x, t, m, a1, d, c1⟩ := p
      have y0 : wr.cell? ⟨gq, k * 5, none⟩ = some (.int .i64 i1) := hcr.cell hp (j := 0) rfl
      have y1 : wr.cell? ⟨gq, k * 5 + 1, none⟩ = some (.int .i64 x) := hcr.cell hp (j := 1) rfl
      have y2 : wr.cell? ⟨gq, k * 5 + 2, none⟩ = some (.int .i64 t) := hcr.cell hp (j := 2) rfl
      have y3 : wr.cell? ⟨gq, k * 5 + 3, none⟩ = some (.int .u32 m) := hcr.cell hp (j := 3) rfl
      have y4 : wr.cell? ⟨gq, k * 5 + 4, none⟩ = some (.slice a1 d c1) := hcr.cell hp (j := 4) rfl
      simp only [pcv] at HADD
      clear hcr hp
      go_wp2_with (first | (go_at_call 13; refine HADD.out.mono ?_; rintro r5 w5 ⟨hf5, hh5, rfl⟩) | go_in)
      have hmb : M ≤ 4096 := by
        rcases Nat.lt_or_ge 1 M with h | h
        · have h8 := HQ.out.2.2.2.1 (M - 1) (by omega) (by omega)
          have h9 : M - 1 ≤ (M - 1) * s := Nat.le_mul_of_pos_right _ (by have := HNB.out; omega)
          have := HNB.out
          omega
        · omega
      have HW3 : Hid ( wrap64 ((k : Int) + 1) = ((k + 1 : Nat) : Int)) := Lib.hid (by rw [wrap64]; omega)
      go_roundw
      case rel => exact ⟨k + 1, hl1, by rw [HW3.out], hh5, HFR.out.trans hf5⟩
      case measure => rw [HW3.out]; clear HW3; simp [intOf]; omega
    · by_cases hlt2 : k < M
      · have p0 : decide ((k : Int) < (M : Int)) = true := decide_eq_true (by omega)
        have p0' : decide (k < M) = true := decide_eq_true hlt2
        have p1 : decide ((k : Int) < many) = false := decide_eq_false (fun h => hlt ⟨hlt2, h⟩)
        have HS9 : Hid (Some9 wr bb l 9 ((crc l).toNat : Int)) := Lib.hid (head_some HHD.out (by have := HR'.out.2.1; have := HNB.out; omega))
        clear HHD HH4 HB4 HD HQ
        clear hlt
        go_wp2_with fail
        obtain ⟨wq, rfl⟩ : ∃ wq : World, wq = wr := ⟨_, rfl⟩
        go_loopw [19, 20] (fun jv kv w5 => ∃ j : Nat, j ≤ kn ∧ jv = .int .i64 (j : Int) ∧ Some9 w5 bb l 9 ((crc l).toNat : Int) ∧ Fr (fun k => k = bb) w3 w5) (fun jv _ _ => kn - (intOf jv).toNat)
        case atStart => exact ⟨0, Nat.zero_le _, rfl, HS9.out, HFR.out⟩
        case round =>
          obtain ⟨j, hj, rfl, hs, hf⟩ := hrel
          clear HS9 HFR p0 p0'
          have HFR := Lib.hid hf
          have HS := Lib.hid hs
          clear hf hs
          by_cases hlt : j < kn
          · have p0 : decide ((j : Int) < (kn : Int)) = true := decide_eq_true (by omega)
            have p0' : decide (j < kn) = true := decide_eq_true hlt
            have HW3 : Hid (wrap64 ((j : Int) + 1) = ((j + 1 : Nat) : Int)) := Lib.hid (by have := HNB.out; rw [wrap64]; omega)
            obtain ⟨z, hz⟩ : ∃ z, ks[j]? = some z := ⟨_, List.getElem?_eq_getElem (by have := HT.out.1; omega)⟩
            obtain ⟨kb, ko', hko, hcell⟩ := HT.out.2.1 j z hz
            subst hko
            have hkb : kb < W.heap.size := lt_of_cell hcell
            have hcw : wr.cell? ⟨kb, ko' + j, none⟩ = some (.int .i64 z) := by
              rw [World.cell?_of_block (HFR.out.block kb (Nat.lt_of_lt_of_le hkb HF3.out.size) (fun e => by have := HF3.out.size; have := HBB.out; omega)), World.cell?_of_block (HF3.out.block kb hkb id)]
              exact hcell
            have hN1 := HP.out.2.1
            have hNne : (N : Int) ≠ 0 := by omega
            have hr := tmod_lt z N hN1
            clear hz hcell hkb
            go_upto_region 20 with (fail)
            obtain ⟨r, hre⟩ : ∃ r, z.tmod (N : Int) = r := ⟨_, rfl⟩
            rw [hre] at hr ⊢
            have hcapp := HP.out.2.2.2.2
            clear hre hNne
            by_cases hr0 : r < 0
            · have r0 : decide (r < 0) = true := decide_eq_true hr0
              obtain ⟨q, hqr⟩ : ∃ q : Nat, r = -(q : Int) := ⟨r.natAbs, by omega⟩
              subst hqr
              have hq : q < N := by omega
              have hNm : N ≤ 4096 := by
                rcases Nat.lt_or_ge 1 N with h | h
                · have h8 := HP.out.2.2.2.1 (N - 1) (by omega) (by omega)
                  have h9 : N - 1 ≤ (N - 1) * s := Nat.le_mul_of_pos_right _ (by have := HNB.out; omega)
                  have := HNB.out
                  omega
                · omega
              have hw0 : wrap64 (0 - -(q : Int)) = (q : Int) := by rw [wrap64]; omega
              go_upto_region 22 with (fail)
              try rw [hw0]
              clear hw0
              obtain ⟨p, hp⟩ : ∃ p, ps[q]? = some p := ⟨_, List.getElem?_eq_getElem (by have := HP.out.1; omega)⟩
              have hcr := HC.out.keep HFR.out (fun j hj e => by have := HBB.out; omega)
              have HADD := Lib.hid (add_some wr bb w1.heap.size _ l 9 s ps hcr (by have := HFR.out.size; have := HBB.out; omega) (by decide) HNB.out.2.2.1 (by have := HR.out.2.1; have := HNB.out; omega) q p hp (by
                rcases Nat.eq_zero_or_pos q with h | h
                · exact .inl h
                · right; rw [HR.out.2.1]; exact HP.out.2.2.2.1 q h hq) HS.out)
              obtain ⟨i1, x, t, m, a1, d, c1⟩ := p
              have y0 : wr.cell? ⟨gp, q * 5, none⟩ = some (.int .i64 i1) := hcr.cell hp (j := 0) rfl
              have y1 : wr.cell? ⟨gp, q * 5 + 1, none⟩ = some (.int .i64 x) := hcr.cell hp (j := 1) rfl
              have y2 : wr.cell? ⟨gp, q * 5 + 2, none⟩ = some (.int .i64 t) := hcr.cell hp (j := 2) rfl
              have y3 : wr.cell? ⟨gp, q * 5 + 3, none⟩ = some (.int .u32 m) := hcr.cell hp (j := 3) rfl
              have y4 : wr.cell? ⟨gp, q * 5 + 4, none⟩ = some (.slice a1 d c1) := hcr.cell hp (j := 4) rfl
              simp only [pcv] at HADD
              clear hcr hp hcw
              go_wp2_with (first | (go_at_call 13; refine HADD.out.mono ?_; rintro r5 w5 ⟨hf5, hs5, xb, yv5, rfl⟩) | go_in)
              go_roundw
              case rel => exact ⟨j + 1, hlt, by first | rw [HW3.out] | simp, hs5, HFR.out.trans hf5⟩
              case measure => (try rw [HW3.out]); clear HW3; simp [intOf]; omega
            · have r0 : decide (r < 0) = false := decide_eq_false hr0
              obtain ⟨q, rfl⟩ : ∃ q : Nat, r = (q : Int) := ⟨r.natAbs, by omega⟩
              have hq : q < N := by omega
              go_upto_region 22 with (fail)
              obtain ⟨p, hp⟩ : ∃ p, ps[q]? = some p := ⟨_, List.getElem?_eq_getElem (by have := HP.out.1; omega)⟩
              have hcr := HC.out.keep HFR.out (fun j hj e => by have := HBB.out; omega)
              have HADD := Lib.hid (add_some wr bb w1.heap.size _ l 9 s ps hcr (by have := HFR.out.size; have := HBB.out; omega) (by decide) HNB.out.2.2.1 (by have := HR.out.2.1; have := HNB.out; omega) q p hp (by
                rcases Nat.eq_zero_or_pos q with h | h
                · exact .inl h
                · right; rw [HR.out.2.1]; exact HP.out.2.2.2.1 q h hq) HS.out)
              obtain ⟨i1, x, t, m, a1, d, c1⟩ := p
              have y0 : wr.cell? ⟨gp, q * 5, none⟩ = some (.int .i64 i1) := hcr.cell hp (j := 0) rfl
              have y1 : wr.cell? ⟨gp, q * 5 + 1, none⟩ = some (.int .i64 x) := hcr.cell hp (j := 1) rfl
              have y2 : wr.cell? ⟨gp, q * 5 + 2, none⟩ = some (.int .i64 t) := hcr.cell hp (j := 2) rfl
              have y3 : wr.cell? ⟨gp, q * 5 + 3, none⟩ = some (.int .u32 m) := hcr.cell hp (j := 3) rfl
              have y4 : wr.cell? ⟨gp, q * 5 + 4, none⟩ = some (.slice a1 d c1) := hcr.cell hp (j := 4) rfl
              simp only [pcv] at HADD
              clear hcr hp hcw
              go_wp2_with (first | (go_at_call 13; refine HADD.out.mono ?_; rintro r5 w5 ⟨hf5, hs5, xb, yv5, rfl⟩) | go_in)
              go_roundw
              case rel => exact ⟨j + 1, hlt, by first | rw [HW3.out] | simp, hs5, HFR.out.trans hf5⟩
              case measure => (try rw [HW3.out]); clear HW3; simp [intOf]; omega
          · have hjk : j = kn := by omega
            subst hjk
            have p0 : decide ((j : Int) < (j : Int)) = false := by simp
            have p0' : decide (j < j) = false := by simp
            clear hlt
            have HJ : Hid (j ≤ 200) := Lib.hid HNB.out.2.2.2.2
            clear HT e4 f4 g4
            go_wp2_with fail
            obtain ⟨wq2, rfl⟩ : ∃ wq : World, wq = wr := ⟨_, rfl⟩
            go_loopw [21, 22] (fun bv iv w6 => ∃ k : Nat, k ≤ N ∧ iv = .int .i64 (k : Int) ∧ Grown w6 bb l 9 ((crc l).toNat : Int) s k ∧ Fr (fun k => k = bb) w3 w6 ∧ ∃ b, bv = .bool b ∧ (k = N → b = true)) (fun _ iv _ => N - (intOf iv).toNat)
            case atStart => exact ⟨0, Nat.zero_le _, rfl, .inl ⟨rfl, HS.out⟩, HFR.out, false, rfl, fun e => by have := HP.out.2.1; omega⟩
            case round =>
              obtain ⟨q, hq, rfl, hg, hf, b, rfl, hbt⟩ := hrel
              clear HS HFR p0 p0'
              have HFR := Lib.hid hf
              have HGR := Lib.hid hg
              have HBT := Lib.hid hbt
              clear hf hg hbt
              have hNm : N ≤ 4096 := by
                rcases Nat.lt_or_ge 1 N with h | h
                · have h8 := HP.out.2.2.2.1 (N - 1) (by omega) (by omega)
                  have h9 : N - 1 ≤ (N - 1) * s := Nat.le_mul_of_pos_right _ (by have := HNB.out; omega)
                  have := HNB.out
                  omega
                · omega
              by_cases hlt : q < N
              · have p0 : decide ((q : Int) < (N : Int)) = true := decide_eq_true (by omega)
                have p0' : decide (q < N) = true := decide_eq_true hlt
                have hcapp := HP.out.2.2.2.2
                obtain ⟨p, hp⟩ : ∃ p, ps[q]? = some p := ⟨_, List.getElem?_eq_getElem (by have := HP.out.1; omega)⟩
                have hcr := HC.out.keep HFR.out (fun j hj e => by have := HBB.out; omega)
                have HADD := Lib.hid (add_grown wr bb w1.heap.size _ l 9 s ps hcr (by have := HFR.out.size; have := HBB.out; omega) (by decide) HNB.out.2.2.1 (by have := HR.out.2.1; have := HNB.out; omega) q p hp (by
                  rcases Nat.eq_zero_or_pos q with h | h
                  · exact .inl h
                  · right; rw [HR.out.2.1]; exact HP.out.2.2.2.1 q h hlt) HGR.out)
                obtain ⟨i1, x, t, m, a1, d, c1⟩ := p
                have y0 : wr.cell? ⟨gp, q * 5, none⟩ = some (.int .i64 i1) := hcr.cell hp (j := 0) rfl
                have y1 : wr.cell? ⟨gp, q * 5 + 1, none⟩ = some (.int .i64 x) := hcr.cell hp (j := 1) rfl
                have y2 : wr.cell? ⟨gp, q * 5 + 2, none⟩ = some (.int .i64 t) := hcr.cell hp (j := 2) rfl
                have y3 : wr.cell? ⟨gp, q * 5 + 3, none⟩ = some (.int .u32 m) := hcr.cell hp (j := 3) rfl
                have y4 : wr.cell? ⟨gp, q * 5 + 4, none⟩ = some (.slice a1 d c1) := hcr.cell hp (j := 4) rfl
                simp only [pcv] at HADD
                clear hcr hp
                have HW3 : Hid (wrap64 ((q : Int) + 1) = ((q + 1 : Nat) : Int)) := Lib.hid (by rw [wrap64]; omega)
                clear hNm
                go_wp2_with (first | (go_at_call 13; refine HADD.out.mono ?_; rintro r5 w5 ⟨hf5, mm, hm1, hm2, hb5, rfl⟩) | go_in)
                go_roundw
                case rel =>
                  refine ⟨q + 1, hlt, by first | rw [HW3.out] | simp, .inr ⟨by omega, mm, hm1, hm2, hb5⟩, HFR.out.trans hf5, _, rfl, fun e => ?_⟩
                  have h1 := HP.out.2.2.1
                  have h2 := HR.out.2.1
                  have h3 : mm = l.length := by
                    rcases hm2 with h | h
                    · rw [e] at h; omega
                    · exact h
                  rw [h3]
                  simp
                case measure => (try rw [HW3.out]); clear HW3; simp [intOf]; omega
              · have hqN : q = N := by omega
                subst hqN
                obtain rfl : b = true := HBT.out rfl
                have p0 : decide ((q : Int) < (q : Int)) = false := by simp
                have p0' : decide (q < q) = false := by simp
                have hbs := grown_all HGR.out HP.out.2.1 (by have := HP.out.2.2.1; have := HR.out.2.1; omega)
                have HD1 := Lib.hid (Done_any wr bb bb 9 l.length ((crc l).toNat : Int) l hbs (by have := HFR.out.size; have := HBB.out; omega) (by have := HR.out.2.1; have := HNB.out; omega))
                clear hbs hlt HBT HGR hNm
                go_upto_region 32 with (first | (go_at_call 14; refine HD1.out.mono ?_; rintro r6 w6 ⟨hf6, _, hg6⟩; obtain ⟨_, _, hok⟩ := hg6 (by omega); obtain ⟨v6, rfl, ho6⟩ := hok rfl) | go_in)
                have hf36 := HFR.out.trans hf6
                have hfall : Fr (fun _ => False) W w6 := Fr.above' HF3.out hf36 (fun k e => by have := HF3.out.size; have := HBB.out; omega)
                obtain ⟨ao7, cp7, rfl, hc7, hx7, hr7, hz7⟩ := ho6.row
                rw [HR.out.2.1] at hc7 ⊢
                have k7 := str_of w6 ao7 n cp7 l hr7 HR.out.2.1 hc7 (fun e => by
                  subst e
                  rcases ho6.form with ⟨e1, _⟩ | ⟨g', c', e1, _⟩
                  · injection e1
                  · cases e1)
                have k8 := str_of w6 ao n cp l (HR.out.1.fr0 hfall) HR.out.2.1 HR.out.2.2.1 (fun e => (HR.out.2.2.2.2 e).2)
                have hd := arr_beq l.toArray
                have HFA := Lib.hid hfall
                clear hf36 hfall ho6 hc7 hx7 hr7 hz7 hg6 hok hf6 HD1 HFR
                go_wp2
                go_ret
                exact ⟨rfl, HFA.out⟩
      · have p0 : decide ((k : Int) < (M : Int)) = false := decide_eq_false (by omega)
        have p0' : decide (k < M) = false := decide_eq_false hlt2
        have HS9 : Hid (Some9 wr bb l 9 ((crc l).toNat : Int)) := Lib.hid (head_some HHD.out (by have := HR'.out.2.1; have := HNB.out; omega))
        clear HHD HH4 HB4 HD HQ
        clear hlt
        go_wp2_with fail
        obtain ⟨wq, rfl⟩ : ∃ wq : World, wq = wr := ⟨_, rfl⟩
        go_loopw [19, 20] (fun jv kv w5 => ∃ j : Nat, j ≤ kn ∧ jv = .int .i64 (j : Int) ∧ Some9 w5 bb l 9 ((crc l).toNat : Int) ∧ Fr (fun k => k = bb) w3 w5) (fun jv _ _ => kn - (intOf jv).toNat)
        case atStart => exact ⟨0, Nat.zero_le _, rfl, HS9.out, HFR.out⟩
        case round =>
          obtain ⟨j, hj, rfl, hs, hf⟩ := hrel
          clear HS9 HFR p0 p0'
          have HFR := Lib.hid hf
          have HS := Lib.hid hs
          clear hf hs
          by_cases hlt : j < kn
          · have p0 : decide ((j : Int) < (kn : Int)) = true := decide_eq_true (by omega)
            have p0' : decide (j < kn) = true := decide_eq_true hlt
            have HW3 : Hid (wrap64 ((j : Int) + 1) = ((j + 1 : Nat) : Int)) := Lib.hid (by have := HNB.out; rw [wrap64]; omega)
            obtain ⟨z, hz⟩ : ∃ z, ks[j]? = some z := ⟨_, List.getElem?_eq_getElem (by have := HT.out.1; omega)⟩
            obtain ⟨kb, ko', hko, hcell⟩ := HT.out.2.1 j z hz
            subst hko
            have hkb : kb < W.heap.size := lt_of_cell hcell
            have hcw : wr.cell? ⟨kb, ko' + j, none⟩ = some (.int .i64 z) := by
              rw [World.cell?_of_block (HFR.out.block kb (Nat.lt_of_lt_of_le hkb HF3.out.size) (fun e => by have := HF3.out.size; have := HBB.out; omega)), World.cell?_of_block (HF3.out.block kb hkb id)]
              exact hcell
            have hN1 := HP.out.2.1
            have hNne : (N : Int) ≠ 0 := by omega
            have hr := tmod_lt z N hN1
            clear hz hcell hkb
            go_upto_region 20 with (fail)
            obtain ⟨r, hre⟩ : ∃ r, z.tmod (N : Int) = r := ⟨_, rfl⟩
            rw [hre] at hr ⊢
            have hcapp := HP.out.2.2.2.2
            clear hre hNne
            by_cases hr0 : r < 0
            · have r0 : decide (r < 0) = true := decide_eq_true hr0
              obtain ⟨q, hqr⟩ : ∃ q : Nat, r = -(q : Int) := ⟨r.natAbs, by omega⟩
              subst hqr
              have hq : q < N := by omega
              have hNm : N ≤ 4096 := by
                rcases Nat.lt_or_ge 1 N with h | h
                · have h8 := HP.out.2.2.2.1 (N - 1) (by omega) (by omega)
                  have h9 : N - 1 ≤ (N - 1) * s := Nat.le_mul_of_pos_right _ (by have := HNB.out; omega)
                  have := HNB.out
                  omega
                · omega
              have hw0 : wrap64 (0 - -(q : Int)) = (q : Int) := by rw [wrap64]; omega
              go_upto_region 22 with (fail)
              try rw [hw0]
              clear hw0
              obtain ⟨p, hp⟩ : ∃ p, ps[q]? = some p := ⟨_, List.getElem?_eq_getElem (by have := HP.out.1; omega)⟩
              have hcr := HC.out.keep HFR.out (fun j hj e => by have := HBB.out; omega)
              have HADD := Lib.hid (add_some wr bb w1.heap.size _ l 9 s ps hcr (by have := HFR.out.size; have := HBB.out; omega) (by decide) HNB.out.2.2.1 (by have := HR.out.2.1; have := HNB.out; omega) q p hp (by
                rcases Nat.eq_zero_or_pos q with h | h
                · exact .inl h
                · right; rw [HR.out.2.1]; exact HP.out.2.2.2.1 q h hq) HS.out)
              obtain ⟨i1, x, t, m, a1, d, c1⟩ := p
              have y0 : wr.cell? ⟨gp, q * 5, none⟩ = some (.int .i64 i1) := hcr.cell hp (j := 0) rfl
              have y1 : wr.cell? ⟨gp, q * 5 + 1, none⟩ = some (.int .i64 x) := hcr.cell hp (j := 1) rfl
              have y2 : wr.cell? ⟨gp, q * 5 + 2, none⟩ = some (.int .i64 t) := hcr.cell hp (j := 2) rfl
              have y3 : wr.cell? ⟨gp, q * 5 + 3, none⟩ = some (.int .u32 m) := hcr.cell hp (j := 3) rfl
              have y4 : wr.cell? ⟨gp, q * 5 + 4, none⟩ = some (.slice a1 d c1) := hcr.cell hp (j := 4) rfl
              simp only [pcv] at HADD
              clear hcr hp hcw
              go_wp2_with (first | (go_at_call 13; refine HADD.out.mono ?_; rintro r5 w5 ⟨hf5, hs5, xb, yv5, rfl⟩) | go_in)
              go_roundw
              case rel => exact ⟨j + 1, hlt, by first | rw [HW3.out] | simp, hs5, HFR.out.trans hf5⟩
              case measure => (try rw [HW3.out]); clear HW3; simp [intOf]; omega
            · have r0 : decide (r < 0) = false := decide_eq_false hr0
              obtain ⟨q, rfl⟩ : ∃ q : Nat, r = (q : Int) := ⟨r.natAbs, by omega⟩
              have hq : q < N := by omega
              go_upto_region 22 with (fail)
              obtain ⟨p, hp⟩ : ∃ p, ps[q]? = some p := ⟨_, List.getElem?_eq_getElem (by have := HP.out.1; omega)⟩
              have hcr := HC.out.keep HFR.out (fun j hj e => by have := HBB.out; omega)
              have HADD := Lib.hid (add_some wr bb w1.heap.size _ l 9 s ps hcr (by have := HFR.out.size; have := HBB.out; omega) (by decide) HNB.out.2.2.1 (by have := HR.out.2.1; have := HNB.out; omega) q p hp (by
                rcases Nat.eq_zero_or_pos q with h | h
                · exact .inl h
                · right; rw [HR.out.2.1]; exact HP.out.2.2.2.1 q h hq) HS.out)
              obtain ⟨i1, x, t, m, a1, d, c1⟩ := p
              have y0 : wr.cell? ⟨gp, q * 5, none⟩ = some (.int .i64 i1) := hcr.cell hp (j := 0) rfl
              have y1 : wr.cell? ⟨gp, q * 5 + 1, none⟩ = some (.int .i64 x) := hcr.cell hp (j := 1) rfl
              have y2 : wr.cell? ⟨gp, q * 5 + 2, none⟩ = some (.int .i64 t) := hcr.cell hp (j := 2) rfl
              have y3 : wr.cell? ⟨gp, q * 5 + 3, none⟩ = some (.int .u32 m) := hcr.cell hp (j := 3) rfl
              have y4 : wr.cell? ⟨gp, q * 5 + 4, none⟩ = some (.slice a1 d c1) := hcr.cell hp (j := 4) rfl
              simp only [pcv] at HADD
              clear hcr hp hcw
              go_wp2_with (first | (go_at_call 13; refine HADD.out.mono ?_; rintro r5 w5 ⟨hf5, hs5, xb, yv5, rfl⟩) | go_in)
              go_roundw
              case rel => exact ⟨j + 1, hlt, by first | rw [HW3.out] | simp, hs5, HFR.out.trans hf5⟩
              case measure => (try rw [HW3.out]); clear HW3; simp [intOf]; omega
          · have hjk : j = kn := by omega
            subst hjk
            have p0 : decide ((j : Int) < (j : Int)) = false := by simp
            have p0' : decide (j < j) = false := by simp
            clear hlt
            have HJ : Hid (j ≤ 200) := Lib.hid HNB.out.2.2.2.2
            clear HT e4 f4 g4
            go_wp2_with fail
            obtain ⟨wq2, rfl⟩ : ∃ wq : World, wq = wr := ⟨_, rfl⟩
            go_loopw [21, 22] (fun bv iv w6 => ∃ k : Nat, k ≤ N ∧ iv = .int .i64 (k : Int) ∧ Grown w6 bb l 9 ((crc l).toNat : Int) s k ∧ Fr (fun k => k = bb) w3 w6 ∧ ∃ b, bv = .bool b ∧ (k = N → b = true)) (fun _ iv _ => N - (intOf iv).toNat)
            case atStart => exact ⟨0, Nat.zero_le _, rfl, .inl ⟨rfl, HS.out⟩, HFR.out, false, rfl, fun e => by have := HP.out.2.1; omega⟩
            case round =>
              obtain ⟨q, hq, rfl, hg, hf, b, rfl, hbt⟩ := hrel
              clear HS HFR p0 p0'
              have HFR := Lib.hid hf
              have HGR := Lib.hid hg
              have HBT := Lib.hid hbt
              clear hf hg hbt
              have hNm : N ≤ 4096 := by
                rcases Nat.lt_or_ge 1 N with h | h
                · have h8 := HP.out.2.2.2.1 (N - 1) (by omega) (by omega)
                  have h9 : N - 1 ≤ (N - 1) * s := Nat.le_mul_of_pos_right _ (by have := HNB.out; omega)
                  have := HNB.out
                  omega
                · omega
              by_cases hlt : q < N
              · have p0 : decide ((q : Int) < (N : Int)) = true := decide_eq_true (by omega)
                have p0' : decide (q < N) = true := decide_eq_true hlt
                have hcapp := HP.out.2.2.2.2
                obtain ⟨p, hp⟩ : ∃ p, ps[q]? = some p := ⟨_, List.getElem?_eq_getElem (by have := HP.out.1; omega)⟩
                have hcr := HC.out.keep HFR.out (fun j hj e => by have := HBB.out; omega)
                have HADD := Lib.hid (add_grown wr bb w1.heap.size _ l 9 s ps hcr (by have := HFR.out.size; have := HBB.out; omega) (by decide) HNB.out.2.2.1 (by have := HR.out.2.1; have := HNB.out; omega) q p hp (by
                  rcases Nat.eq_zero_or_pos q with h | h
                  · exact .inl h
                  · right; rw [HR.out.2.1]; exact HP.out.2.2.2.1 q h hlt) HGR.out)
                obtain ⟨i1, x, t, m, a1, d, c1⟩ := p
                have y0 : wr.cell? ⟨gp, q * 5, none⟩ = some (.int .i64 i1) := hcr.cell hp (j := 0) rfl
                have y1 : wr.cell? ⟨gp, q * 5 + 1, none⟩ = some (.int .i64 x) := hcr.cell hp (j := 1) rfl
                have y2 : wr.cell? ⟨gp, q * 5 + 2, none⟩ = some (.int .i64 t) := hcr.cell hp (j := 2) rfl
                have y3 : wr.cell? ⟨gp, q * 5 + 3, none⟩ = some (.int .u32 m) := hcr.cell hp (j := 3) rfl
                have y4 : wr.cell? ⟨gp, q * 5 + 4, none⟩ = some (.slice a1 d c1) := hcr.cell hp (j := 4) rfl
                simp only [pcv] at HADD
                clear hcr hp
                have HW3 : Hid (wrap64 ((q : Int) + 1) = ((q + 1 : Nat) : Int)) := Lib.hid (by rw [wrap64]; omega)
                clear hNm
                go_wp2_with (first | (go_at_call 13; refine HADD.out.mono ?_; rintro r5 w5 ⟨hf5, mm, hm1, hm2, hb5, rfl⟩) | go_in)
                go_roundw
                case rel =>
                  refine ⟨q + 1, hlt, by first | rw [HW3.out] | simp, .inr ⟨by omega, mm, hm1, hm2, hb5⟩, HFR.out.trans hf5, _, rfl, fun e => ?_⟩
                  have h1 := HP.out.2.2.1
                  have h2 := HR.out.2.1
                  have h3 : mm = l.length := by
                    rcases hm2 with h | h
                    · rw [e] at h; omega
                    · exact h
                  rw [h3]
                  simp
                case measure => (try rw [HW3.out]); clear HW3; simp [intOf]; omega
              · have hqN : q = N := by omega
                subst hqN
                obtain rfl : b = true := HBT.out rfl
                have p0 : decide ((q : Int) < (q : Int)) = false := by simp
                have p0' : decide (q < q) = false := by simp
                have hbs := grown_all HGR.out HP.out.2.1 (by have := HP.out.2.2.1; have := HR.out.2.1; omega)
                have HD1 := Lib.hid (Done_any wr bb bb 9 l.length ((crc l).toNat : Int) l hbs (by have := HFR.out.size; have := HBB.out; omega) (by have := HR.out.2.1; have := HNB.out; omega))
                clear hbs hlt HBT HGR hNm
                go_upto_region 32 with (first | (go_at_call 14; refine HD1.out.mono ?_; rintro r6 w6 ⟨hf6, _, hg6⟩; obtain ⟨_, _, hok⟩ := hg6 (by omega); obtain ⟨v6, rfl, ho6⟩ := hok rfl) | go_in)
                have hf36 := HFR.out.trans hf6
                have hfall : Fr (fun _ => False) W w6 := Fr.above' HF3.out hf36 (fun k e => by have := HF3.out.size; have := HBB.out; omega)
                obtain ⟨ao7, cp7, rfl, hc7, hx7, hr7, hz7⟩ := ho6.row
                rw [HR.out.2.1] at hc7 ⊢
                have k7 := str_of w6 ao7 n cp7 l hr7 HR.out.2.1 hc7 (fun e => by
                  subst e
                  rcases ho6.form with ⟨e1, _⟩ | ⟨g', c', e1, _⟩
                  · injection e1
                  · cases e1)
                have k8 := str_of w6 ao n cp l (HR.out.1.fr0 hfall) HR.out.2.1 HR.out.2.2.1 (fun e => (HR.out.2.2.2.2 e).2)
                have hd := arr_beq l.toArray
                have HFA := Lib.hid hfall
                clear hf36 hfall ho6 hc7 hx7 hr7 hz7 hg6 hok hf6 HD1 HFR
                go_wp2
                go_ret
                exact ⟨rfl, HFA.out⟩
end Go.Proofs.YtookojfigjdgcaaDoor
