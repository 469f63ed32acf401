/- The document's Cut. -/
import Derived.Test.YtookojfigjdgcaaDoorP
set_option linter.unusedVariables false
set_option linter.unusedSimpArgs false
namespace Go.Proofs.YtookojfigjdgcaaDoor
open Go.RowKit
theorem Fr.above' {S : Nat → Prop} {W W1 W2 : World} (h1 : Fr (fun _ => False) W W1) (h2 : Fr S W1 W2) (hS : ∀ k, S k → W.heap.size ≤ k) : Fr (fun _ => False) W W2 :=
  ⟨h2.os.trans h1.os, h2.tape.trans h1.tape, h2.output.trans h1.output, Nat.le_trans h1.size h2.size, fun k hk _ => (h2.block k (Nat.lt_of_lt_of_le hk h1.size) (fun e => by have := hS k e; omega)).trans (h1.block k hk id)⟩
set_option maxRecDepth 100000 in
theorem rcut_bad (W : World) (id : Int) (ao : Option Addr) (cp n : Nat) (sz : Int) (hb : id < 0 ∨ sz < 1 ∨ 65536 < sz) :
    Calls Tryd.prog 9 #[.int .i64 id, .slice ao n cp, .int .i64 sz] W fun r W' => r = .returned (.tuple #[.slice none 0 0, .int .i64 1]) ∧ W = W' := by
  by_cases h1 : id < 0
  · have p1 : decide (id < 0) = true := decide_eq_true h1
    go_enter Tryd.func9, Tryd.ntmps9
    go_wp2
    go_ret2
    exact ⟨rfl, rfl⟩
  have p1 : decide (id < 0) = false := decide_eq_false h1
  by_cases h2 : sz < 1
  · have p2 : decide (sz < 1) = true := decide_eq_true h2
    go_enter Tryd.func9, Tryd.ntmps9
    go_wp2
    go_ret2
    exact ⟨rfl, rfl⟩
  have p2 : decide (sz < 1) = false := decide_eq_false h2
  have p3 : decide (65536 < sz) = true := decide_eq_true (by omega)
  go_enter Tryd.func9, Tryd.ntmps9
  go_wp2
  go_ret2
  exact ⟨rfl, rfl⟩
set_option maxRecDepth 100000 in
set_option maxHeartbeats 4000000 in
theorem rcut_good (W : World) (id : Int) (ao : Option Addr) (cp n : Nat) (l : List UInt8) (hl : RowY W ao l) (hn : l.length = n) (hm : n ≤ 1000000) (hcp : n ≤ cp) (hcm : cp ≤ 9223372036854775807) (sz : Nat) (h1 : 0 ≤ id) (h2 : 1 ≤ sz) (h3 : sz ≤ 65536) :
    Calls Tryd.prog 9 #[.int .i64 id, .slice ao n cp, .int .i64 (sz : Int)] W fun r W' => ∃ (v : Value) (ps : List Pc), r = .returned (.tuple #[v, .int .i64 0]) ∧ CutR W' W.heap.size 37 v l id sz ps ∧ 1 ≤ ps.length ∧ n ≤ ps.length * sz ∧ (∀ j, 1 ≤ j → j < ps.length → j * sz < n) ∧ Fr (fun _ => False) W W' := by
  have p1 : decide (id < 0) = false := decide_eq_false (by omega)
  have p2 : decide ((sz : Int) < 1) = false := decide_eq_false (by omega)
  have p3 : decide (65536 < (sz : Int)) = false := decide_eq_false (by omega)
  have p3' : decide (65536 < sz) = false := decide_eq_false (by omega)
  have p4 : decide (1048576 < (n : Int)) = false := decide_eq_false (by omega)
  have p4' : decide (1048576 < n) = false := decide_eq_false (by omega)
  have HL := Lib.hid hl
  have HN := Lib.hid hn
  have HM := Lib.hid (And.intro hm (And.intro hcp (And.intro hcm (And.intro h2 h3))))
  have HSUM := Lib.hid (rsum_any W ao cp n l hl hn (by omega))
  obtain ⟨sm, hsm⟩ : ∃ z : Int, ((crc l).toNat : Int) = z := ⟨_, rfl⟩
  rw [hsm] at HSUM
  have HSM := Lib.hid hsm
  obtain ⟨B, hB⟩ : ∃ B, W.heap.size = B := ⟨_, rfl⟩
  have HB := Lib.hid hB
  clear hl hn hm hcp hcm h2 h3 hsm hB
  go_enter Tryd.func9, Tryd.ntmps9
  go_wp2_with fail
  refine HSUM.out.mono ?_
  rintro r2 w2 ⟨rfl, rfl⟩
  clear HSUM
  go_wp2_with fail
  go_loopw [9, 10] (fun ov av wr => ∃ (k : Nat) (v : Value) (ps : List Pc), v = ov ∧ av = .int .i64 ((k * sz : Nat) : Int) ∧ (∀ j, 1 ≤ j → j < ps.length → j * sz < n) ∧ ps.length = k ∧ CutR wr B 37 v l id sz ps ∧ Fr (fun _ => False) W wr) (fun _ av _ => n + 1 - (intOf av).toNat)
  case atStart => exact ⟨0, _, [], rfl, by simp, fun j h1 h2 => by simp at h2, rfl, ⟨OwnP.nil0 _ _ _, fun k p h => by simp at h⟩, Fr.refl _ _⟩
  case round =>
    obtain ⟨k, v, ps, rfl, rfl, hlt, hlen, hcut, hf⟩ := hrel
    have HCUT := Lib.hid hcut
    have HLT := Lib.hid hlt
    have HF := Lib.hid hf
    have HLEN := Lib.hid hlen
    obtain ⟨a, ha⟩ : ∃ a, k * sz = a := ⟨_, rfl⟩
    have HA := Lib.hid ha
    have hmm := HM.out
    rw [ha]
    have hak : (k = 0 ∧ a = 0) ∨ (1 ≤ k ∧ k ≤ a ∧ 1 ≤ a) := by
      rcases Nat.eq_zero_or_pos k with h | h
      · exact .inl ⟨h, by rw [← ha, h, Nat.zero_mul]⟩
      · have h4 : k ≤ k * sz := Nat.le_mul_of_pos_right k (by omega)
        exact .inr ⟨h, by omega, by omega⟩
    have HAK := Lib.hid hak
    clear hcut hlt hf hlen ha
    have HBB : Hid (B ≤ wr.heap.size) := Lib.hid (by have := HF.out.size; have := HB.out; omega)
    by_cases hgo : a = 0 ∨ a < n
    · have HGO := Lib.hid hgo
      have han : a ≤ n := by rcases hgo with h | h <;> omega
      have HAN := Lib.hid han
      have hk1 : ps.length + 1 ≤ 10000000 := by
        have h1 := HLEN.out
        have h2 := HM.out
        omega
      have HK1 := Lib.hid hk1
      clear hk1
      by_cases ha0 : a = 0
      · have p5 : ((a : Int) == 0) = true := by simp; omega
        have p5' : (a == 0) = true := by simp; omega
        clear ha0 hgo hak
        have q1 : IntKind.i64.wrap ((n : Int) - a) = ((n - a : Nat) : Int) := by have := HAN.out; have := HM.out; simp [IntKind.wrap, IntKind.bits, IntKind.signed]; omega
        by_cases hs : sz ≤ n - a
        · have s1 : decide ((n : Int) - a < (sz : Int)) = false := decide_eq_false (by omega)
          have e6 : a + sz - a = sz := Nat.add_sub_cancel_left a sz
          have hrow : RowY wr (Option.map (fun x => x.add a) ao) (pcL l sz k) := by
            have h := HL.out.fr0 HF.out
            unfold pcL
            rw [HA.out]
            rcases h with h | ⟨b, o, rfl, hb, hc⟩
            · exact .inl (by rw [h]; simp)
            · refine .inr ⟨b, o + a, by show some ((⟨b, o, none⟩ : Addr).add a) = _; rw [off_add], hb, fun i x hx => ?_⟩
              rw [List.getElem?_take] at hx
              split at hx
              · rw [List.getElem?_drop] at hx
                rw [Nat.add_assoc]
                exact hc _ x hx
              · cases hx
          have hplen : (pcL l sz k).length = sz := by
            unfold pcL
            rw [HA.out, List.length_take, List.length_drop, HN.out]
            omega
          have HPL := Lib.hid hplen
          have he := OwnY.empty wr B HBB.out
          have hfe : Fr (fun _ => False) wr (wr.alloc (.cells #[] 5)) := Fr.alloc _ _ _
          obtain ⟨g0, hg0⟩ : ∃ g, wr.heap.size = g := ⟨_, rfl⟩
          have HBG : Hid (B ≤ g0) := Lib.hid (by have := HBB.out; omega)
          have HG0 := Lib.hid hg0
          obtain ⟨w2, hw2⟩ : ∃ w, wr.alloc (.cells #[] 5) = w := ⟨_, rfl⟩
          rw [hw2] at he hfe
          rw [hg0] at he
          have HF2 := Lib.hid (HF.out.trans hfe)
          have hrow2 := hrow.fr0 hfe
          have hs2 : B ≤ w2.heap.size := by have := hfe.size; have := HBB.out; omega
          have hop2 := HCUT.out.o.fr hfe (fun _ _ e => e)
          have HP2 := Lib.hid (fun (j : Nat) (p : Pc) (hj : ps[j]? = some p) => ((HCUT.out.p j p hj).2.2.2.2).fr hfe (fun _ _ e => e))
          obtain ⟨v2, w3, hrun3, ho3, hf3, hob3⟩ := app_y w2 B (.slice (some ⟨g0, 0, none⟩) 0 0) [] (pcL l sz k) 22 hs2 he (Option.map (fun x => x.add a) ao) (cp - a) sz hrow2 hplen (by rw [List.length_nil]; have := HM.out; omega)
          rw [List.nil_append] at ho3
          obtain ⟨ao2, cp2, rfl, _, _, _, _⟩ := ho3.row
          rw [HPL.out] at ho3 hrun3
          have h5g : ∀ (c : Nat), (Value.slice (some ⟨g0, 0, none⟩) 0 0).ownBlock = some c → c = g0 := fun c e => by
            have : g0 = c := by simpa [Value.ownBlock] using e
            exact this.symm
          have hop3 := hop2.fr hf3 (fun c hc e => by
            obtain ⟨_, _, cs, h1⟩ := hop2.ob hc
            obtain ⟨_, _, cs2, h2⟩ := he.ob e
            rw [h1] at h2
            cases h2)
          have hpp3 : ∀ (j : Nat) (p : Pc), ps[j]? = some p → OwnY w3 B (.slice p.ao p.dl p.cp) (pcL l sz j) := fun j p hj => (HP2.out j p hj).fr hf3 (fun c hc e => by
            have e1 := h5g c e
            obtain ⟨_, h2, _⟩ := ((HCUT.out.p j p hj).2.2.2.2).ob hc
            have := HG0.out
            omega)
          have HF3 : Hid (Fr (fun _ => False) W w3) := Lib.hid (HF2.out.above' hf3 (fun c e => by have := h5g c e; have := HBG.out; have := HB.out; omega))
          have hb4 := Blk.new w3 37 (pcv ⟨id, (a : Int), (n : Int), sm, ao2, sz, cp2⟩)
          have hf4 : Fr (fun _ => False) w3 (w3.alloc (.cells (pcv ⟨id, (a : Int), (n : Int), sm, ao2, sz, cp2⟩) 37)) := Fr.alloc _ _ _
          have ho4 := ho3.fr hf4 (fun _ _ e => e)
          have hop4 := hop3.fr hf4 (fun _ _ e => e)
          have hpp4 : ∀ (j : Nat) (p : Pc), ps[j]? = some p → OwnY (w3.alloc (.cells (pcv ⟨id, (a : Int), (n : Int), sm, ao2, sz, cp2⟩) 37)) B (.slice p.ao p.dl p.cp) (pcL l sz j) := fun j p hj => (hpp3 j p hj).fr hf4 (fun _ _ e => e)
          obtain ⟨g, hg⟩ : ∃ g, w3.heap.size = g := ⟨_, rfl⟩
          obtain ⟨w4, hw4⟩ : ∃ w, w3.alloc (.cells (pcv ⟨id, (a : Int), (n : Int), sm, ao2, sz, cp2⟩) 37) = w := ⟨_, rfl⟩
          rw [hw4] at hb4 hf4 ho4 hop4 hpp4
          rw [hg] at hb4
          have hB4 : B ≤ w4.heap.size := by have := hf3.size; have := hf4.size; omega
          obtain ⟨v5, w5, hrun, ho5, hf5, hob5⟩ := app_p 29 37 29 Tryd.underlying29 infoP37 w4 B v ps ⟨id, (a : Int), (n : Int), sm, ao2, sz, cp2⟩ hB4 hop4 g hb4 HK1.out
          have hnew : CutR w5 B 37 v5 l id sz (ps ++ [⟨id, (a : Int), (n : Int), sm, ao2, sz, cp2⟩]) := by
            refine ⟨ho5, fun j p hj => ?_⟩
            have hnb : ∀ (v : Value) (x : List UInt8), OwnY w4 B v x → OwnY w5 B v x := fun v' x h => h.fr hf5 (fun q hq e => by
              obtain ⟨_, _, cs, h1⟩ := hop4.ob e
              obtain ⟨_, _, cs2, h2⟩ := h.ob hq
              rw [h1] at h2
              cases h2)
            rcases Nat.lt_or_ge j ps.length with hj1 | hj1
            · rw [List.getElem?_append_left hj1] at hj
              obtain ⟨q1, q2, q3, q4, q5⟩ := HCUT.out.p j p hj
              exact ⟨q1, q2, q3, q4, hnb _ _ (hpp4 j p hj)⟩
            · rw [List.getElem?_append_right hj1] at hj
              have hj0 : j = ps.length := by
                have := (List.getElem?_eq_some_iff.1 hj).1
                simp at this
                omega
              subst hj0
              rw [Nat.sub_self] at hj
              cases hj
              refine ⟨rfl, by rw [HLEN.out, HA.out], by rw [HN.out], HSM.out.symm, ?_⟩
              rw [HLEN.out]
              exact hnb _ _ ho4
          have HNEW := Lib.hid hnew
          have HF5 : Hid (Fr (fun _ => False) W w5) := Lib.hid ((HF3.out.trans hf4).above' hf5 (fun c e => by have := (hop4.ob e).1; have := HB.out; omega))
          simp only [pcv] at hw4
          clear hnew ho5 hf5 hob5 hop4 hpp4 hB4 hb4 hf4 ho4 hop3 hpp3 ho3 hf3 hob3 h5g hop2 hs2 hrow2 hfe he hrow hplen
          go_wp2_with (at_builtin; (try rw [hw2]); (try rw [hg0]); (try rw [hw4]); (try rw [hg]); (try rw [e6]); first | (refine wpList_appRun rfl _ _ _ rfl _ _ _ rfl rfl hrun3 ?_) | (refine wpList_appRun rfl _ _ _ rfl _ _ _ rfl rfl hrun ?_))
          clear hrun hrun3 hw4 hg hw2 hg0
          go_roundw
          case rel =>
            refine ⟨k + 1, v5, ps ++ [⟨id, (a : Int), (n : Int), sm, ao2, sz, cp2⟩], rfl, ?_, fun j h1 h2 => ?_, by rw [List.length_append, HLEN.out]; rfl, HNEW.out, HF5.out⟩
            · have := HA.out
              show _ = Value.int .i64 (((k + 1) * sz : Nat) : Int)
              rw [Nat.add_mul, Nat.one_mul, this]
              first | rfl | (congr 1)
            · rw [List.length_append] at h2
              simp only [List.length_cons, List.length_nil] at h2
              by_cases e : j = ps.length
              · have h3 := HA.out
                have h4 := HGO.out
                have h5 := HAK.out
                have h6 := HLEN.out
                rw [e, h6, h3]
                omega
              · exact HLT.out j h1 (by omega)
          case measure => have := HM.out; have := HAN.out; simp [intOf]; omega
        · have s1 : decide ((n : Int) - a < (sz : Int)) = true := decide_eq_true (by omega)
          have s2 : (a : Int) + ((n : Int) - a) = (n : Int) := by omega
          have e6 : True := trivial
          by_cases hca : cp = a
          · subst hca
            have hna : n = cp := by have := HM.out; omega
            subst hna
            have hrow : RowY wr ao (pcL l sz k) := .inl (by
              unfold pcL
              rw [HA.out, List.drop_eq_nil_of_le (by rw [HN.out]; omega)]
              simp)
            have hplen : (pcL l sz k).length = 0 := by
              unfold pcL
              rw [HA.out, List.length_take, List.length_drop, HN.out]
              omega
            have HPL := Lib.hid hplen
            have he := OwnY.empty wr B HBB.out
            have hfe : Fr (fun _ => False) wr (wr.alloc (.cells #[] 5)) := Fr.alloc _ _ _
            obtain ⟨g0, hg0⟩ : ∃ g, wr.heap.size = g := ⟨_, rfl⟩
            have HBG : Hid (B ≤ g0) := Lib.hid (by have := HBB.out; omega)
            have HG0 := Lib.hid hg0
            obtain ⟨w2, hw2⟩ : ∃ w, wr.alloc (.cells #[] 5) = w := ⟨_, rfl⟩
            rw [hw2] at he hfe
            rw [hg0] at he
            have HF2 := Lib.hid (HF.out.trans hfe)
            have hrow2 := hrow.fr0 hfe
            have hs2 : B ≤ w2.heap.size := by have := hfe.size; have := HBB.out; omega
            have hop2 := HCUT.out.o.fr hfe (fun _ _ e => e)
            have HP2 := Lib.hid (fun (j : Nat) (p : Pc) (hj : ps[j]? = some p) => ((HCUT.out.p j p hj).2.2.2.2).fr hfe (fun _ _ e => e))
            obtain ⟨v2, w3, hrun3, ho3, hf3, hob3⟩ := app_y w2 B (.slice (some ⟨g0, 0, none⟩) 0 0) [] (pcL l sz k) 22 hs2 he (ao) 0 0 hrow2 hplen (by rw [List.length_nil]; have := HM.out; omega)
            rw [List.nil_append] at ho3
            obtain ⟨ao2, cp2, rfl, _, _, _, _⟩ := ho3.row
            rw [HPL.out] at ho3 hrun3
            have h5g : ∀ (c : Nat), (Value.slice (some ⟨g0, 0, none⟩) 0 0).ownBlock = some c → c = g0 := fun c e => by
              have : g0 = c := by simpa [Value.ownBlock] using e
              exact this.symm
            have hop3 := hop2.fr hf3 (fun c hc e => by
              obtain ⟨_, _, cs, h1⟩ := hop2.ob hc
              obtain ⟨_, _, cs2, h2⟩ := he.ob e
              rw [h1] at h2
              cases h2)
            have hpp3 : ∀ (j : Nat) (p : Pc), ps[j]? = some p → OwnY w3 B (.slice p.ao p.dl p.cp) (pcL l sz j) := fun j p hj => (HP2.out j p hj).fr hf3 (fun c hc e => by
              have e1 := h5g c e
              obtain ⟨_, h2, _⟩ := ((HCUT.out.p j p hj).2.2.2.2).ob hc
              have := HG0.out
              omega)
            have HF3 : Hid (Fr (fun _ => False) W w3) := Lib.hid (HF2.out.above' hf3 (fun c e => by have := h5g c e; have := HBG.out; have := HB.out; omega))
            have hb4 := Blk.new w3 37 (pcv ⟨id, (n : Int), (n : Int), sm, ao2, 0, cp2⟩)
            have hf4 : Fr (fun _ => False) w3 (w3.alloc (.cells (pcv ⟨id, (n : Int), (n : Int), sm, ao2, 0, cp2⟩) 37)) := Fr.alloc _ _ _
            have ho4 := ho3.fr hf4 (fun _ _ e => e)
            have hop4 := hop3.fr hf4 (fun _ _ e => e)
            have hpp4 : ∀ (j : Nat) (p : Pc), ps[j]? = some p → OwnY (w3.alloc (.cells (pcv ⟨id, (n : Int), (n : Int), sm, ao2, 0, cp2⟩) 37)) B (.slice p.ao p.dl p.cp) (pcL l sz j) := fun j p hj => (hpp3 j p hj).fr hf4 (fun _ _ e => e)
            obtain ⟨g, hg⟩ : ∃ g, w3.heap.size = g := ⟨_, rfl⟩
            obtain ⟨w4, hw4⟩ : ∃ w, w3.alloc (.cells (pcv ⟨id, (n : Int), (n : Int), sm, ao2, 0, cp2⟩) 37) = w := ⟨_, rfl⟩
            rw [hw4] at hb4 hf4 ho4 hop4 hpp4
            rw [hg] at hb4
            have hB4 : B ≤ w4.heap.size := by have := hf3.size; have := hf4.size; omega
            obtain ⟨v5, w5, hrun, ho5, hf5, hob5⟩ := app_p 29 37 29 Tryd.underlying29 infoP37 w4 B v ps ⟨id, (n : Int), (n : Int), sm, ao2, 0, cp2⟩ hB4 hop4 g hb4 HK1.out
            have hnew : CutR w5 B 37 v5 l id sz (ps ++ [⟨id, (n : Int), (n : Int), sm, ao2, 0, cp2⟩]) := by
              refine ⟨ho5, fun j p hj => ?_⟩
              have hnb : ∀ (v : Value) (x : List UInt8), OwnY w4 B v x → OwnY w5 B v x := fun v' x h => h.fr hf5 (fun q hq e => by
                obtain ⟨_, _, cs, h1⟩ := hop4.ob e
                obtain ⟨_, _, cs2, h2⟩ := h.ob hq
                rw [h1] at h2
                cases h2)
              rcases Nat.lt_or_ge j ps.length with hj1 | hj1
              · rw [List.getElem?_append_left hj1] at hj
                obtain ⟨q1, q2, q3, q4, q5⟩ := HCUT.out.p j p hj
                exact ⟨q1, q2, q3, q4, hnb _ _ (hpp4 j p hj)⟩
              · rw [List.getElem?_append_right hj1] at hj
                have hj0 : j = ps.length := by
                  have := (List.getElem?_eq_some_iff.1 hj).1
                  simp at this
                  omega
                subst hj0
                rw [Nat.sub_self] at hj
                cases hj
                refine ⟨rfl, by rw [HLEN.out, HA.out], by rw [HN.out], HSM.out.symm, ?_⟩
                rw [HLEN.out]
                exact hnb _ _ ho4
            have HNEW := Lib.hid hnew
            have HF5 : Hid (Fr (fun _ => False) W w5) := Lib.hid ((HF3.out.trans hf4).above' hf5 (fun c e => by have := (hop4.ob e).1; have := HB.out; omega))
            simp only [pcv] at hw4
            clear hnew ho5 hf5 hob5 hop4 hpp4 hB4 hb4 hf4 ho4 hop3 hpp3 ho3 hf3 hob3 h5g hop2 hs2 hrow2 hfe he hrow hplen
            go_wp2_with (at_builtin; (try rw [hw2]); (try rw [hg0]); (try rw [hw4]); (try rw [hg]); (try rw [e6]); first | (refine wpList_appRun rfl _ _ _ rfl _ _ _ rfl rfl hrun3 ?_) | (refine wpList_appRun rfl _ _ _ rfl _ _ _ rfl rfl hrun ?_))
            clear hrun hrun3 hw4 hg hw2 hg0
            go_roundw
            case rel =>
              refine ⟨k + 1, v5, ps ++ [⟨id, (n : Int), (n : Int), sm, ao2, 0, cp2⟩], rfl, ?_, fun j h1 h2 => ?_, by rw [List.length_append, HLEN.out]; rfl, HNEW.out, HF5.out⟩
              · have := HA.out
                show _ = Value.int .i64 (((k + 1) * sz : Nat) : Int)
                rw [Nat.add_mul, Nat.one_mul, this]
                first | rfl | (congr 1)
              · rw [List.length_append] at h2
                simp only [List.length_cons, List.length_nil] at h2
                by_cases e : j = ps.length
                · have h3 := HA.out
                  have h4 := HGO.out
                  have h5 := HAK.out
                  have h6 := HLEN.out
                  rw [e, h6, h3]
                  omega
                · exact HLT.out j h1 (by omega)
            case measure => have := HM.out; have := HAN.out; simp [intOf]; omega
          · have e6 : a + (n - a) - a = n - a := by omega
            have hrow : RowY wr (Option.map (fun x => x.add a) ao) (pcL l sz k) := by
              have h := HL.out.fr0 HF.out
              unfold pcL
              rw [HA.out]
              rcases h with h | ⟨b, o, rfl, hb, hc⟩
              · exact .inl (by rw [h]; simp)
              · refine .inr ⟨b, o + a, by show some ((⟨b, o, none⟩ : Addr).add a) = _; rw [off_add], hb, fun i x hx => ?_⟩
                rw [List.getElem?_take] at hx
                split at hx
                · rw [List.getElem?_drop] at hx
                  rw [Nat.add_assoc]
                  exact hc _ x hx
                · cases hx
            have hplen : (pcL l sz k).length = (n - a) := by
              unfold pcL
              rw [HA.out, List.length_take, List.length_drop, HN.out]
              omega
            have HPL := Lib.hid hplen
            have he := OwnY.empty wr B HBB.out
            have hfe : Fr (fun _ => False) wr (wr.alloc (.cells #[] 5)) := Fr.alloc _ _ _
            obtain ⟨g0, hg0⟩ : ∃ g, wr.heap.size = g := ⟨_, rfl⟩
            have HBG : Hid (B ≤ g0) := Lib.hid (by have := HBB.out; omega)
            have HG0 := Lib.hid hg0
            obtain ⟨w2, hw2⟩ : ∃ w, wr.alloc (.cells #[] 5) = w := ⟨_, rfl⟩
            rw [hw2] at he hfe
            rw [hg0] at he
            have HF2 := Lib.hid (HF.out.trans hfe)
            have hrow2 := hrow.fr0 hfe
            have hs2 : B ≤ w2.heap.size := by have := hfe.size; have := HBB.out; omega
            have hop2 := HCUT.out.o.fr hfe (fun _ _ e => e)
            have HP2 := Lib.hid (fun (j : Nat) (p : Pc) (hj : ps[j]? = some p) => ((HCUT.out.p j p hj).2.2.2.2).fr hfe (fun _ _ e => e))
            obtain ⟨v2, w3, hrun3, ho3, hf3, hob3⟩ := app_y w2 B (.slice (some ⟨g0, 0, none⟩) 0 0) [] (pcL l sz k) 22 hs2 he (Option.map (fun x => x.add a) ao) (cp - a) (n - a) hrow2 hplen (by rw [List.length_nil]; have := HM.out; omega)
            rw [List.nil_append] at ho3
            obtain ⟨ao2, cp2, rfl, _, _, _, _⟩ := ho3.row
            rw [HPL.out] at ho3 hrun3
            have h5g : ∀ (c : Nat), (Value.slice (some ⟨g0, 0, none⟩) 0 0).ownBlock = some c → c = g0 := fun c e => by
              have : g0 = c := by simpa [Value.ownBlock] using e
              exact this.symm
            have hop3 := hop2.fr hf3 (fun c hc e => by
              obtain ⟨_, _, cs, h1⟩ := hop2.ob hc
              obtain ⟨_, _, cs2, h2⟩ := he.ob e
              rw [h1] at h2
              cases h2)
            have hpp3 : ∀ (j : Nat) (p : Pc), ps[j]? = some p → OwnY w3 B (.slice p.ao p.dl p.cp) (pcL l sz j) := fun j p hj => (HP2.out j p hj).fr hf3 (fun c hc e => by
              have e1 := h5g c e
              obtain ⟨_, h2, _⟩ := ((HCUT.out.p j p hj).2.2.2.2).ob hc
              have := HG0.out
              omega)
            have HF3 : Hid (Fr (fun _ => False) W w3) := Lib.hid (HF2.out.above' hf3 (fun c e => by have := h5g c e; have := HBG.out; have := HB.out; omega))
            have hb4 := Blk.new w3 37 (pcv ⟨id, (a : Int), (n : Int), sm, ao2, (n - a), cp2⟩)
            have hf4 : Fr (fun _ => False) w3 (w3.alloc (.cells (pcv ⟨id, (a : Int), (n : Int), sm, ao2, (n - a), cp2⟩) 37)) := Fr.alloc _ _ _
            have ho4 := ho3.fr hf4 (fun _ _ e => e)
            have hop4 := hop3.fr hf4 (fun _ _ e => e)
            have hpp4 : ∀ (j : Nat) (p : Pc), ps[j]? = some p → OwnY (w3.alloc (.cells (pcv ⟨id, (a : Int), (n : Int), sm, ao2, (n - a), cp2⟩) 37)) B (.slice p.ao p.dl p.cp) (pcL l sz j) := fun j p hj => (hpp3 j p hj).fr hf4 (fun _ _ e => e)
            obtain ⟨g, hg⟩ : ∃ g, w3.heap.size = g := ⟨_, rfl⟩
            obtain ⟨w4, hw4⟩ : ∃ w, w3.alloc (.cells (pcv ⟨id, (a : Int), (n : Int), sm, ao2, (n - a), cp2⟩) 37) = w := ⟨_, rfl⟩
            rw [hw4] at hb4 hf4 ho4 hop4 hpp4
            rw [hg] at hb4
            have hB4 : B ≤ w4.heap.size := by have := hf3.size; have := hf4.size; omega
            obtain ⟨v5, w5, hrun, ho5, hf5, hob5⟩ := app_p 29 37 29 Tryd.underlying29 infoP37 w4 B v ps ⟨id, (a : Int), (n : Int), sm, ao2, (n - a), cp2⟩ hB4 hop4 g hb4 HK1.out
            have hnew : CutR w5 B 37 v5 l id sz (ps ++ [⟨id, (a : Int), (n : Int), sm, ao2, (n - a), cp2⟩]) := by
              refine ⟨ho5, fun j p hj => ?_⟩
              have hnb : ∀ (v : Value) (x : List UInt8), OwnY w4 B v x → OwnY w5 B v x := fun v' x h => h.fr hf5 (fun q hq e => by
                obtain ⟨_, _, cs, h1⟩ := hop4.ob e
                obtain ⟨_, _, cs2, h2⟩ := h.ob hq
                rw [h1] at h2
                cases h2)
              rcases Nat.lt_or_ge j ps.length with hj1 | hj1
              · rw [List.getElem?_append_left hj1] at hj
                obtain ⟨q1, q2, q3, q4, q5⟩ := HCUT.out.p j p hj
                exact ⟨q1, q2, q3, q4, hnb _ _ (hpp4 j p hj)⟩
              · rw [List.getElem?_append_right hj1] at hj
                have hj0 : j = ps.length := by
                  have := (List.getElem?_eq_some_iff.1 hj).1
                  simp at this
                  omega
                subst hj0
                rw [Nat.sub_self] at hj
                cases hj
                refine ⟨rfl, by rw [HLEN.out, HA.out], by rw [HN.out], HSM.out.symm, ?_⟩
                rw [HLEN.out]
                exact hnb _ _ ho4
            have HNEW := Lib.hid hnew
            have HF5 : Hid (Fr (fun _ => False) W w5) := Lib.hid ((HF3.out.trans hf4).above' hf5 (fun c e => by have := (hop4.ob e).1; have := HB.out; omega))
            simp only [pcv] at hw4
            clear hnew ho5 hf5 hob5 hop4 hpp4 hB4 hb4 hf4 ho4 hop3 hpp3 ho3 hf3 hob3 h5g hop2 hs2 hrow2 hfe he hrow hplen
            go_wp2_with (at_builtin; (try rw [hw2]); (try rw [hg0]); (try rw [hw4]); (try rw [hg]); (try rw [e6]); first | (refine wpList_appRun rfl _ _ _ rfl _ _ _ rfl rfl hrun3 ?_) | (refine wpList_appRun rfl _ _ _ rfl _ _ _ rfl rfl hrun ?_))
            clear hrun hrun3 hw4 hg hw2 hg0
            go_roundw
            case rel =>
              refine ⟨k + 1, v5, ps ++ [⟨id, (a : Int), (n : Int), sm, ao2, (n - a), cp2⟩], rfl, ?_, fun j h1 h2 => ?_, by rw [List.length_append, HLEN.out]; rfl, HNEW.out, HF5.out⟩
              · have := HA.out
                show _ = Value.int .i64 (((k + 1) * sz : Nat) : Int)
                rw [Nat.add_mul, Nat.one_mul, this]
                first | rfl | (congr 1)
              · rw [List.length_append] at h2
                simp only [List.length_cons, List.length_nil] at h2
                by_cases e : j = ps.length
                · have h3 := HA.out
                  have h4 := HGO.out
                  have h5 := HAK.out
                  have h6 := HLEN.out
                  rw [e, h6, h3]
                  omega
                · exact HLT.out j h1 (by omega)
            case measure => have := HM.out; have := HAN.out; simp [intOf]; omega
      · have p5 : ((a : Int) == 0) = false := by simp; omega
        have p5' : (a == 0) = false := by simp; omega
        have p6 : decide ((a : Int) < n) = true := decide_eq_true (by omega)
        have p6' : decide (a < n) = true := decide_eq_true (by omega)
        clear ha0 hgo hak
        have q1 : IntKind.i64.wrap ((n : Int) - a) = ((n - a : Nat) : Int) := by have := HAN.out; have := HM.out; simp [IntKind.wrap, IntKind.bits, IntKind.signed]; omega
        by_cases hs : sz ≤ n - a
        · have s1 : decide ((n : Int) - a < (sz : Int)) = false := decide_eq_false (by omega)
          have e6 : a + sz - a = sz := Nat.add_sub_cancel_left a sz
          have hrow : RowY wr (Option.map (fun x => x.add a) ao) (pcL l sz k) := by
            have h := HL.out.fr0 HF.out
            unfold pcL
            rw [HA.out]
            rcases h with h | ⟨b, o, rfl, hb, hc⟩
            · exact .inl (by rw [h]; simp)
            · refine .inr ⟨b, o + a, by show some ((⟨b, o, none⟩ : Addr).add a) = _; rw [off_add], hb, fun i x hx => ?_⟩
              rw [List.getElem?_take] at hx
              split at hx
              · rw [List.getElem?_drop] at hx
                rw [Nat.add_assoc]
                exact hc _ x hx
              · cases hx
          have hplen : (pcL l sz k).length = sz := by
            unfold pcL
            rw [HA.out, List.length_take, List.length_drop, HN.out]
            omega
          have HPL := Lib.hid hplen
          have he := OwnY.empty wr B HBB.out
          have hfe : Fr (fun _ => False) wr (wr.alloc (.cells #[] 5)) := Fr.alloc _ _ _
          obtain ⟨g0, hg0⟩ : ∃ g, wr.heap.size = g := ⟨_, rfl⟩
          have HBG : Hid (B ≤ g0) := Lib.hid (by have := HBB.out; omega)
          have HG0 := Lib.hid hg0
          obtain ⟨w2, hw2⟩ : ∃ w, wr.alloc (.cells #[] 5) = w := ⟨_, rfl⟩
          rw [hw2] at he hfe
          rw [hg0] at he
          have HF2 := Lib.hid (HF.out.trans hfe)
          have hrow2 := hrow.fr0 hfe
          have hs2 : B ≤ w2.heap.size := by have := hfe.size; have := HBB.out; omega
          have hop2 := HCUT.out.o.fr hfe (fun _ _ e => e)
          have HP2 := Lib.hid (fun (j : Nat) (p : Pc) (hj : ps[j]? = some p) => ((HCUT.out.p j p hj).2.2.2.2).fr hfe (fun _ _ e => e))
          obtain ⟨v2, w3, hrun3, ho3, hf3, hob3⟩ := app_y w2 B (.slice (some ⟨g0, 0, none⟩) 0 0) [] (pcL l sz k) 22 hs2 he (Option.map (fun x => x.add a) ao) (cp - a) sz hrow2 hplen (by rw [List.length_nil]; have := HM.out; omega)
          rw [List.nil_append] at ho3
          obtain ⟨ao2, cp2, rfl, _, _, _, _⟩ := ho3.row
          rw [HPL.out] at ho3 hrun3
          have h5g : ∀ (c : Nat), (Value.slice (some ⟨g0, 0, none⟩) 0 0).ownBlock = some c → c = g0 := fun c e => by
            have : g0 = c := by simpa [Value.ownBlock] using e
            exact this.symm
          have hop3 := hop2.fr hf3 (fun c hc e => by
            obtain ⟨_, _, cs, h1⟩ := hop2.ob hc
            obtain ⟨_, _, cs2, h2⟩ := he.ob e
            rw [h1] at h2
            cases h2)
          have hpp3 : ∀ (j : Nat) (p : Pc), ps[j]? = some p → OwnY w3 B (.slice p.ao p.dl p.cp) (pcL l sz j) := fun j p hj => (HP2.out j p hj).fr hf3 (fun c hc e => by
            have e1 := h5g c e
            obtain ⟨_, h2, _⟩ := ((HCUT.out.p j p hj).2.2.2.2).ob hc
            have := HG0.out
            omega)
          have HF3 : Hid (Fr (fun _ => False) W w3) := Lib.hid (HF2.out.above' hf3 (fun c e => by have := h5g c e; have := HBG.out; have := HB.out; omega))
          have hb4 := Blk.new w3 37 (pcv ⟨id, (a : Int), (n : Int), sm, ao2, sz, cp2⟩)
          have hf4 : Fr (fun _ => False) w3 (w3.alloc (.cells (pcv ⟨id, (a : Int), (n : Int), sm, ao2, sz, cp2⟩) 37)) := Fr.alloc _ _ _
          have ho4 := ho3.fr hf4 (fun _ _ e => e)
          have hop4 := hop3.fr hf4 (fun _ _ e => e)
          have hpp4 : ∀ (j : Nat) (p : Pc), ps[j]? = some p → OwnY (w3.alloc (.cells (pcv ⟨id, (a : Int), (n : Int), sm, ao2, sz, cp2⟩) 37)) B (.slice p.ao p.dl p.cp) (pcL l sz j) := fun j p hj => (hpp3 j p hj).fr hf4 (fun _ _ e => e)
          obtain ⟨g, hg⟩ : ∃ g, w3.heap.size = g := ⟨_, rfl⟩
          obtain ⟨w4, hw4⟩ : ∃ w, w3.alloc (.cells (pcv ⟨id, (a : Int), (n : Int), sm, ao2, sz, cp2⟩) 37) = w := ⟨_, rfl⟩
          rw [hw4] at hb4 hf4 ho4 hop4 hpp4
          rw [hg] at hb4
          have hB4 : B ≤ w4.heap.size := by have := hf3.size; have := hf4.size; omega
          obtain ⟨v5, w5, hrun, ho5, hf5, hob5⟩ := app_p 29 37 29 Tryd.underlying29 infoP37 w4 B v ps ⟨id, (a : Int), (n : Int), sm, ao2, sz, cp2⟩ hB4 hop4 g hb4 HK1.out
          have hnew : CutR w5 B 37 v5 l id sz (ps ++ [⟨id, (a : Int), (n : Int), sm, ao2, sz, cp2⟩]) := by
            refine ⟨ho5, fun j p hj => ?_⟩
            have hnb : ∀ (v : Value) (x : List UInt8), OwnY w4 B v x → OwnY w5 B v x := fun v' x h => h.fr hf5 (fun q hq e => by
              obtain ⟨_, _, cs, h1⟩ := hop4.ob e
              obtain ⟨_, _, cs2, h2⟩ := h.ob hq
              rw [h1] at h2
              cases h2)
            rcases Nat.lt_or_ge j ps.length with hj1 | hj1
            · rw [List.getElem?_append_left hj1] at hj
              obtain ⟨q1, q2, q3, q4, q5⟩ := HCUT.out.p j p hj
              exact ⟨q1, q2, q3, q4, hnb _ _ (hpp4 j p hj)⟩
            · rw [List.getElem?_append_right hj1] at hj
              have hj0 : j = ps.length := by
                have := (List.getElem?_eq_some_iff.1 hj).1
                simp at this
                omega
              subst hj0
              rw [Nat.sub_self] at hj
              cases hj
              refine ⟨rfl, by rw [HLEN.out, HA.out], by rw [HN.out], HSM.out.symm, ?_⟩
              rw [HLEN.out]
              exact hnb _ _ ho4
          have HNEW := Lib.hid hnew
          have HF5 : Hid (Fr (fun _ => False) W w5) := Lib.hid ((HF3.out.trans hf4).above' hf5 (fun c e => by have := (hop4.ob e).1; have := HB.out; omega))
          simp only [pcv] at hw4
          clear hnew ho5 hf5 hob5 hop4 hpp4 hB4 hb4 hf4 ho4 hop3 hpp3 ho3 hf3 hob3 h5g hop2 hs2 hrow2 hfe he hrow hplen
          go_wp2_with (at_builtin; (try rw [hw2]); (try rw [hg0]); (try rw [hw4]); (try rw [hg]); (try rw [e6]); first | (refine wpList_appRun rfl _ _ _ rfl _ _ _ rfl rfl hrun3 ?_) | (refine wpList_appRun rfl _ _ _ rfl _ _ _ rfl rfl hrun ?_))
          clear hrun hrun3 hw4 hg hw2 hg0
          go_roundw
          case rel =>
            refine ⟨k + 1, v5, ps ++ [⟨id, (a : Int), (n : Int), sm, ao2, sz, cp2⟩], rfl, ?_, fun j h1 h2 => ?_, by rw [List.length_append, HLEN.out]; rfl, HNEW.out, HF5.out⟩
            · have := HA.out
              show _ = Value.int .i64 (((k + 1) * sz : Nat) : Int)
              rw [Nat.add_mul, Nat.one_mul, this]
              first | rfl | (congr 1)
            · rw [List.length_append] at h2
              simp only [List.length_cons, List.length_nil] at h2
              by_cases e : j = ps.length
              · have h3 := HA.out
                have h4 := HGO.out
                have h5 := HAK.out
                have h6 := HLEN.out
                rw [e, h6, h3]
                omega
              · exact HLT.out j h1 (by omega)
          case measure => have := HM.out; have := HAN.out; simp [intOf]; omega
        · have s1 : decide ((n : Int) - a < (sz : Int)) = true := decide_eq_true (by omega)
          have s2 : (a : Int) + ((n : Int) - a) = (n : Int) := by omega
          have e6 : True := trivial
          by_cases hca : cp = a
          · have hx := of_decide_eq_true p6'
            have hy := HM.out
            omega
          · have e6 : a + (n - a) - a = n - a := by omega
            have hrow : RowY wr (Option.map (fun x => x.add a) ao) (pcL l sz k) := by
              have h := HL.out.fr0 HF.out
              unfold pcL
              rw [HA.out]
              rcases h with h | ⟨b, o, rfl, hb, hc⟩
              · exact .inl (by rw [h]; simp)
              · refine .inr ⟨b, o + a, by show some ((⟨b, o, none⟩ : Addr).add a) = _; rw [off_add], hb, fun i x hx => ?_⟩
                rw [List.getElem?_take] at hx
                split at hx
                · rw [List.getElem?_drop] at hx
                  rw [Nat.add_assoc]
                  exact hc _ x hx
                · cases hx
            have hplen : (pcL l sz k).length = (n - a) := by
              unfold pcL
              rw [HA.out, List.length_take, List.length_drop, HN.out]
              omega
            have HPL := Lib.hid hplen
            have he := OwnY.empty wr B HBB.out
            have hfe : Fr (fun _ => False) wr (wr.alloc (.cells #[] 5)) := Fr.alloc _ _ _
            obtain ⟨g0, hg0⟩ : ∃ g, wr.heap.size = g := ⟨_, rfl⟩
            have HBG : Hid (B ≤ g0) := Lib.hid (by have := HBB.out; omega)
            have HG0 := Lib.hid hg0
            obtain ⟨w2, hw2⟩ : ∃ w, wr.alloc (.cells #[] 5) = w := ⟨_, rfl⟩
            rw [hw2] at he hfe
            rw [hg0] at he
            have HF2 := Lib.hid (HF.out.trans hfe)
            have hrow2 := hrow.fr0 hfe
            have hs2 : B ≤ w2.heap.size := by have := hfe.size; have := HBB.out; omega
            have hop2 := HCUT.out.o.fr hfe (fun _ _ e => e)
            have HP2 := Lib.hid (fun (j : Nat) (p : Pc) (hj : ps[j]? = some p) => ((HCUT.out.p j p hj).2.2.2.2).fr hfe (fun _ _ e => e))
            obtain ⟨v2, w3, hrun3, ho3, hf3, hob3⟩ := app_y w2 B (.slice (some ⟨g0, 0, none⟩) 0 0) [] (pcL l sz k) 22 hs2 he (Option.map (fun x => x.add a) ao) (cp - a) (n - a) hrow2 hplen (by rw [List.length_nil]; have := HM.out; omega)
            rw [List.nil_append] at ho3
            obtain ⟨ao2, cp2, rfl, _, _, _, _⟩ := ho3.row
            rw [HPL.out] at ho3 hrun3
            have h5g : ∀ (c : Nat), (Value.slice (some ⟨g0, 0, none⟩) 0 0).ownBlock = some c → c = g0 := fun c e => by
              have : g0 = c := by simpa [Value.ownBlock] using e
              exact this.symm
            have hop3 := hop2.fr hf3 (fun c hc e => by
              obtain ⟨_, _, cs, h1⟩ := hop2.ob hc
              obtain ⟨_, _, cs2, h2⟩ := he.ob e
              rw [h1] at h2
              cases h2)
            have hpp3 : ∀ (j : Nat) (p : Pc), ps[j]? = some p → OwnY w3 B (.slice p.ao p.dl p.cp) (pcL l sz j) := fun j p hj => (HP2.out j p hj).fr hf3 (fun c hc e => by
              have e1 := h5g c e
              obtain ⟨_, h2, _⟩ := ((HCUT.out.p j p hj).2.2.2.2).ob hc
              have := HG0.out
              omega)
            have HF3 : Hid (Fr (fun _ => False) W w3) := Lib.hid (HF2.out.above' hf3 (fun c e => by have := h5g c e; have := HBG.out; have := HB.out; omega))
            have hb4 := Blk.new w3 37 (pcv ⟨id, (a : Int), (n : Int), sm, ao2, (n - a), cp2⟩)
            have hf4 : Fr (fun _ => False) w3 (w3.alloc (.cells (pcv ⟨id, (a : Int), (n : Int), sm, ao2, (n - a), cp2⟩) 37)) := Fr.alloc _ _ _
            have ho4 := ho3.fr hf4 (fun _ _ e => e)
            have hop4 := hop3.fr hf4 (fun _ _ e => e)
            have hpp4 : ∀ (j : Nat) (p : Pc), ps[j]? = some p → OwnY (w3.alloc (.cells (pcv ⟨id, (a : Int), (n : Int), sm, ao2, (n - a), cp2⟩) 37)) B (.slice p.ao p.dl p.cp) (pcL l sz j) := fun j p hj => (hpp3 j p hj).fr hf4 (fun _ _ e => e)
            obtain ⟨g, hg⟩ : ∃ g, w3.heap.size = g := ⟨_, rfl⟩
            obtain ⟨w4, hw4⟩ : ∃ w, w3.alloc (.cells (pcv ⟨id, (a : Int), (n : Int), sm, ao2, (n - a), cp2⟩) 37) = w := ⟨_, rfl⟩
            rw [hw4] at hb4 hf4 ho4 hop4 hpp4
            rw [hg] at hb4
            have hB4 : B ≤ w4.heap.size := by have := hf3.size; have := hf4.size; omega
            obtain ⟨v5, w5, hrun, ho5, hf5, hob5⟩ := app_p 29 37 29 Tryd.underlying29 infoP37 w4 B v ps ⟨id, (a : Int), (n : Int), sm, ao2, (n - a), cp2⟩ hB4 hop4 g hb4 HK1.out
            have hnew : CutR w5 B 37 v5 l id sz (ps ++ [⟨id, (a : Int), (n : Int), sm, ao2, (n - a), cp2⟩]) := by
              refine ⟨ho5, fun j p hj => ?_⟩
              have hnb : ∀ (v : Value) (x : List UInt8), OwnY w4 B v x → OwnY w5 B v x := fun v' x h => h.fr hf5 (fun q hq e => by
                obtain ⟨_, _, cs, h1⟩ := hop4.ob e
                obtain ⟨_, _, cs2, h2⟩ := h.ob hq
                rw [h1] at h2
                cases h2)
              rcases Nat.lt_or_ge j ps.length with hj1 | hj1
              · rw [List.getElem?_append_left hj1] at hj
                obtain ⟨q1, q2, q3, q4, q5⟩ := HCUT.out.p j p hj
                exact ⟨q1, q2, q3, q4, hnb _ _ (hpp4 j p hj)⟩
              · rw [List.getElem?_append_right hj1] at hj
                have hj0 : j = ps.length := by
                  have := (List.getElem?_eq_some_iff.1 hj).1
                  simp at this
                  omega
                subst hj0
                rw [Nat.sub_self] at hj
                cases hj
                refine ⟨rfl, by rw [HLEN.out, HA.out], by rw [HN.out], HSM.out.symm, ?_⟩
                rw [HLEN.out]
                exact hnb _ _ ho4
            have HNEW := Lib.hid hnew
            have HF5 : Hid (Fr (fun _ => False) W w5) := Lib.hid ((HF3.out.trans hf4).above' hf5 (fun c e => by have := (hop4.ob e).1; have := HB.out; omega))
            simp only [pcv] at hw4
            clear hnew ho5 hf5 hob5 hop4 hpp4 hB4 hb4 hf4 ho4 hop3 hpp3 ho3 hf3 hob3 h5g hop2 hs2 hrow2 hfe he hrow hplen
            go_wp2_with (at_builtin; (try rw [hw2]); (try rw [hg0]); (try rw [hw4]); (try rw [hg]); (try rw [e6]); first | (refine wpList_appRun rfl _ _ _ rfl _ _ _ rfl rfl hrun3 ?_) | (refine wpList_appRun rfl _ _ _ rfl _ _ _ rfl rfl hrun ?_))
            clear hrun hrun3 hw4 hg hw2 hg0
            go_roundw
            case rel =>
              refine ⟨k + 1, v5, ps ++ [⟨id, (a : Int), (n : Int), sm, ao2, (n - a), cp2⟩], rfl, ?_, fun j h1 h2 => ?_, by rw [List.length_append, HLEN.out]; rfl, HNEW.out, HF5.out⟩
              · have := HA.out
                show _ = Value.int .i64 (((k + 1) * sz : Nat) : Int)
                rw [Nat.add_mul, Nat.one_mul, this]
                first | rfl | (congr 1)
              · rw [List.length_append] at h2
                simp only [List.length_cons, List.length_nil] at h2
                by_cases e : j = ps.length
                · have h3 := HA.out
                  have h4 := HGO.out
                  have h5 := HAK.out
                  have h6 := HLEN.out
                  rw [e, h6, h3]
                  omega
                · exact HLT.out j h1 (by omega)
            case measure => have := HM.out; have := HAN.out; simp [intOf]; omega
    · have p5 : ((a : Int) == 0) = false := by simp; omega
      have p5' : (a == 0) = false := by simp; omega
      have p6 : decide ((a : Int) < n) = false := decide_eq_false (by omega)
      have p6' : decide (a < n) = false := decide_eq_false (by omega)
      go_wp2
      go_ret2
      refine ⟨v, ps, rfl, ?_, ?_, ?_, HLT.out, HF.out⟩
      · have := HB.out; rw [this]; exact HCUT.out
      · have := HLEN.out; omega
      · have := HA.out; rw [HLEN.out, this]; omega
end Go.Proofs.YtookojfigjdgcaaDoor
