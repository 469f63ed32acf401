/- Cut. -/
import Derived.Test.YtookojfigjdgcaaDoorB
import Derived.WalkMore
set_option linter.unusedVariables false
set_option linter.unusedSimpArgs false
namespace Go.Proofs.YtookojfigjdgcaaDoor
open Go.RowKit
/-- the bytes of a piece -/
def pcL (l : List UInt8) (sz k : Nat) : List UInt8 := (l.drop (k * sz)).take sz
structure CutR (W : World) (B : Nat) (E : TypeId) (v : Value) (l : List UInt8) (id : Int) (sz : Nat) (ps : List Pc) : Prop where
  o : OwnP W B E v ps
  p : ∀ (k : Nat) (p : Pc), ps[k]? = some p → p.id = id ∧ p.at_ = ((k * sz : Nat) : Int) ∧ p.total = (l.length : Int) ∧ p.sum = ((crc l).toNat : Int) ∧ OwnY W B (.slice p.ao p.dl p.cp) (pcL l sz k)
set_option maxRecDepth 100000 in
set_option maxHeartbeats 4000000 in
theorem cut_good (W : World) (id : Int) (ao : Option Addr) (cp n : Nat) (l : List UInt8) (hl : RowY W ao l) (hn : l.length = n) (hm : n ≤ 1000000) (hcp : n ≤ cp) (hcm : cp ≤ 9223372036854775807) (h0 : ao = none → n = 0 ∧ cp = 0) (sz : Nat) (h1 : 0 ≤ id) (h2 : 1 ≤ sz) (h3 : sz ≤ 65536) :
    Calls Tryd.prog 8 #[.int .i64 id, .slice ao n cp, .int .i64 (sz : Int)] W fun r W' => ∃ (v : Value) (ps : List Pc), r = .returned (.tuple #[v, .nilIface]) ∧ CutR W' W.heap.size 36 v l id sz ps ∧ 1 ≤ ps.length ∧ n ≤ ps.length * sz ∧ (∀ j, 1 ≤ j → j < ps.length → j * sz < n) ∧ Fr (fun _ => False) W W' := by
  have p1 : decide (id < 0) = false := decide_eq_false (by omega)
  have p2 : decide ((sz : Int) < 1) = false := decide_eq_false (by omega)
  have p3 : decide (65536 < (sz : Int)) = false := decide_eq_false (by omega)
  have p3' : decide (65536 < sz) = false := decide_eq_false (by omega)
  have p4 : decide (1048576 < (n : Int)) = false := decide_eq_false (by omega)
  have p4' : decide (1048576 < n) = false := decide_eq_false (by omega)
  have HL := Lib.hid hl
  have HN := Lib.hid hn
  have HM := Lib.hid (And.intro hm (And.intro hcp (And.intro hcm (And.intro h2 h3))))
  have HZ := Lib.hid h0
  have HSUM := Lib.hid (sum_any W ao cp n l hl hn (by omega))
  obtain ⟨sm, hsm⟩ : ∃ z : Int, ((crc l).toNat : Int) = z := ⟨_, rfl⟩
  rw [hsm] at HSUM
  have HSM := Lib.hid hsm
  clear hl hn hm hcp hcm h0 h2 h3 hsm
  go_enter Tryd.func8, Tryd.ntmps8
  go_wp2_with fail
  go_step3
  go_wp2_with fail
  refine HSUM.out.mono ?_
  rintro r2 w2 ⟨rfl, hf2⟩
  go_wp2_with fail
  go_step3
  go_wp2_with fail
  have HF2 := Lib.hid hf2
  have HB2 : Hid (W.heap.size ≤ w2.heap.size) := Lib.hid hf2.size
  obtain ⟨B, hB⟩ : ∃ B, W.heap.size = B := ⟨_, rfl⟩
  have HB := Lib.hid hB
  rw [hB] at HB2
  clear hf2 hB HSUM
  go_loopw [8, 10] (fun ov av wr => ∃ (k : Nat) (v : Value) (ps : List Pc), v = ov ∧ av = .int .i64 ((k * sz : Nat) : Int) ∧ (k = 0 ∨ k * sz < n) ∧ ps.length = k ∧ CutR wr B 36 v l id sz ps ∧ (∀ j, 1 ≤ j → j ≤ ps.length → j * sz < n) ∧ Fr (fun _ => False) W wr) (fun _ av _ => n + 1 - (intOf av).toNat)
  case atStart => exact ⟨0, _, [], rfl, by simp, .inl rfl, rfl, ⟨OwnP.nil0 _ _ _, fun k p h => by simp at h⟩, fun j h1 h2 => by simp at h2; omega, HF2.out⟩
  case round =>
    obtain ⟨k, v, ps, rfl, rfl, hk, hlen, hcut, hlt, hf⟩ := hrel
    have HCUT := Lib.hid hcut
    have HLT := Lib.hid hlt
    have HF := Lib.hid hf
    have HLEN := Lib.hid hlen
    have HK := Lib.hid hk
    obtain ⟨a, ha⟩ : ∃ a, k * sz = a := ⟨_, rfl⟩
    have HA := Lib.hid ha
    have han : a ≤ n := by rcases hk with rfl | h; · (rw [Nat.zero_mul] at ha; omega)
                           · omega
    have hmm := HM.out
    rw [ha]
    clear hcut hlt hf hlen hk ha
    have HBB : Hid (B ≤ wr.heap.size) := Lib.hid (by have := HF.out.size; have := HB.out; omega)
    by_cases hend : a + sz < n
    · have e1 : ((a : Int) + sz == (n : Int)) = false := by simp; omega
      have e2 : (a + sz == n) = false := by simp; omega
      go_wp2_with fail
      have hrow : RowY wr (Option.map (fun x => x.add a) ao) (pcL l sz k) := by
        have h := HL.out.fr0 HF.out
        unfold pcL
        rw [HA.out]
        rcases h with h | ⟨b, o, rfl, hb, hc⟩
        · exact .inl (by rw [h]; simp)
        · refine .inr ⟨b, o + a, by first | (rw [if_neg (by omega)]; show some ((⟨b, o, none⟩ : Addr).add a) = _; rw [off_add]) | (show some ((⟨b, o, none⟩ : Addr).add a) = _; rw [off_add]), hb, fun i x hx => ?_⟩
          rw [List.getElem?_take] at hx
          split at hx
          · rw [List.getElem?_drop] at hx
            rw [Nat.add_assoc]
            exact hc _ x hx
          · cases hx
      have hplen : (pcL l sz k).length = sz := by
        unfold pcL
        rw [HA.out, List.length_take, List.length_drop, HN.out]
        omega
      have HPL := Lib.hid hplen
      refine (clone_any wr _ (cp - a) sz (pcL l sz k) hrow hplen (by omega) (fun h => ?_)).mono ?_
      · have hz := HZ.out (by first | (cases ao with | none => rfl | some _ => (first | (simp at h; done) | (split at h <;> simp at h)))); omega
      clear hrow hplen
      rintro r3 w3 ⟨v2, rfl, ho3, hf3⟩
      obtain ⟨ao2, cp2, rfl, hc1, hc2, _⟩ := ho3.row
      rw [HPL.out] at ho3 ⊢
      have HO3 := Lib.hid (ho3.to (Nat.le_refl _) (Fr.alloc (fun _ => False) w3 (.cells (pcv ⟨id, (a : Int), (n : Int), sm, ao2, sz, cp2⟩) 36)) (fun _ _ e => e))
      have hb4 := Blk.new w3 36 (pcv ⟨id, (a : Int), (n : Int), sm, ao2, sz, cp2⟩)
      have hf4 : Fr (fun _ => False) wr (w3.alloc (.cells (pcv ⟨id, (a : Int), (n : Int), sm, ao2, sz, cp2⟩) 36)) := hf3.trans (Fr.alloc _ _ _)
      obtain ⟨g, hg⟩ : ∃ g, w3.heap.size = g := ⟨_, rfl⟩
      obtain ⟨w4, hw4⟩ : ∃ w, w3.alloc (.cells (pcv ⟨id, (a : Int), (n : Int), sm, ao2, sz, cp2⟩) 36) = w := ⟨_, rfl⟩
      rw [hw4] at hb4 hf4 HO3
      rw [hg] at hb4
      have hB4 : B ≤ w4.heap.size := by have := HBB.out; have := hf4.size; omega
      have hop := HCUT.out.o.fr hf4 (fun _ _ e => e)
      have hk1 : ps.length + 1 ≤ 10000000 := by
        have h1 := HLEN.out
        have h2 := HM.out
        have h3 := HA.out
        rcases HK.out with h | h
        · omega
        · have h4 : k ≤ k * sz := Nat.le_mul_of_pos_right k (by omega)
          omega
      obtain ⟨v5, w5, hrun, ho5, hf5, hob5⟩ := app_p 24 36 24 Tryd.underlying24 infoP36 w4 B v ps ⟨id, (a : Int), (n : Int), sm, ao2, sz, cp2⟩ hB4 hop g hb4 hk1
      have hnew : CutR w5 B 36 v5 l id sz (ps ++ [⟨id, (a : Int), (n : Int), sm, ao2, sz, cp2⟩]) := by
        refine ⟨ho5, fun j p hj => ?_⟩
        have hnb : ∀ (v : Value) (x : List UInt8), OwnY w4 B v x → OwnY w5 B v x := fun v' x h => h.fr hf5 (fun q hq e => by
          obtain ⟨_, _, cs, h1⟩ := hop.ob e
          obtain ⟨_, _, cs2, h2⟩ := h.ob hq
          rw [h1] at h2
          cases h2)
        rcases Nat.lt_or_ge j ps.length with hj1 | hj1
        · rw [List.getElem?_append_left hj1] at hj
          obtain ⟨q1, q2, q3, q4, q5⟩ := HCUT.out.p j p hj
          exact ⟨q1, q2, q3, q4, hnb _ _ (q5.fr hf4 (fun _ _ e => e))⟩
        · rw [List.getElem?_append_right hj1] at hj
          have hj0 : j = ps.length := by
            have := (List.getElem?_eq_some_iff.1 hj).1
            simp at this
            omega
          subst hj0
          rw [Nat.sub_self] at hj
          cases hj
          refine ⟨rfl, by rw [HLEN.out, HA.out], by rw [HN.out], HSM.out.symm, ?_⟩
          rw [HLEN.out]
          refine hnb _ _ (HO3.out.to (by have := HBB.out; have := hf3.size; omega) (Fr.refl (fun _ => False) w4) (fun _ _ e => e))
      have HNEW := Lib.hid hnew
      have HF5 : Hid (Fr (fun _ => False) W w5) := Lib.hid (by
        have h1 := HF.out.trans hf4
        exact ⟨hf5.os.trans h1.os, hf5.tape.trans h1.tape, hf5.output.trans h1.output, Nat.le_trans h1.size hf5.size, fun q hq _ => (hf5.block q (Nat.lt_of_lt_of_le hq h1.size) (fun e => by have := (hop.ob e).1; have := HB.out; omega)).trans (h1.block q hq (fun e => e))⟩)
      simp only [pcv] at hw4
      clear hnew ho5 hf5 hob5 hop hB4 hb4 hf4 ho3 hf3 hc1 hc2 HO3
      go_wp2_with (at_builtin; (try rw [hw4]); (try rw [hg]); refine wpList_appRun rfl _ _ _ rfl _ _ _ rfl rfl hrun ?_)
      clear hrun hw4 hg
      go_roundw
      case rel =>
        refine ⟨k + 1, v5, _, rfl, ?_, .inr ?_, by rw [List.length_append, HLEN.out]; rfl, HNEW.out, fun j h1 h2 => ?_, HF5.out⟩
        · have := HA.out
          show _ = Value.int .i64 (((k + 1) * sz : Nat) : Int)
          rw [Nat.add_mul, Nat.one_mul, this]
          first | rfl | (congr 1)
        · have := HA.out; rw [Nat.add_mul, Nat.one_mul]; omega
        · rw [List.length_append] at h2
          simp only [List.length_cons, List.length_nil] at h2
          by_cases e : j = ps.length + 1
          · have := HA.out; rw [e, HLEN.out, Nat.add_mul, Nat.one_mul]; omega
          · exact HLT.out j h1 (by omega)
      case measure => have := HM.out; simp [intOf]; omega
    · have e1 : ((n : Int) == (n : Int)) = true := by simp
      by_cases hca : cp = a
      · subst hca
        have hna : n = cp := by have := HM.out; omega
        subst hna
        have hmin : ¬ ((n : Int) + sz ≤ (n : Int)) := by have := HM.out; omega
        go_wp2_with fail
        have hrow : RowY wr ao (pcL l sz k) := .inl (by
          unfold pcL
          rw [HA.out, List.drop_eq_nil_of_le (by rw [HN.out]; omega)]
          simp)
        have hplen : (pcL l sz k).length = 0 := by
          unfold pcL
          rw [HA.out, List.length_take, List.length_drop, HN.out]
          omega
        have HPL := Lib.hid hplen
        refine (clone_any wr _ 0 0 (pcL l sz k) hrow hplen (by omega) (fun h => ?_)).mono ?_
        · exact ⟨rfl, rfl⟩
        clear hrow hplen
        rintro r3 w3 ⟨v2, rfl, ho3, hf3⟩
        obtain ⟨ao2, cp2, rfl, hc1, hc2, _⟩ := ho3.row
        rw [HPL.out] at ho3 ⊢
        have HO3 := Lib.hid (ho3.to (Nat.le_refl _) (Fr.alloc (fun _ => False) w3 (.cells (pcv ⟨id, (n : Int), (n : Int), sm, ao2, 0, cp2⟩) 36)) (fun _ _ e => e))
        have hb4 := Blk.new w3 36 (pcv ⟨id, (n : Int), (n : Int), sm, ao2, 0, cp2⟩)
        have hf4 : Fr (fun _ => False) wr (w3.alloc (.cells (pcv ⟨id, (n : Int), (n : Int), sm, ao2, 0, cp2⟩) 36)) := hf3.trans (Fr.alloc _ _ _)
        obtain ⟨g, hg⟩ : ∃ g, w3.heap.size = g := ⟨_, rfl⟩
        obtain ⟨w4, hw4⟩ : ∃ w, w3.alloc (.cells (pcv ⟨id, (n : Int), (n : Int), sm, ao2, 0, cp2⟩) 36) = w := ⟨_, rfl⟩
        rw [hw4] at hb4 hf4 HO3
        rw [hg] at hb4
        have hB4 : B ≤ w4.heap.size := by have := HBB.out; have := hf4.size; omega
        have hop := HCUT.out.o.fr hf4 (fun _ _ e => e)
        have hk1 : ps.length + 1 ≤ 10000000 := by
          have h1 := HLEN.out
          have h2 := HM.out
          have h3 := HA.out
          rcases HK.out with h | h
          · omega
          · have h4 : k ≤ k * sz := Nat.le_mul_of_pos_right k (by omega)
            omega
        obtain ⟨v5, w5, hrun, ho5, hf5, hob5⟩ := app_p 24 36 24 Tryd.underlying24 infoP36 w4 B v ps ⟨id, (n : Int), (n : Int), sm, ao2, 0, cp2⟩ hB4 hop g hb4 hk1
        have hnew : CutR w5 B 36 v5 l id sz (ps ++ [⟨id, (n : Int), (n : Int), sm, ao2, 0, cp2⟩]) := by
          refine ⟨ho5, fun j p hj => ?_⟩
          have hnb : ∀ (v : Value) (x : List UInt8), OwnY w4 B v x → OwnY w5 B v x := fun v' x h => h.fr hf5 (fun q hq e => by
            obtain ⟨_, _, cs, h1⟩ := hop.ob e
            obtain ⟨_, _, cs2, h2⟩ := h.ob hq
            rw [h1] at h2
            cases h2)
          rcases Nat.lt_or_ge j ps.length with hj1 | hj1
          · rw [List.getElem?_append_left hj1] at hj
            obtain ⟨q1, q2, q3, q4, q5⟩ := HCUT.out.p j p hj
            exact ⟨q1, q2, q3, q4, hnb _ _ (q5.fr hf4 (fun _ _ e => e))⟩
          · rw [List.getElem?_append_right hj1] at hj
            have hj0 : j = ps.length := by
              have := (List.getElem?_eq_some_iff.1 hj).1
              simp at this
              omega
            subst hj0
            rw [Nat.sub_self] at hj
            cases hj
            refine ⟨rfl, by rw [HLEN.out, HA.out], by rw [HN.out], HSM.out.symm, ?_⟩
            rw [HLEN.out]
            refine hnb _ _ (HO3.out.to (by have := HBB.out; have := hf3.size; omega) (Fr.refl (fun _ => False) w4) (fun _ _ e => e))
        have HNEW := Lib.hid hnew
        have HF5 : Hid (Fr (fun _ => False) W w5) := Lib.hid (by
          have h1 := HF.out.trans hf4
          exact ⟨hf5.os.trans h1.os, hf5.tape.trans h1.tape, hf5.output.trans h1.output, Nat.le_trans h1.size hf5.size, fun q hq _ => (hf5.block q (Nat.lt_of_lt_of_le hq h1.size) (fun e => by have := (hop.ob e).1; have := HB.out; omega)).trans (h1.block q hq (fun e => e))⟩)
        simp only [pcv] at hw4
        clear hnew ho5 hf5 hob5 hop hB4 hb4 hf4 ho3 hf3 hc1 hc2 HO3
        go_wp2_with (at_builtin; (try rw [hw4]); (try rw [hg]); refine wpList_appRun rfl _ _ _ rfl _ _ _ rfl rfl hrun ?_)
        clear hrun hw4 hg
        (try simp only [Exit.inBlock, Exit.then, Exit.noGoto_ret])
        go_ret2
        refine ⟨v5, ps ++ [⟨id, (n : Int), (n : Int), sm, ao2, 0, cp2⟩], rfl, ?_, ?_, ?_, ?_, HF5.out⟩
        · have := HB.out; rw [this]; exact HNEW.out
        · simp
        · have := HA.out; rw [List.length_append, HLEN.out]; simp only [List.length_cons, List.length_nil]; rw [Nat.add_mul]; omega
        · intro j h1 h2
          rw [List.length_append] at h2
          simp only [List.length_cons, List.length_nil] at h2
          exact HLT.out j h1 (by omega)
      · by_cases heq : (a : Int) + sz = (n : Int)
        · go_wp2_with fail
          have hrow : RowY wr (Option.map (fun x => x.add a) ao) (pcL l sz k) := by
            have h := HL.out.fr0 HF.out
            unfold pcL
            rw [HA.out]
            rcases h with h | ⟨b, o, rfl, hb, hc⟩
            · exact .inl (by rw [h]; simp)
            · refine .inr ⟨b, o + a, by first | (rw [if_neg (by omega)]; show some ((⟨b, o, none⟩ : Addr).add a) = _; rw [off_add]) | (show some ((⟨b, o, none⟩ : Addr).add a) = _; rw [off_add]), hb, fun i x hx => ?_⟩
              rw [List.getElem?_take] at hx
              split at hx
              · rw [List.getElem?_drop] at hx
                rw [Nat.add_assoc]
                exact hc _ x hx
              · cases hx
          have hplen : (pcL l sz k).length = (n - a) := by
            unfold pcL
            rw [HA.out, List.length_take, List.length_drop, HN.out]
            omega
          have HPL := Lib.hid hplen
          refine (clone_any wr _ (cp - a) (n - a) (pcL l sz k) hrow hplen (by omega) (fun h => ?_)).mono ?_
          · have hz := HZ.out (by first | (cases ao with | none => rfl | some _ => (first | (simp at h; done) | (split at h <;> simp at h)))); omega
          clear hrow hplen
          rintro r3 w3 ⟨v2, rfl, ho3, hf3⟩
          obtain ⟨ao2, cp2, rfl, hc1, hc2, _⟩ := ho3.row
          rw [HPL.out] at ho3 ⊢
          have HO3 := Lib.hid (ho3.to (Nat.le_refl _) (Fr.alloc (fun _ => False) w3 (.cells (pcv ⟨id, (a : Int), (n : Int), sm, ao2, (n - a), cp2⟩) 36)) (fun _ _ e => e))
          have hb4 := Blk.new w3 36 (pcv ⟨id, (a : Int), (n : Int), sm, ao2, (n - a), cp2⟩)
          have hf4 : Fr (fun _ => False) wr (w3.alloc (.cells (pcv ⟨id, (a : Int), (n : Int), sm, ao2, (n - a), cp2⟩) 36)) := hf3.trans (Fr.alloc _ _ _)
          obtain ⟨g, hg⟩ : ∃ g, w3.heap.size = g := ⟨_, rfl⟩
          obtain ⟨w4, hw4⟩ : ∃ w, w3.alloc (.cells (pcv ⟨id, (a : Int), (n : Int), sm, ao2, (n - a), cp2⟩) 36) = w := ⟨_, rfl⟩
          rw [hw4] at hb4 hf4 HO3
          rw [hg] at hb4
          have hB4 : B ≤ w4.heap.size := by have := HBB.out; have := hf4.size; omega
          have hop := HCUT.out.o.fr hf4 (fun _ _ e => e)
          have hk1 : ps.length + 1 ≤ 10000000 := by
            have h1 := HLEN.out
            have h2 := HM.out
            have h3 := HA.out
            rcases HK.out with h | h
            · omega
            · have h4 : k ≤ k * sz := Nat.le_mul_of_pos_right k (by omega)
              omega
          obtain ⟨v5, w5, hrun, ho5, hf5, hob5⟩ := app_p 24 36 24 Tryd.underlying24 infoP36 w4 B v ps ⟨id, (a : Int), (n : Int), sm, ao2, (n - a), cp2⟩ hB4 hop g hb4 hk1
          have hnew : CutR w5 B 36 v5 l id sz (ps ++ [⟨id, (a : Int), (n : Int), sm, ao2, (n - a), cp2⟩]) := by
            refine ⟨ho5, fun j p hj => ?_⟩
            have hnb : ∀ (v : Value) (x : List UInt8), OwnY w4 B v x → OwnY w5 B v x := fun v' x h => h.fr hf5 (fun q hq e => by
              obtain ⟨_, _, cs, h1⟩ := hop.ob e
              obtain ⟨_, _, cs2, h2⟩ := h.ob hq
              rw [h1] at h2
              cases h2)
            rcases Nat.lt_or_ge j ps.length with hj1 | hj1
            · rw [List.getElem?_append_left hj1] at hj
              obtain ⟨q1, q2, q3, q4, q5⟩ := HCUT.out.p j p hj
              exact ⟨q1, q2, q3, q4, hnb _ _ (q5.fr hf4 (fun _ _ e => e))⟩
            · rw [List.getElem?_append_right hj1] at hj
              have hj0 : j = ps.length := by
                have := (List.getElem?_eq_some_iff.1 hj).1
                simp at this
                omega
              subst hj0
              rw [Nat.sub_self] at hj
              cases hj
              refine ⟨rfl, by rw [HLEN.out, HA.out], by rw [HN.out], HSM.out.symm, ?_⟩
              rw [HLEN.out]
              refine hnb _ _ (HO3.out.to (by have := HBB.out; have := hf3.size; omega) (Fr.refl (fun _ => False) w4) (fun _ _ e => e))
          have HNEW := Lib.hid hnew
          have HF5 : Hid (Fr (fun _ => False) W w5) := Lib.hid (by
            have h1 := HF.out.trans hf4
            exact ⟨hf5.os.trans h1.os, hf5.tape.trans h1.tape, hf5.output.trans h1.output, Nat.le_trans h1.size hf5.size, fun q hq _ => (hf5.block q (Nat.lt_of_lt_of_le hq h1.size) (fun e => by have := (hop.ob e).1; have := HB.out; omega)).trans (h1.block q hq (fun e => e))⟩)
          simp only [pcv] at hw4
          clear hnew ho5 hf5 hob5 hop hB4 hb4 hf4 ho3 hf3 hc1 hc2 HO3
          go_wp2_with (at_builtin; (try rw [hw4]); (try rw [hg]); refine wpList_appRun rfl _ _ _ rfl _ _ _ rfl rfl hrun ?_)
          clear hrun hw4 hg
          (try simp only [Exit.inBlock, Exit.then, Exit.noGoto_ret])
          go_ret2
          refine ⟨v5, ps ++ [⟨id, (a : Int), (n : Int), sm, ao2, (n - a), cp2⟩], rfl, ?_, ?_, ?_, ?_, HF5.out⟩
          · have := HB.out; rw [this]; exact HNEW.out
          · simp
          · have := HA.out; rw [List.length_append, HLEN.out]; simp only [List.length_cons, List.length_nil]; rw [Nat.add_mul]; omega
          · intro j h1 h2
            rw [List.length_append] at h2
            simp only [List.length_cons, List.length_nil] at h2
            exact HLT.out j h1 (by omega)
        · have hmin : ¬ ((a : Int) + sz ≤ (n : Int)) := by have := HM.out; omega
          go_wp2_with fail
          have hrow : RowY wr (Option.map (fun x => x.add a) ao) (pcL l sz k) := by
            have h := HL.out.fr0 HF.out
            unfold pcL
            rw [HA.out]
            rcases h with h | ⟨b, o, rfl, hb, hc⟩
            · exact .inl (by rw [h]; simp)
            · refine .inr ⟨b, o + a, by first | (rw [if_neg (by omega)]; show some ((⟨b, o, none⟩ : Addr).add a) = _; rw [off_add]) | (show some ((⟨b, o, none⟩ : Addr).add a) = _; rw [off_add]), hb, fun i x hx => ?_⟩
              rw [List.getElem?_take] at hx
              split at hx
              · rw [List.getElem?_drop] at hx
                rw [Nat.add_assoc]
                exact hc _ x hx
              · cases hx
          have hplen : (pcL l sz k).length = (n - a) := by
            unfold pcL
            rw [HA.out, List.length_take, List.length_drop, HN.out]
            omega
          have HPL := Lib.hid hplen
          refine (clone_any wr _ (cp - a) (n - a) (pcL l sz k) hrow hplen (by omega) (fun h => ?_)).mono ?_
          · have hz := HZ.out (by first | (cases ao with | none => rfl | some _ => (first | (simp at h; done) | (split at h <;> simp at h)))); omega
          clear hrow hplen
          rintro r3 w3 ⟨v2, rfl, ho3, hf3⟩
          obtain ⟨ao2, cp2, rfl, hc1, hc2, _⟩ := ho3.row
          rw [HPL.out] at ho3 ⊢
          have HO3 := Lib.hid (ho3.to (Nat.le_refl _) (Fr.alloc (fun _ => False) w3 (.cells (pcv ⟨id, (a : Int), (n : Int), sm, ao2, (n - a), cp2⟩) 36)) (fun _ _ e => e))
          have hb4 := Blk.new w3 36 (pcv ⟨id, (a : Int), (n : Int), sm, ao2, (n - a), cp2⟩)
          have hf4 : Fr (fun _ => False) wr (w3.alloc (.cells (pcv ⟨id, (a : Int), (n : Int), sm, ao2, (n - a), cp2⟩) 36)) := hf3.trans (Fr.alloc _ _ _)
          obtain ⟨g, hg⟩ : ∃ g, w3.heap.size = g := ⟨_, rfl⟩
          obtain ⟨w4, hw4⟩ : ∃ w, w3.alloc (.cells (pcv ⟨id, (a : Int), (n : Int), sm, ao2, (n - a), cp2⟩) 36) = w := ⟨_, rfl⟩
          rw [hw4] at hb4 hf4 HO3
          rw [hg] at hb4
          have hB4 : B ≤ w4.heap.size := by have := HBB.out; have := hf4.size; omega
          have hop := HCUT.out.o.fr hf4 (fun _ _ e => e)
          have hk1 : ps.length + 1 ≤ 10000000 := by
            have h1 := HLEN.out
            have h2 := HM.out
            have h3 := HA.out
            rcases HK.out with h | h
            · omega
            · have h4 : k ≤ k * sz := Nat.le_mul_of_pos_right k (by omega)
              omega
          obtain ⟨v5, w5, hrun, ho5, hf5, hob5⟩ := app_p 24 36 24 Tryd.underlying24 infoP36 w4 B v ps ⟨id, (a : Int), (n : Int), sm, ao2, (n - a), cp2⟩ hB4 hop g hb4 hk1
          have hnew : CutR w5 B 36 v5 l id sz (ps ++ [⟨id, (a : Int), (n : Int), sm, ao2, (n - a), cp2⟩]) := by
            refine ⟨ho5, fun j p hj => ?_⟩
            have hnb : ∀ (v : Value) (x : List UInt8), OwnY w4 B v x → OwnY w5 B v x := fun v' x h => h.fr hf5 (fun q hq e => by
              obtain ⟨_, _, cs, h1⟩ := hop.ob e
              obtain ⟨_, _, cs2, h2⟩ := h.ob hq
              rw [h1] at h2
              cases h2)
            rcases Nat.lt_or_ge j ps.length with hj1 | hj1
            · rw [List.getElem?_append_left hj1] at hj
              obtain ⟨q1, q2, q3, q4, q5⟩ := HCUT.out.p j p hj
              exact ⟨q1, q2, q3, q4, hnb _ _ (q5.fr hf4 (fun _ _ e => e))⟩
            · rw [List.getElem?_append_right hj1] at hj
              have hj0 : j = ps.length := by
                have := (List.getElem?_eq_some_iff.1 hj).1
                simp at this
                omega
              subst hj0
              rw [Nat.sub_self] at hj
              cases hj
              refine ⟨rfl, by rw [HLEN.out, HA.out], by rw [HN.out], HSM.out.symm, ?_⟩
              rw [HLEN.out]
              refine hnb _ _ (HO3.out.to (by have := HBB.out; have := hf3.size; omega) (Fr.refl (fun _ => False) w4) (fun _ _ e => e))
          have HNEW := Lib.hid hnew
          have HF5 : Hid (Fr (fun _ => False) W w5) := Lib.hid (by
            have h1 := HF.out.trans hf4
            exact ⟨hf5.os.trans h1.os, hf5.tape.trans h1.tape, hf5.output.trans h1.output, Nat.le_trans h1.size hf5.size, fun q hq _ => (hf5.block q (Nat.lt_of_lt_of_le hq h1.size) (fun e => by have := (hop.ob e).1; have := HB.out; omega)).trans (h1.block q hq (fun e => e))⟩)
          simp only [pcv] at hw4
          clear hnew ho5 hf5 hob5 hop hB4 hb4 hf4 ho3 hf3 hc1 hc2 HO3
          go_wp2_with (at_builtin; (try rw [hw4]); (try rw [hg]); refine wpList_appRun rfl _ _ _ rfl _ _ _ rfl rfl hrun ?_)
          clear hrun hw4 hg
          (try simp only [Exit.inBlock, Exit.then, Exit.noGoto_ret])
          go_ret2
          refine ⟨v5, ps ++ [⟨id, (a : Int), (n : Int), sm, ao2, (n - a), cp2⟩], rfl, ?_, ?_, ?_, ?_, HF5.out⟩
          · have := HB.out; rw [this]; exact HNEW.out
          · simp
          · have := HA.out; rw [List.length_append, HLEN.out]; simp only [List.length_cons, List.length_nil]; rw [Nat.add_mul]; omega
          · intro j h1 h2
            rw [List.length_append] at h2
            simp only [List.length_cons, List.length_nil] at h2
            exact HLT.out j h1 (by omega)
set_option maxRecDepth 100000 in
set_option maxHeartbeats 4000000 in
theorem cut_bad (W : World) (id : Int) (ao : Option Addr) (cp n : Nat) (sz : Int) (hb : id < 0 ∨ sz < 1 ∨ 65536 < sz) :
    Calls Tryd.prog 8 #[.int .i64 id, .slice ao n cp, .int .i64 sz] W fun r W' => ∃ pb : Nat, r = .returned (.tuple #[.slice none 0 0, .iface 62 (.pointer (some ⟨pb, 0, none⟩))]) ∧ W.heap.size ≤ pb ∧ Blk W' pb 65 #[.int .i64 id, .iface 63 (.int .i64 1)] ∧ Fr (fun _ => False) W W' := by
  have hB := Blk.new W 65 #[.int .i64 id, .iface 63 (.int .i64 1)]
  have HB := Lib.hid hB
  clear hB
  by_cases h1 : id < 0
  · have p1 : decide (id < 0) = true := decide_eq_true h1
    go_enter Tryd.func8, Tryd.ntmps8
    go_wp2_with fail
    go_step3
    go_wp2
    (try simp only [Exit.inBlock, Exit.then, Exit.noGoto_ret])
    go_ret2
    exact ⟨_, rfl, Nat.le_refl _, HB.out, Fr.alloc _ _ _⟩
  have p1 : decide (id < 0) = false := decide_eq_false h1
  by_cases h2 : sz < 1
  · have p2 : decide (sz < 1) = true := decide_eq_true h2
    go_enter Tryd.func8, Tryd.ntmps8
    go_wp2_with fail
    go_step3
    go_wp2
    (try simp only [Exit.inBlock, Exit.then, Exit.noGoto_ret])
    go_ret2
    exact ⟨_, rfl, Nat.le_refl _, HB.out, Fr.alloc _ _ _⟩
  have p2 : decide (sz < 1) = false := decide_eq_false h2
  have p3 : decide (65536 < sz) = true := decide_eq_true (by omega)
  go_enter Tryd.func8, Tryd.ntmps8
  go_wp2_with fail
  go_step3
  go_wp2
  (try simp only [Exit.inBlock, Exit.then, Exit.noGoto_ret])
  go_ret2
  exact ⟨_, rfl, Nat.le_refl _, HB.out, Fr.alloc _ _ _⟩
end Go.Proofs.YtookojfigjdgcaaDoor
