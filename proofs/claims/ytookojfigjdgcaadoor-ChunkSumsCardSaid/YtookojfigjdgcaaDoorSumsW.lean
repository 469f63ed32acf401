/- The law ChunkSums. -/
import Derived.Test.YtookojfigjdgcaaDoorWholeW
import Derived.Test.YtookojfigjdgcaaDoorC7
import Derived.Test.YtookojfigjdgcaaDoorC2
import Derived.Test.YtookojfigjdgcaaDoorRZ
set_option linter.unusedVariables false
set_option linter.unusedSimpArgs false
namespace Go.Proofs.YtookojfigjdgcaaDoor
open Go.RowKit
theorem crc_set (l : List UInt8) (a : Nat) (c : UInt8) (h : a < l.length) (hne : l[a]? ≠ some c) : ((crc (l.set a c)).toNat : Int) ≠ ((crc l).toNat : Int) := by
  obtain ⟨x, hx⟩ : ∃ x, l[a]? = some x := ⟨_, List.getElem?_eq_getElem h⟩
  have e1 : l = l.take a ++ x :: l.drop (a + 1) := by
    have h1 := List.take_append_drop a l
    have h2 : l.drop a = x :: l.drop (a + 1) := by
      rw [List.drop_eq_getElem_cons h]
      congr 1
      exact (List.getElem?_eq_some_iff.1 hx).2
    rw [h2] at h1
    exact h1.symm
  have e2 : l.set a c = l.take a ++ c :: l.drop (a + 1) := List.set_eq_take_append_cons_drop .. |>.trans (if_pos h)
  have hxc : c ≠ x := fun e => hne (by rw [hx, e])
  have h3 := crc_one (l.take a) (l.drop (a + 1)) hxc
  rw [← e1, ← e2] at h3
  intro e
  exact h3 (BitVec.eq_of_toNat_eq (by omega))
theorem u8_xor_ne (x : UInt8) (t : Nat) (h0 : t ≠ 0) (ht : t < 256) : x ^^^ UInt8.ofNat t ≠ x := fun e => by
  have h1 : x ^^^ UInt8.ofNat t ^^^ x = x ^^^ x := by rw [e]
  rw [UInt8.xor_comm x, UInt8.xor_assoc, UInt8.xor_self, UInt8.xor_zero] at h1
  have h2 := congrArg UInt8.toNat h1
  simp at h2
  omega
theorem xor_u8 (x : UInt8) (t : Nat) (ht : t < 256) : (Op.intBits .xor .u8 (x.toNat : Int) (t : Int)) = (pure (.int .u8 ((x ^^^ UInt8.ofNat t).toNat : Int)) : Sem Value) := by
  show (pure (Value.int .u8 (IntKind.u8.wrap ((BitVec.ofInt 8 (x.toNat : Int) ^^^ BitVec.ofInt 8 (t : Int)).toNat : Int))) : Sem Value) = _
  congr 1
  congr 1
  have e1 : BitVec.ofInt 8 (x.toNat : Int) = x.toBitVec := by
    apply BitVec.eq_of_toNat_eq
    simp
  have e2 : BitVec.ofInt 8 (t : Int) = (UInt8.ofNat t).toBitVec := by
    apply BitVec.eq_of_toNat_eq
    simp
  rw [e1, e2, ← UInt8.toBitVec_xor]
  have := (x ^^^ UInt8.ofNat t).toNat_lt
  simp [IntKind.wrap, IntKind.bits, IntKind.signed] at *
  omega
set_option maxRecDepth 100000 in
set_option maxHeartbeats 8000000 in
theorem sums_any (W : World) (hL : Laid W) (ao : Option Addr) (n cp : Nat) (l : List UInt8) (hl : RowY W ao l) (hn : l.length = n) (hcp : n ≤ cp) (hcm : cp ≤ maxLen) (h0 : ao = none → n = 0 ∧ cp = 0) (sz at_ t : Int) (ht0 : 0 ≤ t) (ht : t < 256) :
    Calls Tryd.prog 6 #[.slice ao n cp, .int .i64 sz, .int .i64 at_, .int .u8 t] W fun e W' => e = .returned (.bool true) ∧ Fr (fun _ => False) W W' := by
  have HK := Lib.hid (known_any W hL)
  have HLD := Lib.hid hL
  have HR := Lib.hid (And.intro hl (And.intro hn (And.intro hcp (And.intro hcm h0))))
  clear hL hl hn hcp hcm h0
  obtain ⟨tn, rfl⟩ : ∃ tn : Nat, t = (tn : Int) := ⟨t.toNat, by omega⟩
  by_cases g0 : n = 0
  · subst g0
    go_enter Tryd.func6, Tryd.ntmps6
    go_wp2_with (first | (go_at_call 7; refine HK.out.mono ?_; rintro r1 w1 ⟨rfl, hf1⟩) | go_in)
    go_ret
    exact ⟨rfl, hf1⟩
  have e0 : ((n : Int) == 0) = false := by simp; omega
  have f0 : (n == 0) = false := by simp; omega
  by_cases g1 : 2048 < n
  · have e1 : decide (2048 < (n : Int)) = true := decide_eq_true (by omega)
    have f1 : decide (2048 < n) = true := decide_eq_true (by omega)
    go_enter Tryd.func6, Tryd.ntmps6
    go_wp2_with (first | (go_at_call 7; refine HK.out.mono ?_; rintro r1 w1 ⟨rfl, hf1⟩) | go_in)
    go_ret
    exact ⟨rfl, hf1⟩
  have e1 : decide (2048 < (n : Int)) = false := decide_eq_false (by omega)
  have f1 : decide (2048 < n) = false := decide_eq_false (by omega)
  by_cases g2 : sz < 1
  · have e2 : decide (sz < 1) = true := decide_eq_true (by omega)
    go_enter Tryd.func6, Tryd.ntmps6
    go_wp2_with (first | (go_at_call 7; refine HK.out.mono ?_; rintro r1 w1 ⟨rfl, hf1⟩) | go_in)
    go_ret
    exact ⟨rfl, hf1⟩
  have e2 : decide (sz < 1) = false := decide_eq_false (by omega)
  by_cases g3 : 4096 < sz
  · have e3 : decide (4096 < sz) = true := decide_eq_true (by omega)
    go_enter Tryd.func6, Tryd.ntmps6
    go_wp2_with (first | (go_at_call 7; refine HK.out.mono ?_; rintro r1 w1 ⟨rfl, hf1⟩) | go_in)
    go_ret
    exact ⟨rfl, hf1⟩
  have e3 : decide (4096 < sz) = false := decide_eq_false (by omega)
  by_cases g4 : tn = 0
  · subst g4
    go_enter Tryd.func6, Tryd.ntmps6
    go_wp2_with (first | (go_at_call 7; refine HK.out.mono ?_; rintro r1 w1 ⟨rfl, hf1⟩) | go_in)
    go_ret
    exact ⟨rfl, hf1⟩
  have e4 : ((tn : Int) == 0) = false := by simp; omega
  have f4 : (tn == 0) = false := by simp; omega
  obtain ⟨s, rfl⟩ : ∃ s : Nat, sz = (s : Int) := ⟨sz.toNat, by omega⟩
  have HNB : Hid (1 ≤ n ∧ n ≤ 2048 ∧ 1 ≤ s ∧ s ≤ 4096 ∧ tn ≠ 0 ∧ tn < 256) := Lib.hid (by omega)
  have e2' : decide (s < 1) = false := decide_eq_false (by omega)
  have e3' : decide (4096 < s) = false := decide_eq_false (by omega)
  go_enter Tryd.func6, Tryd.ntmps6
  go_upto_region 5 with (first | (go_at_call 7; refine HK.out.mono ?_; rintro r1 w1 ⟨rfl, hf1⟩) | go_in)
  have hc1 : cp ≤ 9223372036854775807 := by have := HR.out.2.2.2.1; unfold maxLen at this; omega
  have HCUT := Lib.hid (cut_dist w1 2 ao cp n l (HR.out.1.fr0 hf1) HR.out.2.1 (by have := HNB.out; omega) HR.out.2.2.1 hc1 HR.out.2.2.2.2 s (by decide) HNB.out.2.2.1 (by have := HNB.out; omega))
  have HF1 := Lib.hid hf1
  clear hf1 HK
  go_upto_region 6 with (first | (go_at_call 8; refine HCUT.out.mono ?_; rintro r2 w2 ⟨v, ps, rfl, hc, h1, h2, h3, hf2, hdi⟩) | go_in)
  have HF2 := Lib.hid (HF1.out.trans hf2)
  have HCU2 := Lib.hid (cut_good w2 3 ao cp n l (HR.out.1.fr0 HF2.out) HR.out.2.1 (by have := HNB.out; omega) HR.out.2.2.1 hc1 HR.out.2.2.2.2 s (by decide) HNB.out.2.2.1 (by have := HNB.out; omega))
  have HW1 : Hid (W.heap.size ≤ w1.heap.size) := Lib.hid HF1.out.size
  have HSZ : Hid (w1.heap.size ≤ w2.heap.size) := Lib.hid hf2.size
  have HOLD := Lib.hid hc
  clear HCUT hc1
  go_upto_region 7 with (first | (go_at_call 8; refine HCU2.out.mono ?_; rintro r3 w3 ⟨v', qs, rfl, hd, k1, k2, k3, hf3⟩) | go_in)
  have hc := hc.keep hf3 (fun _ _ e => e)
  obtain ⟨gp, cap, rfl, _, _, m1, m2, _⟩ := hc.row h1
  obtain ⟨gq, cap', rfl, _, _, m3, m4, _⟩ := hd.row k1
  have hlen := cuts_len h1 k1 h2 k2 h3 k3
  obtain ⟨N, hN⟩ : ∃ N, ps.length = N := ⟨_, rfl⟩
  rw [← hlen] at hd k1 k2 k3 m3 ⊢
  rw [hN] at hc HOLD h1 h2 h3 m1 k1 k2 k3 m3 hd ⊢
  have hM : qs.length = N := by omega
  have HC := Lib.hid hc
  have HD := Lib.hid hd
  have HDI := Lib.hid hdi
  have HF3 := Lib.hid (HF2.out.trans hf3)
  have HP := Lib.hid (And.intro hN (And.intro h1 (And.intro h2 (And.intro h3 m1))))
  have HQ := Lib.hid (And.intro hM m3)
  clear hc hd hdi hN hM hlen h1 h2 h3 k1 k2 k3 m1 m2 m3 m4 HCU2 hf2 hf3 HF1 HF2
  go_upto_region 8 with (first | (go_at_call 12; refine (newb_any w3).mono ?_; rintro r4 w4 ⟨rfl, hbs4, hf4⟩) | go_in)
  obtain ⟨bb, hbb⟩ : ∃ b, w3.heap.size = b := ⟨_, rfl⟩
  rw [hbb] at hbs4 ⊢
  have HB4 := Lib.hid (hbs4 bb)
  have HBB := Lib.hid hbb
  have HF4 : Hid (Fr (fun k => k = bb) w3 w4) := Lib.hid (hf4.mono fun _ e => e.elim)
  clear hbs4 hf4 hbb
  have hN1 := HP.out.2.1
  have hNne : (N : Int) ≠ 0 := by omega
  have hr := tmod_lt at_ N hN1
  go_upto_region 11 with (fail)
  obtain ⟨r, hre⟩ : ∃ r, at_.tmod (N : Int) = r := ⟨_, rfl⟩
  rw [hre] at hr ⊢
  have hcapp := HP.out.2.2.2.2
  have hNm : Hid (N ≤ 2049) := Lib.hid (by
    rcases Nat.lt_or_ge 1 N with h | h
    · have h8 := HP.out.2.2.2.1 (N - 1) (by omega) (by omega)
      have h9 : N - 1 ≤ (N - 1) * s := Nat.le_mul_of_pos_right _ (by have := HNB.out; omega)
      have := HNB.out
      omega
    · omega)
  clear hre hNne hN1
  by_cases hr0 : r < 0
  · have r0 : decide (r < 0) = true := decide_eq_true hr0
    obtain ⟨q, hqr⟩ : ∃ q : Nat, r = -(q : Int) := ⟨r.natAbs, by omega⟩
    subst hqr
    have hq : q < N := by omega
    have hw0 : wrap64 (0 - -(q : Int)) = (q : Int) := by have := hNm.out; rw [wrap64]; omega
    go_upto_region 13 with (fail)
    have hw1 : wrap64 (q : Int) = (q : Int) := by have := hNm.out; rw [wrap64]; omega
    (try rw [hw0])
    (try rw [hw1])
    clear hw1 hw0 r0 hr0 hr
    obtain ⟨p, hp⟩ : ∃ p, ps[q]? = some p := ⟨_, List.getElem?_eq_getElem (by have := HP.out.1; omega)⟩
    have hqn : q * s < n := by
      rcases Nat.eq_zero_or_pos q with h | h
      · rw [h, Nat.zero_mul]; exact HNB.out.1
      · exact HP.out.2.2.2.1 q h hq
    obtain ⟨q1, q2, q3, q4, q5⟩ := HC.out.p q p hp
    obtain ⟨u1, u2, u3, u4, u5⟩ := HC.out.piece hp
    have hdl : 1 ≤ p.dl := by
      have := pcL_len l s q
      have := HR.out.2.1
      have := HNB.out
      omega
    obtain ⟨g, hg⟩ : ∃ g, p.ao = some ⟨g, 0, none⟩ := by
      rcases q5.form with ⟨e, _⟩ | ⟨g, _, e, _⟩
      · injection e with _ e2 _
        omega
      · injection e with e1 _ _
        exact ⟨g, e1⟩
    have hgl : g < w2.heap.size := by
      obtain ⟨_, _, _, _, q5'⟩ := HOLD.out.p q p hp
      exact (q5'.ob (k := g) (by rw [hg]; rfl)).2.1
    have hgW : w1.heap.size ≤ g := by
      obtain ⟨_, _, _, _, q5'⟩ := HOLD.out.p q p hp
      exact (q5'.ob (k := g) (by rw [hg]; rfl)).1
    obtain ⟨x, hx⟩ : ∃ x, (pcL l s q)[0]? = some x := ⟨_, List.getElem?_eq_getElem (by omega)⟩
    have hlx : l[q * s]? = some x := by
      rw [pcL_at, if_pos (by have := HNB.out; omega), Nat.add_zero] at hx
      exact hx
    have hxc : w3.cell? ⟨g, 0, none⟩ = some (.int .u8 (x.toNat : Int)) := by
      rcases u1 with h | ⟨b, o, e, hb, hc⟩
      · rw [h] at hx; simp at hx
      · rw [hg] at e
        cases e
        have := hc 0 x hx
        rwa [Nat.zero_add] at this
    have hsl : w3.cell? ⟨gp, q * 5 + 4, none⟩ = some (.slice p.ao p.dl p.cp) := HC.out.cell hp (j := 4) rfl
    have HTURN := Lib.hid (CutS.turned HC.out HDI.out HNB.out.2.2.1 q p hp g hg (x ^^^ UInt8.ofNat tn))
    obtain ⟨dl, hdle⟩ : ∃ d, p.dl = d := ⟨_, rfl⟩
    obtain ⟨cpp, hcpe⟩ : ∃ c, p.cp = c := ⟨_, rfl⟩
    rw [hg, hdle, hcpe] at hsl
    rw [hdle] at hdl
    have hdl0 : 0 < dl := hdl
    have HX := Lib.hid (And.intro hlx (And.intro hqn (And.intro hgl hgW)))
    have hxl := hlx
    have HCQ : Hid (Blk w3 g 5 ((w3.heap[g]?.bind fun | .cells cs 5 (0, 0) => some cs | _ => none).getD #[])) := Lib.hid (by
      obtain ⟨_, _, cs, hcs⟩ := q5.ob (k := g) (by rw [hg]; rfl)
      unfold Blk
      rw [hcs]
      rfl)
    have hfz : ∀ w', Fr (fun k => k = bb) w3 w' → w'.frozen? ⟨g, 0, none⟩ = false := fun w' hf => (HCQ.out.fr hf (by have := HF3.out.size; have := HBB.out; have := HCQ.out.lt; omega)).frozen 0
    clear hx hlx u1 u2 u3 u4 u5 q1 q2 q3 q4 q5 hp hg hdle hcpe hqn hgl hgW
    have hgb : g ≠ bb := by have := HCQ.out.lt; have := HBB.out; omega
    have FACT : Hid (∀ w', Fr (fun k => k = bb) w3 w' → w'.cell? ⟨gp, q * 5 + 4, none⟩ = some (.slice (some ⟨g, 0, none⟩) dl cpp) ∧ w'.cell? ⟨g, 0, none⟩ = some (.int .u8 (x.toNat : Int))) := Lib.hid (fun w' hf => by
      have h1 := lt_of_cell hsl
      have h2 := lt_of_cell hxc
      have h3 := HBB.out
      exact ⟨(World.cell?_of_block (hf.block gp h1 (by dsimp only at h1; omega))).trans hsl, (World.cell?_of_block (hf.block g h2 (by dsimp only at h2; omega))).trans hxc⟩)
    clear hsl hxc
    obtain ⟨c, hcx⟩ : ∃ c, x ^^^ UInt8.ofNat tn = c := ⟨_, rfl⟩
    have hxor := xor_u8 x tn (by have := HNB.out; omega)
    rw [hcx] at hxor HTURN
    have HCX := Lib.hid hcx
    clear hcx
    refine region_Z (fun w' => w'.cell? ⟨gp, q * 5 + 4, none⟩ = some (.slice (some ⟨g, 0, none⟩) dl cpp) ∧ w'.cell? ⟨g, 0, none⟩ = some (.int .u8 (x.toNat : Int))) 15 (by kernel_rfl) (FACT.out _ (HF4.out.trans (Fr.drewN _ w4 1))) (fun hT => ?_)
    have hfd : Fr (fun k => k = bb) w3 w4.drew := HF4.out.trans (Fr.drewN _ w4 1)
    have hbd : BS w4.drew bb bb (-1) 0 0 [] := HB4.out.fr0 (Fr.drewN _ w4 1)
    obtain ⟨wd, hwd⟩ : ∃ w, w4.drew = w := ⟨_, rfl⟩
    rw [hwd] at hT hfd hbd ⊢
    have HFD := Lib.hid hfd
    have HBD := Lib.hid hbd
    clear hwd hfd hbd FACT
    refine anyZ_take (i := 0) (oi := _) (v := ?vz0) rfl (by kernel_rfl) (by kernel_rfl) (by kernel_rfl) (by kernel_rfl) (fun _ _ _ h => h) (Or.inl ⟨by rfl, ?yz0⟩) (by assumption) ?rz0
    case yz0 => intro w1 hSw; obtain ⟨y0, y1⟩ := hSw; go_simp; try with_reducible rfl
    try simp only [List.getElem_toArray, List.getElem_cons_zero, List.getElem_cons_succ, Act.put, List.setIfInBounds_toArray, List.set_cons_zero, List.set_cons_succ]
    refine anyZ_take (i := 1) (oi := _) (v := ?vz1) rfl (by kernel_rfl) (by kernel_rfl) (by kernel_rfl) (by kernel_rfl) (fun _ _ _ h => h) (Or.inl ⟨by rfl, ?yz1⟩) (by assumption) ?rz1
    case yz1 => intro w1 hSw; obtain ⟨y0, y1⟩ := hSw; go_simp; try with_reducible rfl
    try simp only [List.getElem_toArray, List.getElem_cons_zero, List.getElem_cons_succ, Act.put, List.setIfInBounds_toArray, List.set_cons_zero, List.set_cons_succ]
    refine anyZ_take (i := 2) (oi := _) (v := ?vz2) rfl (by kernel_rfl) (by kernel_rfl) (by kernel_rfl) (by kernel_rfl) (fun _ _ _ h => h) (Or.inl ⟨by rfl, ?yz2⟩) (by assumption) ?rz2
    case yz2 => intro w1 hSw; obtain ⟨y0, y1⟩ := hSw; go_simp; try with_reducible rfl
    try simp only [List.getElem_toArray, List.getElem_cons_zero, List.getElem_cons_succ, Act.put, List.setIfInBounds_toArray, List.set_cons_zero, List.set_cons_succ]
    refine anyZ_take (i := 3) (oi := _) (v := ?vz3) rfl (by kernel_rfl) (by kernel_rfl) (by kernel_rfl) (by kernel_rfl) (fun _ _ _ h => h) (Or.inl ⟨by rfl, ?yz3⟩) (by assumption) ?rz3
    case yz3 => intro w1 hSw; obtain ⟨y0, y1⟩ := hSw; go_simp; try with_reducible rfl
    try simp only [List.getElem_toArray, List.getElem_cons_zero, List.getElem_cons_succ, Act.put, List.setIfInBounds_toArray, List.set_cons_zero, List.set_cons_succ]
    refine anyZ_take (i := 4) (oi := _) (v := ?vz4) rfl (by kernel_rfl) (by kernel_rfl) (by kernel_rfl) (by kernel_rfl) (fun _ _ _ h => h) (Or.inl ⟨by rfl, ?yz4⟩) (by assumption) ?rz4
    case yz4 => intro w1 hSw; obtain ⟨y0, y1⟩ := hSw; go_simp; try with_reducible rfl
    try simp only [List.getElem_toArray, List.getElem_cons_zero, List.getElem_cons_succ, Act.put, List.setIfInBounds_toArray, List.set_cons_zero, List.set_cons_succ]
    refine anyZ_take (i := 5) (oi := _) (v := ?vz5) rfl (by kernel_rfl) (by kernel_rfl) (by kernel_rfl) (by kernel_rfl) (fun _ _ _ h => h) (Or.inl ⟨by rfl, ?yz5⟩) (by assumption) ?rz5
    case yz5 => intro w1 hSw; obtain ⟨y0, y1⟩ := hSw; go_simp; try with_reducible rfl
    try simp only [List.getElem_toArray, List.getElem_cons_zero, List.getElem_cons_succ, Act.put, List.setIfInBounds_toArray, List.set_cons_zero, List.set_cons_succ]
    refine anyZ_take (i := 6) (oi := _) (v := ?vz6) rfl (by kernel_rfl) (by kernel_rfl) (by kernel_rfl) (by kernel_rfl) (fun _ _ _ h => h) (Or.inl ⟨by rfl, ?yz6⟩) (by assumption) ?rz6
    case yz6 => intro w1 hSw; obtain ⟨y0, y1⟩ := hSw; go_simp; try with_reducible rfl
    try simp only [List.getElem_toArray, List.getElem_cons_zero, List.getElem_cons_succ, Act.put, List.setIfInBounds_toArray, List.set_cons_zero, List.set_cons_succ]
    refine anyZ_take (i := 7) (oi := _) (v := ?vz7) rfl (by kernel_rfl) (by kernel_rfl) (by kernel_rfl) (by kernel_rfl) (fun _ _ _ h => h) (Or.inl ⟨by rfl, ?yz7⟩) (by assumption) ?rz7
    case yz7 => intro w1 hSw; obtain ⟨y0, y1⟩ := hSw; go_simp; try with_reducible rfl
    try simp only [List.getElem_toArray, List.getElem_cons_zero, List.getElem_cons_succ, Act.put, List.setIfInBounds_toArray, List.set_cons_zero, List.set_cons_succ]
    refine anyZ_take (i := 8) (oi := _) (v := ?vz8) rfl (by kernel_rfl) (by kernel_rfl) (by kernel_rfl) (by kernel_rfl) (fun _ _ _ h => h) (Or.inl ⟨by rfl, ?yz8⟩) (by assumption) ?rz8
    case yz8 => intro w1 hSw; obtain ⟨y0, y1⟩ := hSw; go_simp; try with_reducible rfl
    try simp only [List.getElem_toArray, List.getElem_cons_zero, List.getElem_cons_succ, Act.put, List.setIfInBounds_toArray, List.set_cons_zero, List.set_cons_succ]
    refine anyZ_take (i := 9) (oi := _) (v := ?vz9) rfl (by kernel_rfl) (by kernel_rfl) (by kernel_rfl) (by kernel_rfl) (fun _ _ _ h => h) (Or.inl ⟨by rfl, ?yz9⟩) (by assumption) ?rz9
    case yz9 => intro w1 hSw; obtain ⟨y0, y1⟩ := hSw; go_simp; try with_reducible rfl
    try simp only [List.getElem_toArray, List.getElem_cons_zero, List.getElem_cons_succ, Act.put, List.setIfInBounds_toArray, List.set_cons_zero, List.set_cons_succ]
    refine anyZ_take (i := 10) (oi := _) (v := ?vz10) rfl (by kernel_rfl) (by kernel_rfl) (by kernel_rfl) (by kernel_rfl) (fun _ _ _ h => h) (Or.inl ⟨by rfl, ?yz10⟩) (by assumption) ?rz10
    case yz10 => intro w1 hSw; obtain ⟨y0, y1⟩ := hSw; go_simp; try with_reducible rfl
    try simp only [List.getElem_toArray, List.getElem_cons_zero, List.getElem_cons_succ, Act.put, List.setIfInBounds_toArray, List.set_cons_zero, List.set_cons_succ]
    refine anyZ_take (i := 11) (oi := _) (v := ?vz11) rfl (by kernel_rfl) (by kernel_rfl) (by kernel_rfl) (by kernel_rfl) (fun _ _ _ h => h) (Or.inl ⟨by rfl, ?yz11⟩) (by assumption) ?rz11
    case yz11 => intro w1 hSw; obtain ⟨y0, y1⟩ := hSw; go_simp; try with_reducible rfl
    try simp only [List.getElem_toArray, List.getElem_cons_zero, List.getElem_cons_succ, Act.put, List.setIfInBounds_toArray, List.set_cons_zero, List.set_cons_succ]
    refine anyZ_take (i := 12) (oi := _) (v := ?vz12) rfl (by kernel_rfl) (by kernel_rfl) (by kernel_rfl) (by kernel_rfl) (fun _ _ _ h => h) (Or.inl ⟨by rfl, ?yz12⟩) (by assumption) ?rz12
    case yz12 => intro w1 hSw; obtain ⟨y0, y1⟩ := hSw; go_simp; try with_reducible rfl
    try simp only [List.getElem_toArray, List.getElem_cons_zero, List.getElem_cons_succ, Act.put, List.setIfInBounds_toArray, List.set_cons_zero, List.set_cons_succ]
    refine anyZ_take (i := 13) (oi := _) (v := (.int .u8 (c.toNat : Int))) rfl (by kernel_rfl) (by kernel_rfl) (by kernel_rfl) (by kernel_rfl) (fun _ _ _ h => h) (Or.inl ⟨by rfl, ?yz13⟩) (by assumption) ?rz13
    case yz13 => intro w1 hSw; obtain ⟨y0, y1⟩ := hSw; go_simp; try with_reducible rfl
    try simp only [List.getElem_toArray, List.getElem_cons_zero, List.getElem_cons_succ, Act.put, List.setIfInBounds_toArray, List.set_cons_zero, List.set_cons_succ]
    refine anyZ_take (i := 14) (oi := _) (v := ?vz14) rfl (by kernel_rfl) (by kernel_rfl) (by kernel_rfl) (by kernel_rfl) (fun _ _ _ h => h) (Or.inl ⟨by rfl, ?yz14⟩) (by assumption) ?rz14
    case yz14 => intro w1 hSw; obtain ⟨y0, y1⟩ := hSw; go_simp; try with_reducible rfl
    try simp only [List.getElem_toArray, List.getElem_cons_zero, List.getElem_cons_succ, Act.put, List.setIfInBounds_toArray, List.set_cons_zero, List.set_cons_succ]
    refine anyZ_one (i := 15) (by kernel_rfl) (o := _) rfl (fun K hK => ?_)
    rw [if_pos (by rfl)]
    try simp only [List.getElem_toArray, List.getElem_cons_zero, List.getElem_cons_succ]
    have hfz2 := hfz wd HFD.out
    have hcz := hT.2
    go_simp
    obtain ⟨l2, hl2⟩ : ∃ l2, l.set (q * s) c = l2 := ⟨_, rfl⟩
    have hl2n : l2.length = n := by rw [← hl2, List.length_set]; exact HR.out.2.1
    have hbad : ((crc l2).toNat : Int) ≠ ((crc l).toNat : Int) := by
      rw [← hl2]
      refine crc_set l (q * s) c (by have := HX.out.2.1; have := HR.out.2.1; omega) (fun e => ?_)
      rw [HX.out.1] at e
      injection e with e
      exact u8_xor_ne x tn HNB.out.2.2.2.2.1 HNB.out.2.2.2.2.2 (HCX.out.trans e.symm)
    rw [hl2] at HTURN
    have hfT : Fr (fun k => k = g) w3 (w3.setCell ⟨g, 0, none⟩ (.int .u8 (c.toNat : Int))) := Fr.setCell _ _ _ rfl
    have hfS : Fr (fun k => k = g) wd (wd.setCell ⟨g, 0, none⟩ (.int .u8 (c.toNat : Int))) := Fr.setCell _ _ _ rfl
    have hf5 : Fr (fun k => k = bb) (w3.setCell ⟨g, 0, none⟩ (.int .u8 (c.toNat : Int))) (wd.setCell ⟨g, 0, none⟩ (.int .u8 (c.toNat : Int))) := HFD.out.set2 _ _
    have hsz : (w3.setCell ⟨g, 0, none⟩ (.int .u8 (c.toNat : Int))).heap.size = bb := by rw [← HBB.out]; simp [World.setCell]
    obtain ⟨wT, hwT⟩ : ∃ w, w3.setCell ⟨g, 0, none⟩ (.int .u8 (c.toNat : Int)) = w := ⟨_, rfl⟩
    obtain ⟨wS, hwS⟩ : ∃ w, wd.setCell ⟨g, 0, none⟩ (.int .u8 (c.toNat : Int)) = w := ⟨_, rfl⟩
    rw [hwT] at hf5 hsz hfT HTURN
    rw [hwS] at hf5 hfS ⊢
    have HBS5 : Hid (BS wS bb bb (-1) 0 0 []) := Lib.hid (by
      obtain ⟨vb, h1, h2⟩ := HBD.out
      exact ⟨vb, h1.fr hfS (fun e => hgb e.symm), h2.fr hfS (fun k hk e => by have h3 := (h2.ob hk).1; have h4 := HCQ.out.lt; have h5 := HBB.out; omega)⟩)
    have HD5 : Hid (CutR wT w2.heap.size 36 (.slice (some ⟨gq, 0, none⟩) N cap') l 3 s qs) := Lib.hid (HD.out.keepB hfT (fun k h1 h2 e => by have := HX.out.2.2.1; omega))
    have HALL : Hid (∀ w', Fr (fun k => k = bb) wT w' → Fr (fun _ => False) W w') := Lib.hid (fun w' hf => Fr.above' HF3.out ((hfT.mono (S' := fun k => k = g ∨ k = bb) (fun _ e => .inl e)).trans (hf.mono (fun _ e => .inr e))) (fun k e => by
      have h1 := HF3.out.size
      have h2 := HBB.out
      have h3 := HX.out.2.2.2
      have h4 := HW1.out
      rcases e with e | e <;> omega))
    have HF5 := Lib.hid hf5
    have HSZ5 := Lib.hid hsz
    have HL2 := Lib.hid (And.intro hl2n hbad)
    obtain ⟨sm, hsm⟩ : ∃ sm : Int, ((crc l).toNat : Int) = sm := ⟨_, rfl⟩
    rw [hsm] at HTURN HL2
    have HSM := Lib.hid hsm
    clear hl2 hl2n hbad hfT hfS hf5 hsz hwT hwS hsm hfz2 hcz HBD HFD HD HC HOLD hxor hfz hxl HB4 HF4
    refine hK.out _ _ (fun h => absurd rfl h) (fun _ => ?_)
    clear hK K hT
    try simp only [List.getElem_toArray, List.getElem_cons_zero, List.getElem_cons_succ, Act.put, List.setIfInBounds_toArray, List.set_cons_zero, List.set_cons_succ]
    refine anyZ_done (by kernel_rfl) ?_ _
    clear HCQ HCX
    go_wp2_with fail
    go_loopw [15, 16, 17] (fun iv bv ev wr => ∃ k : Nat, k ≤ N ∧ iv = .int .i64 (k : Int) ∧ Head wr bb l2 2 sm s k ∧ Fr (fun k => k = bb) wT wr) (fun iv _ _ _ => N - (intOf iv).toNat)
    case atStart => exact ⟨0, Nat.zero_le _, rfl, .inl ⟨rfl, -1, 0, 0, [], by decide, by decide, HBS5.out⟩, HF5.out⟩
    case round =>
      obtain ⟨k, hk, rfl, hh, hf⟩ := hrel
      have HFR := Lib.hid hf
      have HHD := Lib.hid hh
      clear hf hh
      by_cases hlt : k < N
      · have p0 : decide ((k : Int) < (N : Int)) = true := decide_eq_true (by omega)
        have p0' : decide (k < N) = true := decide_eq_true hlt
        obtain ⟨pk, hpk⟩ : ∃ pk, ps[k]? = some pk := ⟨_, List.getElem?_eq_getElem (by have := HP.out.1; omega)⟩
        have hcr := HTURN.out.keep HFR.out (fun j hj e => by have := HSZ5.out; omega)
        have HADD := Lib.hid (add_headS wr bb w1.heap.size _ l2 2 sm s ps hcr (by have := HFR.out.size; have := HSZ5.out; omega) (by decide) HNB.out.2.2.1 (by have := HL2.out.1; have := HNB.out; omega) k pk hpk (by
          rcases Nat.eq_zero_or_pos k with h | h
          · exact .inl h
          · right; rw [HL2.out.1]; exact HP.out.2.2.2.1 k h hlt) HHD.out)
        obtain ⟨i1, xx, t, m, a1, d, c1⟩ := pk
        have y0 : wr.cell? ⟨gp, k * 5, none⟩ = some (.int .i64 i1) := hcr.cell hpk (j := 0) rfl
        have y1 : wr.cell? ⟨gp, k * 5 + 1, none⟩ = some (.int .i64 xx) := hcr.cell hpk (j := 1) rfl
        have y2 : wr.cell? ⟨gp, k * 5 + 2, none⟩ = some (.int .i64 t) := hcr.cell hpk (j := 2) rfl
        have y3 : wr.cell? ⟨gp, k * 5 + 3, none⟩ = some (.int .u32 m) := hcr.cell hpk (j := 3) rfl
        have y4 : wr.cell? ⟨gp, k * 5 + 4, none⟩ = some (.slice a1 d c1) := hcr.cell hpk (j := 4) rfl
        simp only [pcv] at HADD
        clear hcr hpk
        have HW3 : Hid (wrap64 ((k : Int) + 1) = ((k + 1 : Nat) : Int)) := Lib.hid (by have := hNm.out; rw [wrap64]; omega)
        go_wp2_with (first | (go_at_call 13; refine HADD.out.mono ?_; rintro r5 w5 ⟨hf5, hh5, xb, rfl⟩) | go_in)
        go_roundw
        case rel => exact ⟨k + 1, hlt, by first | rw [HW3.out] | simp, hh5, HFR.out.trans hf5⟩
        case measure => (try rw [HW3.out]); clear HW3; simp [intOf]; omega
      · have hkN : k = N := by omega
        subst hkN
        have p0 : decide ((k : Int) < (k : Int)) = false := by simp
        have p0' : decide (k < k) = false := by simp
        have hbs := head_all HHD.out HP.out.2.1 (by have := HP.out.2.2.1; have := HL2.out.1; omega)
        have HD1 := Lib.hid (Done_any wr bb bb 2 l2.length sm l2 hbs (by have := HFR.out.size; have := HSZ5.out; omega) (by have := HL2.out.1; have := HNB.out; omega))
        clear hbs hlt HHD
        go_upto_region 21 with (first | (go_at_call 14; refine HD1.out.mono ?_; rintro r6 w6 ⟨hf6, _, hg6⟩; obtain ⟨hbs6, hb6, _⟩ := hg6 (by omega); obtain ⟨pb, hpb, hblk6, rfl⟩ := hb6 HL2.out.2) | go_in)
        have HF6 := Lib.hid (HFR.out.trans hf6)
        have HB6 := Lib.hid hbs6
        have HBLK6 := Lib.hid hblk6
        clear hf6 hbs6 hblk6 hpb hg6 hb6 HD1 HFR p0 p0'
        go_upto_region 22 with (first | (go_at_call 20; refine (next_any w6 bb bb (-1) 0 0 [] HB6.out).mono ?_; rintro r7 w7 ⟨rfl, hf7⟩) | go_in)
        have HF7 := Lib.hid (HF6.out.trans (hf7.mono fun _ e => e.elim))
        have HB7 := Lib.hid (HB6.out.fr0 hf7)
        have HBR := Lib.hid (broken_any w7 (HLD.out.fr0 (HALL.out _ HF7.out)) pb 2 9 (by unfold In64; omega) (by unfold Num; omega) (HBLK6.out.fr hf7 (fun e => e)))
        clear hf7 HF6 HB6 HBLK6
        go_upto_region 24 with (first | (go_at_call 10; refine HBR.out.mono ?_; rintro r8 w8 ⟨rfl, hf8⟩) | go_in)
        have HF8 := Lib.hid (HF7.out.trans (hf8.mono fun _ e => e.elim))
        have HB8 := Lib.hid (HB7.out.fr0 hf8)
        clear hf8 HF7 HB7 HBR
        go_wp2_with fail
        go_loopw [21] (fun iv wr => ∃ j : Nat, j ≤ k ∧ iv = .int .i64 (j : Int) ∧ Head wr bb l 3 sm s j ∧ Fr (fun k => k = bb) wT wr) (fun iv _ => k - (intOf iv).toNat)
        case atStart => exact ⟨0, Nat.zero_le _, rfl, .inl ⟨rfl, -1, 0, 0, [], by decide, by decide, HB8.out⟩, HF8.out⟩
        case round =>
          obtain ⟨j, hj, rfl, hh, hf⟩ := hrel
          have HFR := Lib.hid hf
          have HHD := Lib.hid hh
          clear hf hh HB8
          by_cases hlt : j < k
          · have p0 : decide ((j : Int) < (k : Int)) = true := decide_eq_true (by omega)
            have p0' : decide (j < k) = true := decide_eq_true hlt
            obtain ⟨pk, hpk⟩ : ∃ pk, qs[j]? = some pk := ⟨_, List.getElem?_eq_getElem (by have := HQ.out.1; omega)⟩
            have hcr := HD5.out.keep HFR.out (fun j hj e => by have := HSZ5.out; omega)
            have hhj := HHD.out
            rw [← HSM.out] at hhj
            have hadd := add_head wr bb w2.heap.size _ l 3 s qs hcr (by have := HFR.out.size; have := HSZ5.out; omega) (by decide) HNB.out.2.2.1 (by have := HR.out.2.1; have := HNB.out; omega) j pk hpk (by
              rcases Nat.eq_zero_or_pos j with h | h
              · exact .inl h
              · right; rw [HR.out.2.1]; exact HP.out.2.2.2.1 j h hlt) hhj
            rw [HSM.out] at hadd
            have HADD := Lib.hid hadd
            have hcapq := HQ.out.2
            obtain ⟨i1, xx, t, m, a1, d, c1⟩ := pk
            have y0 : wr.cell? ⟨gq, j * 5, none⟩ = some (.int .i64 i1) := hcr.cell hpk (j := 0) rfl
            have y1 : wr.cell? ⟨gq, j * 5 + 1, none⟩ = some (.int .i64 xx) := hcr.cell hpk (j := 1) rfl
            have y2 : wr.cell? ⟨gq, j * 5 + 2, none⟩ = some (.int .i64 t) := hcr.cell hpk (j := 2) rfl
            have y3 : wr.cell? ⟨gq, j * 5 + 3, none⟩ = some (.int .u32 m) := hcr.cell hpk (j := 3) rfl
            have y4 : wr.cell? ⟨gq, j * 5 + 4, none⟩ = some (.slice a1 d c1) := hcr.cell hpk (j := 4) rfl
            simp only [pcv] at HADD
            clear hcr hpk hadd hhj
            have HW3 : Hid (wrap64 ((j : Int) + 1) = ((j + 1 : Nat) : Int)) := Lib.hid (by have := hNm.out; rw [wrap64]; omega)
            go_wp2_with (first | (go_at_call 13; refine HADD.out.mono ?_; rintro r5 w5 ⟨hf5, hh5, rfl⟩) | go_in)
            go_roundw
            case rel => exact ⟨j + 1, hlt, by first | rw [HW3.out] | simp, hh5, HFR.out.trans hf5⟩
            case measure => (try rw [HW3.out]); clear HW3; simp [intOf]; omega
          · have hjk : j = k := by omega
            subst hjk
            have p0 : decide ((j : Int) < (j : Int)) = false := by simp
            have p0' : decide (j < j) = false := by simp
            have hbs := head_all HHD.out HP.out.2.1 (by have := HP.out.2.2.1; have := HR.out.2.1; omega)
            have HD1 := Lib.hid (Done_any wr bb bb 3 l.length sm l hbs (by have := HFR.out.size; have := HSZ5.out; omega) (by have := HR.out.2.1; have := HNB.out; omega))
            clear hbs hlt HHD
            go_upto_region 29 with (first | (go_at_call 14; refine HD1.out.mono ?_; rintro r6 w6 ⟨hf6, _, hg6⟩; obtain ⟨_, _, hok⟩ := hg6 (by omega); obtain ⟨v6, rfl, ho6⟩ := hok HSM.out) | go_in)
            have hfall := HALL.out _ (HFR.out.trans hf6)
            obtain ⟨ao7, cp7, rfl, hc7, hx7, hr7, hz7⟩ := ho6.row
            rw [HR.out.2.1] at hc7 ⊢
            have k7 := str_of w6 ao7 n cp7 l hr7 HR.out.2.1 hc7 (fun e => by
              subst e
              rcases ho6.form with ⟨e1, _⟩ | ⟨g', c', e1, _⟩
              · injection e1
              · cases e1)
            have k8 := str_of w6 ao n cp l (HR.out.1.fr0 hfall) HR.out.2.1 HR.out.2.2.1 (fun e => (HR.out.2.2.2.2 e).2)
            have hd := arr_beq l.toArray
            have HFA := Lib.hid hfall
            clear hfall ho6 hc7 hx7 hr7 hz7 hg6 hok hf6 HD1 HFR
            go_wp2
            go_ret
            exact ⟨rfl, HFA.out⟩
  · have r0 : decide (r < 0) = false := decide_eq_false hr0
    obtain ⟨q, rfl⟩ : ∃ q : Nat, r = (q : Int) := ⟨r.natAbs, by omega⟩
    have hq : q < N := by omega
    go_upto_region 13 with (fail)
    clear r0 hr0 hr
    obtain ⟨p, hp⟩ : ∃ p, ps[q]? = some p := ⟨_, List.getElem?_eq_getElem (by have := HP.out.1; omega)⟩
    have hqn : q * s < n := by
      rcases Nat.eq_zero_or_pos q with h | h
      · rw [h, Nat.zero_mul]; exact HNB.out.1
      · exact HP.out.2.2.2.1 q h hq
    obtain ⟨q1, q2, q3, q4, q5⟩ := HC.out.p q p hp
    obtain ⟨u1, u2, u3, u4, u5⟩ := HC.out.piece hp
    have hdl : 1 ≤ p.dl := by
      have := pcL_len l s q
      have := HR.out.2.1
      have := HNB.out
      omega
    obtain ⟨g, hg⟩ : ∃ g, p.ao = some ⟨g, 0, none⟩ := by
      rcases q5.form with ⟨e, _⟩ | ⟨g, _, e, _⟩
      · injection e with _ e2 _
        omega
      · injection e with e1 _ _
        exact ⟨g, e1⟩
    have hgl : g < w2.heap.size := by
      obtain ⟨_, _, _, _, q5'⟩ := HOLD.out.p q p hp
      exact (q5'.ob (k := g) (by rw [hg]; rfl)).2.1
    have hgW : w1.heap.size ≤ g := by
      obtain ⟨_, _, _, _, q5'⟩ := HOLD.out.p q p hp
      exact (q5'.ob (k := g) (by rw [hg]; rfl)).1
    obtain ⟨x, hx⟩ : ∃ x, (pcL l s q)[0]? = some x := ⟨_, List.getElem?_eq_getElem (by omega)⟩
    have hlx : l[q * s]? = some x := by
      rw [pcL_at, if_pos (by have := HNB.out; omega), Nat.add_zero] at hx
      exact hx
    have hxc : w3.cell? ⟨g, 0, none⟩ = some (.int .u8 (x.toNat : Int)) := by
      rcases u1 with h | ⟨b, o, e, hb, hc⟩
      · rw [h] at hx; simp at hx
      · rw [hg] at e
        cases e
        have := hc 0 x hx
        rwa [Nat.zero_add] at this
    have hsl : w3.cell? ⟨gp, q * 5 + 4, none⟩ = some (.slice p.ao p.dl p.cp) := HC.out.cell hp (j := 4) rfl
    have HTURN := Lib.hid (CutS.turned HC.out HDI.out HNB.out.2.2.1 q p hp g hg (x ^^^ UInt8.ofNat tn))
    obtain ⟨dl, hdle⟩ : ∃ d, p.dl = d := ⟨_, rfl⟩
    obtain ⟨cpp, hcpe⟩ : ∃ c, p.cp = c := ⟨_, rfl⟩
    rw [hg, hdle, hcpe] at hsl
    rw [hdle] at hdl
    have hdl0 : 0 < dl := hdl
    have HX := Lib.hid (And.intro hlx (And.intro hqn (And.intro hgl hgW)))
    have hxl := hlx
    have HCQ : Hid (Blk w3 g 5 ((w3.heap[g]?.bind fun | .cells cs 5 (0, 0) => some cs | _ => none).getD #[])) := Lib.hid (by
      obtain ⟨_, _, cs, hcs⟩ := q5.ob (k := g) (by rw [hg]; rfl)
      unfold Blk
      rw [hcs]
      rfl)
    have hfz : ∀ w', Fr (fun k => k = bb) w3 w' → w'.frozen? ⟨g, 0, none⟩ = false := fun w' hf => (HCQ.out.fr hf (by have := HF3.out.size; have := HBB.out; have := HCQ.out.lt; omega)).frozen 0
    clear hx hlx u1 u2 u3 u4 u5 q1 q2 q3 q4 q5 hp hg hdle hcpe hqn hgl hgW
    have hgb : g ≠ bb := by have := HCQ.out.lt; have := HBB.out; omega
    have FACT : Hid (∀ w', Fr (fun k => k = bb) w3 w' → w'.cell? ⟨gp, q * 5 + 4, none⟩ = some (.slice (some ⟨g, 0, none⟩) dl cpp) ∧ w'.cell? ⟨g, 0, none⟩ = some (.int .u8 (x.toNat : Int))) := Lib.hid (fun w' hf => by
      have h1 := lt_of_cell hsl
      have h2 := lt_of_cell hxc
      have h3 := HBB.out
      exact ⟨(World.cell?_of_block (hf.block gp h1 (by dsimp only at h1; omega))).trans hsl, (World.cell?_of_block (hf.block g h2 (by dsimp only at h2; omega))).trans hxc⟩)
    clear hsl hxc
    obtain ⟨c, hcx⟩ : ∃ c, x ^^^ UInt8.ofNat tn = c := ⟨_, rfl⟩
    have hxor := xor_u8 x tn (by have := HNB.out; omega)
    rw [hcx] at hxor HTURN
    have HCX := Lib.hid hcx
    clear hcx
    refine region_Z (fun w' => w'.cell? ⟨gp, q * 5 + 4, none⟩ = some (.slice (some ⟨g, 0, none⟩) dl cpp) ∧ w'.cell? ⟨g, 0, none⟩ = some (.int .u8 (x.toNat : Int))) 15 (by kernel_rfl) (FACT.out _ (HF4.out.trans (Fr.drewN _ w4 1))) (fun hT => ?_)
    have hfd : Fr (fun k => k = bb) w3 w4.drew := HF4.out.trans (Fr.drewN _ w4 1)
    have hbd : BS w4.drew bb bb (-1) 0 0 [] := HB4.out.fr0 (Fr.drewN _ w4 1)
    obtain ⟨wd, hwd⟩ : ∃ w, w4.drew = w := ⟨_, rfl⟩
    rw [hwd] at hT hfd hbd ⊢
    have HFD := Lib.hid hfd
    have HBD := Lib.hid hbd
    clear hwd hfd hbd FACT
    refine anyZ_take (i := 0) (oi := _) (v := ?vw0) rfl (by kernel_rfl) (by kernel_rfl) (by kernel_rfl) (by kernel_rfl) (fun _ _ _ h => h) (Or.inl ⟨by rfl, ?yw0⟩) (by assumption) ?rw0
    case yw0 => intro w1 hSw; obtain ⟨y0, y1⟩ := hSw; go_simp; try with_reducible rfl
    try simp only [List.getElem_toArray, List.getElem_cons_zero, List.getElem_cons_succ, Act.put, List.setIfInBounds_toArray, List.set_cons_zero, List.set_cons_succ]
    refine anyZ_take (i := 1) (oi := _) (v := ?vw1) rfl (by kernel_rfl) (by kernel_rfl) (by kernel_rfl) (by kernel_rfl) (fun _ _ _ h => h) (Or.inl ⟨by rfl, ?yw1⟩) (by assumption) ?rw1
    case yw1 => intro w1 hSw; obtain ⟨y0, y1⟩ := hSw; go_simp; try with_reducible rfl
    try simp only [List.getElem_toArray, List.getElem_cons_zero, List.getElem_cons_succ, Act.put, List.setIfInBounds_toArray, List.set_cons_zero, List.set_cons_succ]
    refine anyZ_take (i := 2) (oi := _) (v := ?vw2) rfl (by kernel_rfl) (by kernel_rfl) (by kernel_rfl) (by kernel_rfl) (fun _ _ _ h => h) (Or.inl ⟨by rfl, ?yw2⟩) (by assumption) ?rw2
    case yw2 => intro w1 hSw; obtain ⟨y0, y1⟩ := hSw; go_simp; try with_reducible rfl
    try simp only [List.getElem_toArray, List.getElem_cons_zero, List.getElem_cons_succ, Act.put, List.setIfInBounds_toArray, List.set_cons_zero, List.set_cons_succ]
    refine anyZ_take (i := 3) (oi := _) (v := ?vw3) rfl (by kernel_rfl) (by kernel_rfl) (by kernel_rfl) (by kernel_rfl) (fun _ _ _ h => h) (Or.inl ⟨by rfl, ?yw3⟩) (by assumption) ?rw3
    case yw3 => intro w1 hSw; obtain ⟨y0, y1⟩ := hSw; go_simp; try with_reducible rfl
    try simp only [List.getElem_toArray, List.getElem_cons_zero, List.getElem_cons_succ, Act.put, List.setIfInBounds_toArray, List.set_cons_zero, List.set_cons_succ]
    refine anyZ_take (i := 4) (oi := _) (v := ?vw4) rfl (by kernel_rfl) (by kernel_rfl) (by kernel_rfl) (by kernel_rfl) (fun _ _ _ h => h) (Or.inl ⟨by rfl, ?yw4⟩) (by assumption) ?rw4
    case yw4 => intro w1 hSw; obtain ⟨y0, y1⟩ := hSw; go_simp; try with_reducible rfl
    try simp only [List.getElem_toArray, List.getElem_cons_zero, List.getElem_cons_succ, Act.put, List.setIfInBounds_toArray, List.set_cons_zero, List.set_cons_succ]
    refine anyZ_take (i := 5) (oi := _) (v := ?vw5) rfl (by kernel_rfl) (by kernel_rfl) (by kernel_rfl) (by kernel_rfl) (fun _ _ _ h => h) (Or.inl ⟨by rfl, ?yw5⟩) (by assumption) ?rw5
    case yw5 => intro w1 hSw; obtain ⟨y0, y1⟩ := hSw; go_simp; try with_reducible rfl
    try simp only [List.getElem_toArray, List.getElem_cons_zero, List.getElem_cons_succ, Act.put, List.setIfInBounds_toArray, List.set_cons_zero, List.set_cons_succ]
    refine anyZ_take (i := 6) (oi := _) (v := ?vw6) rfl (by kernel_rfl) (by kernel_rfl) (by kernel_rfl) (by kernel_rfl) (fun _ _ _ h => h) (Or.inl ⟨by rfl, ?yw6⟩) (by assumption) ?rw6
    case yw6 => intro w1 hSw; obtain ⟨y0, y1⟩ := hSw; go_simp; try with_reducible rfl
    try simp only [List.getElem_toArray, List.getElem_cons_zero, List.getElem_cons_succ, Act.put, List.setIfInBounds_toArray, List.set_cons_zero, List.set_cons_succ]
    refine anyZ_take (i := 7) (oi := _) (v := ?vw7) rfl (by kernel_rfl) (by kernel_rfl) (by kernel_rfl) (by kernel_rfl) (fun _ _ _ h => h) (Or.inl ⟨by rfl, ?yw7⟩) (by assumption) ?rw7
    case yw7 => intro w1 hSw; obtain ⟨y0, y1⟩ := hSw; go_simp; try with_reducible rfl
    try simp only [List.getElem_toArray, List.getElem_cons_zero, List.getElem_cons_succ, Act.put, List.setIfInBounds_toArray, List.set_cons_zero, List.set_cons_succ]
    refine anyZ_take (i := 8) (oi := _) (v := ?vw8) rfl (by kernel_rfl) (by kernel_rfl) (by kernel_rfl) (by kernel_rfl) (fun _ _ _ h => h) (Or.inl ⟨by rfl, ?yw8⟩) (by assumption) ?rw8
    case yw8 => intro w1 hSw; obtain ⟨y0, y1⟩ := hSw; go_simp; try with_reducible rfl
    try simp only [List.getElem_toArray, List.getElem_cons_zero, List.getElem_cons_succ, Act.put, List.setIfInBounds_toArray, List.set_cons_zero, List.set_cons_succ]
    refine anyZ_take (i := 9) (oi := _) (v := ?vw9) rfl (by kernel_rfl) (by kernel_rfl) (by kernel_rfl) (by kernel_rfl) (fun _ _ _ h => h) (Or.inl ⟨by rfl, ?yw9⟩) (by assumption) ?rw9
    case yw9 => intro w1 hSw; obtain ⟨y0, y1⟩ := hSw; go_simp; try with_reducible rfl
    try simp only [List.getElem_toArray, List.getElem_cons_zero, List.getElem_cons_succ, Act.put, List.setIfInBounds_toArray, List.set_cons_zero, List.set_cons_succ]
    refine anyZ_take (i := 10) (oi := _) (v := ?vw10) rfl (by kernel_rfl) (by kernel_rfl) (by kernel_rfl) (by kernel_rfl) (fun _ _ _ h => h) (Or.inl ⟨by rfl, ?yw10⟩) (by assumption) ?rw10
    case yw10 => intro w1 hSw; obtain ⟨y0, y1⟩ := hSw; go_simp; try with_reducible rfl
    try simp only [List.getElem_toArray, List.getElem_cons_zero, List.getElem_cons_succ, Act.put, List.setIfInBounds_toArray, List.set_cons_zero, List.set_cons_succ]
    refine anyZ_take (i := 11) (oi := _) (v := ?vw11) rfl (by kernel_rfl) (by kernel_rfl) (by kernel_rfl) (by kernel_rfl) (fun _ _ _ h => h) (Or.inl ⟨by rfl, ?yw11⟩) (by assumption) ?rw11
    case yw11 => intro w1 hSw; obtain ⟨y0, y1⟩ := hSw; go_simp; try with_reducible rfl
    try simp only [List.getElem_toArray, List.getElem_cons_zero, List.getElem_cons_succ, Act.put, List.setIfInBounds_toArray, List.set_cons_zero, List.set_cons_succ]
    refine anyZ_take (i := 12) (oi := _) (v := ?vw12) rfl (by kernel_rfl) (by kernel_rfl) (by kernel_rfl) (by kernel_rfl) (fun _ _ _ h => h) (Or.inl ⟨by rfl, ?yw12⟩) (by assumption) ?rw12
    case yw12 => intro w1 hSw; obtain ⟨y0, y1⟩ := hSw; go_simp; try with_reducible rfl
    try simp only [List.getElem_toArray, List.getElem_cons_zero, List.getElem_cons_succ, Act.put, List.setIfInBounds_toArray, List.set_cons_zero, List.set_cons_succ]
    refine anyZ_take (i := 13) (oi := _) (v := (.int .u8 (c.toNat : Int))) rfl (by kernel_rfl) (by kernel_rfl) (by kernel_rfl) (by kernel_rfl) (fun _ _ _ h => h) (Or.inl ⟨by rfl, ?yw13⟩) (by assumption) ?rw13
    case yw13 => intro w1 hSw; obtain ⟨y0, y1⟩ := hSw; go_simp; try with_reducible rfl
    try simp only [List.getElem_toArray, List.getElem_cons_zero, List.getElem_cons_succ, Act.put, List.setIfInBounds_toArray, List.set_cons_zero, List.set_cons_succ]
    refine anyZ_take (i := 14) (oi := _) (v := ?vw14) rfl (by kernel_rfl) (by kernel_rfl) (by kernel_rfl) (by kernel_rfl) (fun _ _ _ h => h) (Or.inl ⟨by rfl, ?yw14⟩) (by assumption) ?rw14
    case yw14 => intro w1 hSw; obtain ⟨y0, y1⟩ := hSw; go_simp; try with_reducible rfl
    try simp only [List.getElem_toArray, List.getElem_cons_zero, List.getElem_cons_succ, Act.put, List.setIfInBounds_toArray, List.set_cons_zero, List.set_cons_succ]
    refine anyZ_one (i := 15) (by kernel_rfl) (o := _) rfl (fun K hK => ?_)
    rw [if_pos (by rfl)]
    try simp only [List.getElem_toArray, List.getElem_cons_zero, List.getElem_cons_succ]
    have hfz2 := hfz wd HFD.out
    have hcz := hT.2
    go_simp
    obtain ⟨l2, hl2⟩ : ∃ l2, l.set (q * s) c = l2 := ⟨_, rfl⟩
    have hl2n : l2.length = n := by rw [← hl2, List.length_set]; exact HR.out.2.1
    have hbad : ((crc l2).toNat : Int) ≠ ((crc l).toNat : Int) := by
      rw [← hl2]
      refine crc_set l (q * s) c (by have := HX.out.2.1; have := HR.out.2.1; omega) (fun e => ?_)
      rw [HX.out.1] at e
      injection e with e
      exact u8_xor_ne x tn HNB.out.2.2.2.2.1 HNB.out.2.2.2.2.2 (HCX.out.trans e.symm)
    rw [hl2] at HTURN
    have hfT : Fr (fun k => k = g) w3 (w3.setCell ⟨g, 0, none⟩ (.int .u8 (c.toNat : Int))) := Fr.setCell _ _ _ rfl
    have hfS : Fr (fun k => k = g) wd (wd.setCell ⟨g, 0, none⟩ (.int .u8 (c.toNat : Int))) := Fr.setCell _ _ _ rfl
    have hf5 : Fr (fun k => k = bb) (w3.setCell ⟨g, 0, none⟩ (.int .u8 (c.toNat : Int))) (wd.setCell ⟨g, 0, none⟩ (.int .u8 (c.toNat : Int))) := HFD.out.set2 _ _
    have hsz : (w3.setCell ⟨g, 0, none⟩ (.int .u8 (c.toNat : Int))).heap.size = bb := by rw [← HBB.out]; simp [World.setCell]
    obtain ⟨wT, hwT⟩ : ∃ w, w3.setCell ⟨g, 0, none⟩ (.int .u8 (c.toNat : Int)) = w := ⟨_, rfl⟩
    obtain ⟨wS, hwS⟩ : ∃ w, wd.setCell ⟨g, 0, none⟩ (.int .u8 (c.toNat : Int)) = w := ⟨_, rfl⟩
    rw [hwT] at hf5 hsz hfT HTURN
    rw [hwS] at hf5 hfS ⊢
    have HBS5 : Hid (BS wS bb bb (-1) 0 0 []) := Lib.hid (by
      obtain ⟨vb, h1, h2⟩ := HBD.out
      exact ⟨vb, h1.fr hfS (fun e => hgb e.symm), h2.fr hfS (fun k hk e => by have h3 := (h2.ob hk).1; have h4 := HCQ.out.lt; have h5 := HBB.out; omega)⟩)
    have HD5 : Hid (CutR wT w2.heap.size 36 (.slice (some ⟨gq, 0, none⟩) N cap') l 3 s qs) := Lib.hid (HD.out.keepB hfT (fun k h1 h2 e => by have := HX.out.2.2.1; omega))
    have HALL : Hid (∀ w', Fr (fun k => k = bb) wT w' → Fr (fun _ => False) W w') := Lib.hid (fun w' hf => Fr.above' HF3.out ((hfT.mono (S' := fun k => k = g ∨ k = bb) (fun _ e => .inl e)).trans (hf.mono (fun _ e => .inr e))) (fun k e => by
      have h1 := HF3.out.size
      have h2 := HBB.out
      have h3 := HX.out.2.2.2
      have h4 := HW1.out
      rcases e with e | e <;> omega))
    have HF5 := Lib.hid hf5
    have HSZ5 := Lib.hid hsz
    have HL2 := Lib.hid (And.intro hl2n hbad)
    obtain ⟨sm, hsm⟩ : ∃ sm : Int, ((crc l).toNat : Int) = sm := ⟨_, rfl⟩
    rw [hsm] at HTURN HL2
    have HSM := Lib.hid hsm
    clear hl2 hl2n hbad hfT hfS hf5 hsz hwT hwS hsm hfz2 hcz HBD HFD HD HC HOLD hxor hfz hxl HB4 HF4
    refine hK.out _ _ (fun h => absurd rfl h) (fun _ => ?_)
    clear hK K hT
    try simp only [List.getElem_toArray, List.getElem_cons_zero, List.getElem_cons_succ, Act.put, List.setIfInBounds_toArray, List.set_cons_zero, List.set_cons_succ]
    refine anyZ_done (by kernel_rfl) ?_ _
    clear HCQ HCX
    go_wp2_with fail
    go_loopw [15, 16, 17] (fun iv bv ev wr => ∃ k : Nat, k ≤ N ∧ iv = .int .i64 (k : Int) ∧ Head wr bb l2 2 sm s k ∧ Fr (fun k => k = bb) wT wr) (fun iv _ _ _ => N - (intOf iv).toNat)
    case atStart => exact ⟨0, Nat.zero_le _, rfl, .inl ⟨rfl, -1, 0, 0, [], by decide, by decide, HBS5.out⟩, HF5.out⟩
    case round =>
      obtain ⟨k, hk, rfl, hh, hf⟩ := hrel
      have HFR := Lib.hid hf
      have HHD := Lib.hid hh
      clear hf hh
      by_cases hlt : k < N
      · have p0 : decide ((k : Int) < (N : Int)) = true := decide_eq_true (by omega)
        have p0' : decide (k < N) = true := decide_eq_true hlt
        obtain ⟨pk, hpk⟩ : ∃ pk, ps[k]? = some pk := ⟨_, List.getElem?_eq_getElem (by have := HP.out.1; omega)⟩
        have hcr := HTURN.out.keep HFR.out (fun j hj e => by have := HSZ5.out; omega)
        have HADD := Lib.hid (add_headS wr bb w1.heap.size _ l2 2 sm s ps hcr (by have := HFR.out.size; have := HSZ5.out; omega) (by decide) HNB.out.2.2.1 (by have := HL2.out.1; have := HNB.out; omega) k pk hpk (by
          rcases Nat.eq_zero_or_pos k with h | h
          · exact .inl h
          · right; rw [HL2.out.1]; exact HP.out.2.2.2.1 k h hlt) HHD.out)
        obtain ⟨i1, xx, t, m, a1, d, c1⟩ := pk
        have y0 : wr.cell? ⟨gp, k * 5, none⟩ = some (.int .i64 i1) := hcr.cell hpk (j := 0) rfl
        have y1 : wr.cell? ⟨gp, k * 5 + 1, none⟩ = some (.int .i64 xx) := hcr.cell hpk (j := 1) rfl
        have y2 : wr.cell? ⟨gp, k * 5 + 2, none⟩ = some (.int .i64 t) := hcr.cell hpk (j := 2) rfl
        have y3 : wr.cell? ⟨gp, k * 5 + 3, none⟩ = some (.int .u32 m) := hcr.cell hpk (j := 3) rfl
        have y4 : wr.cell? ⟨gp, k * 5 + 4, none⟩ = some (.slice a1 d c1) := hcr.cell hpk (j := 4) rfl
        simp only [pcv] at HADD
        clear hcr hpk
        have HW3 : Hid (wrap64 ((k : Int) + 1) = ((k + 1 : Nat) : Int)) := Lib.hid (by have := hNm.out; rw [wrap64]; omega)
        go_wp2_with (first | (go_at_call 13; refine HADD.out.mono ?_; rintro r5 w5 ⟨hf5, hh5, xb, rfl⟩) | go_in)
        go_roundw
        case rel => exact ⟨k + 1, hlt, by first | rw [HW3.out] | simp, hh5, HFR.out.trans hf5⟩
        case measure => (try rw [HW3.out]); clear HW3; simp [intOf]; omega
      · have hkN : k = N := by omega
        subst hkN
        have p0 : decide ((k : Int) < (k : Int)) = false := by simp
        have p0' : decide (k < k) = false := by simp
        have hbs := head_all HHD.out HP.out.2.1 (by have := HP.out.2.2.1; have := HL2.out.1; omega)
        have HD1 := Lib.hid (Done_any wr bb bb 2 l2.length sm l2 hbs (by have := HFR.out.size; have := HSZ5.out; omega) (by have := HL2.out.1; have := HNB.out; omega))
        clear hbs hlt HHD
        go_upto_region 21 with (first | (go_at_call 14; refine HD1.out.mono ?_; rintro r6 w6 ⟨hf6, _, hg6⟩; obtain ⟨hbs6, hb6, _⟩ := hg6 (by omega); obtain ⟨pb, hpb, hblk6, rfl⟩ := hb6 HL2.out.2) | go_in)
        have HF6 := Lib.hid (HFR.out.trans hf6)
        have HB6 := Lib.hid hbs6
        have HBLK6 := Lib.hid hblk6
        clear hf6 hbs6 hblk6 hpb hg6 hb6 HD1 HFR p0 p0'
        go_upto_region 22 with (first | (go_at_call 20; refine (next_any w6 bb bb (-1) 0 0 [] HB6.out).mono ?_; rintro r7 w7 ⟨rfl, hf7⟩) | go_in)
        have HF7 := Lib.hid (HF6.out.trans (hf7.mono fun _ e => e.elim))
        have HB7 := Lib.hid (HB6.out.fr0 hf7)
        have HBR := Lib.hid (broken_any w7 (HLD.out.fr0 (HALL.out _ HF7.out)) pb 2 9 (by unfold In64; omega) (by unfold Num; omega) (HBLK6.out.fr hf7 (fun e => e)))
        clear hf7 HF6 HB6 HBLK6
        go_upto_region 24 with (first | (go_at_call 10; refine HBR.out.mono ?_; rintro r8 w8 ⟨rfl, hf8⟩) | go_in)
        have HF8 := Lib.hid (HF7.out.trans (hf8.mono fun _ e => e.elim))
        have HB8 := Lib.hid (HB7.out.fr0 hf8)
        clear hf8 HF7 HB7 HBR
        go_wp2_with fail
        go_loopw [21] (fun iv wr => ∃ j : Nat, j ≤ k ∧ iv = .int .i64 (j : Int) ∧ Head wr bb l 3 sm s j ∧ Fr (fun k => k = bb) wT wr) (fun iv _ => k - (intOf iv).toNat)
        case atStart => exact ⟨0, Nat.zero_le _, rfl, .inl ⟨rfl, -1, 0, 0, [], by decide, by decide, HB8.out⟩, HF8.out⟩
        case round =>
          obtain ⟨j, hj, rfl, hh, hf⟩ := hrel
          have HFR := Lib.hid hf
          have HHD := Lib.hid hh
          clear hf hh HB8
          by_cases hlt : j < k
          · have p0 : decide ((j : Int) < (k : Int)) = true := decide_eq_true (by omega)
            have p0' : decide (j < k) = true := decide_eq_true hlt
            obtain ⟨pk, hpk⟩ : ∃ pk, qs[j]? = some pk := ⟨_, List.getElem?_eq_getElem (by have := HQ.out.1; omega)⟩
            have hcr := HD5.out.keep HFR.out (fun j hj e => by have := HSZ5.out; omega)
            have hhj := HHD.out
            rw [← HSM.out] at hhj
            have hadd := add_head wr bb w2.heap.size _ l 3 s qs hcr (by have := HFR.out.size; have := HSZ5.out; omega) (by decide) HNB.out.2.2.1 (by have := HR.out.2.1; have := HNB.out; omega) j pk hpk (by
              rcases Nat.eq_zero_or_pos j with h | h
              · exact .inl h
              · right; rw [HR.out.2.1]; exact HP.out.2.2.2.1 j h hlt) hhj
            rw [HSM.out] at hadd
            have HADD := Lib.hid hadd
            have hcapq := HQ.out.2
            obtain ⟨i1, xx, t, m, a1, d, c1⟩ := pk
            have y0 : wr.cell? ⟨gq, j * 5, none⟩ = some (.int .i64 i1) := hcr.cell hpk (j := 0) rfl
            have y1 : wr.cell? ⟨gq, j * 5 + 1, none⟩ = some (.int .i64 xx) := hcr.cell hpk (j := 1) rfl
            have y2 : wr.cell? ⟨gq, j * 5 + 2, none⟩ = some (.int .i64 t) := hcr.cell hpk (j := 2) rfl
            have y3 : wr.cell? ⟨gq, j * 5 + 3, none⟩ = some (.int .u32 m) := hcr.cell hpk (j := 3) rfl
            have y4 : wr.cell? ⟨gq, j * 5 + 4, none⟩ = some (.slice a1 d c1) := hcr.cell hpk (j := 4) rfl
            simp only [pcv] at HADD
            clear hcr hpk hadd hhj
            have HW3 : Hid (wrap64 ((j : Int) + 1) = ((j + 1 : Nat) : Int)) := Lib.hid (by have := hNm.out; rw [wrap64]; omega)
            go_wp2_with (first | (go_at_call 13; refine HADD.out.mono ?_; rintro r5 w5 ⟨hf5, hh5, rfl⟩) | go_in)
            go_roundw
            case rel => exact ⟨j + 1, hlt, by first | rw [HW3.out] | simp, hh5, HFR.out.trans hf5⟩
            case measure => (try rw [HW3.out]); clear HW3; simp [intOf]; omega
          · have hjk : j = k := by omega
            subst hjk
            have p0 : decide ((j : Int) < (j : Int)) = false := by simp
            have p0' : decide (j < j) = false := by simp
            have hbs := head_all HHD.out HP.out.2.1 (by have := HP.out.2.2.1; have := HR.out.2.1; omega)
            have HD1 := Lib.hid (Done_any wr bb bb 3 l.length sm l hbs (by have := HFR.out.size; have := HSZ5.out; omega) (by have := HR.out.2.1; have := HNB.out; omega))
            clear hbs hlt HHD
            go_upto_region 29 with (first | (go_at_call 14; refine HD1.out.mono ?_; rintro r6 w6 ⟨hf6, _, hg6⟩; obtain ⟨_, _, hok⟩ := hg6 (by omega); obtain ⟨v6, rfl, ho6⟩ := hok HSM.out) | go_in)
            have hfall := HALL.out _ (HFR.out.trans hf6)
            obtain ⟨ao7, cp7, rfl, hc7, hx7, hr7, hz7⟩ := ho6.row
            rw [HR.out.2.1] at hc7 ⊢
            have k7 := str_of w6 ao7 n cp7 l hr7 HR.out.2.1 hc7 (fun e => by
              subst e
              rcases ho6.form with ⟨e1, _⟩ | ⟨g', c', e1, _⟩
              · injection e1
              · cases e1)
            have k8 := str_of w6 ao n cp l (HR.out.1.fr0 hfall) HR.out.2.1 HR.out.2.2.1 (fun e => (HR.out.2.2.2.2 e).2)
            have hd := arr_beq l.toArray
            have HFA := Lib.hid hfall
            clear hfall ho6 hc7 hx7 hr7 hz7 hg6 hok hf6 HD1 HFR
            go_wp2
            go_ret
            exact ⟨rfl, HFA.out⟩
end Go.Proofs.YtookojfigjdgcaaDoor
