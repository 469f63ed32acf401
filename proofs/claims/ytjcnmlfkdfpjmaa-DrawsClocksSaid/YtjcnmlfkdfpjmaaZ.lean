/- The reference's clock: Set, Due. -/
import Derived.Test.YtjcnmlfkdfpjmaaY
import Derived.Laws.AppendOwnNone
import Derived.Deep.Cut
import Derived.Deep.CutBlock
import Derived.Deep.DeepCutAuto
set_option linter.unusedVariables false
set_option linter.unusedSimpArgs false
namespace Go.Proofs.Ytjcnmlfkdfpjmaa
open Go.RowKit Go.Maps
variable {W : World} {rb B0 : Nat} {T : Int} {L : List (Int × Int)}
def DropRel (L : List (Int × Int)) (x : Int) (L1 : List (Int × Int)) : Prop := ((∀ p ∈ L, p.1 ≠ x) ∧ L1 = L) ∨ ∃ i p, L[i]? = some p ∧ p.1 = x ∧ L1 = L.take i ++ L.drop (i + 1)
def lessP (p q : Int × Int) : Prop := p.2 < q.2 ∨ p.2 = q.2 ∧ p.1 < q.1
theorem DropRel.len {L L1 : List (Int × Int)} {x : Int} (h : DropRel L x L1) : L1.length ≤ L.length := by
  rcases h with ⟨_, rfl⟩ | ⟨i, p, _, _, rfl⟩
  · exact Nat.le_refl _
  · rw [List.length_append, List.length_take, List.length_drop]; omega
theorem app72 {ops : Array Oper} {rest : List Oper} {o : Oper} {A : Act} {Q : Exit → Act → World → Prop} (hgd : o.guard = none) (s x : Operand) (ho : o.op = .call { callee := .builtin .append, args := #[s, x], argTypes := #[52, 52] })
    {base n m c : Nat} {v : Value} {xs news : List Value} {ad : Addr} (hs : A.eval s = v) (hx : A.eval x = .slice (some ad) m c) (hown : W.ownsRow base 72 2 v n xs) (hn : news.length = m * 2) (hnews : ∀ j u, news[j]? = some u → W.cell? (ad.add j) = some u)
    (h1 : ∀ u ∈ news, u.oneCell' = true) (hle : n + m ≤ 100000) (hbase : base ≤ W.heap.size)
    (h : ∀ v' W', W'.ownsRow base 72 2 v' (n + m) (xs ++ news) → W.grownBy W' v.ownBlock → wpList Try.prog ops Q rest (A.put o.dst v') W') : wpList Try.prog ops Q (o :: rest) A W := by
  obtain ⟨i0, hi, hz0, hz1, hz2⟩ := info_parts infoA
  exact wpList_append_own_at W hgd s x 52 ho base 72 i0 _ 2 16 Try.underlying52 hi hz0 hz1 hz2 rfl (by omega) v n xs hs hown ad m c news hx hn hnews h1 (by unfold maxLen; omega) (by omega) hbase (fun v' w' h2 h3 _ _ => h v' w' h2 h3)
theorem app72_nil {ops : Array Oper} {rest : List Oper} {o : Oper} {A : Act} {Q : Exit → Act → World → Prop} (hgd : o.guard = none) (s x : Operand) (ho : o.op = .call { callee := .builtin .append, args := #[s, x], argTypes := #[52, 52] })
    {base n : Nat} {v : Value} {xs : List Value} (hs : A.eval s = v) (hx : A.eval x = .slice none 0 0) (hown : W.ownsRow base 72 2 v n xs) (h : wpList Try.prog ops Q rest (A.put o.dst v) W) : wpList Try.prog ops Q (o :: rest) A W := by
  obtain ⟨i0, hi, hz0, hz1, hz2⟩ := info_parts infoA
  exact wpList_append_own_none hgd s x 52 ho base 72 i0 2 Try.underlying52 hi v n xs hs hown hx h
theorem rdrop_rel (h : RC W rb B0 T L) (hL : L.length ≤ 1000) (x : Int) :
    Calls Try.prog 27 #[.pointer (some ⟨rb, 0, none⟩), .int .i64 x] W fun e W' => ∃ b L1, e = .returned (.bool b) ∧ Fr (fun k => k = rb) W W' ∧ RC W' rb B0 T L1 ∧ DropRel L x L1 := by
  refine (rdrop_any h hL x).mono ?_
  rintro e W' ⟨hf, ⟨h1, rfl, h2⟩ | ⟨i, p, h1, h2, rfl, h3⟩⟩
  · exact ⟨false, L, rfl, hf, h2, .inl ⟨h1, rfl⟩⟩
  · exact ⟨true, _, rfl, hf, h3, .inr ⟨i, p, h1, h2, rfl⟩⟩
theorem owns_empty (W : World) : (W.alloc (.cells #[] 72)).ownsRow W.heap.size 72 2 (.slice (some ⟨W.heap.size, 0, none⟩) 0 0) 0 [] := ⟨rfl, .inr ⟨_, 0, #[], rfl, Nat.le_refl _, World.alloc_heap_new W _, Nat.le_refl _, by decide, rfl, rfl⟩⟩
theorem owns_slice {W : World} {base n : Nat} {v : Value} {xs : List Value} (h : W.ownsRow base 72 2 v n xs) : ∃ ao cp, v = .slice ao n cp := by
  rcases h.2 with ⟨rfl, rfl⟩ | ⟨g, cap, cur, rfl, _⟩
  · exact ⟨_, _, rfl⟩
  · exact ⟨_, _, rfl⟩
/-- the struct is given its new row -/
theorem RC.put (h : RC W rb B0 T L) {W2 : World} (hf : Fr (fun _ => False) W W2) {base : Nat} (hb : W.heap.size ≤ base) {M : List (Int × Int)} {sv : Value} (ho : W2.ownsRow base 72 2 sv M.length (flat M)) :
    RC (W2.setCell ⟨rb, 1, none⟩ sv) rb B0 T M ∧ Fr (fun k => k = rb) W (W2.setCell ⟨rb, 1, none⟩ sv) := by
  obtain ⟨s0, hs, _⟩ := h.s
  have hs2 := (hs.fr hf id).set 1 sv
  have hf3 := Fr.setCell (S := fun k => k = rb) W2 ⟨rb, 1, none⟩ sv rfl
  have hd := h.d
  refine ⟨⟨⟨sv, by simpa using hs2, owns_fr ?_ hf3 (fun k e => by omega)⟩, hd.1, Nat.le_trans (Nat.le_trans hd.2 hf.size) hf3.size⟩, (hf.mono fun _ e => e.elim).trans hf3⟩
  refine ⟨ho.1, ?_⟩
  rcases ho.2 with h | ⟨g', cap', cur', h1, h2, h3⟩
  · exact .inl h
  · exact .inr ⟨g', cap', cur', h1, by omega, h3⟩
set_option maxRecDepth 100000 in
set_option maxHeartbeats 2000000 in
theorem rset_any (h : RC W rb B0 T L) (hL : L.length ≤ 1000) (x at_ : Int) :
    Calls Try.prog 25 #[.pointer (some ⟨rb, 0, none⟩), .int .i64 x, .int .i64 at_] W fun e W' => Fr (fun k => k = rb) W W' ∧ ∃ L1, DropRel L x L1 ∧ ((¬ (T < at_ ∧ at_ ≤ 1099511627776) ∧ e = .returned (.bool false) ∧ RC W' rb B0 T L1) ∨
      (T < at_ ∧ at_ ≤ 1099511627776 ∧ e = .returned (.bool true) ∧ ∃ i, i ≤ L1.length ∧ (∀ j p, j < i → L1[j]? = some p → lessP p (x, at_)) ∧ (∀ p, L1[i]? = some p → ¬ lessP p (x, at_)) ∧ RC W' rb B0 T (L1.take i ++ (x, at_) :: L1.drop i))) := by
  go_enter Try.func25, Try.ntmps25
  go_wp2_with fail
  refine (rdrop_rel h hL x).mono ?_
  rintro e W1 ⟨b0, L1, rfl, hf1, h1, hdr⟩
  have hlen1 := hdr.len
  have HDR := Lib.hid hdr
  have HF1 := Lib.hid hf1
  have HRC := Lib.hid h1
  obtain ⟨ao, cp, hs, hcp, hcm, hc⟩ := h1.open
  have c0 := hs.cell 0
  have c1 := hs.cell 1
  have f1 := hs.frozen 1
  simp only [List.getElem?_toArray, List.getElem?_cons_zero, List.getElem?_cons_succ] at c0 c1
  obtain ⟨n, hn⟩ : ∃ n, L1.length = n := ⟨_, rfl⟩
  rw [hn] at c1 hcp hlen1
  have HN := Lib.hid hn
  have HC := Lib.hid hc
  have hrl := hs.lt
  clear h hs hn hc hdr hf1 h1
  by_cases g1 : at_ ≤ T
  · have p1 : decide (at_ ≤ T) = true := decide_eq_true g1
    go_wp2
    go_ret
    exact ⟨HF1.out, L1, HDR.out, .inl ⟨by omega, rfl, HRC.out⟩⟩
  have p1 : decide (at_ ≤ T) = false := decide_eq_false g1
  by_cases g2 : 1099511627776 < at_
  · have p2 : decide (1099511627776 < at_) = true := decide_eq_true g2
    go_wp2
    go_ret
    exact ⟨HF1.out, L1, HDR.out, .inl ⟨by omega, rfl, HRC.out⟩⟩
  have p2 : decide (1099511627776 < at_) = false := decide_eq_false g2
  go_upto_block 0 with (fail)
  go_cut [7] (fun s7 wx => ∃ i : Nat, i ≤ n ∧ s7 = .int .i64 i ∧ (∀ j p, j < i → L1[j]? = some p → lessP p (x, at_)) ∧ (∀ p, L1[i]? = some p → ¬ lessP p (x, at_)) ∧ W1 = wx)
  case first =>
    go_wp2_with fail
    go_loopw [7] (fun kv wr => ∃ i : Nat, i ≤ n ∧ kv = .int .i64 i ∧ (∀ j p, j < i → L1[j]? = some p → lessP p (x, at_)) ∧ W1 = wr) (fun kv _ => n - (intOf kv).toNat)
    case atStart => exact ⟨0, by omega, rfl, fun j p h => by omega, rfl⟩
    case round =>
      obtain ⟨i, hi, rfl, hno, rfl⟩ := hrel
      by_cases hlt : i < n
      · have p0 : decide ((i : Int) < n) = true := decide_eq_true (by omega)
        have i0 : (i : Int) < (n : Int) := by omega
        obtain ⟨q, hq⟩ : ∃ q, L1[i]? = some q := ⟨_, List.getElem?_eq_getElem (by rw [HN.out]; exact hlt)⟩
        rcases HC.out with ⟨_, h, _⟩ | ⟨g, rfl, hg, hcell⟩
        · have := HN.out; rw [h] at this; simp at this; omega
        have d0 := hcell (i * 2) _ (flat_at hq).1
        have d1 := hcell (i * 2 + 1) _ (flat_at hq).2
        have hmore : lessP q (x, at_) → ∀ j p, j < i + 1 → L1[j]? = some p → lessP p (x, at_) := fun hl j p hj hp => by
          by_cases e : j = i
          · subst e; rw [hq] at hp; cases hp; exact hl
          · exact hno j p (by omega) hp
        have hstop : ¬ lessP q (x, at_) → ∀ p, L1[i]? = some p → ¬ lessP p (x, at_) := fun hl p hp => by rw [hq] at hp; cases hp; exact hl
        have HMO := Lib.hid hmore
        have HST := Lib.hid hstop
        have HNO := Lib.hid hno
        have hun : lessP q (x, at_) ↔ q.2 < at_ ∨ q.2 = at_ ∧ q.1 < x := Iff.rfl
        have HU := Lib.hid hun
        clear hcell hq hno hmore hstop hun
        by_cases k1 : q.2 < at_
        · have r1 : decide (q.2 < at_) = true := decide_eq_true k1
          go_wp2
          go_roundw
          case rel => exact ⟨i + 1, by omega, by go_num, HMO.out (HU.out.2 (.inl k1)), trivial⟩
          case measure => simp [intOf]; omega
        have r1 : decide (q.2 < at_) = false := decide_eq_false k1
        by_cases k2 : q.2 = at_
        · have r2 : (q.2 == at_) = true := by simp [k2]
          by_cases k3 : q.1 < x
          · have r3 : decide (q.1 < x) = true := decide_eq_true k3
            have hmm := HMO.out (HU.out.2 (.inr ⟨k2, k3⟩))
            have HMM := Lib.hid hmm
            clear k2 hmm
            go_wp2
            go_roundw
            case rel => exact ⟨i + 1, by omega, by go_num, HMM.out, trivial⟩
            case measure => simp [intOf]; omega
          · have r3 : decide (q.1 < x) = false := decide_eq_false k3
            have HSS := Lib.hid (HST.out (fun e => by rcases HU.out.1 e with e | e <;> omega))
            clear k2
            go_wp2
            go_meet
            exact ⟨i, hi, rfl, HNO.out, HSS.out, rfl⟩
        · have r2 : (q.2 == at_) = false := by simp [k2]
          have HSS := Lib.hid (HST.out (fun e => by rcases HU.out.1 e with e | e <;> omega))
          clear k2
          go_wp2
          go_meet
          exact ⟨i, hi, rfl, HNO.out, HSS.out, rfl⟩
      · obtain rfl : i = n := by omega
        have p0 : decide ((i : Int) < i) = false := decide_eq_false (by omega)
        go_wp2
        go_meet
        exact ⟨i, hi, rfl, hno, fun p hp => (by rw [List.getElem?_eq_none (by rw [HN.out]; exact Nat.le_refl _)] at hp; cases hp), rfl⟩
  case rest =>
    obtain ⟨i, hi, rfl, hlo, hhi, rfl⟩ := hcut
    have b1 : i ≤ cp := by omega
    have hone := fun M => flat_one M
    have hlast : ∀ (W3 : World) (sv : Value), Fr (fun _ => False) W1 W3 → W3.ownsRow W1.heap.size 72 2 sv (L1.take i ++ (x, at_) :: L1.drop i).length (flat (L1.take i ++ (x, at_) :: L1.drop i)) →
        RC (W3.setCell ⟨rb, 1, none⟩ sv) rb B0 T (L1.take i ++ (x, at_) :: L1.drop i) ∧ Fr (fun k => k = rb) W (W3.setCell ⟨rb, 1, none⟩ sv) := fun W3 sv h1 h2 => by
      have := HRC.out.put h1 (Nat.le_refl _) h2
      exact ⟨this.1, HF1.out.trans this.2⟩
    have HLAST := Lib.hid hlast
    have HLO := Lib.hid hlo
    have HHI := Lib.hid hhi
    have e0 := owns_empty W1
    clear hlast hlo hhi hone
    rcases HC.out with ⟨rfl, hnil, rfl⟩ | ⟨g, rfl, hg, hcell⟩
    · obtain rfl : n = 0 := by have := HN.out; rw [hnil] at this; simpa using this.symm
      obtain rfl : i = 0 := by omega
      have hfa : Fr (fun _ => False) W1 (W1.alloc (.cells #[] 72)) := Fr.alloc _ _ _
      have own1' := e0.alloc (.cells #[.int .i64 x, .int .i64 at_] 72)
      have hf2' : Fr (fun _ => False) W1 ((W1.alloc (.cells #[] 72)).alloc (.cells #[.int .i64 x, .int .i64 at_] 72)) := hfa.trans (Fr.alloc _ _ _)
      have n2 : ∀ j u, [Value.int .i64 x, Value.int .i64 at_][j]? = some u → ((W1.alloc (.cells #[] 72)).alloc (.cells #[.int .i64 x, .int .i64 at_] 72)).cell? ((⟨(W1.alloc (.cells #[] 72)).heap.size, 0, none⟩ : Addr).add j) = some u := fun j u hj => (by
        rw [off_add, Nat.zero_add, World.cell?_alloc_mark]
        simpa using hj)
      have o2 : ∀ u ∈ [Value.int .i64 x, Value.int .i64 at_], u.oneCell' = true := by
        intro u hu; simp at hu; rcases hu with rfl | rfl <;> rfl
      have z2 := hf2'.size
      rw [World.size_alloc] at n2
      have E0 := Lib.hid e0
      have OW1 := Lib.hid own1'
      have N2 := Lib.hid n2
      have O2 := Lib.hid o2
      have HNIL := Lib.hid hnil
      clear e0 own1' n2 o2 HC hnil
      go_wp2_with (first
        | (at_builtin
           refine app72_nil rfl _ _ rfl (v := .slice (some ⟨W1.heap.size, 0, none⟩) 0 0) rfl rfl E0.out ?_)
        | (at_builtin
           refine app72 rfl _ _ rfl (v := .slice (some ⟨W1.heap.size, 0, none⟩) 0 0) (ad := ⟨W1.heap.size + 1, 0, none⟩) (m := 1) (c := 1) rfl rfl OW1.out rfl N2.out O2.out (by decide) z2 ?_
           intro v2 w3 own2 hg2
           have hf3 : Fr (fun _ => False) W1 w3 := hf2'.by_own hg2 (fun k e => Nat.le_of_eq (by simpa [Value.ownBlock] using e))
           have c3 := (World.cell?_of_block (hf3.block rb hrl id)).trans c1
           obtain ⟨a3, q3, rfl⟩ := owns_slice own2
           have f3 := (HRC.out.kept hf3)
           have fz3 : w3.frozen? ⟨rb, 1, none⟩ = false := (by obtain ⟨_, h, _⟩ := f3.s; exact h.frozen 1)
           have OW2 := Lib.hid own2
           have HF3 := Lib.hid hf3
           clear own2 hg2 f3 hf3)
        | (at_builtin
           refine app72_nil rfl _ _ rfl (v := .slice a3 (0 + 1) q3) rfl rfl OW2.out ?_))
      have e1 : (L1.take 0 ++ (x, at_) :: L1.drop 0).length = 0 + 1 := by rw [HNIL.out]; rfl
      have e2 : flat (L1.take 0 ++ (x, at_) :: L1.drop 0) = [] ++ [.int .i64 x, .int .i64 at_] := by rw [HNIL.out]; rfl
      have hend := HLAST.out w3 _ HF3.out (by rw [e1, e2]; exact OW2.out)
      clear e1 e2
      go_ret
      exact ⟨hend.2, L1, HDR.out, .inr ⟨by omega, by omega, rfl, 0, Nat.zero_le _, HLO.out, HHI.out, hend.1⟩⟩
    · obtain ⟨A, hA, hAc⟩ : ∃ A : Addr, (if cp = i then some (⟨g, 0, none⟩ : Addr) else some ⟨g, i * 2, none⟩) = some A ∧ ∀ j u, (flat (L1.drop i))[j]? = some u → W1.cell? (A.add j) = some u := by
        by_cases e : cp = i
        · rw [if_pos e]
          refine ⟨_, rfl, fun j u hj => ?_⟩
          have : L1.drop i = [] := List.drop_eq_nil_of_le (by rw [HN.out]; omega)
          rw [this] at hj
          simp [flat] at hj
        · rw [if_neg e]
          refine ⟨_, rfl, fun j u hj => ?_⟩
          rw [flat_drop, List.getElem?_drop] at hj
          rw [off_add]
          exact hcell _ u hj
      have HAC := Lib.hid hAc
      have hfa : Fr (fun _ => False) W1 (W1.alloc (.cells #[] 72)) := Fr.alloc _ _ _
      have n1 : ∀ j u, (flat (L1.take i))[j]? = some u → (W1.alloc (.cells #[] 72)).cell? ((⟨g, 0, none⟩ : Addr).add j) = some u := fun j u hj => by
        rw [flat_take] at hj
        have hjl : j < i * 2 := by have := (List.getElem?_eq_some_iff.1 hj).1; rw [List.length_take] at this; omega
        rw [List.getElem?_take_of_lt hjl] at hj
        have := hcell j u hj
        rw [off_add, Nat.zero_add]
        exact (World.cell?_of_block (hfa.block g (lt_of_cell this) id)).trans this
      have l1 : (flat (L1.take i)).length = i * 2 := by rw [flat_len, List.length_take, HN.out]; omega
      have l3 : (flat (L1.drop i)).length = (n - i) * 2 := by rw [flat_len, List.length_drop, HN.out]
      have o1 : ∀ u ∈ flat (L1.take i), u.oneCell' = true := flat_one _
      have o3 : ∀ u ∈ flat (L1.drop i), u.oneCell' = true := flat_one _
      have o2 : ∀ u ∈ [Value.int .i64 x, Value.int .i64 at_], u.oneCell' = true := by
        intro u hu; simp at hu; rcases hu with rfl | rfl <;> rfl
      have z1 : W1.heap.size ≤ (W1.alloc (.cells #[] 72)).heap.size := hfa.size
      have E0 := Lib.hid e0
      have N1 := Lib.hid n1
      have O1 := Lib.hid o1
      have O2 := Lib.hid o2
      have O3 := Lib.hid o3
      have L1' := Lib.hid l1
      have L3' := Lib.hid l3
      have s1 : 0 + i ≤ 100000 := by omega
      have s2 : 0 + i + 1 ≤ 100000 := by omega
      have s3 : 0 + i + 1 + (n - i) ≤ 100000 := by omega
      clear hAc n1 l1 l3 o1 o2 o3 hcell e0 HC
      go_wp2_with (first
        | (at_builtin
           refine app72 rfl _ _ rfl (v := .slice (some ⟨W1.heap.size, 0, none⟩) 0 0) (ad := ⟨g, 0, none⟩) (m := i) (c := cp) rfl rfl E0.out L1'.out N1.out O1.out s1 z1 ?_
           intro v1 w2 own1 hg1
           have hob1 := own1.lt
           have hf2 : Fr (fun _ => False) W1 w2 := hfa.by_own hg1 (fun k e => Nat.le_of_eq (by simpa [Value.ownBlock] using e))
           have own1' := own1.alloc (.cells #[.int .i64 x, .int .i64 at_] 72)
           have hf2' : Fr (fun _ => False) W1 (w2.alloc (.cells #[.int .i64 x, .int .i64 at_] 72)) := hf2.trans (Fr.alloc _ _ _)
           have n2 : ∀ j u, [Value.int .i64 x, Value.int .i64 at_][j]? = some u → (w2.alloc (.cells #[.int .i64 x, .int .i64 at_] 72)).cell? ((⟨w2.heap.size, 0, none⟩ : Addr).add j) = some u := fun j u hj => (by
             rw [off_add, Nat.zero_add, World.cell?_alloc_mark]
             simpa using hj)
           have OW1 := Lib.hid own1'
           have N2 := Lib.hid n2
           have z2 := hf2'.size
           clear own1 own1' n2 hg1)
        | (at_builtin
           refine app72 rfl _ _ rfl (v := v1) (ad := ⟨w2.heap.size, 0, none⟩) (m := 1) (c := 1) rfl rfl OW1.out rfl N2.out O2.out s2 z2 ?_
           intro v2 w3 own2 hg2
           have hob2 := own2.lt
           have hf3 : Fr (fun _ => False) W1 w3 := hf2'.by_own hg2 (fun k e => (hob1 k e).1)
           have n3 : ∀ j u, (flat (L1.drop i))[j]? = some u → w3.cell? (A.add j) = some u := fun j u hj => (by
             have := HAC.out j u hj
             exact (World.cell?_of_block (hf3.block _ (lt_of_cell this) id)).trans this)
           have c3 := (World.cell?_of_block (hf3.block rb hrl id)).trans c1
           have OW2 := Lib.hid own2
           have N3 := Lib.hid n3
           have z3 := hf3.size
           clear own2 n3 hg2)
        | (at_builtin
           refine app72 rfl _ _ rfl (v := v2) (ad := A) (m := n - i) (c := cp - i) rfl rfl OW2.out L3'.out N3.out O3.out s3 z3 ?_
           intro v3 w4 own3 hg3
           have hf4 : Fr (fun _ => False) W1 w4 := hf3.by_own hg3 (fun k e => (hob2 k e).1)
           obtain ⟨a3, q3, rfl⟩ := owns_slice own3
           have c4 := (World.cell?_of_block (hf4.block rb hrl id)).trans c1
           have f4 := (HRC.out.kept hf4)
           have fz4 : w4.frozen? ⟨rb, 1, none⟩ = false := (by obtain ⟨_, h, _⟩ := f4.s; exact h.frozen 1)
           have OW3 := Lib.hid own3
           have F4 := Lib.hid f4
           have HF4 := Lib.hid hf4
           clear own3 hg3 f4))
      have e1 : (L1.take i ++ (x, at_) :: L1.drop i).length = 0 + i + 1 + (n - i) := by
        rw [List.length_append, List.length_take, List.length_cons, List.length_drop, HN.out]; omega
      have e2 : flat (L1.take i ++ (x, at_) :: L1.drop i) = [] ++ flat (L1.take i) ++ [.int .i64 x, .int .i64 at_] ++ flat (L1.drop i) := by
        rw [flat_append, flat_cons]; simp
      have hend := HLAST.out w4 _ HF4.out (by rw [e1, e2]; exact OW3.out)
      clear e1 e2
      rw [Nat.zero_add] at hend
      go_ret
      exact ⟨hend.2, L1, HDR.out, .inr ⟨by omega, by omega, rfl, i, by rw [HN.out]; exact hi, HLO.out, HHI.out, hend.1⟩⟩
end Go.Proofs.Ytjcnmlfkdfpjmaa
