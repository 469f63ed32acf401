/- The writer of bytes. -/
import Derived.Test.YtkodkimfoihbhaaR
import Derived.Laws.Closers25b
set_option linter.unusedVariables false
set_option linter.unusedSimpArgs false
namespace Go.Proofs.Ytkodkimfoihbhaa
open Go.RowKit Go.Maps
theorem Blk.set0 {W : World} {B : Nat} {t : TypeId} {cs : Array Value} (k : Nat) (v : Value) (h : Blk W B t cs) : Blk (W.setCell ⟨B, k, none⟩ v) B t (cs.setIfInBounds k v) := by
  obtain ⟨hlt, hk⟩ := Array.getElem?_eq_some_iff.1 h
  show (W.heap.modify B _)[B]? = _
  rw [Array.getElem?_eq_getElem (by rw [Array.size_modify]; exact hlt), Array.getElem_modify_self, hk]
  rfl
theorem Fr.setCell0 {S : Nat → Prop} (w : World) (a : Addr) (v : Value) (h : S a.block) : Fr S w (w.setCell a v) :=
  ⟨rfl, rfl, rfl, Nat.le_of_eq (by simp [World.setCell]), fun k hk hn => Below.heap_setCell _ _ _ k (fun e => hn (by rw [e]; exact h))⟩
def zb (l : List Int) : List Value := l.map (Value.int .u8)
theorem zb_len (l : List Int) : (zb l).length = l.length := by simp [zb]
theorem zb_append (l m : List Int) : zb (l ++ m) = zb l ++ zb m := by simp [zb]
theorem zb_one (l : List Int) : ∀ u ∈ zb l, u.oneCell' = true := by
  intro u hu
  obtain ⟨x, _, rfl⟩ := List.mem_map.1 hu
  rfl
/-- the writer in block wb -/
structure WR (W : World) (wb B0 : Nat) (l : List Int) : Prop where
  s : ∃ ao cp, Blk W wb 65 #[.slice ao l.length cp] ∧ W.ownsRow B0 5 1 (.slice ao l.length cp) l.length (zb l)
  d : wb < B0 ∧ B0 ≤ W.heap.size
/-- the row's block -/
def rowW (W : World) (wb : Nat) : Option Nat := match W.cell? ⟨wb, 0, none⟩ with | some v => v.ownBlock | none => none
def SW (W : World) (wb : Nat) (k : Nat) : Prop := k = wb ∨ rowW W wb = some k
theorem rowW_of {W : World} {wb : Nat} {sv : Value} (h : Blk W wb 65 #[sv]) : rowW W wb = sv.ownBlock := by
  unfold rowW
  rw [show W.cell? ⟨wb, 0, none⟩ = some sv from h.cell 0]
/-- a turn of the writer -/
structure TurnW (W W' : World) (wb : Nat) : Prop where
  fr : Fr (SW W wb) W W'
  row : ∀ k, rowW W' wb = some k → rowW W wb = some k ∨ W.heap.size ≤ k
theorem TurnW.refl (W : World) (wb : Nat) : TurnW W W wb := ⟨Fr.refl _ _, fun _ h => .inl h⟩
theorem TurnW.not {W W' : World} {wb k : Nat} (h : TurnW W W' wb) (hk : k < W.heap.size) (hn : ¬ SW W wb k) : ¬ SW W' wb k := by
  rintro (e | e)
  · exact hn (.inl e)
  · rcases h.row k e with e | e
    · exact hn (.inr e)
    · omega
theorem TurnW.trans {W W1 W2 : World} {wb : Nat} (h : TurnW W W1 wb) (k : TurnW W1 W2 wb) : TurnW W W2 wb :=
  ⟨⟨k.fr.os.trans h.fr.os, k.fr.tape.trans h.fr.tape, k.fr.output.trans h.fr.output, Nat.le_trans h.fr.size k.fr.size,
    fun i hi hs => (k.fr.block i (Nat.lt_of_lt_of_le hi h.fr.size) (h.not hi hs)).trans (h.fr.block i hi hs)⟩,
   fun i hi => by
    rcases k.row i hi with e | e
    · exact h.row i e
    · exact .inr (Nat.le_trans h.fr.size e)⟩
theorem rowW_fr {S : Nat → Prop} {W W' : World} {wb : Nat} {sv : Value} (h : Blk W wb 65 #[sv]) (hf : Fr S W W') (hn : ¬ S wb) : rowW W' wb = rowW W wb := by rw [rowW_of h, rowW_of (h.fr hf hn)]
theorem owns_frG {S : Nat → Prop} {W W' : World} {B0 n : Nat} {sv : Value} {xs : List Value} (h : W.ownsRow B0 5 1 sv n xs) (hf : Fr S W W') (hS : ∀ k, sv.ownBlock = some k → ¬ S k) : W'.ownsRow B0 5 1 sv n xs := by
  refine ⟨h.1, ?_⟩
  rcases h.2 with h2 | ⟨g, cap, cur, rfl, h2, h3, h4⟩
  · exact .inl h2
  · exact .inr ⟨g, cap, cur, rfl, h2, (hf.block g (Array.getElem?_eq_some_iff.1 h3).1 (hS g rfl)).trans h3, h4⟩
theorem WR.row_ge {W : World} {wb B0 k : Nat} {l : List Int} (h : WR W wb B0 l) (hk : rowW W wb = some k) : B0 ≤ k ∧ k < W.heap.size := by
  obtain ⟨ao, cp, h1, h2⟩ := h.s
  rw [rowW_of h1] at hk
  exact h2.lt k hk
theorem WR.sw {W : World} {wb B0 k : Nat} {l : List Int} (h : WR W wb B0 l) (hk : SW W wb k) : wb ≤ k ∧ k < W.heap.size := by
  have hd := h.d
  rcases hk with rfl | hk
  · exact ⟨Nat.le_refl _, by omega⟩
  · have := h.row_ge hk; omega
theorem WR.fr {S : Nat → Prop} {W W' : World} {wb B0 : Nat} {l : List Int} (h : WR W wb B0 l) (hf : Fr S W W') (hS : ∀ k, SW W wb k → ¬ S k) : WR W' wb B0 l := by
  obtain ⟨ao, cp, h1, h2⟩ := h.s
  refine ⟨⟨ao, cp, h1.fr hf (hS wb (.inl rfl)), owns_frG h2 hf (fun k e => hS k (.inr (by rw [rowW_of h1]; exact e)))⟩, h.d.1, Nat.le_trans h.d.2 hf.size⟩
theorem WR.turn {S : Nat → Prop} {W W' : World} {wb B0 : Nat} {l : List Int} (h : WR W wb B0 l) (hf : Fr (fun _ => False) W W') : TurnW W W' wb := by
  obtain ⟨ao, cp, h1, h2⟩ := h.s
  exact ⟨hf.mono (fun _ e => e.elim), fun k hk => by rw [rowW_fr h1 hf id] at hk; exact .inl hk⟩
theorem infoB : (Try.prog.info? 5).map (fun i => (i.zero, i.size, i.bytes)) = some (some (.int .u8 0), 1, 1) := by kernel_rfl
theorem app30 {W : World} {ops : Array Oper} {rest : List Oper} {o : Oper} {A : Act} {Q : Exit → Act → World → Prop} (hgd : o.guard = none) (s x : Operand) (ho : o.op = .call { callee := .builtin .append, args := #[s, x], argTypes := #[30, 30] })
    {B0 n m c cp : Nat} {ao : Option Addr} {l news : List Int} {ad : Addr} (hs : A.eval s = .slice ao n cp) (hx : A.eval x = .slice (some ad) m c) (hown : W.ownsRow B0 5 1 (.slice ao n cp) n (zb l)) (hn : news.length = m) (hnews : ∀ j u, (zb news)[j]? = some u → W.cell? (ad.add j) = some u)
    (hle : n + m ≤ 300000000000) (hbase : B0 ≤ W.heap.size)
    (h : ∀ ao' cp' W', Hid (W'.ownsRow B0 5 1 (.slice ao' (n + m) cp') (n + m) (zb (l ++ news))) → Hid (Fr (fun k => (Value.slice ao n cp).ownBlock = some k) W W') → Hid ((Value.slice ao' (n + m) cp').ownBlock = (Value.slice ao n cp).ownBlock ∨ (Value.slice ao' (n + m) cp').ownBlock = some W.heap.size) → wpList Try.prog ops Q rest (A.put o.dst (.slice ao' (n + m) cp')) W') :
    wpList Try.prog ops Q (o :: rest) A W := by
  obtain ⟨i0, hi, hz0, hz1, hz2⟩ := info_parts infoB
  refine wpList_append_own_at W hgd s x 30 ho B0 5 i0 _ 1 1 Try.underlying30 hi hz0 hz1 hz2 rfl (by decide) _ n (zb l) hs hown ad m c (zb news) hx (by rw [zb_len, hn, Nat.mul_one]) hnews (zb_one news) (by unfold maxLen; omega) (by omega) hbase (fun v' W' h1 h2 _ h4 => ?_)
  have hv : ∃ ao' cp', v' = .slice ao' (n + m) cp' := by
    rcases h1.2 with ⟨rfl, h0⟩ | ⟨g, cap, cur, rfl, _⟩
    · rw [h0]; exact ⟨_, _, rfl⟩
    · exact ⟨_, _, rfl⟩
  obtain ⟨ao', cp', rfl⟩ := hv
  rw [← zb_append] at h1
  exact h ao' cp' W' (Lib.hid h1) (Lib.hid (Fr.grown h2 (fun k e => e))) (Lib.hid h4)
/-- behind the store -/
theorem WR.fin {W W' : World} {wb B0 cp cp' n' : Nat} {ao ao' : Option Addr} {l l' : List Int} (hd : wb < B0 ∧ B0 ≤ W.heap.size) (hb : Blk W wb 65 #[.slice ao l.length cp]) (hown : W.ownsRow B0 5 1 (.slice ao l.length cp) l.length (zb l)) (hn : l'.length = n')
    (h1 : W'.ownsRow B0 5 1 (.slice ao' n' cp') n' (zb l')) (hf : Fr (fun k => (Value.slice ao l.length cp).ownBlock = some k) W W') (hor : (Value.slice ao' n' cp').ownBlock = (Value.slice ao l.length cp).ownBlock ∨ (Value.slice ao' n' cp').ownBlock = some W.heap.size) :
    WR (W'.setCell ⟨wb, 0, none⟩ (.slice ao' n' cp')) wb B0 l' ∧ TurnW W (W'.setCell ⟨wb, 0, none⟩ (.slice ao' n' cp')) wb := by
  subst hn
  have hnb : ∀ k, (Value.slice ao l.length cp).ownBlock = some k → B0 ≤ k := fun k e => (hown.lt k e).1
  have hnb' : ∀ k, (Value.slice ao' l'.length cp').ownBlock = some k → B0 ≤ k := fun k e => (h1.lt k e).1
  have hb1 := hb.fr hf (fun e => by have := hnb _ e; omega)
  have hb2 := Blk.set0 0 (.slice ao' l'.length cp') hb1
  have hf2 := Fr.setCell0 (S := fun k => k = wb) W' ⟨wb, 0, none⟩ (.slice ao' l'.length cp') rfl
  have hb3 : Blk (W'.setCell ⟨wb, 0, none⟩ (.slice ao' l'.length cp')) wb 65 #[.slice ao' l'.length cp'] := hb2
  have hr0 := rowW_of hb
  refine ⟨⟨⟨ao', cp', hb3, owns_frG h1 hf2 (fun k e1 e2 => by have := hnb' k e1; omega)⟩, hd.1, Nat.le_trans hd.2 (Nat.le_trans hf.size hf2.size)⟩, (hf.mono fun k e => .inr (by rw [hr0]; exact e)).trans (hf2.mono fun k e => .inl e), fun k hk => ?_⟩
  rw [rowW_of hb3] at hk
  rcases hor with e | e
  · rw [hr0, ← e]; exact .inl hk
  · rw [e] at hk
    cases hk
    exact .inr (Nat.le_refl _)
/-- a number's bytes -/
def zz (v : Int) : Int := bits .xor .u64 (v * 2) (v / 9223372036854775808)
def encU : Nat → Int → List Int
  | 0, x => [x]
  | f + 1, x => if 128 ≤ x then bits .or .u8 (IntKind.u8.wrap x) 128 :: encU f (x / 128) else [x]
def encZ (v : Int) : List Int := encU 10 (zz v)
theorem encU_len : ∀ (f : Nat) (x : Int), (encU f x).length ≤ f + 1
  | 0, x => by simp [encU]
  | f + 1, x => by
    unfold encU
    split
    · have := encU_len f (x / 128); simp; omega
    · simp
theorem encZ_len (v : Int) : (encZ v).length ≤ 11 := encU_len 10 _
theorem encU_more {f : Nat} {x : Int} (h : 128 ≤ x) : encU (f + 1) x = bits .or .u8 (IntKind.u8.wrap x) 128 :: encU f (x / 128) := by rw [encU, if_pos h]
theorem encU_last {f : Nat} {x : Int} (h : ¬ 128 ≤ x) : encU f x = [x] := by
  cases f with
  | zero => rfl
  | succ f => rw [encU, if_neg h]
/-- how great a number may be -/
def top128 : Nat → Int
  | 0 => 128
  | f + 1 => 128 * top128 f
theorem new5 (W : World) (b : Int) : ∀ j u, (zb [b])[j]? = some u → (W.alloc (.cells #[.int .u8 b] 5)).cell? ((⟨W.heap.size, 0, none⟩ : Addr).add j) = some u := fun j u hj => by
  rw [off_add, Nat.zero_add, World.cell?_alloc_mark]
  simpa [zb] using hj
set_option maxRecDepth 100000 in
set_option maxHeartbeats 2000000 in
theorem int_any (W : World) (wb B0 : Nat) (l : List Int) (h : WR W wb B0 l) (hl : l.length ≤ 200000000000) (v : Int) (h0 : 0 ≤ v) (h1 : v < 4611686018427387904) :
    Calls Try.prog 29 #[.pointer (some ⟨wb, 0, none⟩), .int .i64 v] W fun e W' => e = .returned (.pointer (some ⟨wb, 0, none⟩)) ∧ WR W' wb B0 (l ++ encZ v) ∧ TurnW W W' wb := by
  have hz0 : 0 ≤ zz v := bits_lo_u64 _ _ _
  have hz1 : zz v ≤ 18446744073709551615 := bits_hi_u64 _ _ _
  have H := Lib.hid h
  have HX : Hid (encZ v = encU 10 (zz v)) := Lib.hid rfl
  obtain ⟨x0, hx0⟩ : ∃ x, bits .xor .u64 (v * 2) (v / 9223372036854775808) = x := ⟨_, rfl⟩
  have hzx : zz v = x0 := hx0
  rw [hzx] at hz0 hz1 HX
  clear h hzx
  go_enter Try.func29, Try.ntmps29
  go_wp2
  clear hx0
  go_loopw [5] (fun xv wr => ∃ (f : Nat) (x : Int) (pre : List Int), f ≤ 10 ∧ xv = .int .u64 x ∧ 0 ≤ x ∧ x < top128 f ∧ x ≤ 18446744073709551615 ∧ encU 10 x0 = pre ++ encU f x ∧ pre.length + f ≤ 10 ∧ WR wr wb B0 (l ++ pre) ∧ TurnW W wr wb) (fun xv _ => (intOf xv).toNat)
  case atStart => exact ⟨10, x0, [], by omega, rfl, hz0, by simp [top128]; omega, hz1, rfl, by simp, by rw [List.append_nil]; exact H.out, TurnW.refl _ _⟩
  case round =>
    obtain ⟨f, x, pre, hf, rfl, hx1, hx2, hx3, henc, hpl, hW, hT⟩ := hrel
    have hd := hW.d
    obtain ⟨ao, cp, hb, hown⟩ := hW.s
    obtain ⟨n, hn⟩ : ∃ n, (l ++ pre).length = n := ⟨_, rfl⟩
    rw [hn] at hb hown
    have hn9 : n ≤ 200000000010 := by rw [← hn, List.length_append]; omega
    have c0 := hb.cell 0
    have f0 := hb.frozen 0
    simp only [List.getElem?_toArray, List.getElem?_cons_zero] at c0
    have HW := Lib.hid hW
    have HT := Lib.hid hT
    have HN := Lib.hid hn
    have HE := Lib.hid henc
    have HB := Lib.hid hb
    have HO := Lib.hid hown
    clear henc hW hT hn hb hown H
    by_cases hge : 128 ≤ x
    · have p1 : decide (128 ≤ x) = true := decide_eq_true hge
      obtain ⟨f, rfl⟩ : ∃ f', f = f' + 1 := by
        cases f with
        | zero => exact absurd hx2 (by unfold top128; omega)
        | succ f => exact ⟨f, rfl⟩
      have hx4 : x / 128 < top128 f := by have : top128 (f + 1) = 128 * top128 f := rfl; omega
      have HA : Hid (WR (wr.alloc (.cells #[.int .u8 (bits .or .u8 (IntKind.u8.wrap x) 128)] 5)) wb B0 (l ++ pre)) := Lib.hid (HW.out.fr (Fr.alloc (fun _ => False) _ _) (fun k _ => id))
      have HTA : Hid (TurnW wr (wr.alloc (.cells #[.int .u8 (bits .or .u8 (IntKind.u8.wrap x) 128)] 5)) wb) := Lib.hid (HW.out.turn (S := fun _ => False) (Fr.alloc _ _ _))
      have HBA : Hid (Blk (wr.alloc (.cells #[.int .u8 (bits .or .u8 (IntKind.u8.wrap x) 128)] 5)) wb 65 #[.slice ao n cp]) := Lib.hid (HB.out.alloc _)
      have HOA : Hid ((wr.alloc (.cells #[.int .u8 (bits .or .u8 (IntKind.u8.wrap x) 128)] 5)).ownsRow B0 5 1 (.slice ao n cp) n (zb (l ++ pre))) := Lib.hid (owns_frG HO.out (Fr.alloc (fun _ => False) _ _) (fun k _ => id))
      have HNW := Lib.hid (new5 wr (bits .or .u8 (IntKind.u8.wrap x) 128))
      go_wp2_with (at_builtin; refine app30 rfl _ _ rfl rfl rfl HOA.out rfl HNW.out (by omega) HA.out.d.2 ?_; intro ao2 cp2 w2 ho2 hf2 hr2; have hb2 := HBA.out.fr hf2.out (fun e => by have := (HOA.out.lt wb e).1; omega); have d0 := hb2.cell 0; have g0 := hb2.frozen 0; simp only [List.getElem?_toArray, List.getElem?_cons_zero] at d0; have HB2 := Lib.hid hb2; clear hb2)
      have hfin := WR.fin (l := l ++ pre) (l' := l ++ pre ++ [bits .or .u8 (IntKind.u8.wrap x) 128]) (n' := n + 1) HA.out.d (by rw [HN.out]; exact HBA.out) (by rw [HN.out]; exact HOA.out) (by rw [List.length_append, HN.out]; rfl) ho2.out (by rw [HN.out]; exact hf2.out) (by rw [HN.out]; exact hr2.out)
      obtain ⟨hW2, hT2⟩ := hfin
      go_roundw
      case rel => exact ⟨f, x / 128, pre ++ [bits .or .u8 (IntKind.u8.wrap x) 128], by omega, by go_num, by omega, by omega, by omega, by rw [HE.out, encU_more hge, List.append_assoc]; rfl, by rw [List.length_append]; simp; omega, by rw [← List.append_assoc]; exact hW2, (HT.out.trans HTA.out).trans hT2⟩
      case measure => simp [intOf]; omega
    · have p1 : decide (128 ≤ x) = false := decide_eq_false hge
      have HA : Hid (WR (wr.alloc (.cells #[.int .u8 (x)] 5)) wb B0 (l ++ pre)) := Lib.hid (HW.out.fr (Fr.alloc (fun _ => False) _ _) (fun k _ => id))
      have HTA : Hid (TurnW wr (wr.alloc (.cells #[.int .u8 (x)] 5)) wb) := Lib.hid (HW.out.turn (S := fun _ => False) (Fr.alloc _ _ _))
      have HBA : Hid (Blk (wr.alloc (.cells #[.int .u8 (x)] 5)) wb 65 #[.slice ao n cp]) := Lib.hid (HB.out.alloc _)
      have HOA : Hid ((wr.alloc (.cells #[.int .u8 (x)] 5)).ownsRow B0 5 1 (.slice ao n cp) n (zb (l ++ pre))) := Lib.hid (owns_frG HO.out (Fr.alloc (fun _ => False) _ _) (fun k _ => id))
      have HNW := Lib.hid (new5 wr (x))
      go_wp2_with (at_builtin; refine app30 rfl _ _ rfl rfl rfl HOA.out rfl HNW.out (by omega) HA.out.d.2 ?_; intro ao2 cp2 w2 ho2 hf2 hr2; have hb2 := HBA.out.fr hf2.out (fun e => by have := (HOA.out.lt wb e).1; omega); have d0 := hb2.cell 0; have g0 := hb2.frozen 0; simp only [List.getElem?_toArray, List.getElem?_cons_zero] at d0; have HB2 := Lib.hid hb2; clear hb2)
      have hfin := WR.fin (l := l ++ pre) (l' := l ++ pre ++ [x]) (n' := n + 1) HA.out.d (by rw [HN.out]; exact HBA.out) (by rw [HN.out]; exact HOA.out) (by rw [List.length_append, HN.out]; rfl) ho2.out (by rw [HN.out]; exact hf2.out) (by rw [HN.out]; exact hr2.out)
      obtain ⟨hW2, hT2⟩ := hfin
      go_ret
      refine ⟨rfl, ?_, (HT.out.trans HTA.out).trans hT2⟩
      rw [HX.out, HE.out, encU_last (by omega), ← List.append_assoc]
      exact hW2
end Go.Proofs.Ytkodkimfoihbhaa
