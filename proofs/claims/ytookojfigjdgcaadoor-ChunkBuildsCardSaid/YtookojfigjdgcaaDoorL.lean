/- What is laid; numbers as texts; is an error that of a piece. -/
import Derived.Test.YtookojfigjdgcaaDoorD
import Derived.Test.YtookojfigjdgcaaDoorE
import Derived.Test.YtookojfigjdgcaaDoorF
import Derived.Test.YtookojfigjdgcaaDoorT
import Derived.Lib.ItoaMem
import Derived.Deep.RegionHeld3
set_option linter.unusedVariables false
set_option linter.unusedSimpArgs false
namespace Go.Proofs.YtookojfigjdgcaaDoor
open Go.RowKit
structure Laid (W : World) : Prop where
  e : W.cell? ⟨0, 0, none⟩ = some (.iface 100 (.agg #[.pointer (some ⟨4, 26, none⟩)]))
  t : Lib.TabIs Tryd.prog W "internal/strconv.uint64pow10" .u64 Lib.pow10Tab
theorem Laid.lt {W : World} (h : Laid W) : 0 < W.heap.size := by
  have := lt_of_cell h.e
  exact this
theorem var1 : Tryd.prog.globalNamed "internal/strconv.uint64pow10" = some 1 := by kernel_rfl
theorem Laid.fr {S : Nat → Prop} {W W2 : World} (h : Laid W) (hf : Fr S W W2) (h0 : ∀ k, S k → 2 ≤ k) : Laid W2 := by
  refine ⟨(World.cell?_of_block (hf.block 0 h.lt (fun e => by have := h0 0 e; omega))).trans h.e, ?_⟩
  have ht := h.t
  have hlt : 1 < W.heap.size := by
    have := ht.cell var1 0 (by decide)
    have := lt_of_cell this
    exact this
  unfold Lib.TabIs World.var? at ht ⊢
  rw [var1] at ht ⊢
  have hb := hf.block 1 hlt (fun e => by have := h0 1 e; omega)
  simp only [Option.bind_some] at ht ⊢
  rw [hb]
  exact ht
theorem Laid.fr0 {W W2 : World} (h : Laid W) (hf : Fr (fun _ => False) W W2) : Laid W2 := h.fr hf (fun _ e => e.elim)
theorem fr_grow (W : World) (k : Nat) (os : Array Obj) : Fr (fun _ => False) W (Sort.grow (W.drewN k) os) :=
  ⟨rfl, rfl, rfl, by show W.heap.size ≤ (W.heap ++ os).size; rw [Array.size_append]; omega, fun j hj _ => by
    show (W.heap ++ os)[j]? = W.heap[j]?
    rw [Array.getElem?_append_left hj]⟩
/-- the range of an int -/
def In64 (n : Int) : Prop := -9223372036854775808 ≤ n ∧ n ≤ 9223372036854775807
theorem itoa_any (n : Int) (hn : In64 n) (W : World) (hL : Laid W) : Calls Tryd.prog 38 #[.int .i64 n] W fun r W' => r = .returned (.string ⟨(Lib.itoa n).toArray⟩) ∧ Fr (fun _ => False) W W' := by
  refine (Tryd.strconv_Itoa n hn.1 hn.2 W hL.t).mono ?_
  rintro r W' ⟨rfl, k, os, rfl⟩
  exact ⟨rfl, fr_grow _ _ _⟩
theorem itoa_len (n : Int) (hn : In64 n) : (Lib.itoa n).length ≤ 21 := by
  unfold Lib.itoa
  have h := hn
  unfold In64 at h
  split
  · have := dec_len 19 n.natAbs (by omega)
    simp; omega
  · have := dec_len 19 n.toNat (by omega)
    omega
theorem as_any (W : World) (e : Addr) (tb : Nat) (old : Value) (hL : Laid W) (ht : Blk W tb 62 #[old]) :
    Calls Tryd.prog 24 #[.iface 62 (.pointer (some e)), .iface 69 (.pointer (some ⟨tb, 0, none⟩))] W fun r W' => r = .returned (.bool true) ∧ Fr (fun k => k = tb) W W' ∧ Blk W' tb 62 #[.pointer (some e)] := by
  refine (as_hit e ⟨tb, 0, none⟩ old W hL.e (ht.cell 0) (ht.frozen 0)).mono ?_
  rintro r W' ⟨rfl, rfl⟩
  have ht2 := ((((ht.alloc (.cells #[.pointer (some ⟨tb, 0, none⟩)] 69)).alloc (.cells #[.pointer (some ⟨4, 69, none⟩), .pointer (some ⟨W.heap.size, 0, none⟩), .int .u64 150] 83)).alloc (.cells #[.pointer (some ⟨4, 69, none⟩), .pointer (some ⟨W.heap.size, 0, none⟩), .int .u64 150] 83)).alloc (.cells #[.pointer (some e)] 62)).set 0 (.pointer (some e))
  refine ⟨rfl, ?_, ht2⟩
  exact ((((Fr.alloc _ W _).trans (Fr.alloc _ _ _)).trans (Fr.alloc _ _ _)).trans (Fr.alloc _ _ _)).trans (Fr.setCell _ _ _ rfl)
/-- chunk ..: .. -/
def textB (n z : ByteArray) : ByteArray := (((⟨#[99, 104, 117, 110, 107, 32]⟩ : ByteArray) ++ n) ++ (⟨#[58, 32]⟩ : ByteArray)) ++ z
theorem word_len (n : Int) : (wordN n).size ≤ 4 := by
  unfold wordN
  repeat' split
  all_goals decide
theorem methodErr (v : Value) (w : World) : (Go.method 260 63 v "Error").run Tryd.prog w = .ok (26, v) w := by kernel_rfl
set_option maxRecDepth 100000 in
set_option maxHeartbeats 1000000 in
theorem error_any (W : World) (hL : Laid W) (pb : Nat) (id n : Int) (hid : In64 id) (hn : Num n) (h : Blk W pb 65 #[.int .i64 id, .iface 63 (.int .i64 n)]) :
    Calls Tryd.prog 28 #[.pointer (some ⟨pb, 0, none⟩)] W fun e W' => e = .returned (.string (textB ⟨(Lib.itoa id).toArray⟩ (wordN n))) ∧ Fr (fun _ => False) W W' := by
  have HB := Lib.hid h
  have HL := Lib.hid hL
  have HI := Lib.hid hid
  have HN := Lib.hid hn
  have FACT : Hid (∀ w', Fr (fun _ => False) W w' → w'.cell? ⟨pb, 0, none⟩ = some (.int .i64 id) ∧ w'.cell? ⟨pb, 1, none⟩ = some (.iface 63 (.int .i64 n))) := Lib.hid (fun w' hf => by
    have hb := HB.out.fr hf (fun e => e)
    exact ⟨hb.cell 0, hb.cell 1⟩)
  obtain ⟨t, ht⟩ : ∃ t : ByteArray, ⟨(Lib.itoa id).toArray⟩ = t := ⟨_, rfl⟩
  have hts : t.size ≤ 21 := by
    rw [← ht]
    show (Lib.itoa id).toArray.size ≤ 21
    rw [List.size_toArray]
    exact itoa_len id hid
  have HIT := Lib.hid (fun w hw => itoa_any id hid w hw)
  rw [ht] at HIT ⊢
  obtain ⟨z, hz⟩ : ∃ z, wordN n = z := ⟨_, rfl⟩
  have hzs : z.size ≤ 4 := by rw [← hz]; exact word_len n
  have HW := Lib.hid (word_any n hn)
  rw [hz] at HW ⊢
  have q1 : ¬ 9223372036854775807 < 6 + t.size := by omega
  have q2 : ¬ 9223372036854775807 < 6 + t.size + 2 := by omega
  have q3 : ¬ 9223372036854775807 < 6 + t.size + 2 + z.size := by omega
  have hme := methodErr
  clear h hL hid hn ht hz
  go_enter Tryd.func28, Tryd.ntmps28
  go_upto_region 1 with (fail)
  refine wp_region_held_drew (S := fun (w' : World) => w'.cell? ⟨pb, 0, none⟩ = some (.int .i64 id) ∧ w'.cell? ⟨pb, 1, none⟩ = some (.iface 63 (.int .i64 n))) (by kernel_rfl) (FACT.out _ (Fr.drewN _ W 1)) (fun hHeld => ?_)
  refine wpAnyH_take (i := 0) (oi := _) (v := ?va0) rfl (by kernel_rfl) (by kernel_rfl) (by kernel_rfl) (fun _ _ _ h => h) (Or.inl ⟨by rfl, ?ya0⟩) (by assumption) ?ra0
  case ya0 => intro w1 hSw; obtain ⟨s1, s2⟩ := hSw; go_simp; try with_reducible rfl
  try simp only [List.getElem_toArray, List.getElem_cons_zero, List.getElem_cons_succ, Act.put, List.setIfInBounds_toArray, List.set_cons_zero, List.set_cons_succ]
  refine wpAnyH_take (i := 1) (oi := _) (v := ?va1) rfl (by kernel_rfl) (by kernel_rfl) (by kernel_rfl) (fun _ _ _ h => h) (Or.inl ⟨by rfl, ?ya1⟩) (by assumption) ?ra1
  case ya1 => intro w1 hSw; obtain ⟨s1, s2⟩ := hSw; go_simp; try with_reducible rfl
  try simp only [List.getElem_toArray, List.getElem_cons_zero, List.getElem_cons_succ, Act.put, List.setIfInBounds_toArray, List.set_cons_zero, List.set_cons_succ]
  refine wpAnyH_take (i := 2) (oi := _) (v := ?va2) rfl (by kernel_rfl) (by kernel_rfl) (by kernel_rfl) (fun _ _ _ h => h) (Or.inl ⟨by rfl, ?ya2⟩) (by assumption) ?ra2
  case ya2 => intro w1 hSw; obtain ⟨s1, s2⟩ := hSw; go_simp; try with_reducible rfl
  try simp only [List.getElem_toArray, List.getElem_cons_zero, List.getElem_cons_succ, Act.put, List.setIfInBounds_toArray, List.set_cons_zero, List.set_cons_succ]
  refine wpAnyH_take (i := 3) (oi := _) (v := ?va3) rfl (by kernel_rfl) (by kernel_rfl) (by kernel_rfl) (fun _ _ _ h => h) (Or.inl ⟨by rfl, ?ya3⟩) (by assumption) ?ra3
  case ya3 => intro w1 hSw; obtain ⟨s1, s2⟩ := hSw; go_simp; try with_reducible rfl
  try simp only [List.getElem_toArray, List.getElem_cons_zero, List.getElem_cons_succ, Act.put, List.setIfInBounds_toArray, List.set_cons_zero, List.set_cons_succ]
  refine wpAnyH_take (i := 7) (oi := _) (v := ?va7) rfl (by kernel_rfl) (by kernel_rfl) (by kernel_rfl) (fun _ _ _ h => h) (Or.inl ⟨by rfl, ?ya7⟩) (by assumption) ?ra7
  case ya7 => intro w1 hSw; obtain ⟨s1, s2⟩ := hSw; go_simp; try with_reducible rfl
  try simp only [List.getElem_toArray, List.getElem_cons_zero, List.getElem_cons_succ, Act.put, List.setIfInBounds_toArray, List.set_cons_zero, List.set_cons_succ]
  refine wpAnyH_take (i := 8) (oi := _) (v := ?va8) rfl (by kernel_rfl) (by kernel_rfl) (by kernel_rfl) (fun _ _ _ h => h) (Or.inl ⟨by rfl, ?ya8⟩) (by assumption) ?ra8
  case ya8 => intro w1 hSw; obtain ⟨s1, s2⟩ := hSw; go_simp; try with_reducible rfl
  try simp only [List.getElem_toArray, List.getElem_cons_zero, List.getElem_cons_succ, Act.put, List.setIfInBounds_toArray, List.set_cons_zero, List.set_cons_succ]
  refine wpAnyH_take (i := 9) (oi := _) (v := ?va9) rfl (by kernel_rfl) (by kernel_rfl) (by kernel_rfl) (fun _ _ _ h => h) (Or.inl ⟨by rfl, ?ya9⟩) (by assumption) ?ra9
  case ya9 => intro w1 hSw; obtain ⟨s1, s2⟩ := hSw; go_simp; try with_reducible rfl
  try simp only [List.getElem_toArray, List.getElem_cons_zero, List.getElem_cons_succ, Act.put, List.setIfInBounds_toArray, List.set_cons_zero, List.set_cons_succ]
  refine wpAnyH_take (i := 10) (oi := _) (v := ?va10) rfl (by kernel_rfl) (by kernel_rfl) (by kernel_rfl) (fun _ _ _ h => h) (Or.inl ⟨by rfl, ?ya10⟩) (by assumption) ?ra10
  case ya10 => intro w1 hSw; obtain ⟨s1, s2⟩ := hSw; go_simp; try with_reducible rfl
  try simp only [List.getElem_toArray, List.getElem_cons_zero, List.getElem_cons_succ, Act.put, List.setIfInBounds_toArray, List.set_cons_zero, List.set_cons_succ]
  refine wpAnyH_ready (rs := [4]) (by kernel_rfl) (by simp) ?_
  refine AllReadyH.cons (o := _) rfl (fun K hK => ?_) AllReadyH.nil
  rw [if_pos (by rfl)]
  try simp only [List.getElem_toArray, List.getElem_cons_zero, List.getElem_cons_succ]
  go_simp
  refine (HIT.out _ (HL.out.fr0 (Fr.drewN _ W 1))).mono ?_
  rintro e w2 ⟨rfl, hf2⟩
  have HF2 : Hid (Fr (fun _ => False) W w2) := Lib.hid ((Fr.drewN _ W 1).trans hf2)
  clear hf2
  refine hK.out _ _ (FACT.out _ HF2.out) (fun hHeld2 => ?_)
  clear hK K hHeld
  try simp only [List.getElem_toArray, List.getElem_cons_zero, List.getElem_cons_succ, Act.put, List.setIfInBounds_toArray, List.set_cons_zero, List.set_cons_succ]
  refine wpAnyH_take (i := 5) (oi := _) (v := ?vb5) rfl (by kernel_rfl) (by kernel_rfl) (by kernel_rfl) (fun _ _ _ h => h) (Or.inl ⟨by rfl, ?yb5⟩) (by assumption) ?rb5
  case yb5 => intro w1 hSw; obtain ⟨s1, s2⟩ := hSw; go_simp; try with_reducible rfl
  try simp only [List.getElem_toArray, List.getElem_cons_zero, List.getElem_cons_succ, Act.put, List.setIfInBounds_toArray, List.set_cons_zero, List.set_cons_succ]
  refine wpAnyH_take (i := 6) (oi := _) (v := ?vb6) rfl (by kernel_rfl) (by kernel_rfl) (by kernel_rfl) (fun _ _ _ h => h) (Or.inl ⟨by rfl, ?yb6⟩) (by assumption) ?rb6
  case yb6 => intro w1 hSw; obtain ⟨s1, s2⟩ := hSw; go_simp; try with_reducible rfl
  try simp only [List.getElem_toArray, List.getElem_cons_zero, List.getElem_cons_succ, Act.put, List.setIfInBounds_toArray, List.set_cons_zero, List.set_cons_succ]
  refine wpAnyH_ready (rs := [11]) (by kernel_rfl) (by simp) ?_
  refine AllReadyH.cons (o := _) rfl (fun K hK => ?_) AllReadyH.nil
  rw [if_pos (by rfl)]
  try simp only [List.getElem_toArray, List.getElem_cons_zero, List.getElem_cons_succ]
  go_simp
  refine (HW.out _).mono ?_
  rintro e w3 ⟨rfl, rfl⟩
  refine hK.out _ _ (FACT.out _ HF2.out) (fun hHeld3 => ?_)
  clear hK K hHeld2
  try simp only [List.getElem_toArray, List.getElem_cons_zero, List.getElem_cons_succ, Act.put, List.setIfInBounds_toArray, List.set_cons_zero, List.set_cons_succ]
  refine wpAnyH_take (i := 12) (oi := _) (v := ?vc12) rfl (by kernel_rfl) (by kernel_rfl) (by kernel_rfl) (fun _ _ _ h => h) (Or.inl ⟨by rfl, ?yc12⟩) (by assumption) ?rc12
  case yc12 => intro w1 hSw; obtain ⟨s1, s2⟩ := hSw; go_simp; try with_reducible rfl
  try simp only [List.getElem_toArray, List.getElem_cons_zero, List.getElem_cons_succ, Act.put, List.setIfInBounds_toArray, List.set_cons_zero, List.set_cons_succ]
  refine wpAnyH_take (i := 13) (oi := _) (v := ?vc13) rfl (by kernel_rfl) (by kernel_rfl) (by kernel_rfl) (fun _ _ _ h => h) (Or.inl ⟨by rfl, ?yc13⟩) (by assumption) ?rc13
  case yc13 => intro w1 hSw; obtain ⟨s1, s2⟩ := hSw; go_simp; try with_reducible rfl
  try simp only [List.getElem_toArray, List.getElem_cons_zero, List.getElem_cons_succ, Act.put, List.setIfInBounds_toArray, List.set_cons_zero, List.set_cons_succ]
  refine wpAnyH_done (by kernel_rfl) ?_ _
  clear hHeld3
  go_wp2
  go_ret
  exact ⟨rfl, HF2.out⟩
theorem broken_nil (W : World) (id : Int) : Calls Tryd.prog 10 #[.nilIface, .int .i64 id, .int .i64 0] W fun r W' => r = .returned (.bool true) ∧ W = W' := by
  go_enter Tryd.func10, Tryd.ntmps10
  go_wp2
  go_ret
  exact ⟨rfl, rfl⟩
set_option maxRecDepth 100000 in
set_option maxHeartbeats 4000000 in
/-- a piece's error, told -/
theorem broken_any (W : World) (hL : Laid W) (pb : Nat) (id n : Int) (hid : In64 id) (hn : Num n) (h : Blk W pb 65 #[.int .i64 id, .iface 63 (.int .i64 n)]) :
    Calls Tryd.prog 10 #[.iface 62 (.pointer (some ⟨pb, 0, none⟩)), .int .i64 id, .int .i64 n] W fun r W' => r = .returned (.bool true) ∧ Fr (fun _ => False) W W' := by
  have HB := Lib.hid h
  have HL := Lib.hid hL
  have hn0 : (n == 0) = false := by rcases hn with rfl | rfl | rfl | rfl | rfl <;> rfl
  have HN := Lib.hid hn
  have HI := Lib.hid hid
  have q0 : (id == id) = true := by simp
  clear h hL hn hid
  go_enter Tryd.func10, Tryd.ntmps10
  go_upto_region 3 with (fail)
  have hT := Blk.new W 62 #[.pointer none]
  have hfT : Fr (fun _ => False) W (W.alloc (.cells #[.pointer none] 62)) := Fr.alloc _ _ _
  obtain ⟨tb, htb⟩ : ∃ b, W.heap.size = b := ⟨_, rfl⟩
  have HTB := Lib.hid htb
  have HPT : Hid (pb ≠ tb) := Lib.hid (by have := HB.out.lt; omega)
  obtain ⟨w7, hw7⟩ : ∃ w7, W.alloc (.cells #[.pointer none] 62) = w7 := ⟨_, rfl⟩
  rw [hw7] at hT hfT
  rw [htb] at hT
  have HT7 := Lib.hid hT
  have HB7 := Lib.hid (HB.out.fr hfT (fun e => e))
  have HF7 := Lib.hid hfT
  have HL7 := Lib.hid (HL.out.fr0 hfT)
  clear hT hfT
  go_upto_region 4 with (fail)
  try rw [hw7]
  try rw [htb]
  clear hw7 htb
  have HGE : Hid (2 ≤ tb) := Lib.hid (by
    have := HTB.out
    have h1 := HL.out.t.cell var1 0 (by decide)
    have h2 : 1 < W.heap.size := lt_of_cell h1
    omega)
  go_upto_region 7 with (first
    | (go_at_call 24; refine (as_any _ _ tb _ HL7.out HT7.out).mono ?_; rintro r8 w9 ⟨rfl, hf9, ht9⟩; have d0 := ht9.cell 0; simp only [List.getElem?_toArray, List.getElem?_cons_zero] at d0; have HT9 := Lib.hid ht9; have HB9 := Lib.hid (HB7.out.fr hf9 HPT.out); have HL9 := Lib.hid (HL7.out.fr hf9 (fun k e => by subst e; exact HGE.out)); have HF9 : Hid (Fr (fun _ => False) W w9) := Lib.hid ⟨hf9.os.trans HF7.out.os, hf9.tape.trans HF7.out.tape, hf9.output.trans HF7.out.output, Nat.le_trans HF7.out.size hf9.size, fun k hk _ => (hf9.block k (Nat.lt_of_lt_of_le hk HF7.out.size) (fun e => by have := HTB.out; omega)).trans (HF7.out.block k hk (fun e => e))⟩; have d1 := HB9.out.cell 0; have d2 := HB9.out.cell 1; simp only [List.getElem?_toArray, List.getElem?_cons_zero, List.getElem?_cons_succ] at d1 d2; clear hf9 ht9)
    | (go_at_call 25; refine (is_any n HN.out pb _ _ HB9.out).mono ?_; rintro r10 w10 ⟨rfl, rfl⟩)
    | (go_at_call 26; refine (word_any n HN.out _).mono ?_; rintro r11 w11 ⟨rfl, rfl⟩)
    | go_in)
  have hU := Blk.new w9 72 #[.pointer none]
  have hfU : Fr (fun _ => False) w9 (w9.alloc (.cells #[.pointer none] 72)) := Fr.alloc _ _ _
  obtain ⟨ub, hub⟩ : ∃ b, w9.heap.size = b := ⟨_, rfl⟩
  obtain ⟨w12, hw12⟩ : ∃ w, w9.alloc (.cells #[.pointer none] 72) = w := ⟨_, rfl⟩
  rw [hw12] at hU hfU
  rw [hub] at hU
  have HU := Lib.hid hU
  have HB12 := Lib.hid (HB9.out.fr hfU (fun e => e))
  have HT12 := Lib.hid (HT9.out.fr hfU (fun e => e))
  have HL12 := Lib.hid (HL9.out.fr0 hfU)
  have HF12 := Lib.hid (HF9.out.trans hfU)
  clear hU hfU d0 d1 d2 HT7 HB7 HF7 HL7
  go_upto_region 8 with (fail)
  try rw [hw12]
  try rw [hub]
  clear hw12 hub
  go_upto_region 10 with (first | (go_at_call 24; refine (as_miss pb ⟨ub, 0, none⟩ _ _ n _ HL12.out.e (HU.out.cell 0) HB12.out).mono ?_; rintro r13 w13 ⟨rfl, hf13⟩) | go_in)
  have HB13 := Lib.hid (HB12.out.fr hf13 (fun e => e))
  have ht13 := (HT12.out.fr hf13 (fun e => e)).cell 0
  have HL13 := Lib.hid (HL12.out.fr0 hf13)
  have HF13 := Lib.hid (HF12.out.trans hf13)
  simp only [List.getElem?_toArray, List.getElem?_cons_zero] at ht13
  clear hf13 HB12 HT12 HL12 HF12 HU HB9 HT9 HL9 HF9
  obtain ⟨t, ht⟩ : ∃ t : ByteArray, ⟨(Lib.itoa id).toArray⟩ = t := ⟨_, rfl⟩
  have hts : t.size ≤ 21 := by
    rw [← ht]
    show (Lib.itoa id).toArray.size ≤ 21
    rw [List.size_toArray]
    exact itoa_len id HI.out
  have HER := Lib.hid (error_any _ HL13.out pb id n HI.out HN.out HB13.out)
  have HDE := Lib.hid (fun w => decimal_any id HI.out.1 HI.out.2 w)
  rw [ht] at HER HDE
  obtain ⟨z, hz⟩ : ∃ z, wordN n = z := ⟨_, rfl⟩
  have hzs : z.size ≤ 4 := by rw [← hz]; exact word_len n
  rw [hz] at HER ⊢
  have q1 : ¬ 9223372036854775807 < 6 + t.size := by omega
  have q2 : ¬ 9223372036854775807 < 6 + t.size + 2 := by omega
  have q3 : ¬ 9223372036854775807 < 6 + t.size + 2 + z.size := by omega
  clear ht hz
  go_wp2_with fail
  refine HER.out.mono ?_
  rintro r14 w14 ⟨rfl, hf14⟩
  go_wp2_with fail
  refine (HDE.out _).mono ?_
  rintro r15 w15 ⟨rfl, hf15⟩
  go_wp2
  go_ret
  refine ⟨?_, (HF13.out.trans hf14).trans hf15⟩
  show Ending.returned (Value.bool ((textB t z).toList == (textB t z).toList)) = Ending.returned (Value.bool true)
  rw [beq_self_eq_true]
end Go.Proofs.YtookojfigjdgcaaDoor
