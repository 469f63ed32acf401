/- Few; Same, Prefix of a front. -/
import Derived.Test.YtbdjnfkhdphhoaaDoorQ
set_option linter.unusedVariables false
set_option linter.unusedSimpArgs false
namespace Go.Proofs.YtbdjnfkhdphhoaaDoor
open Go.RowKit Go.Maps
set_option maxRecDepth 100000 in
set_option maxHeartbeats 2000000 in
theorem few_any (W : World) (ao : Option Addr) (cp : Nat) (l : List Ev) (hl : RowV W ao l) (hn : l.length ≤ 9223372036854775807) : Calls Tryd.prog 15 #[.slice ao l.length cp] W fun r W' => ∃ q, r = .returned (.bool q) ∧ W = W' ∧ (q = true → l.length ≤ 120) := by
  obtain ⟨n, hnl⟩ : ∃ n, l.length = n := ⟨_, rfl⟩
  rw [hnl] at hn ⊢
  have HNL := Lib.hid hnl
  clear hnl
  go_enter Tryd.func15, Tryd.ntmps15
  go_wp2_with fail
  go_loopw [3, 4] (fun nv iv wr => ∃ i : Nat, ∃ s : Int, i ≤ n ∧ iv = .int .i64 i ∧ nv = .int .i64 s ∧ wr = W) (fun _ i _ => n - (intOf i).toNat)
  case atStart => exact ⟨0, 0, Nat.zero_le _, rfl, rfl, rfl⟩
  case round =>
    obtain ⟨i, s, hi, rfl, rfl, rfl⟩ := hrel
    by_cases hlt : i < n
    · have p0 : decide ((i : Int) < n) = true := decide_eq_true (by omega)
      obtain ⟨e, he⟩ : ∃ e, l[i]? = some e := ⟨_, List.getElem?_eq_getElem (by rw [HNL.out]; exact hlt)⟩
      rcases hl with h0 | ⟨b, o, rfl, hb, hc⟩
      · rw [h0] at he; simp at he
      have c6 := hc i e he 6 (.slice e.ao e.dl e.cp) rfl
      clear hc he
      go_wp2
      refine ⟨⟨i + 1, _, by omega, by go_num, rfl, trivial⟩, by simp [intOf]; omega⟩
    · obtain rfl : i = n := by omega
      have p0 : decide ((i : Int) < i) = false := decide_eq_false (by omega)
      clear hl
      by_cases h2 : i ≤ 120
      · have p2 : decide ((i : Int) ≤ 120) = true := decide_eq_true (by omega)
        go_wp2
        go_ret
        exact ⟨_, rfl, rfl, fun h => h2⟩
      · have p2 : decide ((i : Int) ≤ 120) = false := decide_eq_false (by omega)
        go_wp2
        go_ret
        exact ⟨_, rfl, rfl, fun h => by cases h⟩
theorem str_of {S : Nat → Prop} {W : World} {v : Value} (l : List UInt8) (h : RowB S W v (l.map fun b => .int .u8 (b.toNat : Int))) : (convert 22 9 v).run Tryd.prog W = .ok (.string ⟨l.toArray⟩) W := by
  obtain ⟨ao, cap, rfl, h1, h2, h3, h4⟩ := h
  have hl : (l.map fun b => Value.int .u8 (b.toNat : Int)).length = l.length := by simp
  rw [hl]
  cases ao with
  | none =>
    have := h3 rfl
    have h0 : l = [] := List.eq_nil_of_length_eq_zero (by omega)
    subst h0
    exact run_convert_bytes_nil W 22 5 Tryd.underlying22 Tryd.underlying5 _ _ 9 Tryd.underlying9
  | some a =>
    refine run_convert_bytes_back W 22 9 5 a cap l Tryd.underlying22 Tryd.underlying5 Tryd.underlying9 (fun j hj => ?_)
    refine (h4 a rfl).2 j _ ?_
    simp [List.getElem?_eq_getElem hj]
set_option maxRecDepth 100000 in
theorem equal_any {S : Nat → Prop} (W : World) (ao : Option Addr) (dl cp : Nat) (q : List UInt8) (h : RowB S W (.slice ao dl cp) (bs q)) : Calls Tryd.prog 57 #[.slice ao dl cp, .slice ao dl cp] W fun r W' => r = .returned (.bool true) ∧ W = W' := by
  have hs := str_of q h
  clear h
  go_enter Tryd.func57, Tryd.ntmps57
  go_wp2
  go_ret
  exact ⟨rfl, rfl⟩
set_option maxRecDepth 100000 in
set_option maxHeartbeats 2000000 in
theorem same_any {S : Nat → Prop} (W : World) (e : Ev) (q : List UInt8) (h : RowB S W (.slice e.ao e.dl e.cp) (bs q)) : Calls Tryd.prog 44 #[.agg (evc e), .agg (evc e)] W fun r W' => r = .returned (.bool true) ∧ Fr (fun _ => False) W W' := by
  have hB1 := Blk.new W 24 (evc e)
  have hF1 : Fr (fun _ => False) W (W.alloc (.cells (evc e) 24)) := Fr.alloc _ _ _
  have hB2 := Blk.new (W.alloc (.cells (evc e) 24)) 24 (evc e)
  have hF2 : Fr (fun _ => False) (W.alloc (.cells (evc e) 24)) ((W.alloc (.cells (evc e) 24)).alloc (.cells (evc e) 24)) := Fr.alloc _ _ _
  have hb1 := hB1.fr hF2 (fun e => e)
  have hf := hF1.trans hF2
  obtain ⟨w2, hw2⟩ : ∃ w2, (W.alloc (.cells (evc e) 24)).alloc (.cells (evc e) 24) = w2 := ⟨_, rfl⟩
  rw [hw2] at hB2 hb1 hf
  rw [World.size_alloc] at hB2
  have HEQ := Lib.hid (equal_any w2 e.ao e.dl e.cp q (h.fr (hf.mono fun _ e => e.elim)))
  have HF := Lib.hid hf
  simp only [evc] at hw2
  rw [show Value.agg (evc e) = Value.agg #[.int .i64 e.k, .int .i64 e.at_, .int .i64 e.ref, .int .i64 e.id, .int .i64 e.list, .int .i64 e.n, .slice e.ao e.dl e.cp] from rfl]
  obtain ⟨b1, hbb1⟩ : ∃ b, W.heap.size = b := ⟨_, rfl⟩
  rw [hbb1] at hb1 hB2
  have c0 := hb1.cell 0
  have c1 := hb1.cell 1
  have c2 := hb1.cell 2
  have c3 := hb1.cell 3
  have c4 := hb1.cell 4
  have c5 := hb1.cell 5
  have c6 := hb1.cell 6
  have d0 := hB2.cell 0
  have d1 := hB2.cell 1
  have d2 := hB2.cell 2
  have d3 := hB2.cell 3
  have d4 := hB2.cell 4
  have d5 := hB2.cell 5
  have d6 := hB2.cell 6
  simp only [evc, List.getElem?_toArray, List.getElem?_cons_zero, List.getElem?_cons_succ] at c0 d0 c1 d1 c2 d2 c3 d3 c4 d4 c5 d5 c6 d6
  clear hB1 hB2 hF1 hF2 hb1 hf h
  go_enter Tryd.func44, Tryd.ntmps44
  go_upto_region 1 with (fail)
  try rw [hw2]
  try rw [hbb1]
  clear hw2 hbb1
  go_wp2_with (first | (go_at_call 57; refine HEQ.out.mono ?_; rintro r w3 ⟨rfl, rfl⟩) | go_in)
  go_ret
  exact ⟨rfl, HF.out⟩
/-- each event's data are bytes, in blocks below N -/
def DataIn (N : Nat) (W : World) (l : List Ev) : Prop := ∀ e ∈ l, ∃ q : List UInt8, RowB (fun k => N ≤ k) W (.slice e.ao e.dl e.cp) (bs q)
theorem DataIn.fr {N : Nat} {W W' : World} {l : List Ev} (h : DataIn N W l) (hf : Fr (fun _ => False) W W') : DataIn N W' l := fun e he => by
  obtain ⟨q, hq⟩ := h e he
  exact ⟨q, hq.fr (hf.mono fun _ e => e.elim)⟩
set_option maxRecDepth 100000 in
set_option maxHeartbeats 4000000 in
theorem eqfunc_any (N : Nat) (W : World) (ao : Option Addr) (cp cp2 : Nat) (l : List Ev) (hl : RowV W ao l) (hd : DataIn N W l) (hn : l.length ≤ 100000) : Calls Tryd.prog 43 #[.slice ao l.length cp, .slice ao l.length cp2, .func (.func 44) #[] #[]] W fun r W' => r = .returned (.bool true) ∧ Fr (fun _ => False) W W' := by
  obtain ⟨n, hnl⟩ : ∃ n, l.length = n := ⟨_, rfl⟩
  rw [hnl] at hn ⊢
  have HNL := Lib.hid hnl
  have HROW := Lib.hid hl
  have HDA := Lib.hid hd
  have HN := Lib.hid hn
  clear hnl hl hd hn
  have pn : ((n : Int) != n) = false := by simp
  go_enter Tryd.func43, Tryd.ntmps43
  go_wp2_with fail
  go_loopw [17] (fun iv wr => ∃ i : Nat, i ≤ n ∧ iv = .int .i64 i ∧ Fr (fun _ => False) W wr) (fun iv _ => n - (intOf iv).toNat)
  case atStart => exact ⟨0, Nat.zero_le _, rfl, Fr.refl _ _⟩
  case round =>
    obtain ⟨i, hi, rfl, hf⟩ := hrel
    by_cases hlt : i < n
    · have p0 : decide ((i : Int) < n) = true := decide_eq_true (by omega)
      obtain ⟨e, he⟩ : ∃ e, l[i]? = some e := ⟨_, List.getElem?_eq_getElem (by rw [HNL.out]; exact hlt)⟩
      obtain ⟨q, hq⟩ := HDA.out e (List.mem_of_getElem? he)
      have hrow := HROW.out.fr hf (fun k e => e.elim)
      rcases hrow with h0 | ⟨b, o, rfl, hb, hc⟩
      · rw [h0] at he; simp at he
      have hA : ∀ w', Fr (fun _ => False) wr w' → ∀ j v, (evc e)[j]? = some v → w'.cell? ⟨b, o + i * 7 + j, none⟩ = some v := fun w' hf' j v hj => (World.cell?_of_block (hf'.block b hb id)).trans (hc i e he j v hj)
      have c0 := hA wr (Fr.refl _ _) 0 (.int .i64 e.k) rfl
      have c1 := hA wr (Fr.refl _ _) 1 (.int .i64 e.at_) rfl
      have c2 := hA wr (Fr.refl _ _) 2 (.int .i64 e.ref) rfl
      have c3 := hA wr (Fr.refl _ _) 3 (.int .i64 e.id) rfl
      have c4 := hA wr (Fr.refl _ _) 4 (.int .i64 e.list) rfl
      have c5 := hA wr (Fr.refl _ _) 5 (.int .i64 e.n) rfl
      have c6 := hA wr (Fr.refl _ _) 6 (.slice e.ao e.dl e.cp) rfl
      rw [Nat.add_zero] at c0
      have hf1 : Fr (fun _ => False) wr ((wr.alloc (.cells (evc e) 24)).alloc (.cells (evc e) 24)) := (Fr.alloc _ _ _).trans (Fr.alloc _ _ _)
      have HSM := Lib.hid (same_any _ e q ((hq.fr (hf.mono fun _ e => e.elim)).fr (hf1.mono fun _ e => e.elim)))
      have HF1 := Lib.hid (hf.trans hf1)
      simp only [evc] at HSM HF1
      have HWS := Lib.hid (wrap_succ i (by have := HN.out; omega))
      have HI := Lib.hid (And.intro hi hlt)
      clear hA hc he hq hf1 hf
      go_wp2_with (first | (go_at_call 44; refine HSM.out.mono ?_; rintro r w3 ⟨rfl, hf3⟩) | go_in)
      go_roundw
      case rel => exact ⟨i + 1, by have := HI.out; omega, by rw [HWS.out], HF1.out.trans hf3⟩
      case measure => rw [HWS.out]; clear HWS; have := HI.out; simp [intOf]; omega
    · obtain rfl : i = n := by omega
      have p0 : decide ((i : Int) < i) = false := decide_eq_false (by omega)
      have HF := Lib.hid hf
      clear hf
      go_wp2
      go_ret
      exact ⟨rfl, HF.out⟩
set_option maxRecDepth 100000 in
set_option maxHeartbeats 2000000 in
theorem prefix_any (N : Nat) (W : World) (ao : Option Addr) (cp cp2 n : Nat) (l : List Ev) (hl : RowV W ao l) (hd : DataIn N W l) (hn : l.length ≤ 100000) (hcp : l.length ≤ cp2) (h : n ≤ l.length) : Calls Tryd.prog 21 #[.slice ao n cp, .slice ao l.length cp2] W fun r W' => r = .returned (.bool true) ∧ Fr (fun _ => False) W W' := by
  have hlen : (l.take n).length = n := by simp; omega
  have HEF := Lib.hid (eqfunc_any N W ao cp cp2 (l.take n) (by
    rcases hl with h | ⟨b, o, h1, h2, h3⟩
    · exact .inl (by rw [h]; simp)
    · exact .inr ⟨b, o, h1, h2, fun i e he => h3 i e (by rw [List.getElem?_take] at he; split at he; exact he; cases he)⟩) (fun e he => hd e (List.mem_of_mem_take he)) (by omega))
  rw [hlen] at HEF
  obtain ⟨m, hm⟩ : ∃ m, l.length = m := ⟨_, rfl⟩
  rw [hm] at hn hcp h ⊢
  have p0 : decide ((n : Int) ≤ m) = true := decide_eq_true (by omega)
  clear hl hd hm hlen
  have hn2 : n ≤ cp2 := by omega
  go_enter Tryd.func21, Tryd.ntmps21
  go_wp2_with (first | (go_at_call 43; refine HEF.out.mono ?_; rintro r w3 ⟨rfl, hf3⟩) | go_in)
  go_ret
  exact ⟨rfl, hf3⟩
end Go.Proofs.YtbdjnfkhdphhoaaDoor
