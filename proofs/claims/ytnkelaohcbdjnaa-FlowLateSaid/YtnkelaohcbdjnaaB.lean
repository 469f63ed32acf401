/- A run in memory, nothing open: what is read of it. -/
import Derived.Test.YtnkelaohcbdjnaaA
set_option linter.unusedVariables false
set_option linter.unusedSimpArgs false
namespace Go.Proofs.Ytnkelaohcbdjnaa
open Go.RowKit Go.Maps
/-- a run: its numbers, its events as rows of seven cells -/
structure FSt where
  id : Int
  run : Int
  list : Int
  n : Int
  task : Int
  at_ : Int
  bg : Int
  turn : Int
  late : Bool
  asked : Bool
  rows : List (List Value)
def fcells (s : FSt) (sl mv : Value) : Array Value := #[.int .i64 s.id, .int .i64 s.run, .int .i64 s.list, .int .i64 s.n, sl, .int .i64 s.task, .int .i64 s.at_, .int .i64 s.bg, .int .i64 s.turn, .bool s.late, .bool s.asked, mv]
/-- rows of seven that a slice shows, in no block of S -/
def RowE (S : Nat → Prop) (W : World) (ao : Option Addr) (cp : Nat) (rows : List (List Value)) : Prop :=
  rows.length ≤ cp ∧ cp ≤ maxLen ∧ (ao = none → rows = [] ∧ cp = 0) ∧ ∀ a, ao = some a → ∃ g, a = ⟨g, 0, none⟩ ∧ ¬ S g ∧ g < W.heap.size ∧ ∀ j u, rows.flatten[j]? = some u → W.cell? ⟨g, j, none⟩ = some u
theorem RowE.fr {S : Nat → Prop} {W W' : World} {ao : Option Addr} {cp : Nat} {rows : List (List Value)} (h : RowE S W ao cp rows) (hf : Fr S W W') : RowE S W' ao cp rows := by
  obtain ⟨h1, h2, h3, h4⟩ := h
  refine ⟨h1, h2, h3, fun a ha => ?_⟩
  obtain ⟨g, e, h5, h6, h7⟩ := h4 a ha
  exact ⟨g, e, h5, Nat.lt_of_lt_of_le h6 hf.size, fun j u hj => (World.cell?_of_block (hf.block g h6 h5)).trans (h7 j u hj)⟩
theorem RowE.to {S S' : Nat → Prop} {W : World} {ao : Option Addr} {cp : Nat} {rows : List (List Value)} (h : RowE S W ao cp rows) (hs : ∀ k, k < W.heap.size → S' k → S k) : RowE S' W ao cp rows := by
  obtain ⟨h1, h2, h3, h4⟩ := h
  refine ⟨h1, h2, h3, fun a ha => ?_⟩
  obtain ⟨g, e, h5, h6, h7⟩ := h4 a ha
  exact ⟨g, e, fun k => h5 (hs g h6 k), h6, h7⟩
/-- THE RUN in block fb, its map in block mb -/
structure FL (S : Nat → Prop) (W : World) (fb mb : Nat) (s : FSt) : Prop where
  f : ∃ ao cp, Blk W fb 75 (fcells s (.slice ao s.rows.length cp) (.map (some mb))) ∧ RowE S W ao cp s.rows
  m : Mp iKE W mb 0 (fun _ => none)
  ok : ∀ r ∈ s.rows, r.length = 7 ∧ ∀ u ∈ r, u.oneCell' = true
  few : s.rows.length ≤ 100000
theorem FL.fr {S S0 : Nat → Prop} {W W' : World} {fb mb : Nat} {s : FSt} (h : FL S W fb mb s) (hf : Fr S0 W W') (h0 : ∀ k, S0 k → S k) (h1 : ¬ S0 fb) (h2 : ¬ S0 mb) : FL S W' fb mb s := by
  obtain ⟨ao, cp, h3, h4⟩ := h.f
  exact ⟨⟨ao, cp, h3.fr hf h1, h4.fr (hf.mono h0)⟩, h.m.fr hf h2, h.ok, h.few⟩
theorem FL.fr0 {S : Nat → Prop} {W W' : World} {fb mb : Nat} {s : FSt} (h : FL S W fb mb s) (hf : Fr (fun _ => False) W W') : FL S W' fb mb s := h.fr hf (fun _ e => e.elim) id id
theorem FL.lt {S : Nat → Prop} {W : World} {fb mb : Nat} {s : FSt} (h : FL S W fb mb s) : fb < W.heap.size ∧ mb < W.heap.size := by
  obtain ⟨ao, cp, h3, h4⟩ := h.f
  exact ⟨h3.lt, h.m.lt⟩
theorem mp_ne {W : World} {b c B : Nat} {F : Int → Option Value} {t : TypeId} {cs : Array Value} (h : Mp iKE W b c F) (hb : Blk W B t cs) : B ≠ b := by
  rintro rfl
  obtain ⟨D, ⟨es, clock, hb', _⟩, _⟩ := h
  have := hb.symm.trans hb'
  cases this
theorem flat7 : ∀ {rows : List (List Value)}, (∀ r ∈ rows, r.length = 7) → rows.flatten.length = rows.length * 7
  | [], _ => rfl
  | r :: rows, h => by
    have := flat7 (rows := rows) (fun r hr => h r (List.mem_cons_of_mem _ hr))
    have h2 := h r List.mem_cons_self
    rw [List.flatten_cons, List.length_append, List.length_cons]
    omega
theorem flat_at7 : ∀ {rows : List (List Value)} {i : Nat} {r : List Value}, (∀ r ∈ rows, r.length = 7) → rows[i]? = some r → ∀ {j : Nat} {u : Value}, r[j]? = some u → rows.flatten[i * 7 + j]? = some u
  | r :: rows, 0, _, h, hi, j, u, hj => by
    cases hi
    rw [List.flatten_cons, Nat.zero_mul, Nat.zero_add, List.getElem?_append_left (List.getElem?_eq_some_iff.1 hj).1, hj]
  | r :: rows, i + 1, r', h, hi, j, u, hj => by
    have h2 := h r List.mem_cons_self
    rw [List.flatten_cons, List.getElem?_append_right (by omega), show (i + 1) * 7 + j - r.length = i * 7 + j from by omega]
    exact flat_at7 (fun r hr => h r (List.mem_cons_of_mem _ hr)) hi hj
/-- the last event's cells -/
theorem FL.last {S : Nat → Prop} {W : World} {fb mb : Nat} {s : FSt} {r : List Value} (h : FL S W fb mb s) (hr : s.rows.getLast? = some r) : ∃ g cp, Blk W fb 75 (fcells s (.slice (some ⟨g, 0, none⟩) s.rows.length cp) (.map (some mb))) ∧ 0 < s.rows.length ∧ s.rows.length ≤ cp ∧ ¬ S g ∧ g < W.heap.size ∧ ∀ j u, r[j]? = some u → W.cell? ⟨g, (s.rows.length - 1) * 7 + j, none⟩ = some u := by
  obtain ⟨ao, cp, h3, h4, h5, h6, h7⟩ := h.f
  have hne : s.rows ≠ [] := fun e => by rw [e] at hr; cases hr
  cases ao with
  | none => exact absurd (h6 rfl).1 hne
  | some a =>
    obtain ⟨g, rfl, hg, hgl, hc⟩ := h7 a rfl
    have hi : s.rows[s.rows.length - 1]? = some r := by rw [← List.getLast?_eq_getElem?]; exact hr
    exact ⟨g, cp, h3, List.length_pos_iff.2 hne, h4, hg, hgl, fun j u hj => hc _ u (flat_at7 (fun r hr => (h.ok r hr).1) hi hj)⟩
set_option maxRecDepth 100000 in
theorem len_any (S : Nat → Prop) (W : World) (fb mb : Nat) (s : FSt) (h : FL S W fb mb s) : Calls Try.prog 21 #[.pointer (some ⟨fb, 0, none⟩)] W fun e W' => e = .returned (.int .i64 (s.rows.length : Int)) ∧ W = W' := by
  obtain ⟨ao, cp, h3, h4⟩ := h.f
  have c4 := h3.cell 4
  simp only [fcells, List.getElem?_toArray, List.getElem?_cons_zero, List.getElem?_cons_succ] at c4
  obtain ⟨m, hm⟩ : ∃ m, s.rows.length = m := ⟨_, rfl⟩
  rw [hm] at c4 ⊢
  clear h h3 h4 hm
  go_enter Try.func21, Try.ntmps21
  go_wp2
  go_ret
  exact ⟨rfl, rfl⟩
set_option maxRecDepth 100000 in
theorem clip_any (W : World) (ao : Option Addr) (n cp : Nat) (h : n ≤ cp) (hn : ao = none → n = 0 ∧ cp = 0) (h2 : cp ≤ maxLen) : Calls Try.prog 79 #[.slice ao n cp] W fun e W' => e = .returned (.slice ao n n) ∧ W = W' := by
  unfold maxLen at h2
  cases ao with
  | none =>
    obtain ⟨rfl, rfl⟩ := hn rfl
    go_enter Try.func79, Try.ntmps79
    go_wp2
    go_ret
    exact ⟨rfl, rfl⟩
  | some a =>
    clear hn
    go_enter Try.func79, Try.ntmps79
    go_wp2
    go_ret
    exact ⟨rfl, rfl⟩
end Go.Proofs.Ytnkelaohcbdjnaa
