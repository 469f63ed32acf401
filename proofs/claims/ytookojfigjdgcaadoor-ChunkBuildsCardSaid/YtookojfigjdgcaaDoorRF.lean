/- Acts: a row of them in a world; few. -/
import Derived.Test.YtookojfigjdgcaaDoorP
import Derived.Test.YtookojfigjdgcaaDoorR
import Derived.Test.YtookojfigjdgcaaDoorL
set_option linter.unusedVariables false
set_option linter.unusedSimpArgs false
namespace Go.Proofs.YtookojfigjdgcaaDoor
open Go.RowKit
structure Ac where
  op : Int
  p : Pc
  l : List UInt8
def acv (a : Ac) : Array Value := #[.int .i64 a.op, .int .i64 a.p.id, .int .i64 a.p.at_, .int .i64 a.p.total, .int .u32 a.p.sum, .slice a.p.ao a.p.dl a.p.cp]
structure ActsW (W : World) (ao : Option Addr) (len : Nat) (L : List Ac) : Prop where
  len : L.length = len
  c : ∀ (i : Nat) (a : Ac), L[i]? = some a → ∃ b o, ao = some ⟨b, o, none⟩ ∧ b < W.heap.size ∧ ∀ (j : Nat) (u : Value), (acv a)[j]? = some u → W.cell? ⟨b, o + i * 6 + j, none⟩ = some u
  r : ∀ (i : Nat) (a : Ac), L[i]? = some a → RowY W a.p.ao a.l ∧ a.l.length = a.p.dl ∧ a.p.dl ≤ a.p.cp ∧ a.p.cp ≤ maxLen ∧ (a.p.ao = none → a.p.dl = 0 ∧ a.p.cp = 0) ∧ a.p.dl ≤ 140737488355328 ∧ In64 a.p.id
theorem ActsW.fr {W W2 : World} {ao : Option Addr} {len : Nat} {L : List Ac} (h : ActsW W ao len L) (hf : Fr (fun _ => False) W W2) : ActsW W2 ao len L :=
  ⟨h.len, fun i a hi => by
    obtain ⟨b, o, e, hb, hc⟩ := h.c i a hi
    exact ⟨b, o, e, Nat.lt_of_lt_of_le hb hf.size, fun j u hj => (World.cell?_of_block (hf.block b hb (fun e => e))).trans (hc j u hj)⟩, fun i a hi => by
    obtain ⟨h1, h2⟩ := h.r i a hi
    exact ⟨h1.fr0 hf, h2⟩⟩
def totD (L : List Ac) : Nat := (L.map fun a => a.p.dl).sum
theorem totD_take (L : List Ac) (k : Nat) (a : Ac) (h : L[k]? = some a) : totD (L.take (k + 1)) = totD (L.take k) + a.p.dl := by
  unfold totD
  rw [List.take_add_one, h, List.map_append, List.sum_append]
  simp
theorem totD_mem {L : List Ac} {a : Ac} (h : a ∈ L) : a.p.dl ≤ totD L := by
  unfold totD
  induction L with
  | nil => cases h
  | cons x L ih =>
    simp only [List.map_cons, List.sum_cons]
    rcases List.mem_cons.1 h with rfl | h
    · omega
    · have := ih h
      omega
theorem totD_le {W : World} {ao : Option Addr} {len : Nat} {L : List Ac} (h : ActsW W ao len L) (k : Nat) : totD (L.take k) ≤ k * 140737488355328 := by
  induction k with
  | zero => rw [List.take_zero, Nat.zero_mul]; exact Nat.le_refl 0
  | succ k ih =>
    cases hk : L[k]? with
    | none =>
      have : L.take (k + 1) = L.take k := by
        rw [List.take_add_one, hk]; simp
      rw [this]
      exact Nat.le_trans ih (Nat.mul_le_mul_right _ (Nat.le_succ k))
    | some a =>
      rw [totD_take L k a hk, Nat.add_mul, Nat.one_mul]
      exact Nat.add_le_add ih (h.r k a hk).2.2.2.2.2.1
set_option maxRecDepth 100000 in
set_option maxHeartbeats 4000000 in
theorem few_any (W : World) (ao : Option Addr) (len cap : Nat) (L : List Ac) (h : ActsW W ao len L) (hl : len ≤ 9223372036854775807) :
    Calls Tryd.prog 15 #[.slice ao len cap] W fun r W' => W = W' ∧ r = .returned (.bool (decide (len ≤ 150 ∧ totD L ≤ 8192))) := by
  have HA := Lib.hid h
  have HL := Lib.hid hl
  clear h hl
  go_enter Tryd.func15, Tryd.ntmps15
  go_wp2_with fail
  go_loopw [3, 4] (fun nv iv wr => W = wr ∧ ∃ (k : Nat) (z : Int), k ≤ len ∧ iv = .int .i64 (k : Int) ∧ nv = .int .i64 z ∧ (k ≤ 150 → z = (totD (L.take k) : Nat))) (fun _ iv _ => len - (intOf iv).toNat)
  case atStart => exact ⟨rfl, 0, 0, Nat.zero_le _, rfl, rfl, fun _ => by simp [totD]⟩
  case round =>
    obtain ⟨hwr, k, z, hk, rfl, rfl, hz⟩ := hrel
    subst hwr
    have HZ := Lib.hid hz
    clear hz
    by_cases hlt : k < len
    · have p0 : decide ((k : Int) < (len : Int)) = true := decide_eq_true (by omega)
      have p0' : decide (k < len) = true := decide_eq_true hlt
      obtain ⟨a, ha⟩ : ∃ a, L[k]? = some a := ⟨_, List.getElem?_eq_getElem (by have := HA.out.len; omega)⟩
      obtain ⟨b, o, rfl, hb, hc⟩ := HA.out.c k a ha
      have c5 := hc 5 _ rfl
      have c5' : W.cell? ⟨b, o + k * 6 + 1 + 4, none⟩ = some (.slice a.p.ao a.p.dl a.p.cp) := c5
      clear c5
      have HW : Hid (wrap64 ((k : Int) + 1) = ((k + 1 : Nat) : Int)) := Lib.hid (by have := HL.out; rw [wrap64]; omega)
      have HN : Hid (k + 1 ≤ 150 → wrap64 (z + (a.p.dl : Int)) = (totD (L.take (k + 1)) : Nat)) := Lib.hid (fun h => by
        have h1 := HZ.out (by omega)
        have h2 := totD_le HA.out (k + 1)
        rw [totD_take L k a ha] at h2 ⊢
        rw [h1, wrap64]
        omega)
      clear hc ha
      go_wp2_with fail
      go_roundw
      case rel => exact ⟨by first | trivial | rfl, k + 1, _, hlt, by first | rw [HW.out] | simp, rfl, fun h => by first | exact HN.out h | (have := HN.out h; simpa using this)⟩
      case measure => (try rw [HW.out]); clear HW HN; simp [intOf]; omega
    · have hkl : k = len := by omega
      subst hkl
      have p0 : decide ((k : Int) < (k : Int)) = false := by simp
      have p0' : decide (k < k) = false := by simp
      clear hlt
      by_cases hm : k ≤ 150
      · have p1 : decide ((k : Int) ≤ 150) = true := decide_eq_true (by omega)
        have p1' : decide (k ≤ 150) = true := decide_eq_true hm
        have hz := HZ.out hm
        have e : L.take k = L := List.take_of_length_le (by have := HA.out.len; omega)
        rw [e] at hz
        have HM := Lib.hid (And.intro hm hz)
        clear hm hz HZ e
        go_wp2_with fail
        go_ret
        have h2 := HM.out.2
        have e : decide (z ≤ 8192) = decide (k ≤ 150 ∧ totD L ≤ 8192) := by
          by_cases h : z ≤ 8192
          · rw [decide_eq_true h, decide_eq_true ⟨HM.out.1, by omega⟩]
          · rw [decide_eq_false h, decide_eq_false (fun h3 => by omega)]
        exact ⟨rfl, congrArg (fun b => Ending.returned (Value.bool b)) e⟩
      · have p1 : decide ((k : Int) ≤ 150) = false := decide_eq_false (by omega)
        have p1' : decide (k ≤ 150) = false := decide_eq_false hm
        have HM := Lib.hid hm
        clear hm HZ
        go_wp2_with fail
        go_ret
        have e : false = decide (k ≤ 150 ∧ totD L ≤ 8192) := (decide_eq_false (fun h3 => HM.out h3.1)).symm
        exact ⟨rfl, congrArg (fun b => Ending.returned (Value.bool b)) e⟩
end Go.Proofs.YtookojfigjdgcaaDoor
