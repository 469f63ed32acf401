/- Histories: the first row behind an empty one, of any length; what Check tells of one event more. -/
import Derived.Test.YtbdjnfkhdphhoaaDoorT
import Derived.Test.YtbdjnfkhdphhoaaDoorL
import Derived.Test.YtbdjnfkhdphhoaaDoorM1
import Derived.Test.YtbdjnfkhdphhoaaDoorZ4
import Derived.Deep.Upon
set_option linter.unusedVariables false
set_option linter.unusedSimpArgs false
namespace Go.Proofs.YtbdjnfkhdphhoaaDoor
open Go.RowKit Go.Maps
/-- the first row behind an empty one: nothing but that empty one's block may turn -/
theorem app_first (W : World) (base g0 : Nat) (l : List Ev) (ty : TypeId) (hbase : base ≤ W.heap.size) (hown : W.ownsRow base 24 7 (.slice (some ⟨g0, 0, none⟩) 0 0) 0 (flatE [])) (ao : Option Addr) (cp n : Nat) (hr : RowV W ao l) (hnl : l.length = n) (hn : n ≤ 10000) :
    ∃ (g cap : Nat) (W' : World), (Builtin.append_ #[30, 30] ty #[.slice (some ⟨g0, 0, none⟩) 0 0, .slice ao n cp]).run Tryd.prog W = .ok (.slice (some ⟨g, 0, none⟩) n cap) W' ∧ W'.ownsRow base 24 7 (.slice (some ⟨g, 0, none⟩) n cap) n (flatE l) ∧ Fr (fun k => base ≤ k) W W' ∧ Fr (fun k => k = g0) W W' := by
  subst hnl
  cases l with
  | nil =>
    obtain ⟨i, z, hi, hz, hs, hby, hzs⟩ := infoE'
    refine ⟨g0, 0, W, ?_, hown, Fr.refl _ _, Fr.refl _ _⟩
    cases ao with
    | none => exact Go.run_append_nothing W 30 30 ty 24 i Tryd.underlying30 hi (some ⟨g0, 0, none⟩) 0 0 (Nat.le_refl _) _ (Go.Src.ofNil _ Tryd.underlying30 cp)
    | some a => exact Go.run_append_nothing W 30 30 ty 24 i Tryd.underlying30 hi (some ⟨g0, 0, none⟩) 0 0 (Nat.le_refl _) _ (Go.Src.ofSlice _ Tryd.underlying30 a 0 cp [] (by simp) (by simp) (by simp))
  | cons e l =>
    rcases hr with h | ⟨b, o, rfl, h⟩
    · cases h
    · exact app_kept W base g0 (e :: l) ty hbase hown b o cp (.inr ⟨b, o, rfl, h⟩) (by simp) hn
/-- what Check says of one event more behind a history that fits -/
theorem check_more (W : World) (ao : Option Addr) (cp n : Nat) (l : List Ev) (e : Ev) (hl : RowV W ao (l ++ [e])) (hlen : l.length = n) (hn : n ≤ 90000) (hg : Good l l.length) (c : Nat) (hc : rWhyC l e = c) : Calls Tryd.prog 16 #[.slice ao (n + 1) cp] W fun r W' => Fr (fun _ => False) W W' ∧ ((c = 0 ∧ r = .returned .nilIface) ∨
    ∃ b : Nat, c ≠ 0 ∧ r = .returned (.iface 36 (.pointer (some ⟨b, 0, none⟩))) ∧ Blk W' b 53 #[.int .i64 ((n + 1 : Nat) : Int), whyV c, .iface 55 (.int .i64 8)]) := by
  subst hlen
  rw [why_fault hg] at hc
  have hll : (l ++ [e]).length = l.length + 1 := by simp
  have h := check_any W ao cp (l ++ [e]) hl (by omega)
  rw [hll] at h
  refine h.mono ?_
  rintro r W' ⟨hf, ⟨rfl, h⟩ | ⟨i, x, b, he, hgi, hbad, rfl, hb, hB⟩⟩
  · refine ⟨hf, .inl ⟨?_, rfl⟩⟩
    have := h l.length e (by simp) (by simp)
    rw [List.take_left'] at this
    · rw [← hc]; exact this
    · rfl
  · refine ⟨hf, .inr ⟨b, ?_⟩⟩
    have hi := (List.getElem?_eq_some_iff.1 he).1
    have hil : i = l.length := by
      rcases Nat.lt_or_ge i l.length with h1 | h1
      · exfalso
        rw [List.getElem?_append_left h1] at he
        rw [List.take_append_of_le_length (by omega)] at hbad
        exact hbad (hg i x h1 he)
      · simp at hi; omega
    subst hil
    rw [List.getElem?_append_right (Nat.le_refl _)] at he
    simp only [Nat.sub_self, List.getElem?_cons_zero, Option.some.injEq] at he
    subst he
    rw [List.take_left' rfl, hc] at hbad hB
    exact ⟨hbad, rfl, hB⟩
theorem why_size (c : Nat) (hc : c ≤ 7) : ∃ z : ByteArray, whyV c = .string z ∧ z.toList.isEmpty = (c == 0) ∧ z.size ≤ 20 := by
  have : c = 0 ∨ c = 1 ∨ c = 2 ∨ c = 3 ∨ c = 4 ∨ c = 5 ∨ c = 6 ∨ c = 7 := by omega
  rcases this with rfl | rfl | rfl | rfl | rfl | rfl | rfl | rfl <;> exact ⟨_, rfl, by kernel_rfl, by decide⟩
end Go.Proofs.YtbdjnfkhdphhoaaDoor
