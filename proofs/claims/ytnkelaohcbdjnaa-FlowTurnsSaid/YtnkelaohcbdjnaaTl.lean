/- Plain law: the states of a run whose decision tasks are missed or faulty. -/
import Derived.Test.YtnkelaohcbdjnaaZx
import Derived.Test.YtnkelaohcbdjnaaNx
import Derived.Test.YtnkelaohcbdjnaaTx
import Derived.Test.YtnkelaohcbdjnaaXx
import Derived.Test.YtnkelaohcbdjnaaMx
set_option linter.unusedVariables false
set_option linter.unusedSimpArgs false
namespace Go.Proofs.Ytnkelaohcbdjnaa
open Go.RowKit Go.Maps
/-- the run behind t turns -/
def stt (f : Nat → Bool) (t : Nat) : FSt := ⟨3, 1, 0, 7, 1, ((2 + 3 * t : Nat) : Int), 0, (t : Int), false, false, hist f t, 0, fun _ => none⟩
theorem stt_0 (f : Nat → Bool) : begun1 3 1 0 7 0 [] = stt f 0 := rfl
theorem wrap_t (t : Nat) (h : t ≤ 1000) : wrap64 ((t : Int) + 1) = ((t + 1 : Nat) : Int) := by rw [wrap64]; omega
theorem stt_missed (f : Nat → Bool) (t : Nat) (h : t ≤ 1000) (hf : f t = false) : sched (missed (began (stt f t) (t : Int) ((2 + 3 * t : Nat) : Int)) (t : Int)) (t : Int) = stt f (t + 1) := by
  unfold sched missed began stt
  simp only [hist, hf, hist_len, List.length_append, List.length_cons, List.length_nil, wrap_t t h, Bool.false_eq_true, if_false, FSt.mk.injEq, true_and, and_true]
  have e1 : ((2 + 3 * t + (0 + 1) + (0 + 1) : Nat) : Int) + 1 = ((2 + 3 * (t + 1) : Nat) : Int) := by omega
  have e2 : ((2 + 3 * t : Nat) : Int) + 1 = ((3 + 3 * t : Nat) : Int) := by omega
  rw [e2]
  exact ⟨e1, rfl⟩
theorem stt_faulted (f : Nat → Bool) (t : Nat) (h : t ≤ 1000) (hf : f t = true) : sched (faulted (began (stt f t) (t : Int) ((2 + 3 * t : Nat) : Int)) (t : Int) 1) (t : Int) = stt f (t + 1) := by
  unfold sched faulted began stt
  simp only [hist, hf, hist_len, List.length_append, List.length_cons, List.length_nil, wrap_t t h, if_true, FSt.mk.injEq, true_and, and_true]
  have e1 : ((2 + 3 * t + (0 + 1) + (0 + 1) : Nat) : Int) + 1 = ((2 + 3 * (t + 1) : Nat) : Int) := by omega
  have e2 : ((2 + 3 * t : Nat) : Int) + 1 = ((3 + 3 * t : Nat) : Int) := by omega
  rw [e2]
  exact ⟨e1, rfl⟩
theorem hist_last (f : Nat → Bool) (t : Nat) : ∃ e, (hist f t).getLast? = some e ∧ e.k = 2 ∧ e.a = ((t - 1 : Nat) : Int) := by
  cases t with
  | zero => exact ⟨_, rfl, rfl, rfl⟩
  | succ t => exact ⟨_, List.getLast?_concat, rfl, by simp⟩
theorem stt_right (f : Nat → Bool) (t : Nat) (ht : t ≤ 1000) (now : Int) (hn : ((t - 1 : Nat) : Int) ≤ now ∧ now ≤ 2000) : rightP (stt f t).l 0 now := by
  obtain ⟨e, h1, _, h2⟩ := hist_last f t
  refine ⟨by omega, by omega, by omega, fun x hx => ?_⟩
  have : some x = some e := hx.symm.trans h1
  cases this
  rw [h2]; omega
theorem stt_open (f : Nat → Bool) (t : Nat) : statusK (stt f t).l = 1 := by
  obtain ⟨e, h1, h2, _⟩ := hist_last f t
  show statusK (hist f t) = 1
  unfold statusK
  rw [h1]
  simp [h2]
/-- begun, it stands open still -/
theorem began_right (f : Nat → Bool) (t : Nat) (ht : t ≤ 1000) (ref : Int) : rightP (began (stt f t) (t : Int) ref).l 0 (t : Int) := by
  refine ⟨by omega, by omega, by omega, fun x hx => ?_⟩
  have h1 : (began (stt f t) (t : Int) ref).l.getLast? = some ⟨3, (t : Int), ref, 0, 0, 0, []⟩ := List.getLast?_concat
  have : some x = some _ := hx.symm.trans h1
  cases this
  exact Int.le_refl _
theorem began_open (f : Nat → Bool) (t : Nat) (ref : Int) : statusK (began (stt f t) (t : Int) ref).l = 1 := by
  have h1 : (began (stt f t) (t : Int) ref).l.getLast? = some ⟨3, (t : Int), ref, 0, 0, 0, []⟩ := List.getLast?_concat
  unfold statusK
  rw [h1]
  rfl
/-- closed -/
def sttEnd (f : Nat → Bool) (t : Nat) : FSt := shut (decided (began (stt f t) (t : Int) ((2 + 3 * t : Nat) : Int)) (t : Int)) 20 (t : Int) []
theorem sttEnd_l (f : Nat → Bool) (t : Nat) : (sttEnd f t).l = histEnd f t := by
  unfold sttEnd shut decided began stt histEnd
  have e2 : (((hist f t).length : Nat) : Int) + 1 = ((3 + 3 * t : Nat) : Int) := by rw [hist_len]; omega
  simp only [e2]
theorem sttEnd_len (f : Nat → Bool) (t : Nat) : (sttEnd f t).l.length = 5 + 3 * t := by
  rw [sttEnd_l]
  simp only [histEnd, List.length_append, List.length_cons, List.length_nil, hist_len]
  omega
theorem sttEnd_status (f : Nat → Bool) (t : Nat) : statusK (sttEnd f t).l = 2 := statusK_snoc _ _ 20 (by decide) rfl
end Go.Proofs.Ytnkelaohcbdjnaa
