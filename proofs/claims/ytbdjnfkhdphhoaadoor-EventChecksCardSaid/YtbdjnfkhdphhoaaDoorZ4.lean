/- The document's Why tells what is known of a history that fits. -/
import Derived.Test.YtbdjnfkhdphhoaaDoorZ3
set_option linter.unusedVariables false
set_option linter.unusedSimpArgs false
namespace Go.Proofs.YtbdjnfkhdphhoaaDoor
open Go.RowKit Go.Maps
theorem refs_8 {l : List Ev} {e : Ev} (hk : e.k = 8) (hr : rRefs l e = true) : rKind l e.ref = 7 ∧ rWorks l e.ref = 0 := by
  unfold rRefs at hr
  rw [if_neg (by omega), if_neg (by omega), if_pos hk] at hr
  simpa using hr
theorem refs_9 {l : List Ev} {e : Ev} (hk : e.k = 9 ∨ e.k = 10 ∨ e.k = 11) (hr : rRefs l e = true) : rKind l e.ref = 8 ∧ rOpen l (refAt l e.ref) = true := by
  unfold rRefs at hr
  rw [if_neg (by omega), if_neg (by omega), if_neg (by omega), if_pos hk] at hr
  simpa using hr
theorem refs_13 {l : List Ev} {e : Ev} (hk : e.k = 13 ∨ e.k = 14) (hr : rRefs l e = true) : rKind l e.ref = 12 ∧ rOpen l e.ref = true := by
  unfold rRefs at hr
  rw [if_neg (by omega), if_neg (by omega), if_neg (by omega), if_neg (by omega), if_pos hk] at hr
  simpa using hr
theorem refs_18 {l : List Ev} {e : Ev} (hk : e.k = 18) (hr : rRefs l e = true) : rKind l e.ref = 17 ∧ rOpen l e.ref = true := by
  unfold rRefs at hr
  rw [if_neg (by omega), if_neg (by omega), if_neg (by omega), if_neg (by omega), if_neg (by omega), if_pos hk] at hr
  simpa using hr
theorem Inv2.nxt {l : List Ev} {s : Hi} (h : Inv2 l s) (e : Ev) (hf : faultC s e = 0) : Nxt l e (turned (step1 s e) e) := by
  obtain ⟨H, hd⟩ := h
  obtain ⟨hc0, hrb, h26⟩ := fault_none hf
  have hr : rRefs l e = true := by rw [← H.refs]; exact hrb
  have hin := ref_in hr (rLast_le l 2)
  have hN : (((step1 s e).n : Nat) : Int) = (l.length : Int) + 1 := by show ((s.n + 1 : Nat) : Int) = _; rw [H.n]; omega
  have hl2 := rLast_le l 2
  have hl3 := rLast_le l 3
  by_cases h2 : e.k = 2
  · have ht : turned (step1 s e) e = { step1 s e with task := (step1 s e).n, begun := false } := by unfold turned; rw [if_pos h2]
    have e2 : rLast (l ++ [e]) 2 = l.length + 1 := by rw [rLast_snoc, if_pos h2]
    have e3 : rLast (l ++ [e]) 3 = rLast l 3 := by rw [rLast_snoc, if_neg (by omega)]
    rw [ht]
    refine nxt_plain H hd hin (by omega) rfl rfl rfl rfl (.inr (.inl ⟨by omega, ?_, rfl, by omega⟩))
    show (((step1 s e).n : Nat) : Int) = _
    rw [hN, e2]; omega
  by_cases h3 : e.k = 3
  · have ht : turned (step1 s e) e = { step1 s e with task := (step1 s e).n, begun := true } := by unfold turned; rw [if_neg h2, if_pos h3]
    have e2 : rLast (l ++ [e]) 2 = rLast l 2 := by rw [rLast_snoc, if_neg h2]
    have e3 : rLast (l ++ [e]) 3 = l.length + 1 := by rw [rLast_snoc, if_pos h3]
    have h20 : rLast l 2 ≠ 0 := fun h0 => by
      have hr' := hr
      unfold rRefs at hr'
      rw [if_pos h3] at hr'
      have : rTask l = (0, 0) := by unfold rTask; rw [if_pos h0]
      rw [this] at hr'
      simp at hr'
    have hnm : rNamed (l ++ [e]) ((l.length : Int) + 1) [4, 5, 6] = false := by
      rw [rNamed_snoc, named_past H.rf (by omega)]
      have : hitB ((l.length : Int) + 1) [4, 5, 6] e = false := by
        rw [Bool.eq_false_iff]; intro hh; simp [hitB] at hh; omega
      rw [this]; rfl
    rw [ht]
    refine nxt_plain H hd hin (by omega) rfl rfl rfl rfl (.inr (.inr ⟨by omega, ?_, rfl, by omega, ?_⟩))
    · show (((step1 s e).n : Nat) : Int) = _
      rw [hN, e3]; omega
    · rw [e3, show (((l.length + 1 : Nat)) : Int) = (l.length : Int) + 1 by omega]; exact hnm
  by_cases h4 : e.k = 4 ∨ e.k = 5 ∨ e.k = 6
  · have ht : turned (step1 s e) e = { step1 s e with task := 0, begun := false } := by unfold turned; rw [if_neg h2, if_neg h3, if_pos h4]
    have e2 : rLast (l ++ [e]) 2 = rLast l 2 := by rw [rLast_snoc, if_neg h2]
    have e3 : rLast (l ++ [e]) 3 = rLast l 3 := by rw [rLast_snoc, if_neg h3]
    have hr' := hr
    unfold rRefs at hr'
    rw [if_neg h3, if_pos h4] at hr'
    simp only [Bool.and_eq_true, beq_iff_eq] at hr'
    rw [ht]
    refine nxt_plain H hd hin (by omega) rfl rfl rfl rfl (.inl ⟨rfl, rfl, .inr ⟨?_, ?_⟩⟩)
    · rw [e2, e3]
      rcases H.tk with ⟨a, b, c⟩ | ⟨a, b, c, d⟩ | ⟨a, b, c, d, f⟩
      · rcases H.task with ⟨_, _, x⟩ | ⟨x, _⟩ | ⟨x, _⟩
        · rw [x] at hr'; exact absurd hr'.1 (by decide)
        · exact absurd a x
        · exact absurd a x
      · have : rTask l = (1, (rLast l 2 : Int)) := by unfold rTask; rw [if_neg a, if_pos d]
        rw [this] at hr'; exact absurd hr'.1 (by show ¬ (1 : Int) = 2; decide)
      · exact d
    · rw [e3, rNamed_snoc]
      have hrf : e.ref = (rLast l 3 : Int) := by
        rcases H.tk with ⟨a, b, c⟩ | ⟨a, b, c, d⟩ | ⟨a, b, c, d, f⟩
        · rcases H.task with ⟨_, _, x⟩ | ⟨x, _⟩ | ⟨x, _⟩
          · rw [x] at hr'; exact absurd hr'.1 (by decide)
          · exact absurd a x
          · exact absurd a x
        · have : rTask l = (1, (rLast l 2 : Int)) := by unfold rTask; rw [if_neg a, if_pos d]
          rw [this] at hr'; exact absurd hr'.1 (by show ¬ (1 : Int) = 2; decide)
        · have : rTask l = (2, (rLast l 3 : Int)) := by unfold rTask; rw [if_neg a, if_neg (by omega), if_neg (by rw [f]; decide)]
          rw [this] at hr'; exact hr'.2
      have : hitB (rLast l 3 : Int) [4, 5, 6] e = true := by
        simp only [hitB, Bool.and_eq_true, beq_iff_eq]
        refine ⟨hrf, ?_⟩
        simp; omega
      rw [this, Bool.or_true]
  by_cases h7 : e.k = 7 ∨ e.k = 12 ∨ e.k = 17
  · have ht : turned (step1 s e) e = { step1 s e with kinds := put1 (step1 s e).kinds (step1 s e).n (some e.k), ids := put1 (step1 s e).ids (step1 s e).n (some e.id) } := by unfold turned; rw [if_neg h2, if_neg h3, if_neg h4, if_pos h7]
    rw [ht]
    exact nxt_open H hd hin h7 _ hN rfl rfl rfl rfl rfl rfl
  by_cases h8 : e.k = 8
  · have ht : turned (step1 s e) e = { step1 s e with of_ := put1 (step1 s e).of_ (step1 s e).n (some e.ref), from_ := put1 (step1 s e).from_ e.ref (some ((step1 s e).n : Int)) } := by unfold turned; rw [if_neg h2, if_neg h3, if_neg h4, if_neg h7, if_pos h8]
    rw [ht]
    obtain ⟨a, b⟩ := refs_8 h8 hr
    exact nxt_works H hd hin h8 a b _ hN rfl rfl rfl rfl rfl rfl
  by_cases h9 : e.k = 9 ∨ e.k = 10 ∨ e.k = 11
  · obtain ⟨a, b⟩ := refs_9 h9 hr
    have hof : s.of_ e.ref = some (refAt l e.ref) := by rw [H.of, if_pos ⟨a, b⟩]
    have hx0 : (s.of_ e.ref).getD 0 = refAt l e.ref := by rw [hof]; rfl
    have ht : turned (step1 s e) e = dropped { step1 s e with of_ := put1 s.of_ e.ref none, from_ := put1 s.from_ (refAt l e.ref) none } (refAt l e.ref) := by
      unfold turned
      rw [if_neg h2, if_neg h3, if_neg h4, if_neg h7, if_neg h8, if_pos h9]
      show dropped { step1 s e with of_ := put1 s.of_ e.ref none, from_ := put1 s.from_ ((s.of_ e.ref).getD 0) none } ((s.of_ e.ref).getD 0) = _
      rw [hx0]
    rw [ht]
    have hwk := H.wk e.ref a
    have hin2 := kind_in (l := l) (x := e.ref) (by omega)
    refine nxt_end H hd hin (by omega) (refAt l e.ref) (open_in b) (fun x hx => ?_) rfl rfl (fun w => ?_) (fun x hx => put1_other _ _ hx) (fun v hv => ?_) rfl rfl
    · constructor
      · intro hdd
        unfold dead at hdd
        have h13 : ([13, 14].any (fun k => e.k == k)) = false := by simp; omega
        have h18 : ([18].any (fun k => e.k == k)) = false := by simp; omega
        rw [h13, h18] at hdd
        simp only [Bool.false_and, Bool.and_false, Bool.or_false, Bool.and_eq_true, beq_iff_eq, bne_iff_ne, ne_eq] at hdd
        obtain ⟨_, _, h4', h5'⟩ := hdd
        obtain ⟨y, hy, _, hy2, hy3, _⟩ := rWorks_spec l x h5'
        rw [h4', refAt_ev hy3, hy]
        exact hy2.symm
      · intro hx2
        rw [hx2]
        unfold dead
        rw [hwk.1, hwk.2]
        have : ([9, 10, 11].any (fun k => e.k == k)) = true := by simp; omega
        rw [this]
        have hne : e.ref ≠ 0 := by omega
        simp [hne]
    · show put1 s.of_ e.ref none w = _
      by_cases hw : w = e.ref
      · rw [hw, put1_same, if_neg (fun hh => hh.2.2 rfl)]
      · rw [put1_other _ _ hw, H.of]
        by_cases hh : rKind l w = 8 ∧ rOpen l (refAt l w) = true
        · have hne : refAt l w ≠ refAt l e.ref := fun hx => by
            have h1 := (H.wk w hh.1).2
            rw [hx, hwk.2] at h1
            exact hw h1.symm
          rw [if_pos hh, if_pos ⟨hh.1, hh.2, hne⟩]
        · rw [if_neg hh, if_neg (fun a => hh ⟨a.1, a.2.1⟩)]
    · have : put1 s.from_ (refAt l e.ref) none (refAt l e.ref) = some v := hv
      rw [put1_same] at this
      cases this
  have hend : ∀ K : Int, rKind l e.ref = K → (K = 12 ∧ (e.k = 13 ∨ e.k = 14) ∨ K = 17 ∧ e.k = 18) → rOpen l e.ref = true → Nxt l e (dropped (step1 s e) e.ref) := fun K hK hc ho => by
    refine nxt_end H hd hin (by omega) e.ref (open_in ho) (fun x hx => ?_) rfl rfl (fun w => ?_) (fun x hx => rfl) (fun v hv => hin.2) rfl rfl
    · have h9' : ([9, 10, 11].any (fun k => e.k == k)) = false := by simp; omega
      unfold dead
      rw [h9']
      constructor
      · intro hdd
        simp only [Bool.false_and, Bool.and_false, Bool.false_or, Bool.or_eq_true, Bool.and_eq_true, beq_iff_eq] at hdd
        rcases hdd with hdd | hdd
        · exact hdd.2.2.symm
        · exact hdd.2.2.symm
      · intro hx2
        rw [hx2, hK]
        rcases hc with ⟨rfl, hc⟩ | ⟨rfl, hc⟩
        · rcases hc with hc | hc <;> simp [hc]
        · simp [hc]
    · show s.of_ w = _
      rw [H.of]
      by_cases hh : rKind l w = 8 ∧ rOpen l (refAt l w) = true
      · have hne : refAt l w ≠ e.ref := fun hx => by
          have h1 := (H.wk w hh.1).1
          rw [hx, hK] at h1
          omega
        rw [if_pos hh, if_pos ⟨hh.1, hh.2, hne⟩]
      · rw [if_neg hh, if_neg (fun a => hh ⟨a.1, a.2.1⟩)]
  by_cases h13 : e.k = 13 ∨ e.k = 14 ∨ e.k = 18
  · have ht : turned (step1 s e) e = dropped (step1 s e) e.ref := by unfold turned; rw [if_neg h2, if_neg h3, if_neg h4, if_neg h7, if_neg h8, if_neg h9, if_pos h13]
    rw [ht]
    by_cases h18 : e.k = 18
    · obtain ⟨a, b⟩ := refs_18 h18 hr
      exact hend 17 a (.inr ⟨rfl, h18⟩) b
    · obtain ⟨a, b⟩ := refs_13 (by omega) hr
      exact hend 12 a (.inl ⟨rfl, by omega⟩) b
  have ht : turned (step1 s e) e = step1 s e := by unfold turned; rw [if_neg h2, if_neg h3, if_neg h4, if_neg h7, if_neg h8, if_neg h9, if_neg h13]
  rw [ht]
  exact nxt_plain H hd hin (by omega) rfl rfl rfl rfl (tk_same H h2 h3 h4 rfl rfl)
theorem Inv2.step {l : List Ev} {s : Hi} (h : Inv2 l s) (e : Ev) (hf : faultC s e = 0) : Inv2 (l ++ [e]) (addO s e) := by
  have nx := h.nxt e hf
  obtain ⟨H, hd⟩ := h
  obtain ⟨hc0, hrb, h26⟩ := fault_none hf
  have hr : rRefs l e = true := by rw [← H.refs]; exact hrb
  have hin := ref_in hr (rLast_le l 2)
  rw [addO_0 hf]
  obtain ⟨f1, f2, f3, f4, f5, f6, f7, f8⟩ := closes_flds (turned (step1 s e) e) e
  obtain ⟨k1, k2, k3⟩ := turned_keep (step1 s e) e
  refine ⟨⟨?_, ?_, ?_, ?_, ?_, ?_, ?_, ?_, ?_, ?_⟩, ?_⟩
  · rw [f1, k1]; show s.n + 1 = _; rw [H.n]; simp
  · rw [f2, k2, lastAt_snoc]; rfl
  · have hany : (l.any fun x => closeB x.k) = false := by
      rw [Bool.eq_false_iff]; exact fun hh => (H.cl.2 hh) hc0
    rw [List.any_append, hany]
    by_cases hc : closeB e.k = true
    · rw [closes_yes hc]
      have : e.k ≠ 0 := by simp only [closeB, Bool.and_eq_true, decide_eq_true_eq] at hc; omega
      simp [hc, this]
    · have hc' : closeB e.k = false := by rw [Bool.eq_false_iff]; exact hc
      rw [closes_no hc', k3]
      show s.closed ≠ 0 ↔ _
      simp [hc0, hc']
  · intro y hy
    rcases List.mem_append.1 hy with hy | hy
    · have := H.rf y hy; simp; omega
    · simp at hy; subst hy; simp; omega
  · rw [f3, f4]; exact nx.tk
  · rw [f5]; exact nx.kd
  · rw [f6]; exact nx.id
  · rw [f8]; exact nx.fr
  · rw [f7]; exact nx.of
  · intro w hw
    by_cases hwN : w = (l.length : Int) + 1
    · rw [rKind_snoc, if_pos hwN] at hw
      obtain ⟨a, b⟩ := refs_8 hw hr
      have hrw : refAt (l ++ [e]) w = e.ref := by rw [refAt_snoc (by omega), if_pos hwN]
      rw [hrw, rKind_snoc, if_neg (by omega)]
      refine ⟨a, ?_⟩
      rw [rWorks_snoc, if_neg (by rw [b]; simp), if_pos (by simp [wkB, hw]), hwN]
    · rw [rKind_snoc, if_neg hwN] at hw
      have h1 := kind_in (l := l) (x := w) (by omega)
      have h2 := refAt_in H.rf h1.1 h1.2
      have h3 := H.wk w hw
      have hrw : refAt (l ++ [e]) w = refAt l w := by rw [refAt_snoc (by omega), if_neg hwN]
      rw [hrw, rKind_snoc, if_neg (by omega)]
      refine ⟨h3.1, ?_⟩
      rw [rWorks_snoc, if_pos (by rw [h3.2]; omega), h3.2]
  · rw [f8]; exact nx.fd
theorem good_inv : ∀ (n : Nat) (l : List Ev), l.length = n → Good l l.length → Inv2 l (feed hi0 l)
  | 0, l, hn, hg => by
    have : l = [] := List.eq_nil_of_length_eq_zero hn
    subst this
    exact ⟨inv0, fun x v h => by cases h⟩
  | n + 1, l, hn, hg => by
    rcases List.eq_nil_or_concat l with rfl | ⟨l', e, hle⟩
    · cases hn
    · rw [List.concat_eq_append] at hle
      subst hle
      have hf := hg l'.length e (by simp) (by simp)
      rw [List.take_left' rfl] at hf
      have hg' : Good l' l'.length := fun j x hj hx => by
        have := hg j x (by simp; omega) (by rw [List.getElem?_append_left hj]; exact hx)
        rw [List.take_append_of_le_length (by omega)] at this
        exact this
      rw [feed_snoc]
      exact (good_inv n l' (by simpa using hn) hg').step e hf
/-- THE LAW -/
theorem why_fault {l : List Ev} (hg : Good l l.length) (e : Ev) : rWhyC l e = faultC (feed hi0 l) e := (good_inv _ l rfl hg).1.why e
end Go.Proofs.YtbdjnfkhdphhoaaDoor
