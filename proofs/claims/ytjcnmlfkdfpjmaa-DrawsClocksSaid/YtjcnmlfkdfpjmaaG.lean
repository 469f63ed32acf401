/- known: two alarms. -/
import Derived.Test.YtjcnmlfkdfpjmaaE
set_option linter.unusedVariables false
set_option linter.unusedSimpArgs false
namespace Go.Proofs.Ytjcnmlfkdfpjmaa
open Go.RowKit Go.Maps
def kF : Int → Option Int := fun x => if x = 1 then some 3 else if x = 5 then some 3 else none
theorem kF_due {l : List Int} (h : DueL kF 3 l) : l = [1, 5] := by
  obtain ⟨hp, hm⟩ := h
  have hmem : ∀ x, x ∈ l → x = 1 ∨ x = 5 := fun x hx => by
    obtain ⟨_, t, ht, _⟩ := (hm x).1 hx
    unfold kF at ht
    by_cases e1 : x = 1
    · exact .inl e1
    · by_cases e5 : x = 5
      · exact .inr e5
      · simp [e1, e5] at ht
  have h1 : (1 : Int) ∈ l := (hm 1).2 ⟨show (Lit.int .i64 1).wf = true by decide, 3, rfl, by omega⟩
  have h5 : (5 : Int) ∈ l := (hm 5).2 ⟨show (Lit.int .i64 5).wf = true by decide, 3, rfl, by omega⟩
  have at1 : atF kF 1 = 3 := rfl
  have at5 : atF kF 5 = 3 := rfl
  cases l with
  | nil => simp at h1
  | cons a l =>
    cases l with
    | nil => simp at h1 h5; omega
    | cons b r =>
      have ha := hmem a (by simp)
      have hb := hmem b (by simp)
      have hab := (List.pairwise_cons.1 hp).1 b (by simp)
      unfold ltA at hab
      obtain ⟨rfl, rfl⟩ : a = 1 ∧ b = 5 := by
        rcases ha with rfl | rfl <;> rcases hb with rfl | rfl <;> simp [at1, at5] at hab <;> omega
      cases r with
      | nil => rfl
      | cons c r =>
        have hc := hmem c (by simp)
        have hbc := (List.pairwise_cons.1 (List.pairwise_cons.1 hp).2).1 c (by simp)
        unfold ltA at hbc
        rcases hc with rfl | rfl <;> simp [at1, at5] at hbc
theorem fr_below {W W' : World} {B : Nat} {S : Nat → Prop} (hf : Fr S W W') (hb : B ≤ W.heap.size) (hS : ∀ k, S k → B ≤ k) : Below B W W' := hf.below hb hS
set_option maxRecDepth 100000 in
set_option maxHeartbeats 2000000 in
theorem known_any (W : World) : Calls Try.prog 8 #[] W fun e W' => e = .returned (.bool true) ∧ Below W.heap.size W W' := by
  have ok1 : iKE.ok 1 := show (Lit.int .i64 1).wf = true by decide
  have ok5 : iKE.ok 5 := show (Lit.int .i64 5).wf = true by decide
  have hM : ∀ n : Nat, n < 100 → n < maxLen := fun n h => by unfold maxLen; omega
  go_enter Try.func8, Try.ntmps8
  go_wp2_with fail
  refine (newClock_any _).mono ?_
  rintro e w1 ⟨rfl, h1, f1⟩
  have b1 : Below W.heap.size W w1 := f1.below (Nat.le_refl _) (fun k e => e.elim)
  go_wp2_with fail
  refine (new_any _ _).mono ?_
  rintro e w2 ⟨rfl, s2, f2⟩
  have h2 := h1.kept f2
  have hl1 := h1.lt
  have b2 := b1.trans (f2.below b1.size (fun k e => e.elim))
  clear h1 f2 f1
  go_wp2_with fail
  refine (set_any h2 (hM 0 (by omega)) 5 3 ok5).mono ?_
  rintro e w3 ⟨rfl, h3, f3⟩
  have b3 := b2.trans (f3.below b2.size (fun k e => by omega))
  have s3 : Src w3 w1.heap.size 7 0 := s2.fr f3 (by omega)
  clear h2 f3 s2
  go_wp2_with fail
  refine (set_any h3 (hM 1 (by omega)) 1 3 ok1).mono ?_
  rintro e w4 ⟨rfl, h4, f4⟩
  have b4 := b3.trans (f4.below b3.size (fun k e => by omega))
  have s4 : Src w4 w1.heap.size 7 0 := s3.fr f4 (by omega)
  clear h3 f4 s3
  go_wp2_with fail
  refine (tick_any h4 (by omega) (by omega) 3).mono ?_
  rintro e w5 ⟨rfl, h5, f5⟩
  have b5 := b4.trans (f5.below b4.size (fun k e => by omega))
  have s5 : Src w5 w1.heap.size 7 0 := s4.fr f5 (by omega)
  replace h5 := h5.congr (F' := kF) (fun x => by
    unfold kF setF put1
    by_cases e1 : x = 1
    · simp [e1]
    · by_cases e5 : x = 5
      · simp [e5]
      · simp [e1, e5])
  have ht : tickF 0 3 = 3 := by decide
  rw [ht] at h5
  clear h4 f5 s4
  go_wp2_with fail
  refine (due_any h5 (by omega)).mono ?_
  rintro e w6 ⟨ao, cp, l, rfl, hd, _, hr, h6, f6⟩
  obtain rfl := kF_due hd
  have b6 := b5.trans (f6.below b5.size (fun k e => by omega))
  have s6 : Src w6 w1.heap.size 7 0 := s5.fr f6 (by omega)
  rcases hr with h0 | ⟨g, rfl, hg, hc⟩
  · simp at h0
  have c0 := hc 0 1 rfl
  have c1 := hc 1 5 rfl
  have q0 : blw 0 7 = 0 := by decide
  have hB0 := below_any w6 w1.heap.size 7 0 s6 (by omega) (by omega) 0 (by omega)
  rw [q0] at hB0
  have HB0 := Lib.hid hB0
  have HB := Lib.hid b6
  have hwl := b1.size
  clear hd hc h5 f6 s5 h6 hB0 b1 b2 b3 b4 b5 b6
  go_wp2_with fail
  refine HB0.out.mono ?_
  rintro e w7 ⟨rfl, s7, f7⟩
  have s7' : Src w7 w1.heap.size 7 0 := s7
  have c7 := count_any w7 w1.heap.size 7 0 s7'
  have C7 := Lib.hid c7
  have q1 : btw 4 4 7 = 4 := by
    unfold btw
    rw [if_neg (by omega)]
    have := (blw_rng 1 7).2 (by omega)
    show (4 : Int) + blw 1 7 = 4
    omega
  have hB1 := between_any w7 w1.heap.size 7 0 s7' (by omega) (by omega) 4 4
  rw [q1] at hB1
  have HB1 := Lib.hid hB1
  have HB7 := Lib.hid (HB.out.trans (f7.below HB.out.size (fun k e => by omega)))
  clear c7 hB1 s7 s7' f7 s6 HB0 HB
  go_wp2_with (first | (go_at_call 23; refine C7.out.mono ?_; rintro e w' ⟨rfl, rfl⟩) | fail)
  refine HB1.out.mono ?_
  rintro e w8 ⟨rfl, s8, f8⟩
  have s8' : Src w8 w1.heap.size (up 7) 1 := s8
  have C8 := Lib.hid (count_any w8 w1.heap.size (up 7) 1 s8')
  have HB8 := Lib.hid (HB7.out.trans (f8.below HB7.out.size (fun k e => by omega)))
  clear s8 s8' f8 HB1 C7
  go_wp2_with (go_at_call 23; refine C8.out.mono ?_; rintro e w' ⟨rfl, rfl⟩)
  go_ret
  exact ⟨rfl, HB8.out⟩
end Go.Proofs.Ytjcnmlfkdfpjmaa
