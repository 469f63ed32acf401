/- The known request. -/
import Derived.Test.YtkodkimfoihbhaaF
set_option linter.unusedVariables false
set_option linter.unusedSimpArgs false
namespace Go.Proofs.Ytkodkimfoihbhaa
open Go.RowKit Go.Maps
variable {sb lb tb : Nat} {win : Int} {c N : Nat} {G : Int × Int → Option (List Value)} {T : Int → Int}
def bs (l : List UInt8) : List Value := l.map (fun b => .int .u8 (b.toNat : Int))
theorem bs_one (l : List UInt8) : ∀ u ∈ bs l, u.oneCell' = true := by
  intro u hu
  obtain ⟨b, _, rfl⟩ := List.mem_map.1 hu
  rfl
theorem under5 : Try.prog.underlying 5 = some (.int .u8) := Try.underlying5
theorem under9 : Try.prog.underlying 9 = some .string := Try.underlying9
theorem str_of {S : Nat → Prop} {W : World} {v : Value} (l : List UInt8) (h : RowB S W v (bs l)) : (convert 30 9 v).run Try.prog W = .ok (.string ⟨l.toArray⟩) W := by
  obtain ⟨ao, cap, rfl, h1, h2, h3, h4⟩ := h
  have hl : (bs l).length = l.length := by simp [bs]
  rw [hl]
  cases ao with
  | none =>
    have := h3 rfl
    have h0 : l = [] := List.eq_nil_of_length_eq_zero (by omega)
    subst h0
    exact run_convert_bytes_nil W 30 5 Try.underlying30 under5 _ _ 9 under9
  | some a =>
    refine run_convert_bytes_back W 30 9 5 a cap l Try.underlying30 under5 under9 (fun j hj => ?_)
    refine (h4 a rfl).2 j _ ?_
    simp [bs, List.getElem?_eq_getElem hj]
theorem lit_row {S : Nat → Prop} (W : World) (C : Array Value) (n : Nat) (hn : C.size = n) (hm : n ≤ maxLen) (fr : Nat × Nat) (hS : ∀ k, S k → k < W.heap.size) : RowB S (W.alloc (.cells C 5 fr)) (.slice (some ⟨W.heap.size, 0, none⟩) n n) C.toList := by
  subst hn
  refine ⟨some ⟨W.heap.size, 0, none⟩, C.size, by simp, by simp, hm, fun h => (by cases h), fun a ha => ?_⟩
  cases ha
  refine ⟨fun _ e => by have := hS _ e; simp at this, fun j u hj => ?_⟩
  rw [off_add, Nat.zero_add, World.cell?_alloc_mark]
  simpa using hj
theorem tri_lt {W : World} (h : TB W sb lb tb win c N G T) : ∀ k, Tri sb lb tb k → k < W.heap.size := fun k hk => by
  obtain ⟨F, hM, _⟩ := h.l
  obtain ⟨_, Ft, _, hMt, _⟩ := h.t
  rcases hk with rfl | rfl | rfl
  · exact h.s.lt
  · exact hM.lt
  · exact hMt.lt
theorem Cput_le (win : Int) (c : Nat) (G : Int × Int → Option (List Value)) (T : Int → Int) (x y : Int) (r : List Value) : Cput win c G T x y r ≤ c + 1 := by
  unfold Cput
  split
  · split <;> omega
  · omega
/-- Put, in one -/
theorem put_any (W : World) (h : TB W sb lb tb win c N G T) (hcl : c ≤ 1000000) (hN : N ≤ 1000000) (x y : Int) (v : Value) (r : List Value) (hr : RowB (Tri sb lb tb) W v r) (hs : r.length ≤ 8192 ∧ ∀ u ∈ r, u.oneCell' = true) :
    Calls Try.prog 9 #[.pointer (some ⟨sb, 0, none⟩), .int .i64 x, .int .i64 y, v] W fun e W' => e = .returned (.int .i64 (code win G T x y)) ∧ TB W' sb lb tb win (Cput win c G T x y r) (N + 1) (Gput win G T x y r) (Tput win G T x y) ∧ Fr (Two lb tb) W W' := by
  by_cases hc : code win G T x y = 0
  · rw [hc]
    exact put_new W h hcl hN x y v r hr hs hc
  · refine (put_not W h x y v hc).mono ?_
    rintro e W' ⟨rfl, hf⟩
    have e1 : Gput win G T x y r = G := by unfold Gput; rw [if_neg hc]
    have e2 : Cput win c G T x y r = c := by unfold Cput; rw [if_neg hc]
    have e3 : Tput win G T x y = T := by unfold Tput; rw [if_neg hc]
    rw [e1, e2, e3]
    exact ⟨rfl, (h.fr hf).more _ (by omega), hf.mono fun _ e => e.elim⟩
def X0 : List Value := [.int .u8 120]
def Y0 : List Value := [.int .u8 121]
def kg0 : Int × Int → Option (List Value) := fun _ => none
def kt0 : Int → Int := fun _ => 0
def kg1 := Gput 2 kg0 kt0 1 5 X0
def kt1 := Tput 2 kg0 kt0 1 5
def kg2 := Gput 2 kg1 kt1 1 5 Y0
def kt2 := Tput 2 kg1 kt1 1 5
def kg3 := Gput 2 kg2 kt2 1 7 []
def kt3 := Tput 2 kg2 kt2 1 7
theorem k1 : code 2 kg0 kt0 1 5 = 0 := by rfl
theorem k2 : code 2 kg1 kt1 1 5 = 1 := by rfl
theorem k3 : kg2 (1, 5) = some X0 := by rfl
theorem k4 : code 2 kg2 kt2 1 5 = 1 := by rfl
theorem k5 : code 2 kg2 kt2 1 7 = 0 := by rfl
theorem k6 : code 2 kg3 kt3 1 5 = 2 := by rfl
theorem k7 : Cput 2 (Cput 2 (Cput 2 0 kg0 kt0 1 5 X0) kg1 kt1 1 5 Y0) kg2 kt2 1 7 [] = 1 := by rfl
set_option maxRecDepth 100000 in
set_option maxHeartbeats 4000000 in
theorem known_any (W : World) : Calls Try.prog 6 #[] W fun e W' => e = .returned (.bool true) ∧ Below W.heap.size W W' := by
  have kx := fun W : World => Lib.run_convert_bytes_const (P := Try.prog) W 30 5 #[.int .u8 120] 1 1 Try.underlying30 under5
  have ky := fun W : World => Lib.run_convert_bytes_const (P := Try.prog) W 30 5 #[.int .u8 121] 1 1 Try.underlying30 under5
  go_enter Try.func6, Try.ntmps6
  go_wp2_with fail
  refine (new_yes W 2 (by omega) (by omega)).mono ?_
  rintro e w1 ⟨rfl, hB1, hf1⟩
  have ha := hf1.size
  have HB1 : Hid (TB w1 (W.heap.size + 2) W.heap.size (W.heap.size + 1) 2 0 0 kg0 kt0) := Lib.hid hB1
  have HF1 : Hid (Fr (From W.heap.size) W w1) := Lib.hid (hf1.mono fun _ e => e.elim)
  have htwo : ∀ k, Two W.heap.size (W.heap.size + 1) k → From W.heap.size k := fun k hk => by unfold From; rcases hk with rfl | rfl <;> omega
  have HT := Lib.hid htwo
  clear hB1 hf1 htwo
  go_wp2_with fail
  have hrow := lit_row (S := Tri (W.heap.size + 2) W.heap.size (W.heap.size + 1)) w1 #[.int .u8 120] 1 rfl (by decide) (1, 2) (tri_lt HB1.out)
  have hfa := Fr.alloc (fun _ => False) w1 (.cells #[.int .u8 120] 5 (1, 2))
  have hBa := HB1.out.fr hfa
  refine (put_any _ hBa (by omega) (by omega) 1 5 _ X0 hrow ⟨by decide, bs_one [120]⟩).mono ?_
  rintro e w2 ⟨rfl, hB2, hf2⟩
  have HB2 : Hid (TB w2 (W.heap.size + 2) W.heap.size (W.heap.size + 1) 2 (Cput 2 0 kg0 kt0 1 5 X0) 1 kg1 kt1) := Lib.hid hB2
  have HF2 := Lib.hid ((HF1.out.trans (hfa.mono fun _ e => e.elim)).trans (hf2.mono HT.out))
  have hs2 := HF2.out.size
  rw [k1]
  clear hB2 hf2 hrow hBa hfa kx
  go_wp2_with fail
  have hrow := lit_row (S := Tri (W.heap.size + 2) W.heap.size (W.heap.size + 1)) w2 #[.int .u8 121] 1 rfl (by decide) (1, 2) (tri_lt HB2.out)
  have hfa := Fr.alloc (fun _ => False) w2 (.cells #[.int .u8 121] 5 (1, 2))
  have hBa := HB2.out.fr hfa
  refine (put_any _ hBa (by have := Cput_le 2 0 kg0 kt0 1 5 X0; omega) (by omega) 1 5 _ Y0 hrow ⟨by decide, bs_one [121]⟩).mono ?_
  rintro e w3 ⟨rfl, hB3, hf3⟩
  have HB3 : Hid (TB w3 (W.heap.size + 2) W.heap.size (W.heap.size + 1) 2 (Cput 2 (Cput 2 0 kg0 kt0 1 5 X0) kg1 kt1 1 5 Y0) 2 kg2 kt2) := Lib.hid hB3
  have HF3 := Lib.hid ((HF2.out.trans (hfa.mono fun _ e => e.elim)).trans (hf3.mono HT.out))
  have hs3 := HF3.out.size
  rw [k2]
  clear hB3 hf3 hrow hBa hfa ky
  go_wp2_with fail
  refine (look_any _ HB3.out 1 5).mono ?_
  rintro e w4 ⟨⟨v, rfl, hv⟩, hf4⟩
  have hr := hv X0 k3 k4
  have HB4 := Lib.hid (HB3.out.fr hf4)
  have HF4 := Lib.hid (HF3.out.trans (hf4.mono fun _ e => e.elim))
  have hs4 := HF4.out.size
  rw [k4]
  clear hf4 hv
  go_wp2_with fail
  refine (put_any _ HB4.out (by have := Cput_le 2 0 kg0 kt0 1 5 X0; have := Cput_le 2 (Cput 2 0 kg0 kt0 1 5 X0) kg1 kt1 1 5 Y0; omega) (by omega) 1 7 (.slice none 0 0) [] (RowB.nil _ _) ⟨by decide, fun u hu => absurd hu List.not_mem_nil⟩).mono ?_
  rintro e w5 ⟨rfl, hB5, hf5⟩
  have HB5 : Hid (TB w5 (W.heap.size + 2) W.heap.size (W.heap.size + 1) 2 1 3 kg3 kt3) := Lib.hid (k7 ▸ hB5)
  have HF5 := Lib.hid (HF4.out.trans (hf5.mono HT.out))
  have hs5 := HF5.out.size
  have hr5 := RowB.fr (S := Tri (W.heap.size + 2) W.heap.size (W.heap.size + 1)) hr (hf5.mono fun k hk => hk.elim (fun e => .inr (.inl e)) (fun e => .inr (.inr e)))
  rw [k5]
  clear hB5 hf5 hr
  go_wp2_with fail
  refine (look_any _ HB5.out 1 5).mono ?_
  rintro e w6 ⟨⟨v6, rfl, _⟩, hf6⟩
  have HB6 := Lib.hid (HB5.out.fr hf6)
  have HF6 := Lib.hid (HF5.out.trans (hf6.mono fun _ e => e.elim))
  have hs6 := HF6.out.size
  have hst := str_of [120] (RowB.fr (S := Tri (W.heap.size + 2) W.heap.size (W.heap.size + 1)) hr5 (hf6.mono fun _ e => e.elim))
  rw [k6]
  clear hf6 hr5
  go_wp2_with fail
  refine (len_any _ HB6.out (by omega)).mono ?_
  rintro e w7 ⟨rfl, rfl⟩
  go_wp2
  go_ret
  exact ⟨rfl, HF6.out.below (Nat.le_refl _) (fun k hk => hk)⟩
end Go.Proofs.Ytkodkimfoihbhaa
