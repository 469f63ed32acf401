/- Few. -/
import Derived.Test.YtkodkimfoihbhaaP
import Derived.Laws.IdiomStrings
import Derived.Laws.BytesArg
import Derived.Lib.SmallJoins
set_option linter.unusedVariables false
set_option linter.unusedSimpArgs false
namespace Go.Proofs.Ytkodkimfoihbhaa
open Go.RowKit Go.Maps
/-- a play: n acts -/
structure Play where
  op : Nat → Int
  cl : Nat → Int
  sq : Nat → Int
  an : Nat → Value
  by_ : Nat → List Value
/-- blocks from n on -/
def From (n : Nat) : Nat → Prop := fun k => n ≤ k
def Acts (W : World) (n0 : Nat) (a : Option Addr) (n : Nat) (p : Play) : Prop :=
  n = 0 ∨ ∃ b o, a = some ⟨b, o, none⟩ ∧ b < n0 ∧ ∀ j, j < n → W.cell? ⟨b, o + j * 4, none⟩ = some (.int .i64 (p.op j)) ∧ W.cell? ⟨b, o + j * 4 + 1, none⟩ = some (.int .i64 (p.cl j)) ∧ W.cell? ⟨b, o + j * 4 + 2, none⟩ = some (.int .i64 (p.sq j)) ∧
    W.cell? ⟨b, o + j * 4 + 3, none⟩ = some (p.an j) ∧ RowB (From n0) W (p.an j) (p.by_ j)
theorem Acts.fr {W W' : World} {n0 : Nat} {a : Option Addr} {n : Nat} {p : Play} (h : Acts W n0 a n p) (hg : Fr (From n0) W W') : Acts W' n0 a n p := by
  rcases h with h | ⟨b, o, h1, h2, h3⟩
  · exact .inl h
  · refine .inr ⟨b, o, h1, h2, fun j hj => ?_⟩
    obtain ⟨c0, c1, c2, c3, hr⟩ := h3 j hj
    have hk : ∀ {i : Nat} {v : Value}, W.cell? ⟨b, i, none⟩ = some v → W'.cell? ⟨b, i, none⟩ = some v := fun {i v} hc => by
      rw [← hc]
      exact World.cell?_of_block (hg.block b (lt_of_cell hc) (fun e => by have : n0 ≤ b := e; omega))
    exact ⟨hk c0, hk c1, hk c2, hk c3, hr.fr hg⟩
structure PlayOk (n : Nat) (p : Play) : Prop where
  ocl : ∀ j, j < n → (Lit.int .i64 (p.cl j)).wf = true
  osq : ∀ j, j < n → (Lit.int .i64 (p.sq j)).wf = true
  sz : ∀ j, j < n → (p.by_ j).length ≤ 140737488355327
  one : ∀ j, j < n → ∀ u ∈ p.by_ j, u.oneCell' = true
def total (p : Play) : Nat → Nat
  | 0 => 0
  | j + 1 => total p j + (p.by_ j).length
theorem total_le (p : Play) (n : Nat) : ∀ j, j < n → (p.by_ j).length ≤ total p n := by
  induction n with
  | zero => intro j hj; omega
  | succ n ih =>
    intro j hj
    show _ ≤ total p n + (p.by_ n).length
    by_cases h : j = n
    · subst h; omega
    · have := ih j (by omega); omega
theorem total_bd (p : Play) (n : Nat) (h : PlayOk n p) : ∀ j, j ≤ n → total p j ≤ j * 140737488355327 := by
  intro j
  induction j with
  | zero => intro _; exact Nat.le_refl _
  | succ j ih =>
    intro hj
    have := ih (by omega)
    have := h.sz j (by omega)
    show total p j + _ ≤ _
    omega
set_option maxRecDepth 100000 in
theorem few_any (W : World) (n0 : Nat) (a : Option Addr) (n cap : Nat) (p : Play) (hA : Acts W n0 a n p) (hP : PlayOk n p) (hn : n ≤ 9223372036854775807) :
    Calls Try.prog 7 #[.slice a n cap] W fun e W' => ∃ q, e = .returned (.bool q) ∧ W = W' ∧ (q = true → n ≤ 200 ∧ total p n ≤ 8192) := by
  go_enter Try.func7, Try.ntmps7
  go_wp2
  go_loopw [3, 4] (fun nv iv wr => ∃ i : Nat, ∃ s : Int, i ≤ n ∧ iv = .int .i64 i ∧ nv = .int .i64 s ∧ wr = W ∧ (n ≤ 200 → s = total p i)) (fun _ i _ => n - (intOf i).toNat)
  case atStart => exact ⟨0, 0, Nat.zero_le _, rfl, rfl, rfl, fun _ => rfl⟩
  case round =>
    obtain ⟨i, s, hi, rfl, rfl, rfl, hs⟩ := hrel
    by_cases hlt : i < n
    · have p0 : decide ((i : Int) < n) = true := decide_eq_true (by omega)
      rcases hA with h0 | ⟨b, o, rfl, hb, hc⟩
      · omega
      obtain ⟨c0, c1, c2, c3, hr⟩ := hc i hlt
      obtain ⟨ao, cp, he, h1, h2, h3, h4⟩ := hr
      rw [he] at c3
      clear h4 h3 he hc
      go_wp2
      refine ⟨⟨i + 1, _, by omega, by go_num, rfl, trivial, fun h => ?_⟩, by simp [intOf]; omega⟩
      have t1 := total_bd p n hP i (by omega)
      have t2 := hP.sz i hlt
      have e : wrap64 (s + ((p.by_ i).length : Int)) = s + ((p.by_ i).length : Int) := by rw [hs h]; unfold wrap64; omega
      rw [e, hs h]
      show _ = ((total p i + (p.by_ i).length : Nat) : Int)
      push_cast
      rfl
    · obtain rfl : i = n := by omega
      have p0 : decide ((i : Int) < i) = false := decide_eq_false (by omega)
      clear hA
      have HS := Lib.hid hs
      clear hs
      by_cases h2 : i ≤ 200
      · have p2 : decide ((i : Int) ≤ 200) = true := decide_eq_true (by omega)
        go_wp2
        go_ret
        refine ⟨_, rfl, rfl, fun h => ⟨h2, ?_⟩⟩
        have := of_decide_eq_true h
        have := HS.out h2
        omega
      · have p2 : decide ((i : Int) ≤ 200) = false := decide_eq_false (by omega)
        go_wp2
        go_ret
        exact ⟨_, rfl, rfl, fun h => by cases h⟩
end Go.Proofs.Ytkodkimfoihbhaa
