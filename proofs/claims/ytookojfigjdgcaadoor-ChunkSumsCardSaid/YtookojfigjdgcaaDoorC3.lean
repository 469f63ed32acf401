/- Plain law: pieces of a document that are added to a builder that holds its head. -/
import Derived.Test.YtookojfigjdgcaaDoorU
import Derived.Test.YtookojfigjdgcaaDoorP
namespace Go.Proofs.YtookojfigjdgcaaDoor
theorem pcL_len (l : List UInt8) (sz k : Nat) : (pcL l sz k).length = min sz (l.length - k * sz) := by
  unfold pcL
  rw [List.length_take, List.length_drop]
/-- a piece whose start is held or is the next: what the builder then holds -/
theorem addB_take (l : List UInt8) (id : Int) (m sz k : Nat) (hm : m ≤ l.length) (hk : k * sz ≤ m) :
    addB id (l.take m) id ((k * sz : Nat) : Int) (pcL l sz k) = l.take (max m (k * sz + (pcL l sz k).length)) := by
  unfold addB
  rw [if_neg (show ¬ id < id by omega)]
  dsimp only
  have hl : (l.take m).length = m := by rw [List.length_take]; omega
  rw [hl]
  obtain ⟨a, ha⟩ : ∃ a, k * sz = a := ⟨_, rfl⟩
  have hp := pcL_len l sz k
  rw [ha] at hk hp ⊢
  by_cases h : m < a + (pcL l sz k).length
  · rw [if_pos (by omega), Nat.max_eq_right (by omega), Int.toNat_natCast]
    have e1 : (pcL l sz k).drop (m - a) = (l.drop m).take (sz - (m - a)) := by
      unfold pcL
      rw [ha, List.drop_take, List.drop_drop]
      congr 2
      omega
    rw [e1, ← List.take_add]
    rw [hp] at h ⊢
    rcases Nat.le_total sz (l.length - a) with h2 | h2
    · rw [Nat.min_eq_left h2]
      congr 1
      omega
    · rw [Nat.min_eq_right h2, List.take_of_length_le (by omega), List.take_of_length_le (by omega)]
  · rw [if_neg (by omega), Nat.max_eq_left (by omega)]
/-- the number that it is answered with -/
theorem addE_same (l : List UInt8) (id sm : Int) (m sz k : Nat) (hsz : 1 ≤ sz) (hid : 0 ≤ id) (hn : l.length ≤ 1048576) (hkn : k = 0 ∨ k * sz < l.length) :
    addE id l.length sm m id ((k * sz : Nat) : Int) l.length sm (pcL l sz k).length = if m < k * sz then 6 else 0 := by
  have hp := pcL_len l sz k
  obtain ⟨a, ha⟩ : ∃ a, k * sz = a := ⟨_, rfl⟩
  have ha0 : a = 0 ∨ a < l.length := by
    rcases hkn with h | h
    · left; rw [← ha, h]; simp
    · right; omega
  rw [ha] at hp ⊢
  unfold addE
  rw [if_neg (by omega), if_neg (show ¬ id < id by omega), if_neg (fun h => h.2.elim (fun h => h rfl) (fun h => h rfl)), if_neg (show ¬ id < id by omega)]
  by_cases h : m < a
  · rw [if_pos h, if_pos (by omega)]
  · rw [if_neg h, if_neg (by omega)]
/-- the first piece of a document with a greater number -/
theorem addE_first (l : List UInt8) (id0 id t0 s0 sm : Int) (m sz : Nat) (hsz : 1 ≤ sz) (hid : 0 ≤ id) (hlt : id0 < id) (hn : l.length ≤ 1048576) (k : Nat) (hkn : k = 0 ∨ k * sz < l.length) :
    addE id0 t0 s0 m id ((k * sz : Nat) : Int) l.length sm (pcL l sz k).length = if 0 < k * sz then 6 else 0 := by
  have hp := pcL_len l sz k
  obtain ⟨a, ha⟩ : ∃ a, k * sz = a := ⟨_, rfl⟩
  have ha0 : a = 0 ∨ a < l.length := by
    rcases hkn with h | h
    · left; rw [← ha, h]; simp
    · right; omega
  rw [ha] at hp ⊢
  unfold addE
  rw [if_neg (by omega), if_neg (show ¬ id < id0 by omega), if_neg (fun h => by have := h.1; omega), if_pos hlt]
  by_cases h : 0 < a
  · rw [if_pos h, if_pos (by omega)]
  · rw [if_neg h, if_neg (by omega)]
theorem addB_first (l : List UInt8) (id0 id : Int) (bs : List UInt8) (sz : Nat) (hlt : id0 < id) : addB id0 bs id 0 (pcL l sz 0) = l.take sz := by
  have e : pcL l sz 0 = l.take sz := by unfold pcL; simp
  unfold addB
  rw [if_pos hlt, e]
  dsimp only
  by_cases h : ((([] : List UInt8).length : Int)) < 0 + ((l.take sz).length : Int)
  · rw [if_pos h]
    rfl
  · rw [if_neg h]
    simp only [List.length_nil] at h
    exact (List.eq_nil_of_length_eq_zero (by omega)).symm
/-- a document with a smaller number -/
theorem addE_older (l : List UInt8) (id0 id t0 s0 sm : Int) (m sz : Nat) (hsz : 1 ≤ sz) (hid : 0 ≤ id) (hlt : id < id0) (hn : l.length ≤ 1048576) (k : Nat) (hkn : k = 0 ∨ k * sz < l.length) :
    addE id0 t0 s0 m id ((k * sz : Nat) : Int) l.length sm (pcL l sz k).length = 6 := by
  have hp := pcL_len l sz k
  obtain ⟨a, ha⟩ : ∃ a, k * sz = a := ⟨_, rfl⟩
  have ha0 : a = 0 ∨ a < l.length := by
    rcases hkn with h | h
    · left; rw [← ha, h]; simp
    · right; omega
  rw [ha] at hp ⊢
  unfold addE
  rw [if_neg (by omega), if_pos hlt]
end Go.Proofs.YtookojfigjdgcaaDoor
