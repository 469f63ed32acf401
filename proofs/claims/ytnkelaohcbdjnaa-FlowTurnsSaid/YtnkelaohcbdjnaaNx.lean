/- New. -/
import Derived.Test.YtnkelaohcbdjnaaOx
set_option linter.unusedVariables false
set_option linter.unusedSimpArgs false
namespace Go.Proofs.Ytnkelaohcbdjnaa
open Go.RowKit Go.Maps
def start (id run : Int) : FSt := ⟨id, run, 0, 0, 0, 0, 0, 0, false, false, [], 0, fun _ => none⟩
def begun1 (id run list n now : Int) (ds : List Value) : FSt := sched { start id run with list := list, n := n, l := [⟨1, now, 0, 0, list, n, ds⟩] } now
set_option maxRecDepth 100000 in
set_option maxHeartbeats 2000000 in
theorem new_any (W : World) (id run list n now : Int) (h1 : 0 ≤ id ∧ id ≤ 1048576) (h2 : 1 ≤ run ∧ run ≤ 1048576) (h3 : 0 ≤ list ∧ list ≤ 1048576) (h4 : 1 ≤ n ∧ n ≤ 1048576) (h5 : 0 ≤ now ∧ now ≤ 1099511627776)
    (ao : Option Addr) (dl cp : Nat) (ds : List Value) (hd : RowB (fun _ => False) W (.slice ao dl cp) ds) (hdl : dl ≤ 4096) (hds : ds.length = dl) (hd1 : ∀ u ∈ ds, u.oneCell' = true) :
    Calls Try.prog 11 #[.int .i64 id, .int .i64 run, .int .i64 list, .int .i64 n, .slice ao dl cp, .int .i64 now] W fun e W' => ∃ (fb mb ob : Nat), e = .returned (.tuple #[.pointer (some ⟨fb, 0, none⟩), .slice (some ⟨ob, 0, none⟩) 1 1, .int .i64 0]) ∧ W.heap.size ≤ fb ∧ W.heap.size ≤ mb ∧ fb ≠ mb ∧
      FL (fun k => k = fb ∨ k = mb) W' fb mb (begun1 id run list n now ds) ∧ W.heap.size ≤ ob ∧ Blk W' ob 40 #[.int .i64 1, .int .i64 list, .int .i64 2, .int .i64 0, .int .i64 0, .int .i64 0, .int .i64 0, .slice none 0 0] ∧ Fr (fun _ => False) W W' := by
  have hmm := @run_makeMap Try.prog
  have hFA : Fr (fun _ => False) W ((W.alloc (.map #[] 0)).alloc (.cells (fcells (start id run) (.slice none 0 0) (.map (some W.heap.size))) 75)) := (Fr.alloc _ W _).trans (Fr.alloc _ _ _)
  have hFL : FL (fun k => k = W.heap.size + 1 ∨ k = W.heap.size) ((W.alloc (.map #[] 0)).alloc (.cells (fcells (start id run) (.slice none 0 0) (.map (some W.heap.size))) 75)) (W.heap.size + 1) W.heap.size (start id run) := by
    refine ⟨⟨none, 0, [], rfl, ?_, ⟨Nat.zero_le _, by decide, fun _ => ⟨rfl, rfl⟩, fun a e => (by cases e)⟩, fun i e v h => (by simp [start] at h)⟩, (Mp.made iKE W).alloc _, fun r hr => (by cases hr), Nat.zero_le _⟩
    have := Blk.new (W.alloc (.map #[] 0)) 75 (fcells (start id run) (.slice none 0 0) (.map (some W.heap.size)))
    rw [World.size_alloc] at this
    exact this
  have HD := Lib.hid hd
  have HD1 := Lib.hid hd1
  have HDS := Lib.hid hds
  have p1 : decide (0 ≤ id) = true := decide_eq_true h1.1
  have p2 : decide (id ≤ 1048576) = true := decide_eq_true h1.2
  have p3 : decide (1 ≤ run) = true := decide_eq_true h2.1
  have p4 : decide (run ≤ 1048576) = true := decide_eq_true h2.2
  have p5 : decide (0 ≤ list) = true := decide_eq_true h3.1
  have p6 : decide (list ≤ 1048576) = true := decide_eq_true h3.2
  have p7 : decide (1 ≤ n) = true := decide_eq_true h4.1
  have p8 : decide (n ≤ 1048576) = true := decide_eq_true h4.2
  simp only [fcells, start] at hFA hFL
  have HFL := Lib.hid hFL
  have HFA := Lib.hid hFA
  clear hd hd1 hds hFL hFA
  go_enter Try.func11, Try.ntmps11
  go_upto_region 2 with (fail)
  obtain ⟨w1, hw1⟩ : ∃ w1, (W.alloc (.map #[] 0)).alloc (.cells #[.int .i64 id, .int .i64 run, .int .i64 0, .int .i64 0, .slice none 0 0, .int .i64 0, .int .i64 0, .int .i64 0, .int .i64 0, .bool false, .bool false, .map (some W.heap.size)] 75) = w1 := ⟨_, rfl⟩
  rw [hw1] at HFL HFA ⊢
  have hs1 : w1.heap.size = W.heap.size + 2 := by rw [← hw1]; simp
  obtain ⟨fb, hfb⟩ : ∃ b, W.heap.size + 1 = b := ⟨_, rfl⟩
  rw [hfb] at HFL ⊢
  obtain ⟨mb, hmb⟩ : ∃ b, W.heap.size = b := ⟨_, rfl⟩
  rw [hmb] at HFL
  have HSZ : Hid (W.heap.size ≤ mb ∧ mb < fb ∧ fb < w1.heap.size) := Lib.hid (by omega)
  have HFL2 : Hid (FL (fun k => k = fb ∨ k = mb) w1 fb mb (start id run)) := Lib.hid HFL.out
  have hrt := fun z => right_any _ (w1.drewN z) fb mb (start id run) (HFL2.out.fr0 (Fr.drewN _ w1 z)) ao dl cp now
  have hrb : rightB (start id run).l dl now = true := rightB_true ⟨hdl, h5.1, h5.2, fun e he => (by simp [start] at he)⟩
  rw [hrb] at hrt
  have HRT := Lib.hid hrt
  clear hrt hrb
  clear hw1 hfb hmb HFL hs1 hmm
  go_upto_region 4 with (first | (go_at_call 37; refine (HRT.out 0).mono ?_; rintro e w2 ⟨rfl, z, rfl⟩) | go_in)
  have hfz : Fr (fun _ => False) w1 (w1.drewN z) := Fr.drewN _ w1 z
  obtain ⟨w2, hw2⟩ : ∃ w2, w1.drewN z = w2 := ⟨_, rfl⟩
  rw [hw2] at hfz ⊢
  have HF2 : Hid (Fr (fun _ => False) W w2) := Lib.hid (HFA.out.trans hfz)
  have HFL3 : Hid (FL (fun k => k = fb ∨ k = mb) w2 fb mb (start id run)) := Lib.hid (HFL2.out.fr0 hfz)
  have hs2 := hfz.size
  have HSZ2 : Hid (W.heap.size ≤ mb ∧ mb < fb ∧ fb < w2.heap.size) := Lib.hid ⟨HSZ.out.1, HSZ.out.2.1, by have := HSZ.out.2.2; omega⟩
  clear hw2 hfz HFL2 HSZ HRT hs2 HFA
  have HPUT := Lib.hid (fun w3 (hf3 : Fr (fun _ => False) w2 w3) => put1_any (fun k => k = fb ∨ k = mb) w3 (fun k e => by have := HSZ2.out; have := hf3.size; rcases e with e | e <;> omega) fb mb (start id run) (HFL3.out.fr0 hf3) (Or.inl rfl) (by simp [start]) now 0 0 list n (.slice ao dl cp) ds ((HD.out.fr HF2.out).fr hf3) (by have := HDS.out; omega) HD1.out)
  go_upto_region 5 with (first | (go_at_call 38; refine (HPUT.out _ (Fr.refl _ w2)).mono ?_; rintro e w4 ⟨rfl, hFL4, hF4⟩) | go_in)
  have hsz2 := HSZ2.out
  have hs4 := hF4.size
  have HSC := Lib.hid (fun w5 (hf5 : Fr (fun _ => False) w4 w5) => sched_any (fun k => k = fb ∨ k = mb) w5 (fun k e => by have := hf5.size; rcases e with e | e <;> omega) fb mb _ (hFL4.fr0 hf5) (Or.inl rfl) (by simp [start]) now)
  have HF4 : Hid (Fr (fun _ => False) W w4) := Lib.hid ⟨hF4.os.trans HF2.out.os, hF4.tape.trans HF2.out.tape, hF4.output.trans HF2.out.output, Nat.le_trans HF2.out.size hF4.size, fun k hk _ => (hF4.block k (Nat.lt_of_lt_of_le hk HF2.out.size) (by omega)).trans (HF2.out.block k hk (fun e => e))⟩
  have HSZ4 : Hid (W.heap.size ≤ w4.heap.size ∧ W.heap.size ≤ mb ∧ mb < fb) := Lib.hid ⟨by omega, by omega, by omega⟩
  clear hsz2 hs4 hF4 hFL4 HPUT HSZ2 HFL3 HF2
  go_wp2_with (first | (go_at_call 39; refine (HSC.out _ (Fr.refl _ w4)).mono ?_; rintro e w5 ⟨ob, rfl, h1, h2, h3, h4⟩) | go_in)
  go_ret3
  have hs4 := HSZ4.out
  refine ⟨fb, mb, ob, rfl, by omega, by omega, by omega, h3, by omega, h2, ?_⟩
  exact ⟨h4.os.trans HF4.out.os, h4.tape.trans HF4.out.tape, h4.output.trans HF4.out.output, Nat.le_trans HF4.out.size h4.size, fun k hk _ => (h4.block k (Nat.lt_of_lt_of_le hk HF4.out.size) (by omega)).trans (HF4.out.block k hk (fun e => e))⟩
end Go.Proofs.Ytnkelaohcbdjnaa
