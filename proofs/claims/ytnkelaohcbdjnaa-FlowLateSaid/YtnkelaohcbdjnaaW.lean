/- FlowLate: states of the run, in short. -/
import Derived.Test.YtnkelaohcbdjnaaT
import Derived.Test.YtnkelaohcbdjnaaX
set_option linter.unusedVariables false
set_option linter.unusedSimpArgs false
namespace Go.Proofs.Ytnkelaohcbdjnaa
open Go.RowKit Go.Maps
/-- a decision that closes, with no data -/
def Kb (K : Int) : Array Value := #[.int .i64 K, .int .i64 0, .int .i64 0, .int .i64 0, .slice none 0 0]
/-- a run that stands at a decision task -/
structure St (W : World) (fb xm : Nat) (s : FSt) (task at_ turn now : Int) (late asked : Bool) (n : Nat) : Prop where
  fl : FL2 W fb xm s
  task : s.task = task
  at_ : s.at_ = at_
  turn : s.turn = turn
  list : s.list = 0
  late : s.late = late
  asked : s.asked = asked
  len : s.rows.length = n
  last : ∃ k a r i l m dd, s.rows.getLast? = some (ev k a r i l m dd) ∧ k < 19 ∧ a ≤ now
def Stands (W : World) (fb : Nat) (task at_ turn now : Int) (late asked : Bool) (n : Nat) : Prop := ∃ xm s, St W fb xm s task at_ turn now late asked n
theorem Stands.fr0 {W W' : World} {fb : Nat} {task at_ turn now : Int} {late asked : Bool} {n : Nat} (h : Stands W fb task at_ turn now late asked n) (hf : Fr (fun _ => False) W W') : Stands W' fb task at_ turn now late asked n := by
  obtain ⟨xm, s, h⟩ := h
  exact ⟨xm, s, h.fl.fr0 hf, h.task, h.at_, h.turn, h.list, h.late, h.asked, h.len, h.last⟩
theorem Stands.lt {W : World} {fb : Nat} {task at_ turn now : Int} {late asked : Bool} {n : Nat} (h : Stands W fb task at_ turn now late asked n) : fb < W.heap.size := by
  obtain ⟨xm, s, h⟩ := h
  exact h.fl.lt.1
theorem Stands.open_ {W : World} {fb : Nat} {task at_ turn now : Int} {late asked : Bool} {n : Nat} (h : Stands W fb task at_ turn now late asked n) :
    Calls Try.prog 16 #[.pointer (some ⟨fb, 0, none⟩)] W fun e W' => e = .returned (.int .i64 1) ∧ W = W' := by
  obtain ⟨xm, s, h⟩ := h
  obtain ⟨k, a, r, i, l, m, dd, h1, h2, h3⟩ := h.last
  exact status_open _ W fb xm s h.fl k a r i l m dd h1 h2
/-- what New and Decides leave -/
theorem Stands.begins {W : World} {fb xm : Nat} {s : FSt} {now : Int} {n : Nat} {task at_ turn : Int} {late asked : Bool} (h : St W fb xm s task at_ turn now late asked n) (now' : Int) (d : Value) (W' : World) (xm' : Nat) (hfl : FL2 W' fb xm' (began s now' at_ d)) : Stands W' fb 2 at_ turn now' false asked (n + 1) := by
  refine ⟨xm', _, hfl, rfl, h.at_, h.turn, h.list, rfl, h.asked, by simp [began, h.len], ?_⟩
  exact ⟨3, now', at_, 0, 0, 0, d, by simp [began], by omega, by omega⟩
def DecidesG (W : World) (fb : Nat) (at_ turn now : Int) (asked : Bool) (n : Nat) (e : Ending) (W' : World) : Prop :=
  ∃ v, e = .returned (.tuple #[v, .int .i64 0]) ∧ Stands W' fb 2 at_ turn now false asked (n + 1) ∧ Fr (fun k => k = fb) W W'
theorem Stands.decides {W : World} {fb : Nat} {at_ turn now : Int} {late asked : Bool} {n : Nat} (h : Stands W fb 1 at_ turn now late asked n) (hn : n ≤ 4095) (h0 : 0 ≤ turn) (now' : Int) (hn0 : 0 ≤ now') (hn1 : now' ≤ 1099511627776) (hle : now ≤ now') :
    Calls Try.prog 12 #[.pointer (some ⟨fb, 0, none⟩), .int .i64 at_, .int .i64 turn, .int .i64 now'] W fun e W' => DecidesG W fb at_ turn now' asked n e W' := by
  obtain ⟨xm, s, h⟩ := h
  obtain ⟨k, a, r, i, l, m, dd, h1, h2, h3⟩ := h.last
  refine (decides_any W fb xm s h.fl (by have := h.len; omega) now' at_ turn hn0 hn1 k a r i l m dd h1 h2 (by omega) h0 ⟨h.task, h.at_, h.turn⟩).mono ?_
  rintro e w' ⟨ob, xm', d, q, rfl, _, _, _, h5, h6⟩
  exact ⟨_, rfl, Stands.begins h now' d w' xm' h5, h6⟩
def SignalG (W : World) (fb : Nat) (at_ turn now : Int) (asked : Bool) (n : Nat) (e : Ending) (W' : World) : Prop :=
  ∃ v, e = .returned v ∧ Stands W' fb 2 at_ turn now true asked (n + 1) ∧ Fr (fun k => k = fb) W W'
theorem Stands.signal {W : World} {fb : Nat} {at_ turn now : Int} {late asked : Bool} {n : Nat} (h : Stands W fb 2 at_ turn now late asked n) (hn : n ≤ 4095) (now' : Int) (hn0 : 0 ≤ now') (hn1 : now' ≤ 1099511627776) (hle : now ≤ now')
    (ao : Option Addr) (dl cp : Nat) (ds : List Value) (hd : RowB (fun _ => False) W (.slice ao dl cp) ds) (hdl : dl ≤ 4096) (hdn : ds.length = dl) (hd1 : ∀ u ∈ ds, u.oneCell' = true) :
    Calls Try.prog 13 #[.pointer (some ⟨fb, 0, none⟩), .slice ao dl cp, .int .i64 now'] W fun e W' => SignalG W fb at_ turn now' asked n e W' := by
  obtain ⟨xm, s, h⟩ := h
  obtain ⟨k, a, r, i, l, m, dd, h1, h2, h3⟩ := h.last
  refine (signal_any W fb xm s h.fl (by have := h.len; omega) now' hn0 hn1 k a r i l m dd h1 h2 (by omega) h.task ao dl cp ds hd hdl hdn hd1).mono ?_
  rintro e w' ⟨xm', d, rfl, _, h5, h6⟩
  exact ⟨_, rfl, ⟨xm', _, h5, h.task, h.at_, h.turn, h.list, rfl, h.asked, by simp [signaled, h.len], 15, now', 0, 0, 0, 0, d, by simp [signaled], by omega, by omega⟩, h6⟩
theorem Stands.cancel {W : World} {fb : Nat} {at_ turn now : Int} {late : Bool} {n : Nat} (h : Stands W fb 2 at_ turn now late false n) (hn : n ≤ 4095) (now' : Int) (hn0 : 0 ≤ now') (hn1 : now' ≤ 1099511627776) (hle : now ≤ now') :
    Calls Try.prog 14 #[.pointer (some ⟨fb, 0, none⟩), .int .i64 now'] W fun e W' => SignalG W fb at_ turn now' true n e W' := by
  obtain ⟨xm, s, h⟩ := h
  obtain ⟨k, a, r, i, l, m, dd, h1, h2, h3⟩ := h.last
  refine (cancel_any W fb xm s h.fl (by have := h.len; omega) now' hn0 hn1 k a r i l m dd h1 h2 (by omega) h.task h.asked).mono ?_
  rintro e w' ⟨xm', d, rfl, _, h5, h6⟩
  exact ⟨_, rfl, ⟨xm', _, h5, h.task, h.at_, h.turn, h.list, rfl, rfl, by simp [canceled, h.len], 16, now', 0, 0, 0, 0, d, by simp [canceled], by omega, by omega⟩, h6⟩
/-- it is closed -/
def CloseG (W : World) (fb : Nat) (e : Ending) (W' : World) : Prop :=
  ∃ (g cp : Nat) (st : Int), e = .returned (.tuple #[.slice (some ⟨g, 0, none⟩) 1 cp, .int .i64 0]) ∧ 1 ≤ cp ∧ (st == 1) = false ∧ (st != 1) = true ∧ (∀ w', Fr (fun _ => False) W' w' → Calls Try.prog 16 #[.pointer (some ⟨fb, 0, none⟩)] w' fun e w'' => e = .returned (.int .i64 st) ∧ w' = w'') ∧ Fr (fun k => k = fb) W W'
theorem Stands.close {W : World} {fb : Nat} {at_ turn now : Int} {asked : Bool} {n : Nat} (h : Stands W fb 2 at_ turn now false asked n) (hn : n ≤ 4094) (now' : Int) (hn0 : 0 ≤ now') (hn1 : now' ≤ 1099511627776) (hle : now ≤ now')
    (K : Int) (hK : K = 5 ∨ K = 6 ∨ K = 7 ∨ K = 8) (has : K = 7 → asked = true) (lb : Nat) (hlb : Blk W lb 24 (Kb K)) (hlne : lb ≠ fb) :
    Calls Try.prog 15 #[.pointer (some ⟨fb, 0, none⟩), .int .i64 at_, .int .i64 turn, .slice (some ⟨lb, 0, none⟩) 1 1, .int .i64 now'] W fun e W' => CloseG W fb e W' := by
  obtain ⟨xm, s, h⟩ := h
  obtain ⟨k, a, r, i, l, m, dd, h1, h2, h3⟩ := h.last
  have hl : s.rows.length ≤ 4094 := by have := h.len; omega
  have hmb : lb ≠ xm := mp_ne h.fl.m hlb
  rcases hK with rfl | rfl | rfl | rfl
  · refine (decide_5 W fb xm s h.fl hl now' at_ turn hn0 hn1 k a r i l m dd h1 h2 (by omega) ⟨h.task, h.at_, h.turn⟩ h.late lb none 0 0 [] hlb ⟨hlne, hmb⟩ (RowB.nil _ _) (by omega) rfl (by simp)).mono ?_
    rintro e w' ⟨g, cp, xm', d4, d20, rfl, _, h5, _, _, _, _, h6, h7⟩
    exact ⟨g, cp, 2, rfl, h5, rfl, rfl, fun w2 hf => status20 _ w2 fb xm' _ (h6.fr0 hf) now' 0 0 0 0 d20 (by simp [shut]), h7⟩
  · refine (decide_6 W fb xm s h.fl hl now' at_ turn hn0 hn1 k a r i l m dd h1 h2 (by omega) ⟨h.task, h.at_, h.turn⟩ h.late lb none 0 0 [] hlb ⟨hlne, hmb⟩ (RowB.nil _ _) (by omega) rfl (by simp)).mono ?_
    rintro e w' ⟨g, cp, xm', d4, d20, rfl, _, h5, _, _, _, _, h6, h7⟩
    exact ⟨g, cp, 3, rfl, h5, rfl, rfl, fun w2 hf => status21 _ w2 fb xm' _ (h6.fr0 hf) now' 0 0 0 0 d20 (by simp [shut]), h7⟩
  · refine (decide_7 W fb xm s h.fl hl now' at_ turn hn0 hn1 k a r i l m dd h1 h2 (by omega) ⟨h.task, h.at_, h.turn⟩ h.late lb none 0 [] hlb ⟨hlne, hmb⟩ (RowB.nil _ _) rfl (by simp) (h.asked.trans (has rfl))).mono ?_
    rintro e w' ⟨g, cp, xm', d4, d20, rfl, _, h5, _, _, _, _, h6, h7⟩
    exact ⟨g, cp, 4, rfl, h5, rfl, rfl, fun w2 hf => status22 _ w2 fb xm' _ (h6.fr0 hf) now' 0 0 0 0 d20 (by simp [shut]), h7⟩
  · refine (decide_8 W fb xm s h.fl hl now' at_ turn hn0 hn1 k a r i l m dd h1 h2 (by omega) ⟨h.task, h.at_, h.turn⟩ h.late lb none 0 0 [] hlb ⟨hlne, hmb⟩ (RowB.nil _ _) (by omega) rfl (by simp)).mono ?_
    rintro e w' ⟨g, cp, xm', d4, d20, rfl, _, h5, _, _, _, _, h6, h7⟩
    exact ⟨g, cp, 6, rfl, h5, rfl, rfl, fun w2 hf => status19 _ w2 fb xm' _ (h6.fr0 hf) now' 0 0 0 0 d20 (by simp [shut]), h7⟩
/-- it was late -/
def LateG (W : World) (fb : Nat) (turn now : Int) (asked : Bool) (n : Nat) (e : Ending) (W' : World) : Prop :=
  ∃ ob : Nat, e = .returned (.tuple #[.slice (some ⟨ob, 0, none⟩) 1 1, .int .i64 23]) ∧ W.heap.size ≤ ob ∧ Blk W' ob 40 #[.int .i64 1, .int .i64 0, .int .i64 ((n : Int) + 2), .int .i64 (wrap64 (turn + 1)), .int .i64 0, .int .i64 0, .int .i64 0, .slice none 0 0] ∧ Stands W' fb 1 ((n : Int) + 2) (wrap64 (turn + 1)) now false asked (n + 2) ∧ Fr (fun k => k = fb) W W'
theorem Stands.lately {W : World} {fb : Nat} {at_ turn now : Int} {asked : Bool} {n : Nat} (h : Stands W fb 2 at_ turn now true asked n) (hn : n ≤ 4094) (now' : Int) (hn0 : 0 ≤ now') (hn1 : now' ≤ 1099511627776) (hle : now ≤ now')
    (K : Int) (hK : K = 5 ∨ K = 6 ∨ K = 7 ∨ K = 8) (has : K = 7 → asked = true) (lb : Nat) (hlb : Blk W lb 24 (Kb K)) :
    Calls Try.prog 15 #[.pointer (some ⟨fb, 0, none⟩), .int .i64 at_, .int .i64 turn, .slice (some ⟨lb, 0, none⟩) 1 1, .int .i64 now'] W fun e W' => LateG W fb turn now' asked n e W' := by
  obtain ⟨xm, s, h⟩ := h
  obtain ⟨k, a, r, i, l, m, dd, h1, h2, h3⟩ := h.last
  have hl : s.rows.length ≤ 4094 := by have := h.len; omega
  have hlen := h.len
  have hlist := h.list
  have hturn := h.turn
  rcases hK with rfl | rfl | rfl | rfl
  · refine (late_5 W fb xm s h.fl hl now' at_ turn hn0 hn1 k a r i l m dd h1 h2 (by omega) ⟨h.task, h.at_, h.turn⟩ h.late lb hlb).mono ?_
    rintro e w' ⟨ob, xm', d1, d2, rfl, h4, _, h5, h6, h7⟩
    rw [hlen, hlist, hturn] at h5
    exact ⟨ob, rfl, h4, h5, ⟨xm', _, h6, rfl, by simp [sched, faulted, hlen]; omega, by simp [sched, faulted, hturn], h.list, rfl, h.asked, by simp [sched, faulted, hlen], 2, now', 0, 0, s.list, wrap64 (s.turn + 1), d2, by simp [sched, faulted], by omega, by omega⟩, h7⟩
  · refine (late_6 W fb xm s h.fl hl now' at_ turn hn0 hn1 k a r i l m dd h1 h2 (by omega) ⟨h.task, h.at_, h.turn⟩ h.late lb hlb).mono ?_
    rintro e w' ⟨ob, xm', d1, d2, rfl, h4, _, h5, h6, h7⟩
    rw [hlen, hlist, hturn] at h5
    exact ⟨ob, rfl, h4, h5, ⟨xm', _, h6, rfl, by simp [sched, faulted, hlen]; omega, by simp [sched, faulted, hturn], h.list, rfl, h.asked, by simp [sched, faulted, hlen], 2, now', 0, 0, s.list, wrap64 (s.turn + 1), d2, by simp [sched, faulted], by omega, by omega⟩, h7⟩
  · refine (late_7 W fb xm s h.fl hl now' at_ turn hn0 hn1 k a r i l m dd h1 h2 (by omega) ⟨h.task, h.at_, h.turn⟩ h.late lb hlb (h.asked.trans (has rfl))).mono ?_
    rintro e w' ⟨ob, xm', d1, d2, rfl, h4, _, h5, h6, h7⟩
    rw [hlen, hlist, hturn] at h5
    exact ⟨ob, rfl, h4, h5, ⟨xm', _, h6, rfl, by simp [sched, faulted, hlen]; omega, by simp [sched, faulted, hturn], h.list, rfl, h.asked, by simp [sched, faulted, hlen], 2, now', 0, 0, s.list, wrap64 (s.turn + 1), d2, by simp [sched, faulted], by omega, by omega⟩, h7⟩
  · refine (late_8 W fb xm s h.fl hl now' at_ turn hn0 hn1 k a r i l m dd h1 h2 (by omega) ⟨h.task, h.at_, h.turn⟩ h.late lb hlb).mono ?_
    rintro e w' ⟨ob, xm', d1, d2, rfl, h4, _, h5, h6, h7⟩
    rw [hlen, hlist, hturn] at h5
    exact ⟨ob, rfl, h4, h5, ⟨xm', _, h6, rfl, by simp [sched, faulted, hlen]; omega, by simp [sched, faulted, hturn], h.list, rfl, h.asked, by simp [sched, faulted, hlen], 2, now', 0, 0, s.list, wrap64 (s.turn + 1), d2, by simp [sched, faulted], by omega, by omega⟩, h7⟩
end Go.Proofs.Ytnkelaohcbdjnaa
