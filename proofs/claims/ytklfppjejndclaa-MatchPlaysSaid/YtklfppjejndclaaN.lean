/- The sequence that All yields: what is in it, and that its own blocks stay. -/
import Derived.Test.YtklfppjejndclaaL
import Derived.RangeFuncNested
import Derived.RangeFuncBound
import Derived.RangeFuncCalls
import Derived.RangeFuncLeaves
import Derived.RangeFuncBox
import Derived.OwnWalkIn
import Derived.TacticsInMore
import Derived.LoopNIn
import Derived.LoopIn
import Derived.Handy
set_option linter.unusedVariables false
set_option linter.unusedSimpArgs false
namespace Go.Proofs.Ytklfppjejndclaa.P2
open Go.RowKit Go.Maps Go.Shelf
attribute [local go_sem] Oper.semAt_some
/-- blocks of S aside, what the closure of All holds stays -/
theorem AllC.fr {S : Nat → Prop} {W W' : World} {Bs b1 b2 b3 : Nat} {L : Int → List Value} {ks : List Int} (h : AllC W Bs b1 b2 b3 L ks) (hf : Fr S W W') (hS : ∀ k, S k → k < Bs ∨ W.heap.size ≤ k) : AllC W' Bs b1 b2 b3 L ks := by
  have hno : ∀ (a : Addr) (v : Value), Bs ≤ a.block → W.cell? a = some v → W'.cell? a = some v := fun a v hb hc => by
    have hlt := lt_of_cell hc
    exact (World.cell?_of_block (hf.block a.block hlt (fun e => by rcases hS _ e with e | e <;> omega))).trans hc
  obtain ⟨⟨ao, cp, h1, h2, h3, h4, h5⟩, h6, ⟨c, F, h7, h8⟩, l1, l2, l3⟩ := h
  refine ⟨⟨ao, cp, hno _ _ l2 h1, h2, h3, ?_, h5⟩, hno _ _ l1 h6, ⟨c, F, h7.fr hf (fun e => ?_), fun x hx => ⟨(h8 x hx).1, ?_⟩⟩, l1, l2, l3⟩
  · rcases h4 with h | ⟨g, rfl, hg⟩
    · exact .inl h
    · exact .inr ⟨g, rfl, fun j x hj => hno _ _ (h5 g 0 rfl) (hg j x hj)⟩
  · have := h7.lt
    rcases hS _ e with e | e <;> omega
  · rcases (h8 x hx).2 with h | ⟨b, o, cap, g1, g2, g3, g4, g5, g6⟩
    · exact .inl h
    · exact .inr ⟨b, o, cap, g1, g2, g3, g4, g5, fun j v hj => hno _ _ (Nat.le_of_not_lt g5.2) (g6 j v hj)⟩
/-- what a round of the body may turn -/
def KeepB (B q : Nat) (W W' : World) : Prop := Fr (fun k => k = q ∨ B ≤ k) W W'
theorem keepB_t {B q : Nat} {X Y Z : World} (h : KeepB B q X Y) (k : KeepB B q Y Z) : KeepB B q X Z := Fr.trans h k
theorem keepB_b {B q : Nat} {w : World} (hB : B ≤ w.heap.size) (W : World) (l : Nat) (o o' : Obj) (hl : w.heap.size ≤ l) (h : W.heap[l]? = some o) (h1 : o.isCells = false) (h2 : o.isWalk = false) : KeepB B q W (W.putObj l o') :=
  Fr.grown (grownBy_putObj' W l o') (fun k e => by cases e; exact .inr (by omega))
/-- the pairs, one after the other -/
def allZ (A : Int → List Int) (ks : List Int) : List (Int × Int) := ks.flatMap (fun x => (A x).map (fun y => (x, y)))
theorem allZ_append (A : Int → List Int) (l m : List Int) : allZ A (l ++ m) = allZ A l ++ allZ A m := by simp [allZ]
theorem allZ_one (A : Int → List Int) (x : Int) : allZ A [x] = (A x).map (fun y => (x, y)) := by simp [allZ]
theorem allZ_take (A : Int → List Int) {ks : List Int} {i : Nat} {x : Int} (hx : ks[i]? = some x) : allZ A (ks.take (i + 1)) = allZ A (ks.take i) ++ (A x).map (fun y => (x, y)) := by
  rw [List.take_add_one, hx, allZ_append]
  exact congrArg _ (allZ_one A x)
theorem allZ_pre (A : Int → List Int) {ks : List Int} {i j : Nat} {x : Int} (hx : ks[i]? = some x) : allZ A (ks.take i) ++ ((A x).take j).map (fun y => (x, y)) <+: allZ A ks := by
  have h1 : allZ A (ks.take (i + 1)) <+: allZ A ks := by
    conv => rhs; rw [← List.take_append_drop (i + 1) ks]
    rw [allZ_append]
    exact List.prefix_append _ _
  refine List.IsPrefix.trans ?_ h1
  rw [allZ_take A hx]
  refine (List.prefix_append_right_inj _).2 ?_
  exact (List.take_prefix j (A x)).map _
theorem take_map_succ {x : Int} {l : List Int} {j : Nat} {y : Int} (hy : l[j]? = some y) : ((l.take (j + 1)).map (fun y => (x, y))) = (l.take j).map (fun y => (x, y)) ++ [(x, y)] := by
  rw [List.take_add_one, hy, List.map_append]; rfl
theorem addr_add (b off k : Nat) : (⟨b, off, none⟩ : Addr).add k = ⟨b, off + k, none⟩ := by
  unfold Addr.add
  by_cases h : k = 0 <;> simp [h]
/-- what the closure reads, in each world that a round may leave -/
theorem AllC.view {w : World} {Bs b1 b2 b3 q : Nat} {L : Int → List Value} {A : Int → List Int} {ks : List Int} (h : AllC w Bs b1 b2 b3 L ks) (hq : q < Bs) (hA : ∀ x ∈ ks, L x = zv (A x) ∧ A x ≠ []) :
    ∃ ao cp, ks.length ≤ cp ∧ (∀ W', KeepB w.heap.size q w W' → W'.cell? ⟨b2, 0, none⟩ = some (.slice ao ks.length cp) ∧ W'.cell? ⟨b1, 0, none⟩ = some (.map (some b3))) ∧
      (∀ k x, ks[k]? = some x → ∃ g, ao = some ⟨g, 0, none⟩ ∧ ∀ W', KeepB w.heap.size q w W' → W'.cell? ⟨g, k, none⟩ = some (.int .i64 x)) ∧
      (∀ x ∈ ks, ∃ b o cap, (A x).length ≤ cap ∧ ∀ W', KeepB w.heap.size q w W' → (Instr.lookup 53 (.map (some b3)) (.int .i64 x) false).run Try.prog W' = .ok (.slice (some ⟨b, o, none⟩) (A x).length cap) W' ∧ ∀ j y, (A x)[j]? = some y → W'.cell? ⟨b, o + j, none⟩ = some (.int .i64 y)) := by
  have hno : ∀ W', KeepB w.heap.size q w W' → ∀ (a : Addr) (v : Value), Bs ≤ a.block → w.cell? a = some v → W'.cell? a = some v := fun W' hf a v hb hc => by
    have hlt := lt_of_cell hc
    exact (World.cell?_of_block (hf.block a.block hlt (fun e => by rcases e with e | e <;> omega))).trans hc
  obtain ⟨⟨ao, cp, h1, h2, h3, h4, h5⟩, h6, ⟨c, F, h7, h8⟩, l1, l2, l3⟩ := h
  refine ⟨ao, cp, h2, fun W' hf => ⟨hno W' hf _ _ l2 h1, hno W' hf _ _ l1 h6⟩, fun k x hx => ?_, fun x hx => ?_⟩
  · rcases h4 with ⟨_, h⟩ | ⟨g, rfl, hg⟩
    · rw [h] at hx; simp at hx
    · exact ⟨g, rfl, fun W' hf => hno W' hf _ _ (h5 g 0 rfl) (hg k x hx)⟩
  · obtain ⟨ok, hrow⟩ := h8 x hx
    obtain ⟨hLx, hAx⟩ := hA x hx
    rw [hLx] at hrow
    rcases hrow with ⟨_, h⟩ | ⟨b, o, cap, g1, g2, g3, g4, g5, g6⟩
    · exact absurd (by simpa [zv] using h) hAx
    · have hzl : (zv (A x)).length = (A x).length := by simp [zv]
      rw [hzl] at g1 g3
      refine ⟨b, o, cap, g3, fun W' hf => ⟨?_, fun j y hj => hno W' hf _ _ (Nat.le_of_not_lt g5.2) (g6 j _ (by simp [zv, hj]))⟩⟩
      have hlt := h7.lt
      have := (h7.fr hf (fun e => by rcases e with e | e <;> omega)).look Try.underlying53 (zeroIL W') ok
      rw [g1] at this
      exact this
set_option maxRecDepth 100000 in
set_option maxHeartbeats 2000000 in
theorem all1_in (F : Fence) (n : Nat) (h45 : F.fn 45) (hro : F.round = none) (hn : 1 ≤ n) (l q Bs b1 b2 b3 : Nat) (L : Int → List Value) (A : Int → List Int) (ks : List Int) (w : World) (hC : AllC w Bs b1 b2 b3 L ks) (hq : q < Bs) (hA : ∀ x ∈ ks, L x = zv (A x) ∧ A x ≠ []) (hks : ks.length ≤ 100000) (hlen : ∀ x ∈ ks, (A x).length ≤ 500000)
    (J Jx : List (Int × Int) → World → Prop)
    (hY : ∀ pre x W, J pre W → pre.length < (allZ A ks).length → YieldAt F (n - 1) Try.prog l #[.int .i64 x.1, .int .i64 x.2] W fun e W' =>
      (e = .returned (.bool true) ∧ J (pre ++ [x]) W' ∧ KeepB w.heap.size q W W') ∨ (e = .returned (.bool false) ∧ Jx (pre ++ [x]) W'))
    (W : World) (hW : KeepB w.heap.size q w W) (h0 : J [] W) :
    CallsIn F n Try.prog 45 #[.func (.yield l) #[] #[], .pointer (some ⟨b2, 0, none⟩), .pointer (some ⟨b1, 0, none⟩)] W fun e W' => (∃ v, e = .returned v) ∧
      ((∃ ys, ys = allZ A ks ∧ J ys W') ∨ (∃ pre, pre <+: allZ A ks ∧ Jx pre W')) := by
  obtain ⟨ao, cp, c2, hV, hN, hR⟩ := hC.view hq hA
  have HW := Lib.hid hW
  have HV := Lib.hid hV
  have HN := Lib.hid hN
  have HR := Lib.hid hR
  have HY := Lib.hid hY
  have HLEN := Lib.hid hlen
  obtain ⟨c1, c6⟩ := hV W hW
  clear hV hN hR hY hA hC hW hlen
  obtain ⟨m, hm⟩ : ∃ m, ks.length = m := ⟨_, rfl⟩
  rw [hm] at c1 c2 hks
  have HM := Lib.hid hm
  clear hm
  refine callsIn_of_wp Try.func45 rfl h45 ?_ hro
  simp only [Try.ntmps45, List.size_toArray, List.length_cons, List.length_nil, Nat.reduceAdd, Nat.reduceSub, Array.replicate_succ, Array.replicate_zero, List.push_toArray, List.append_toArray, List.nil_append, List.cons_append]
  gi_wp2
  gi_loopw [10] (fun i wr => ∃ k : Nat, k ≤ m ∧ i = .int .i64 k ∧ J (allZ A (ks.take k)) wr ∧ KeepB w.heap.size q w wr)
    (fun i _ => m - (intOf i).toNat)
  case atStart => exact ⟨0, Nat.zero_le _, rfl, by simpa [allZ] using h0, HW.out⟩
  case round =>
    obtain ⟨k, hk, rfl, hJs, hkw⟩ := hrel
    have HK := Lib.hid hkw
    clear hkw
    have HJ := Lib.hid hJs
    clear hJs
    by_cases hlt : k < m
    · have p0 : decide ((k : Int) < m) = true := decide_eq_true (by omega)
      obtain ⟨x, hx⟩ : ∃ x, ks[k]? = some x := ⟨_, List.getElem?_eq_getElem (by rw [HM.out]; exact hlt)⟩
      have hxm := List.mem_of_getElem? hx
      obtain ⟨g, rfl, hcell⟩ := HN.out k x hx
      have e0 := hcell wr HK.out
      obtain ⟨_, e6⟩ := HV.out wr HK.out
      obtain ⟨b, o, cap, g3, hrow⟩ := HR.out x hxm
      have HROW := Lib.hid hrow
      have elook := (hrow wr HK.out).1
      have hlx := HLEN.out x hxm
      obtain ⟨r, hr⟩ : ∃ r, (A x).length = r := ⟨_, rfl⟩
      rw [hr] at g3 hlx elook
      have HRL := Lib.hid hr
      have HX := Lib.hid hx
      clear hr hx hxm hrow hcell
      gi_wp2
      gi_loopw [18] (fun i wz => ∃ j : Nat, j ≤ r ∧ i = .int .i64 j ∧ J (allZ A (ks.take k) ++ ((A x).take j).map (fun y => (x, y))) wz ∧ KeepB w.heap.size q w wz)
        (fun i _ => r - (intOf i).toNat)
      case atStart => exact ⟨0, Nat.zero_le _, rfl, by simpa using HJ.out, HK.out⟩
      case round =>
        obtain ⟨j, hj, rfl, hJs, hkw⟩ := hrel
        have HK2 := Lib.hid hkw
        have HJ2 := Lib.hid hJs
        clear hkw hJs
        by_cases hlj : j < r
        · have p1 : decide ((j : Int) < r) = true := decide_eq_true (by omega)
          obtain ⟨y, hy⟩ : ∃ y, (A x)[j]? = some y := ⟨_, List.getElem?_eq_getElem (by rw [HRL.out]; exact hlj)⟩
          have e9 := (HROW.out _ HK2.out).2 j y hy
          have hadd := addr_add b o j
          have hP : allZ A (ks.take k) ++ ((A x).take (j + 1)).map (fun y => (x, y)) = (allZ A (ks.take k) ++ ((A x).take j).map (fun y => (x, y))) ++ [(x, y)] := by
            rw [take_map_succ hy, List.append_assoc]
          have hPP := allZ_pre A (j := j + 1) HX.out
          rw [hP] at hPP
          have HP := Lib.hid hP
          have HPP := Lib.hid hPP
          have hpl := hPP.length_le
          rw [List.length_append] at hpl
          simp only [List.length_cons, List.length_nil] at hpl
          obtain ⟨fn, tmps, assign, body, hy2, hRR⟩ := HY.out _ (x, y) _ HJ2.out (by omega)
          dsimp only at hy2 hRR
          clear hP hPP hpl hy
          gi_wp2
          refine hRR.mono ?_
          rintro e W3 (⟨rfl, hJ3, hk3⟩ | ⟨rfl, hJx3⟩)
          · gi_wp2
            go_roundw
            case rel => exact ⟨j + 1, by omega, by simp, by rw [HP.out]; exact hJ3, keepB_t HK2.out hk3⟩
            case measure => simp [intOf]; omega
          · gi_wp2
            refine bodyPost_ret (results_none rfl _ _ _) rfl ?_
            exact ⟨⟨_, rfl⟩, .inr ⟨_, HPP.out, hJx3⟩⟩
        · obtain rfl : j = r := by omega
          have hJe : J (allZ A (ks.take (k + 1))) wr := by
            have := HJ2.out
            rw [List.take_of_length_le (l := A x) (by rw [HRL.out]; omega), ← allZ_take A HX.out] at this
            exact this
          gi_wp2
          go_roundw
          case rel => exact ⟨k + 1, by omega, by simp, hJe, HK2.out⟩
          case measure => simp [intOf]; omega
    · obtain rfl : k = m := by omega
      have hJe : J (allZ A ks) wr := by have := HJ.out; rw [List.take_of_length_le (by rw [HM.out]; omega)] at this; exact this
      gi_wp2
      go_end0
      exact ⟨⟨_, rfl⟩, .inl ⟨_, rfl, hJe⟩⟩
theorem all_stops (F : Fence) (n : Nat) (h45 : F.fn 45) (hro : F.round = none) (hn : 1 ≤ n) (q Bs b1 b2 b3 : Nat) (L : Int → List Value) (A : Int → List Int) (ks : List Int) (w : World) (hC : AllC w Bs b1 b2 b3 L ks) (hq : q < Bs) (hA : ∀ x ∈ ks, L x = zv (A x) ∧ A x ≠ []) (hks : ks.length ≤ 100000) (hlen : ∀ x ∈ ks, (A x).length ≤ 500000) :
    SeqStopsK F n Try.prog 45 #[.pointer (some ⟨b2, 0, none⟩), .pointer (some ⟨b1, 0, none⟩)] (fun p : Int × Int => #[.int .i64 p.1, .int .i64 p.2]) (KeepB w.heap.size q) (fun ys => ys = allZ A ks) (fun pre => pre <+: allZ A ks) (allZ A ks).length w := fun l J Jx W hW _ _ hY h0 =>
  all1_in F n h45 hro hn l q Bs b1 b2 b3 L A ks w hC hq hA hks hlen J Jx hY W ⟨hW.os, hW.tape, hW.output, hW.size, fun k hk _ => hW.block k hk⟩ h0
end Go.Proofs.Ytklfppjejndclaa.P2
