/- Events that come in. -/
import Derived.Test.YtbdjnfkhdphhoaaDoorF
import Derived.OpenShut
import Derived.ProofKit
import Derived.ChangeOld
import Derived.Deep.Slices
import Derived.SizedLaws
set_option linter.unusedVariables false
set_option linter.unusedSimpArgs false
namespace Go.Proofs.YtbdjnfkhdphhoaaDoor
open Go.RowKit Go.ChangeShapes Go.WideShapes Go.ChangeAt
set_option maxRecDepth 100000 in
theorem ev_open {H : Type} {enc : TypeId × Value → H} {W : World} {r : Reach} {base : Nat} {v : Value} {d : DataW H} {p : List MemPlace} (hv : Value.okWide Tryd.prog W r base 24 v) (h : DataW.Trod enc Tryd.prog W 0 (fun _ => true) true 24 v d p) :
    ∃ e : Ev, v = .agg (evc e) := by
  have c3 : Tryd.prog.cellsOf 3 = 1 := by kernel_rfl
  have c22 : Tryd.prog.cellsOf 22 = 1 := by kernel_rfl
  have c24 : Tryd.prog.cellsOf 24 = 7 := by kernel_rfl
  obtain ⟨cs, rfl, hsz⟩ := okWide_struct Tryd.underlying24 hv
  obtain ⟨fuel, h⟩ := h
  obtain ⟨xs, m, _, _, hlen, hxl, hfs⟩ := DataW.trod_struct Tryd.underlying24 h
  obtain ⟨l⟩ := cs
  rw [c24] at hsz
  match l, hsz with
  | [a, b, c, d, f, g, h0], _ =>
    have hx7 : xs.length = 7 := hxl
    have e0 : DataW.trod enc Tryd.prog W 0 (fun _ => true) true m 3 (([a, b, c, d, f, g, h0].drop 0).take (Tryd.prog.cellsOf 3)) = xs[0]? := hfs 0 _ rfl
    rw [c3, List.getElem?_eq_getElem (by omega)] at e0
    obtain ⟨z0, hz0, _, _⟩ := DataW.trod_int under3 e0
    simp at hz0
    have e1 : DataW.trod enc Tryd.prog W 0 (fun _ => true) true m 3 (([a, b, c, d, f, g, h0].drop 1).take (Tryd.prog.cellsOf 3)) = xs[1]? := hfs 1 _ rfl
    rw [c3, List.getElem?_eq_getElem (by omega)] at e1
    obtain ⟨z1, hz1, _, _⟩ := DataW.trod_int under3 e1
    simp at hz1
    have e2 : DataW.trod enc Tryd.prog W 0 (fun _ => true) true m 3 (([a, b, c, d, f, g, h0].drop 2).take (Tryd.prog.cellsOf 3)) = xs[2]? := hfs 2 _ rfl
    rw [c3, List.getElem?_eq_getElem (by omega)] at e2
    obtain ⟨z2, hz2, _, _⟩ := DataW.trod_int under3 e2
    simp at hz2
    have e3 : DataW.trod enc Tryd.prog W 0 (fun _ => true) true m 3 (([a, b, c, d, f, g, h0].drop 3).take (Tryd.prog.cellsOf 3)) = xs[3]? := hfs 3 _ rfl
    rw [c3, List.getElem?_eq_getElem (by omega)] at e3
    obtain ⟨z3, hz3, _, _⟩ := DataW.trod_int under3 e3
    simp at hz3
    have e4 : DataW.trod enc Tryd.prog W 0 (fun _ => true) true m 3 (([a, b, c, d, f, g, h0].drop 4).take (Tryd.prog.cellsOf 3)) = xs[4]? := hfs 4 _ rfl
    rw [c3, List.getElem?_eq_getElem (by omega)] at e4
    obtain ⟨z4, hz4, _, _⟩ := DataW.trod_int under3 e4
    simp at hz4
    have e5 : DataW.trod enc Tryd.prog W 0 (fun _ => true) true m 3 (([a, b, c, d, f, g, h0].drop 5).take (Tryd.prog.cellsOf 3)) = xs[5]? := hfs 5 _ rfl
    rw [c3, List.getElem?_eq_getElem (by omega)] at e5
    obtain ⟨z5, hz5, _, _⟩ := DataW.trod_int under3 e5
    simp at hz5
    have e6 : DataW.trod enc Tryd.prog W 0 (fun _ => true) true m 22 (([a, b, c, d, f, g, h0].drop 6).take (Tryd.prog.cellsOf 22)) = xs[6]? := hfs 6 _ rfl
    rw [c22, List.getElem?_eq_getElem (by omega)] at e6
    have hE : ∃ (ao : Option Addr) (dl cp : Nat), h0 = .slice ao dl cp := by
      rcases Go.Deep.open_slice1 Tryd.underlying22 (by kernel_rfl) e6 with ⟨h1, _⟩ | ⟨A, len, cap, mm, nn, V, D, Pl, hcs, _⟩
      · simp at h1
        exact ⟨_, _, _, h1⟩
      · simp at hcs
        exact ⟨_, _, _, hcs⟩
    obtain ⟨ao, dl, cp, rfl⟩ := hE
    subst hz0 hz1 hz2 hz3 hz4 hz5
    exact ⟨⟨z0, z1, z2, z3, z4, z5, ao, dl, cp⟩, rfl⟩
end Go.Proofs.YtbdjnfkhdphhoaaDoor
