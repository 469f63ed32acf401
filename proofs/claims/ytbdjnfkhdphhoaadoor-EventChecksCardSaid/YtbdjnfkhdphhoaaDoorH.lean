/- errors.Is at a Broken; its text. -/
import Derived.Test.YtbdjnfkhdphhoaaDoorG
set_option linter.unusedVariables false
set_option linter.unusedSimpArgs false
namespace Go.Proofs.YtbdjnfkhdphhoaaDoor
open Go.RowKit Go.Maps Go.Extern.Stop Go.Stop Go.Extern
theorem Is.typeOf (v : Value) (w : World) : (Extern.ReflectliteType.typeOf #[.iface 55 v]).run Tryd.prog w = .ok (.iface 93 (.agg #[.pointer (some ⟨4, 55, none⟩)])) w := by kernel_rfl
noncomputable def cmpE : Array Value → Sem Value := Extern.ReflectliteType.method fun t => do Extern.Rtype.noPackHeld "Comparable" t; pure (.bool (← typeInfo t).comparable)
theorem Is.comparable (w : World) : (cmpE #[.agg #[.pointer (some ⟨4, 55, none⟩)]]).run Tryd.prog w = .ok (.bool true) w := by kernel_rfl
theorem Is.methodComparable (v : Value) (w : World) : (Go.method 272 93 v "Comparable").run Tryd.prog w = .ok (115, v) w := by kernel_rfl
theorem Is.noIs (v : Value) (xT : TypeId) (w : World) : (Instr.typeAssert (.iface 36 v) xT 109 true).run Tryd.prog w = .ok (.tuple #[.nilIface, .bool false]) w := run_typeAssert_lacksB Tryd.underlying109 (by kernel_rfl) (by kernel_rfl) v xT w
theorem Is.hasUnwrap (v : Value) (xT : TypeId) (w : World) : (Instr.typeAssert (.iface 36 v) xT 100 true).run Tryd.prog w = .ok (.tuple #[.iface 36 v, .bool true]) w := run_typeAssert_hasB Tryd.underlying100 (by kernel_rfl) v xT w
theorem Is.methodUnwrap (v : Value) (w : World) : (Go.method 272 36 v "Unwrap").run Tryd.prog w = .ok (108, v) w := by kernel_rfl
theorem Is.eq55 (w : World) : (binOp .eql 33 (.iface 55 (.int .i64 8)) (.iface 55 (.int .i64 8))).run Tryd.prog w = .ok (.bool true) w := by kernel_rfl
set_option maxRecDepth 100000 in
set_option maxHeartbeats 1000000 in
theorem is_any (pb : Nat) (w : World) (z1 z2 : Value) (h1 : Blk w pb 53 #[z1, z2, .iface 55 (.int .i64 8)]) :
    Calls Tryd.prog 28 #[.iface 36 (.pointer (some ⟨pb, 0, none⟩)), .iface 55 (.int .i64 8)] w fun e w' => e = .returned (.bool true) ∧ w = w' := by
  have h46 := @run_callFunc_extern Tryd.prog 46 _ Extern.ReflectliteType.typeOf Tryd.func46 (by kernel_rfl) (by kernel_rfl) (by kernel_rfl) (by kernel_rfl)
  have h115 := @run_callFunc_extern Tryd.prog 115 _ cmpE Tryd.func115 (by kernel_rfl) (by kernel_rfl) (by kernel_rfl) (by kernel_rfl)
  have tT := Is.typeOf
  have cT := Is.comparable
  have mR := Is.methodComparable
  have nW := Is.noIs
  have uW := Is.hasUnwrap
  have mU := Is.methodUnwrap
  have heq := Is.eq55
  have hty := run_eql_iface_types (P := Tryd.prog) 36 55 (.pointer (some ⟨pb, 0, none⟩)) (.int .i64 8) Tryd.underlying33 (by decide) w
  have c2 := h1.cell 2
  simp only [List.getElem?_toArray, List.getElem?_cons_zero, List.getElem?_cons_succ] at c2
  clear h1
  go_enter Tryd.func28, Tryd.ntmps28
  go_wp2
  refine wp_loop_rounds 2 ?_
  rw [rounds_succ]
  go_wp2
  rw [rounds_succ]
  go_wp2
  go_ret
  exact ⟨rfl, rfl⟩
end Go.Proofs.YtbdjnfkhdphhoaaDoor
