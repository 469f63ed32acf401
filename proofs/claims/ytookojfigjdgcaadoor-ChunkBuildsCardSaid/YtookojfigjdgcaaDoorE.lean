/- errors.Is at a number that is wrapped; the numbers' words. -/
import Derived.Test.YtookojfigjdgcaaDoorG
set_option linter.unusedVariables false
set_option linter.unusedSimpArgs false
namespace Go.Proofs.YtookojfigjdgcaaDoor
open Go.RowKit Go.Extern.Stop Go.Stop Go.Extern
theorem Is.typeOf (v : Value) (w : World) : (Extern.ReflectliteType.typeOf #[.iface 63 v]).run Tryd.prog w = .ok (.iface 100 (.agg #[.pointer (some ⟨4, 63, none⟩)])) w := by kernel_rfl
noncomputable def cmpE : Array Value → Sem Value := Extern.ReflectliteType.method fun t => do Extern.Rtype.noPackHeld "Comparable" t; pure (.bool (← typeInfo t).comparable)
theorem Is.comparable (w : World) : (cmpE #[.agg #[.pointer (some ⟨4, 63, none⟩)]]).run Tryd.prog w = .ok (.bool true) w := by kernel_rfl
theorem Is.methodComparable (v : Value) (w : World) : (Go.method 260 100 v "Comparable").run Tryd.prog w = .ok (80, v) w := by kernel_rfl
theorem Is.noIs (v : Value) (xT : TypeId) (w : World) : (Instr.typeAssert (.iface 62 v) xT 112 true).run Tryd.prog w = .ok (.tuple #[.nilIface, .bool false]) w := run_typeAssert_lacksB Tryd.underlying112 (by kernel_rfl) (by kernel_rfl) v xT w
theorem Is.hasUnwrap (v : Value) (xT : TypeId) (w : World) : (Instr.typeAssert (.iface 62 v) xT 107 true).run Tryd.prog w = .ok (.tuple #[.iface 62 v, .bool true]) w := run_typeAssert_hasB Tryd.underlying107 (by kernel_rfl) v xT w
theorem Is.methodUnwrap (v : Value) (w : World) : (Go.method 260 62 v "Unwrap").run Tryd.prog w = .ok (73, v) w := by kernel_rfl
/-- the numbers that occur -/
def Num (n : Int) : Prop := n = 1 ∨ n = 6 ∨ n = 8 ∨ n = 9 ∨ n = 10
theorem Is.eq63 (n : Int) (h : Num n) (w : World) : (binOp .eql 26 (.iface 63 (.int .i64 n)) (.iface 63 (.int .i64 n))).run Tryd.prog w = .ok (.bool true) w := by
  rcases h with rfl | rfl | rfl | rfl | rfl <;> kernel_rfl
set_option maxRecDepth 100000 in
set_option maxHeartbeats 1000000 in
theorem is_any (n : Int) (hn : Num n) (pb : Nat) (w : World) (z1 : Value) (h1 : Blk w pb 65 #[z1, .iface 63 (.int .i64 n)]) :
    Calls Tryd.prog 25 #[.iface 62 (.pointer (some ⟨pb, 0, none⟩)), .iface 63 (.int .i64 n)] w fun e w' => e = .returned (.bool true) ∧ w = w' := by
  have h35 := @run_callFunc_extern Tryd.prog 35 _ Extern.ReflectliteType.typeOf Tryd.func35 (by kernel_rfl) (by kernel_rfl) (by kernel_rfl) (by kernel_rfl)
  have h80 := @run_callFunc_extern Tryd.prog 80 _ cmpE Tryd.func80 (by kernel_rfl) (by kernel_rfl) (by kernel_rfl) (by kernel_rfl)
  have tT := Is.typeOf
  have cT := Is.comparable
  have mR := Is.methodComparable
  have nW := Is.noIs
  have uW := Is.hasUnwrap
  have mU := Is.methodUnwrap
  have heq := Is.eq63 n hn
  have hty := run_eql_iface_types (P := Tryd.prog) 62 63 (.pointer (some ⟨pb, 0, none⟩)) (.int .i64 n) Tryd.underlying26 (by decide) w
  have c2 := h1.cell 1
  simp only [List.getElem?_toArray, List.getElem?_cons_zero, List.getElem?_cons_succ] at c2
  clear h1 hn
  go_enter Tryd.func25, Tryd.ntmps25
  go_wp2
  refine wp_loop_rounds 2 ?_
  rw [rounds_succ]
  go_wp2
  rw [rounds_succ]
  go_wp2
  go_ret
  exact ⟨rfl, rfl⟩
/-- a number's word -/
def wordN (n : Int) : ByteArray := if n = 1 then ⟨#[97, 114, 103]⟩ else if n = 6 then ⟨#[110, 111, 116]⟩ else if n = 8 then ⟨#[102, 111, 114, 109]⟩ else if n = 9 then ⟨#[115, 117, 109]⟩ else ⟨#[108, 111, 110, 103]⟩
set_option maxRecDepth 100000 in
set_option maxHeartbeats 1000000 in
theorem word_any (n : Int) (hn : Num n) (w : World) : Calls Tryd.prog 26 #[.int .i64 n] w fun e w' => e = .returned (.string (wordN n)) ∧ w = w' := by
  rcases hn with rfl | rfl | rfl | rfl | rfl
  all_goals
    go_enter Tryd.func26, Tryd.ntmps26
    go_wp2
    go_ret
    exact ⟨rfl, rfl⟩
end Go.Proofs.YtookojfigjdgcaaDoor
