/-
  errors.Is at the program's own errors.
-/
import Derived.Test.YthigfpaajbejdaaGreatDoorBase
import Derived.Test.YthigfpaajbejdaaGreatDoorProg
import Derived.LaidEql
import Derived.Stop.Asserts
import Derived.RowKitTokens
import Derived.Lib.IfaceEq
namespace Go.Proofs.YthigfpaajbejdaaGreatDoor
open Go.RowKit Go.Extern.Stop Go.Stop Go.Extern

def compEntry : Array Value → Sem Value := ReflectliteType.method fun t => do Rtype.noPackHeld "Comparable" t; pure (.bool (← typeInfo t).comparable)
theorem meth_comp (h : Value) (w : World) : (Go.method 464 262 (.agg #[h]) "Comparable").run Tryz.prog w = .ok (266, .agg #[h]) w := by kernel_rfl

/-- What errors.Is and errors.As ask of an error that wraps none; h: its type's handle. -/
structure Leaf (v h : Value) : Prop where
  nil : ∀ w, (binOp .eql 81 v .nilIface).run Tryz.prog w = .ok (.bool false) w
  nnil : ∀ w, (binOp .neq 81 v .nilIface).run Tryz.prog w = .ok (.bool true) w
  tis : ∀ w, (Instr.typeAssert v 81 264 true).run Tryz.prog w = .ok (.tuple #[.nilIface, .bool false]) w
  tun : ∀ w, (Instr.typeAssert v 81 267 true).run Tryz.prog w = .ok (.tuple #[.nilIface, .bool false]) w
  tuns : ∀ w, (Instr.typeAssert v 81 268 true).run Tryz.prog w = .ok (.tuple #[.nilIface, .bool false]) w
  ty : ∀ w, (ReflectliteType.typeOf #[v]).run Tryz.prog w = .ok (.iface 262 (.agg #[h])) w
  comp : ∀ w, (compEntry #[.agg #[h]]).run Tryz.prog w = .ok (.bool true) w
/-- Two errors held against each other. -/
def EqV (v t : Value) (b : Bool) : Prop := ∀ w, (binOp .eql 81 v t).run Tryz.prog w = .ok (.bool b) w

theorem leaf_failure (n : Int) : Leaf (.iface 138 (.int .i64 n)) (.pointer (some ⟨9, 138, none⟩)) where
  nil := fun w => by kernel_rfl
  nnil := fun w => by kernel_rfl
  tis := fun w => run_typeAssert_lacksB Tryz.underlying264 (by kernel_rfl) (by kernel_rfl) _ 81 w
  tun := fun w => run_typeAssert_lacksB Tryz.underlying267 (by kernel_rfl) (by kernel_rfl) _ 81 w
  tuns := fun w => run_typeAssert_lacksB Tryz.underlying268 (by kernel_rfl) (by kernel_rfl) _ 81 w
  ty := fun w => by kernel_rfl
  comp := fun w => by kernel_rfl
theorem leaf_pfailure (n : Int) : Leaf (.iface 202 (.int .i64 n)) (.pointer (some ⟨9, 202, none⟩)) where
  nil := fun w => by kernel_rfl
  nnil := fun w => by kernel_rfl
  tis := fun w => run_typeAssert_lacksB Tryz.underlying264 (by kernel_rfl) (by kernel_rfl) _ 81 w
  tun := fun w => run_typeAssert_lacksB Tryz.underlying267 (by kernel_rfl) (by kernel_rfl) _ 81 w
  tuns := fun w => run_typeAssert_lacksB Tryz.underlying268 (by kernel_rfl) (by kernel_rfl) _ 81 w
  ty := fun w => by kernel_rfl
  comp := fun w => by kernel_rfl
theorem eq_ff (n m : Int) : EqV (.iface 138 (.int .i64 n)) (.iface 138 (.int .i64 m)) (n == m) :=
  fun w => Lib.run_eql_iface_int (P := Tryz.prog) w (t := 81) (tx := 138) (k := .i64) n m Tryz.underlying81 (by kernel_rfl) Tryz.underlying138
theorem eq_pp (n m : Int) : EqV (.iface 202 (.int .i64 n)) (.iface 202 (.int .i64 m)) (n == m) :=
  fun w => Lib.run_eql_iface_int (P := Tryz.prog) w (t := 81) (tx := 202) (k := .i64) n m Tryz.underlying81 (by kernel_rfl) Tryz.underlying202
theorem eq_fp (n m : Int) : EqV (.iface 138 (.int .i64 n)) (.iface 202 (.int .i64 m)) false := fun w => by kernel_rfl
theorem eq_pf (n m : Int) : EqV (.iface 202 (.int .i64 n)) (.iface 138 (.int .i64 m)) false := fun w => by kernel_rfl

set_option maxRecDepth 100000 in
set_option maxHeartbeats 1000000 in
theorem is_leaf (tv tt : Nat) (xv xt h : Value) (b : Bool) (hv : Leaf (.iface tv xv) h) (hb : EqV (.iface tv xv) (.iface tt xt) b) (w : World) : Calls Tryz.prog 100 #[.iface tv xv, .iface tt xt, .bool true] w fun e w' => e = .returned (.bool b) ∧ w = w' := by
  have e1 : ∀ w, (binOp .eql 81 (.iface tv xv) (.iface tt xt)).run Tryz.prog w = .ok (.bool b) w := hb
  have e2 := hv.tis
  have e3 := hv.tun
  have e4 := hv.tuns
  clear hv hb
  go_enter Tryz.func100, Tryz.ntmps100
  go_wp2_with fail
  refine wp_loop_rounds 1 ?_
  rw [rounds_succ]
  go_wp2_with fail
  all_goals go_ret
  all_goals exact ⟨by simp [*], rfl⟩

set_option maxRecDepth 100000 in
set_option maxHeartbeats 1000000 in
theorem Is_leaf (tv tt : Nat) (xv xt h ht : Value) (b : Bool) (hv : Leaf (.iface tv xv) h) (htt : Leaf (.iface tt xt) ht) (hb : EqV (.iface tv xv) (.iface tt xt) b) (w : World) : Calls Tryz.prog 64 #[.iface tv xv, .iface tt xt] w fun e w' => e = .returned (.bool b) ∧ w = w' := by
  have h1 := @run_callFunc_extern Tryz.prog 99 _ ReflectliteType.typeOf Tryz.func99 (by kernel_rfl) (by kernel_rfl) (by kernel_rfl) (by kernel_rfl)
  have h2 := @run_callFunc_extern Tryz.prog 266 _ compEntry Tryz.func266 (by kernel_rfl) (by kernel_rfl) (by kernel_rfl) (by kernel_rfl)
  have t1 := htt.ty
  have t2 := htt.comp
  have t3 := meth_comp
  have t4 := hv.nil
  have t5 := htt.nil
  go_enter Tryz.func64, Tryz.ntmps64
  go_wp2_with (go_at_call 100; refine (is_leaf _ _ _ _ _ _ hv hb _).mono ?_; rintro e w' ⟨rfl, rfl⟩)
  go_ret
  exact ⟨rfl, rfl⟩
/-- The type *api.Error. -/
theorem pe_is (v : Value) (w : World) : (Instr.typeAssert (.iface 135 v) 81 264 true).run Tryz.prog w = .ok (.tuple #[.nilIface, .bool false]) w :=
  run_typeAssert_lacksB Tryz.underlying264 (by kernel_rfl) (by kernel_rfl) _ 81 w
theorem pe_un (v : Value) (w : World) : (Instr.typeAssert (.iface 135 v) 81 267 true).run Tryz.prog w = .ok (.tuple #[.iface 135 v, .bool true]) w :=
  run_typeAssert_hasB Tryz.underlying267 (by kernel_rfl) _ 81 w
theorem pe_meth (a : Addr) (w : World) : (Go.method 464 135 (.pointer (some a)) "Unwrap").run Tryz.prog w = .ok (181, .pointer (some a)) w := by kernel_rfl
theorem pe_nil (x : Value) (w : World) : (binOp .eql 81 (.iface 135 x) .nilIface).run Tryz.prog w = .ok (.bool false) w := by kernel_rfl
theorem pe_f (a : Addr) (n : Int) : EqV (.iface 135 (.pointer (some a))) (.iface 138 (.int .i64 n)) false := fun w => by kernel_rfl
theorem pe_p (a : Addr) (n : Int) : EqV (.iface 135 (.pointer (some a))) (.iface 202 (.int .i64 n)) false := fun w => by kernel_rfl

set_option maxHeartbeats 400000 in
theorem unwrap_any (ab : Nat) (v : Value) (tv : Nat) (w : World) (hc : w.cell? ⟨ab, 2, none⟩ = some (.iface tv v)) :
    Calls Tryz.prog 181 #[.pointer (some ⟨ab, 0, none⟩)] w fun e w' => e = .returned (.iface tv v) ∧ w = w' := by
  go_enter Tryz.func181, Tryz.ntmps181
  go_wp2
  go_ret
  exact ⟨rfl, rfl⟩

set_option maxRecDepth 100000 in
set_option maxHeartbeats 2000000 in
theorem is_wrapped (ab tv tt : Nat) (xv xt h : Value) (b : Bool) (hv : Leaf (.iface tv xv) h) (hb : EqV (.iface tv xv) (.iface tt xt) b)
    (hd : EqV (.iface 135 (.pointer (some ⟨ab, 0, none⟩))) (.iface tt xt) false) (w : World) (hc : w.cell? ⟨ab, 2, none⟩ = some (.iface tv xv)) :
    Calls Tryz.prog 100 #[.iface 135 (.pointer (some ⟨ab, 0, none⟩)), .iface tt xt, .bool true] w fun e w' => e = .returned (.bool b) ∧ w = w' := by
  have e0 : ∀ w, (binOp .eql 81 (.iface 135 (.pointer (some ⟨ab, 0, none⟩))) (.iface tt xt)).run Tryz.prog w = .ok (.bool false) w := hd
  have e1 : ∀ w, (binOp .eql 81 (.iface tv xv) (.iface tt xt)).run Tryz.prog w = .ok (.bool b) w := hb
  have e2 := hv.tis
  have e3 := hv.tun
  have e4 := hv.tuns
  have e5 := hv.nil
  have p1 := pe_is
  have p2 := pe_un
  have p3 := pe_meth
  clear hv hb hd
  go_enter Tryz.func100, Tryz.ntmps100
  go_wp2_with fail
  refine wp_loop_rounds 2 ?_
  rw [rounds_succ]
  go_wp2_with (go_at_call 181; refine (unwrap_any _ _ _ _ hc).mono ?_; rintro e w' ⟨rfl, rfl⟩)
  rw [rounds_succ]
  go_wp2_with fail
  all_goals go_ret
  all_goals exact ⟨by simp [*], rfl⟩

set_option maxRecDepth 100000 in
set_option maxHeartbeats 1000000 in
theorem Is_wrapped (ab tv tt : Nat) (xv xt h ht : Value) (b : Bool) (hv : Leaf (.iface tv xv) h) (htt : Leaf (.iface tt xt) ht) (hb : EqV (.iface tv xv) (.iface tt xt) b)
    (hd : EqV (.iface 135 (.pointer (some ⟨ab, 0, none⟩))) (.iface tt xt) false) (w : World) (hc : w.cell? ⟨ab, 2, none⟩ = some (.iface tv xv)) :
    Calls Tryz.prog 64 #[.iface 135 (.pointer (some ⟨ab, 0, none⟩)), .iface tt xt] w fun e w' => e = .returned (.bool b) ∧ w = w' := by
  have h1 := @run_callFunc_extern Tryz.prog 99 _ ReflectliteType.typeOf Tryz.func99 (by kernel_rfl) (by kernel_rfl) (by kernel_rfl) (by kernel_rfl)
  have h2 := @run_callFunc_extern Tryz.prog 266 _ compEntry Tryz.func266 (by kernel_rfl) (by kernel_rfl) (by kernel_rfl) (by kernel_rfl)
  have t1 := htt.ty
  have t2 := htt.comp
  have t3 := meth_comp
  have t4 := pe_nil
  have t5 := htt.nil
  go_enter Tryz.func64, Tryz.ntmps64
  go_wp2_with (go_at_call 100; refine (is_wrapped _ _ _ _ _ _ _ hv hb hd _ hc).mono ?_; rintro e w' ⟨rfl, rfl⟩)
  go_ret
  exact ⟨rfl, rfl⟩
end Go.Proofs.YthigfpaajbejdaaGreatDoor
