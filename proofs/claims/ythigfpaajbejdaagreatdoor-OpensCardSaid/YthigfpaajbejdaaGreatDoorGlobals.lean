/-
  What the package variables hold, out of a row's condition and of the world's shape.
-/
import Derived.Test.YthigfpaajbejdaaGreatDoorFault
import Derived.Test.YthigfpaajbejdaaGreatDoorRows
import Derived.LaidSub
import Derived.LaidHandle
namespace Go.Proofs.YthigfpaajbejdaaGreatDoor
open Go.RowKit

theorem g_own : ownKnob Tryz.prog.godebug = none := by kernel_rfl
theorem g_et : Tryz.prog.globalNamed "errors.errorType" = some 0 := by kernel_rfl
theorem g_rt : (Tryz.prog.cutTypes.find? (·.1 == "internal/reflectlite.rtype")).map (·.2) = some 262 := by kernel_rfl
theorem g_oneRow : ((List.range 364).filter fun t => Tryz.prog.rowNamed t [101, 114, 114, 111, 114]) = [81] := by kernel_rfl
theorem g_size : Tryz.prog.types.size = 364 := by kernel_rfl

theorem et_of_laid {W : World} {L : List (String × DataW Unit)} (hm : ("errors.errorType", Rows.laid_errors_errorType) ∈ L) (h : laidMetH Tryz.prog L W) :
    W.cell? ⟨0, 0, none⟩ = some (.iface 262 (.agg #[.pointer (some ⟨9, 81, none⟩)])) := by
  have h' := (laidMetH_iff.1 h).2
  obtain ⟨name, u, ty, e1, e2, e3, e4, e5⟩ := h' ("errors.errorType", Rows.laid_errors_errorType) (List.mem_filter.2 ⟨hm, rfl⟩)
  have en : name = [101, 114, 114, 111, 114] := (Option.some.inj e1).symm
  subst en
  obtain rfl := Option.some.inj (g_rt.symm.trans e2)
  have hm : ty ∈ (List.range 364).filter fun t => Tryz.prog.rowNamed t [101, 114, 114, 111, 114] := List.mem_filter.2 ⟨List.mem_range.2 (by rw [← g_size]; exact e3), e4⟩
  rw [g_oneRow] at hm
  obtain rfl := List.mem_singleton.1 hm
  have hh : typeHandle Tryz.prog 81 = .pointer (some ⟨9, 81, none⟩) := by kernel_rfl
  rw [hh] at e5
  simpa using World.var?_cell g_et e5 0

theorem g_pow0 : (((begin Tryz.prog (fun _ _ => 0) default).world.heap[3]?).bind Obj.row?) = some (Array.replicate 20 (.int .u64 0), 313) := by kernel_rfl
theorem g_powb : Tryz.prog.buildable 313 = true := by kernel_rfl
theorem g_powc : Tryz.prog.cellTypes Tryz.prog.depth 313 = some (List.replicate 20 194) := by kernel_rfl
theorem cell_u64 {P : Program} {w : World} {r : Reach} {base : Nat} {t : TypeId} {v : Value} (hu : P.underlying t = some (.int .u64)) (h : Cell.ok P w r base t v) : ∃ m : Nat, v = .int .u64 m := by
  unfold Cell.ok at h
  rw [hu] at h
  cases v with
  | int k n =>
    have hk : k = .u64 := h.1
    subst hk
    have hn : IntKind.u64.min ≤ n := h.2.1
    have h0 : IntKind.u64.min = 0 := rfl
    rw [h0] at hn
    obtain ⟨m, rfl⟩ := Int.eq_ofNat_of_zero_le hn
    exact ⟨m, rfl⟩
  | _ => exact h.elim
theorem cell_of_block {W : World} {g i : Nat} {cs : Array Value} {t : TypeId} (h : W.heap[g]? = some (.cells cs t)) : W.cell? ⟨g, i, none⟩ = cs[i]? := by
  simp [World.cell?, h]
set_option maxRecDepth 100000 in
theorem pow_of_shaped {W : World} (h : W.ShapedOpen Tryz.prog) : Pow W := by
  obtain ⟨cs, h1, h2, h3⟩ := h.1 _ _ _ (by decide +kernel) g_pow0
  obtain ⟨ts, e1, _, e3⟩ := h3 g_powb
  rw [g_powc] at e1
  obtain rfl := Option.some.inj e1
  intro i hi
  have h20 : cs.size = 20 := h2.trans Array.size_replicate
  have hlt : i < cs.size := by rw [h20]; exact hi
  obtain ⟨u, hu, hc⟩ := e3 i cs[i] (Array.getElem?_eq_getElem hlt)
  have hu' : u = 194 := List.eq_of_mem_replicate (List.mem_of_getElem? hu)
  subst hu'
  obtain ⟨m, hm⟩ := cell_u64 Tryz.underlying194 hc
  refine ⟨m, ?_⟩
  rw [cell_of_block h1, Array.getElem?_eq_getElem hlt, hm]
theorem g_size_of_shaped {W : World} (h : W.ShapedOpen Tryz.prog) : 3 < W.heap.size := by
  obtain ⟨cs, h1, _, _⟩ := h.1 _ _ _ (by decide +kernel) g_pow0
  exact (Array.getElem?_eq_some_iff.1 h1).1
theorem gl_of_row {W : World} {L : List (String × DataW Unit)} (hm : ("errors.errorType", Rows.laid_errors_errorType) ∈ L) (h : laidMetH Tryz.prog L W) (hs : W.ShapedOpen Tryz.prog) : Gl W :=
  ⟨pow_of_shaped hs, g_size_of_shaped hs, et_of_laid hm h⟩
end Go.Proofs.YthigfpaajbejdaaGreatDoor
