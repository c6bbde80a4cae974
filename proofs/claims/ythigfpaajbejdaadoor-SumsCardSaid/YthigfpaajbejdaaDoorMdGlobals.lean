/-
  What the sum's tables hold, out of a row's condition.
-/
import Derived.Test.YthigfpaajbejdaaDoorMdBlock
import Derived.Test.YthigfpaajbejdaaDoorRows
import Derived.LaidSub
import Derived.LaidHandle
import Derived.OpenShut
import Derived.Lib.LaidTab
namespace Go.Proofs.YthigfpaajbejdaaDoor
open Go.RowKit

theorem laid_at {P : Program} {W : World} : ∀ {L : List (String × DataW Unit)} {ps : List MemPlace}, DataW.LaidVars P W L ps → ∀ n d, (n, d) ∈ L →
    ∃ g t cs fuel p, P.globalNamed n = some g ∧ (P.globals[g]?).map (·.type) = some t ∧ W.var? P n = some cs ∧ DataW.trod (fun _ => ()) P W 0 (fun _ => true) false fuel t cs.toList = some (d, p)
  | [], _, _, n, d, hm => by cases hm
  | (n', d') :: r, ps, h, n, d, hm => by
    obtain ⟨g, t, cs, fuel, p, q, h1, h2, h3, h4, h5, _⟩ := h
    rcases List.mem_cons.1 hm with e | hm
    · obtain ⟨rfl, rfl⟩ := Prod.mk.inj e
      exact ⟨g, t, cs, fuel, p, h1, h2, h3, h4⟩
    · exact laid_at h5 n d hm
theorem laid_var {P : Program} {W : World} {L : List (String × DataW Unit)} {n : String} {d : DataW Unit} (hm : (n, d) ∈ L) (hd : d.handleName?.isNone = true) (h : laidMetH P L W) :
    ∃ g t cs fuel p, P.globalNamed n = some g ∧ (P.globals[g]?).map (·.type) = some t ∧ W.var? P n = some cs ∧ DataW.trod (fun _ => ()) P W 0 (fun _ => true) false fuel t cs.toList = some (d, p) := by
  obtain ⟨ps, hv, _⟩ := (laidMetH_iff.1 h).1
  exact laid_at hv n d (List.mem_filter.2 ⟨hm, hd⟩)

theorem g_adds : Tryd.prog.globalNamed "flacpair/check.adds" = some 1 := by kernel_rfl
theorem g_turns : Tryd.prog.globalNamed "flacpair/check.turns" = some 2 := by kernel_rfl
theorem t_adds : (Tryd.prog.globals[1]?).map (·.type) = some 158 := by kernel_rfl
theorem t_turns : (Tryd.prog.globals[2]?).map (·.type) = some 161 := by kernel_rfl
theorem c_u32 : Tryd.prog.cellsOf 114 = 1 := by kernel_rfl
theorem c_int : Tryd.prog.cellsOf 3 = 1 := by kernel_rfl
theorem c_a64 : Tryd.prog.cellsOf 158 = 64 := by kernel_rfl
theorem c_a4 : Tryd.prog.cellsOf 160 = 4 := by kernel_rfl
theorem d_adds : (Rows.laid_flacpair_check_adds : DataW Unit) = Lib.tabData .u32 (Md.sines.map (fun (x : Nat) => (x : Int))) := rfl
theorem d_turns : (Rows.laid_flacpair_check_turns : DataW Unit) = .agg [Lib.tabData .i64 [7, 12, 17, 22], Lib.tabData .i64 [5, 9, 14, 20], Lib.tabData .i64 [4, 11, 16, 23], Lib.tabData .i64 [6, 10, 15, 21]] := rfl

theorem adds_of_laid {W : World} {L : List (String × DataW Unit)} (hm : ("flacpair/check.adds", Rows.laid_flacpair_check_adds) ∈ L) (h : laidMetH Tryd.prog L W) (i : Nat) (hi : i < 64) :
    W.cell? ⟨1, i, none⟩ = some (.int .u32 (Md.sines.getD i 0)) := by
  obtain ⟨g, t, cs, fuel, p, h1, h2, h3, h4⟩ := laid_var hm rfl h
  obtain rfl := Option.some.inj (g_adds.symm.trans h1)
  obtain rfl := Option.some.inj (t_adds.symm.trans h2)
  rw [d_adds] at h4
  have hcs := Lib.cells_of_tab Tryd.underlying158 Tryd.underlying114 c_u32 c_a64 h4
  have hc : cs[i]? = some (.int .u32 (Md.sines.getD i 0)) := by
    rw [← Array.getElem?_toList, hcs, List.map_map, List.getElem?_map]
    have hl : i < Md.sines.length := hi
    rw [List.getD, List.getElem?_eq_getElem hl]
    rfl
  rw [← hc]
  exact World.var?_cell g_adds h3 i
theorem turns_of_laid {W : World} {L : List (String × DataW Unit)} (hm : ("flacpair/check.turns", Rows.laid_flacpair_check_turns) ∈ L) (h : laidMetH Tryd.prog L W) (i : Nat) (hi : i < 16) :
    W.cell? ⟨2, i, none⟩ = some (.int .i64 (Md.turns.getD i 0)) := by
  obtain ⟨g, t, cs, fuel, p, h1, h2, h3, h4⟩ := laid_var hm rfl h
  obtain rfl := Option.some.inj (g_turns.symm.trans h1)
  obtain rfl := Option.some.inj (t_turns.symm.trans h2)
  rw [d_turns] at h4
  obtain ⟨xs, m, _, hx, _, hl, hel⟩ := DataW.trod_array Tryd.underlying161 h4
  have hx1 := (DataW.agg.inj (Prod.mk.inj hx).1).symm
  have hrow : ∀ a, a < 4 → ∀ zs : List Int, (([[7, 12, 17, 22], [5, 9, 14, 20], [4, 11, 16, 23], [6, 10, 15, 21]] : List (List Int))[a]? = some zs) → (cs.toList.drop (a * 4)).take 4 = zs.map (fun z => Value.int .i64 z) := by
    intro a ha zs hz
    have h5 := hel a ha
    rw [c_a4] at h5
    have h6 : (xs.map (·.1))[a]? = some (Lib.tabData .i64 zs) := by
      rw [hx1]
      have e : ([Lib.tabData .i64 [7, 12, 17, 22], Lib.tabData .i64 [5, 9, 14, 20], Lib.tabData .i64 [4, 11, 16, 23], Lib.tabData .i64 [6, 10, 15, 21]] : List (DataW Unit)) = ([[7, 12, 17, 22], [5, 9, 14, 20], [4, 11, 16, 23], [6, 10, 15, 21]] : List (List Int)).map (Lib.tabData .i64) := rfl
      rw [e, List.getElem?_map, hz]; rfl
    rw [List.getElem?_map] at h6
    obtain ⟨y, hy, hy1⟩ := Option.map_eq_some_iff.1 h6
    rw [hy] at h5
    obtain ⟨y1, y2⟩ := y
    obtain rfl : y1 = Lib.tabData .i64 zs := hy1
    exact Lib.cells_of_tab Tryd.underlying160 Tryd.underlying3 c_int c_a4 h5
  have hc : cs[i]? = some (.int .i64 (Md.turns.getD i 0)) := by
    rw [← Array.getElem?_toList]
    have hget : ∀ a b, b < 4 → cs.toList[a * 4 + b]? = ((cs.toList.drop (a * 4)).take 4)[b]? := fun a b hb => by
      rw [List.getElem?_take, if_pos hb, List.getElem?_drop]
    obtain ⟨a, b, ha, hb, rfl⟩ : ∃ a b, a < 4 ∧ b < 4 ∧ i = a * 4 + b := ⟨i / 4, i % 4, by omega, by omega, by omega⟩
    rw [hget a b hb]
    match a, ha with
    | 0, _ => rw [hrow 0 (by decide) _ rfl]; (match b, hb with | 0, _ => rfl | 1, _ => rfl | 2, _ => rfl | 3, _ => rfl)
    | 1, _ => rw [hrow 1 (by decide) _ rfl]; (match b, hb with | 0, _ => rfl | 1, _ => rfl | 2, _ => rfl | 3, _ => rfl)
    | 2, _ => rw [hrow 2 (by decide) _ rfl]; (match b, hb with | 0, _ => rfl | 1, _ => rfl | 2, _ => rfl | 3, _ => rfl)
    | 3, _ => rw [hrow 3 (by decide) _ rfl]; (match b, hb with | 0, _ => rfl | 1, _ => rfl | 2, _ => rfl | 3, _ => rfl)
  rw [← hc]
  exact World.var?_cell g_turns h3 i
theorem mdgl_of_row {W : World} {L : List (String × DataW Unit)} (hm : ("flacpair/check.adds", Rows.laid_flacpair_check_adds) ∈ L) (hm2 : ("flacpair/check.turns", Rows.laid_flacpair_check_turns) ∈ L) (h : laidMetH Tryd.prog L W) : MdGl W :=
  ⟨adds_of_laid hm h, turns_of_laid hm2 h⟩
end Go.Proofs.YthigfpaajbejdaaDoor
